/- The program's DateOf returns what the reference's returns, for all fields and names (where they hold more than 2^20 fields and bytes they are let by). -/
import Derived.Test.YtefnmlglpldgfaaDoorDom
import Derived.Test.YtefnmlglpldgfaaDoorDomB
import Derived.Test.YtefnmlglpldgfaaDoorDomC
import Derived.Test.YtefnmlglpldgfaaDoorEstrconvAtoi
import Derived.Test.YtefnmlglpldgfaaDoorCFnExactDateOfb
namespace Go.Proofs.YtefnmlglpldgfaaDoor.QL
open Go.RowKit Go.Proofs.YtefnmlglpldgfaaDoorW.PrintWords Go.Proofs.YtefnmlglpldgfaaDoorW.PrintLast Go.Proofs.YtefnmlglpldgfaaDoorW.PrintMore Go.Proofs.YtefnmlglpldgfaaDoor.Aux Go.Proofs.YtefnmlglpldgfaaDoor.Dom Go.Proofs.YtefnmlglpldgfaaDoor.Ext Go.Proofs.YtefnmlglpldgfaaDoor.Glob
def laws_FnExactDateOf.Pure : Prop := ∀ (l0 : List S79) (a1 : ByteArray), l0.length ≤ maxLen → (∀ x ∈ l0, x.f0.size ≤ maxLen ∧ x.f1.size ≤ maxLen) → a1.size ≤ 140737488351232 → ∃ k, laws_FnExactDateOf.f k l0 a1 = some true
theorem laws_FnExactDateOf.walk (P : laws_FnExactDateOf.Pure) (A0 : Option Addr) (c0 : Nat) (l0 : List S79) (a1 : ByteArray) (w : World) (hr0 : Kd.C k79 w A0 l0.length l0) (hc0 : l0.length ≤ c0) (zl0 : l0.length ≤ maxLen) (zm0 : ∀ x ∈ l0, x.f0.size ≤ maxLen ∧ x.f1.size ≤ maxLen) (za1 : a1.size ≤ 140737488351232) (hGErr : GErr w) (hGMax : GMax w) (hGPow : GPow w) :
    Calls Tryd.prog 12 #[.slice A0 l0.length c0, .string a1] w fun e w' => e = .returned (.bool true) ∧ Below w.heap.size w w' := by
  obtain ⟨k, h⟩ := P l0 a1 zl0 zm0 za1
  refine (laws_FnExactDateOf.calls k A0 c0 l0 a1 true w hr0 hc0 hGErr hGMax hGPow h).mono ?_
  rintro e w' ⟨rfl, hd⟩
  exact ⟨rfl, hd⟩
end Go.Proofs.YtefnmlglpldgfaaDoor.QL

namespace Go.Proofs.YtefnmlglpldgfaaDoor.Pure
set_option linter.unusedVariables false
set_option linter.unusedSimpArgs false
open Go.RowKit Go.Proofs.YtefnmlglpldgfaaDoor.QL Go.Proofs.YtefnmlglpldgfaaDoorW.PrintWords Go.Proofs.YtefnmlglpldgfaaDoorW.PrintLast Go.Proofs.YtefnmlglpldgfaaDoorW.PrintMore Go.Proofs.YtefnmlglpldgfaaDoor.Aux Go.Proofs.YtefnmlglpldgfaaDoor.Dom Go.Proofs.YtefnmlglpldgfaaDoor.Ext
theorem laws_szField_eq (a b : ByteArray) (n : Int) (ha : a.size ≤ maxLen) (hb : b.size ≤ maxLen) (h0 : 0 ≤ n) (h1 : n ≤ 9223372036854775807) :
    laws_szField.f a b n = some (if n - a.size - b.size < 0 then -1 else n - a.size - b.size) := by
  unfold maxLen at ha hb
  unfold laws_szField.f
  by_cases h : n - a.size < 0
  · rw [wrap_id (by omega) (by omega), if_pos h, if_pos (by omega)]
  · rw [wrap_id (x := n - a.size) (by omega) (by omega), if_neg h, wrap_id (by omega) (by omega)]
    by_cases h2 : n - a.size - b.size < 0
    · rw [if_pos h2, if_pos h2]
    · rw [if_neg h2, if_neg h2]

end Go.Proofs.YtefnmlglpldgfaaDoor.Pure

namespace Go.Proofs.YtefnmlglpldgfaaDoor.Pure
set_option linter.unusedVariables false
set_option linter.unusedSimpArgs false
open Go.RowKit Go.Proofs.YtefnmlglpldgfaaDoor.QL Go.Proofs.YtefnmlglpldgfaaDoorW.PrintWords Go.Proofs.YtefnmlglpldgfaaDoorW.PrintLast Go.Proofs.YtefnmlglpldgfaaDoorW.PrintMore Go.Proofs.YtefnmlglpldgfaaDoor.Aux Go.Proofs.YtefnmlglpldgfaaDoor.Dom Go.Proofs.YtefnmlglpldgfaaDoor.Ext
theorem laws_szFieldS_l0 (l : List S79) (hl : l.length ≤ maxLen) (hm : ∀ x ∈ l, x.f0.size ≤ maxLen ∧ x.f1.size ≤ maxLen) : ∀ (d : Nat) (n i : Int), 0 ≤ i → (l.length : Int) - i = d → 0 ≤ n → n ≤ 1048576 →
    Ev (fun k => laws_szFieldS.l0 k l n i) (szL n ((l.drop i.toNat).map fun x => (x.f0, x.f1)))
  | 0, n, i, h0, hd, n0, n1 => by
    refine ev_last fun k => ?_
    simp only [laws_szFieldS.l0]
    rw [if_neg (by omega), drop_nil (by omega)]
    rfl
  | d + 1, n, i, h0, hd, n0, n1 => by
    have hlt : i < (l.length : Int) := by omega
    have hx : (rd_T79 l i) ∈ l := by
      unfold rd_T79
      rw [List.getD_eq_getElem?_getD, List.getElem?_eq_getElem (by omega)]
      exact List.getElem_mem _
    have e := laws_szField_eq (rd_T79 l i).f0 (rd_T79 l i).f1 n (hm _ hx).1 (hm _ hx).2 n0 (by omega)
    have hdrop : l.drop i.toNat = rd_T79 l i :: l.drop (i + 1).toNat := drop_rdOf (d := z79) h0 hlt
    rw [hdrop]
    simp only [List.map_cons, szL]
    by_cases h : n - ((rd_T79 l i).f0.size : Int) - ((rd_T79 l i).f1.size : Int) < 0
    · refine ev_last fun k => ?_
      simp only [laws_szFieldS.l0]
      rw [if_pos hlt, if_pos h0, e, if_pos h, Option.bind_some, if_pos (by omega), if_pos h]
    · refine Ev.step (f := fun k => laws_szFieldS.l0 k l (n - ((rd_T79 l i).f0.size : Int) - ((rd_T79 l i).f1.size : Int)) (i + 1)) (fun k => ?_) (ev_eq (laws_szFieldS_l0 l hl hm d _ (i + 1) (by omega) (by omega) (by omega) (by omega)) ?_)
      · simp only [laws_szFieldS.l0]
        rw [if_pos hlt, if_pos h0, e, if_neg h, Option.bind_some, if_neg h, wrap_id (by omega) (by unfold maxLen at hl; omega)]
      · rw [if_neg h]
theorem laws_szFieldS_ev (l : List S79) (n : Int) (hl : l.length ≤ maxLen) (hm : ∀ x ∈ l, x.f0.size ≤ maxLen ∧ x.f1.size ≤ maxLen) (n0 : 0 ≤ n) (n1 : n ≤ 1048576) :
    Ev (fun k => laws_szFieldS.f k l n) (szF n (l.map fun x => (x.f0, x.f1))) := by
  unfold szF
  rw [List.length_map]
  by_cases h : n - (l.length : Int) < 0
  · rw [if_pos h]
    refine ev_some fun k => ?_
    unfold laws_szFieldS.f
    rw [wrap_id (by unfold maxLen at hl; omega) (by omega), if_pos h]
  · rw [if_neg h]
    refine Ev.congr (fun k => by unfold laws_szFieldS.f; rw [wrap_id (by unfold maxLen at hl; omega) (by omega), if_neg h]) ?_
    have e := laws_szFieldS_l0 l hl hm l.length (n - l.length) 0 (by omega) (by omega) (by omega) (by omega)
    simpa using e

end Go.Proofs.YtefnmlglpldgfaaDoor.Pure

namespace Go.Proofs.YtefnmlglpldgfaaDoor.Pure
set_option linter.unusedVariables false
set_option linter.unusedSimpArgs false
open Go.RowKit Go.Proofs.YtefnmlglpldgfaaDoor.QL Go.Proofs.YtefnmlglpldgfaaDoorW.PrintWords Go.Proofs.YtefnmlglpldgfaaDoorW.PrintLast Go.Proofs.YtefnmlglpldgfaaDoorW.PrintMore Go.Proofs.YtefnmlglpldgfaaDoor.Aux Go.Proofs.YtefnmlglpldgfaaDoor.Dom Go.Proofs.YtefnmlglpldgfaaDoor.Ext
theorem laws_toFieldS_l0 (l : List S79) (hl : l.length ≤ 1048576) : ∀ (d : Nat) (ys : List S81) (i : Int), 0 ≤ i → (l.length : Int) - i = d → (ys.length : Int) = i →
    Ev (fun k => laws_toFieldS.l0 k l (ys ++ List.replicate d z81) i) (ys ++ (l.drop i.toNat).map fun x => (⟨x.f0, x.f1⟩ : S81))
  | 0, ys, i, h0, hd, hy => by
    refine ev_last fun k => ?_
    simp only [laws_toFieldS.l0]
    rw [if_neg (by omega), drop_nil (by omega)]
    simp
  | d + 1, ys, i, h0, hd, hy => by
    have hlt : i < (l.length : Int) := by omega
    have hdrop : l.drop i.toNat = rd_T79 l i :: l.drop (i + 1).toNat := drop_rdOf (d := z79) h0 hlt
    refine Ev.step (f := fun k => laws_toFieldS.l0 k l ((ys ++ [(⟨(rd_T79 l i).f0, (rd_T79 l i).f1⟩ : S81)]) ++ List.replicate d z81) (i + 1)) (fun k => ?_) (ev_eq (laws_toFieldS_l0 l hl d _ (i + 1) (by omega) (by omega) (by simp; omega)) ?_)
    · simp only [laws_toFieldS.l0, laws_toField.f, Option.bind_some]
      have e : (ys ++ List.replicate (d + 1) z81).set i.toNat (⟨(rd_T79 l i).f0, (rd_T79 l i).f1⟩ : S81) = (ys ++ [(⟨(rd_T79 l i).f0, (rd_T79 l i).f1⟩ : S81)]) ++ List.replicate d z81 := by
        rw [List.set_append_right _ _ (by omega), show i.toNat - ys.length = 0 by omega, List.replicate_succ]
        simp
      rw [if_pos hlt, if_pos h0, if_pos (by simp; omega), e, wrap_id (by omega) (by omega)]
    · rw [hdrop]; simp
theorem laws_toFieldS_ev (l : List S79) (hl : l.length ≤ 1048576) : Ev (fun k => laws_toFieldS.f k l) (l.map fun x => (⟨x.f0, x.f1⟩ : S81)) := by
  refine Ev.congr (fun k => by unfold laws_toFieldS.f; rw [if_pos (by omega), if_pos (by omega)]) ?_
  have e := laws_toFieldS_l0 l hl l.length [] 0 (by omega) (by omega) (by simp)
  simpa using e

end Go.Proofs.YtefnmlglpldgfaaDoor.Pure

namespace Go.Proofs.YtefnmlglpldgfaaDoor.Pure
set_option linter.unusedVariables false
set_option linter.unusedSimpArgs false
open Go.RowKit Go.Proofs.YtefnmlglpldgfaaDoor.QL Go.Proofs.YtefnmlglpldgfaaDoorW.PrintWords Go.Proofs.YtefnmlglpldgfaaDoorW.PrintLast Go.Proofs.YtefnmlglpldgfaaDoorW.PrintMore Go.Proofs.YtefnmlglpldgfaaDoor.Aux Go.Proofs.YtefnmlglpldgfaaDoor.Dom Go.Proofs.YtefnmlglpldgfaaDoor.Ext
theorem laws_eqFieldS_l0 (l : List S81) (hl : l.length ≤ 9223372036854775806) : ∀ (d : Nat) (i : Int), 0 ≤ i → (l.length : Int) - i = d → Ev (fun k => laws_eqFieldS.l0 k l l i) true
  | 0, i, h0, hd => by
    refine ev_last fun k => ?_
    simp only [laws_eqFieldS.l0]
    rw [if_neg (by omega)]
  | d + 1, i, h0, hd => by
    have hlt : i < (l.length : Int) := by omega
    refine Ev.step (f := fun k => laws_eqFieldS.l0 k l l (i + 1)) (fun k => ?_) (laws_eqFieldS_l0 l hl d (i + 1) (by omega) (by omega))
    simp only [laws_eqFieldS.l0, laws_eqField.f]
    rw [if_pos hlt, if_pos h0, if_pos hlt]
    simp only [if_true, Option.bind_some]
    rw [wrap_id (by omega) (by omega)]
/-- Two that are one are alike. -/
theorem laws_eqFieldS_ev (l : List S81) (hl : l.length ≤ 9223372036854775806) : Ev (fun k => laws_eqFieldS.f k l l) true := by
  refine Ev.congr (fun k => by unfold laws_eqFieldS.f; rw [if_pos rfl]) ?_
  exact laws_eqFieldS_l0 l hl l.length 0 (by omega) (by omega)

end Go.Proofs.YtefnmlglpldgfaaDoor.Pure

namespace Go.Proofs.YtefnmlglpldgfaaDoor.Pure
set_option linter.unusedVariables false
set_option linter.unusedSimpArgs false
open Go.RowKit Go.Proofs.YtefnmlglpldgfaaDoor.QL Go.Proofs.YtefnmlglpldgfaaDoorW.PrintWords Go.Proofs.YtefnmlglpldgfaaDoorW.PrintLast Go.Proofs.YtefnmlglpldgfaaDoorW.PrintMore Go.Proofs.YtefnmlglpldgfaaDoor.Aux Go.Proofs.YtefnmlglpldgfaaDoor.Dom Go.Proofs.YtefnmlglpldgfaaDoor.Ext
theorem spec_FieldGet_l0 (l : List S81) (nm : ByteArray) (hl : l.length ≤ 1048576) (V : List ByteArray) (hV : (V.map fun v => v.size + 2).sum ≤ 8388608) : ∀ (d : Nat) (acc : List ByteArray) (i : Int), 0 ≤ i → (l.length : Int) - i = d → acc ++ getL nm ((l.drop i.toNat).map fun x => (x.f0, x.f1)) = V →
    Ev (fun k => spec_FieldGet.l0 k l nm (joinB ⟨#[44, 32]⟩ acc) (!acc.isEmpty) i) (joinB ⟨#[44, 32]⟩ V, !V.isEmpty)
  | 0, acc, i, h0, hd, ha => by
    refine ev_last fun k => ?_
    simp only [spec_FieldGet.l0]
    rw [drop_nil (by omega)] at ha
    simp only [List.map_nil, getL, List.append_nil] at ha
    rw [if_neg (by omega), ha]
  | d + 1, acc, i, h0, hd, ha => by
    have hlt : i < (l.length : Int) := by omega
    have hdrop : l.drop i.toNat = rd_T81 l i :: l.drop (i + 1).toNat := drop_rdOf (d := z81) h0 hlt
    rw [hdrop] at ha
    simp only [List.map_cons, getL] at ha
    by_cases h : (rd_T81 l i).f0 = nm
    · rw [if_pos h] at ha
      have hs := joinB_size ⟨#[44, 32]⟩ acc
      have hb : (acc.map fun v => v.size + 2).sum + ((rd_T81 l i).f1.size + 2) ≤ 8388608 := by
        rw [← ha] at hV
        simp only [List.map_append, List.sum_append, List.map_cons, List.sum_cons] at hV
        omega
      have hs2 : (joinB ⟨#[44, 32]⟩ acc).size ≤ (acc.map fun v => v.size + 2).sum := hs
      cases acc with
      | nil =>
        refine Ev.step (f := fun k => spec_FieldGet.l0 k l nm (joinB ⟨#[44, 32]⟩ [(rd_T81 l i).f1]) true (i + 1)) (fun k => ?_) (spec_FieldGet_l0 l nm hl V hV d [(rd_T81 l i).f1] (i + 1) (by omega) (by omega) ha)
        simp only [spec_FieldGet.l0]
        have e0 : (joinB ⟨#[44, 32]⟩ [] ++ (rd_T81 l i).f1) = (rd_T81 l i).f1 := ByteArray.empty_append
        have e1 : (joinB ⟨#[44, 32]⟩ []).size = 0 := rfl
        rw [if_pos hlt, if_pos h0, if_pos (by rw [h]), if_neg (by decide), if_pos (by omega), wrap_id (by omega) (by omega), e0]
        rfl
      | cons a acc =>
        refine Ev.step (f := fun k => spec_FieldGet.l0 k l nm (joinB ⟨#[44, 32]⟩ ((a :: acc) ++ [(rd_T81 l i).f1])) true (i + 1)) (fun k => ?_) (spec_FieldGet_l0 l nm hl V hV d ((a :: acc) ++ [(rd_T81 l i).f1]) (i + 1) (by omega) (by omega) (by rw [← ha]; simp))
        simp only [spec_FieldGet.l0]
        rw [if_pos hlt, if_pos h0, if_pos (by rw [h]), if_pos (show (!(a :: acc).isEmpty) = true from rfl), if_pos (by omega), if_pos (by rw [ByteArray.size_append]; have : (⟨#[44, 32]⟩ : ByteArray).size = 2 := rfl; omega), wrap_id (by omega) (by omega), joinB_snoc _ _ _ (by simp)]
    · rw [if_neg h] at ha
      refine Ev.step (f := fun k => spec_FieldGet.l0 k l nm (joinB ⟨#[44, 32]⟩ acc) (!acc.isEmpty) (i + 1)) (fun k => ?_) (spec_FieldGet_l0 l nm hl V hV d acc (i + 1) (by omega) (by omega) ha)
      simp only [spec_FieldGet.l0]
      rw [if_pos hlt, if_pos h0, if_neg (by rw [toList_eq_iff]; exact h), wrap_id (by omega) (by omega)]
theorem spec_FieldGet_ev (l : List S81) (nm : ByteArray) (hl : l.length ≤ 1048576) (hV : ((getL nm (l.map fun x => (x.f0, x.f1))).map fun v => v.size + 2).sum ≤ 8388608) : Ev (fun k => spec_FieldGet.f k l nm) (joinB ⟨#[44, 32]⟩ (getL nm (l.map fun x => (x.f0, x.f1))), !(getL nm (l.map fun x => (x.f0, x.f1))).isEmpty) := by
  have h := spec_FieldGet_l0 l nm hl _ hV l.length [] 0 (by omega) (by omega) (by simp)
  simpa [spec_FieldGet.f, joinB] using h

end Go.Proofs.YtefnmlglpldgfaaDoor.Pure

namespace Go.Proofs.YtefnmlglpldgfaaDoor.Pure
set_option linter.unusedVariables false
set_option linter.unusedSimpArgs false
open Go.RowKit Go.Proofs.YtefnmlglpldgfaaDoor.QL Go.Proofs.YtefnmlglpldgfaaDoorW.PrintWords Go.Proofs.YtefnmlglpldgfaaDoorW.PrintLast Go.Proofs.YtefnmlglpldgfaaDoorW.PrintMore Go.Proofs.YtefnmlglpldgfaaDoor.Aux Go.Proofs.YtefnmlglpldgfaaDoor.Dom Go.Proofs.YtefnmlglpldgfaaDoor.Ext
theorem spec_l1In_eq (a b c : Int) : spec_l1In.f a b c = some (decide (b ≤ a ∧ a ≤ c)) := by
  unfold spec_l1In.f
  by_cases h : a ≥ b
  · rw [if_pos h]; simp [show b ≤ a from h]
  · rw [if_neg h]; simp [show ¬ b ≤ a from h]

end Go.Proofs.YtefnmlglpldgfaaDoor.Pure

namespace Go.Proofs.YtefnmlglpldgfaaDoor.Pure
set_option linter.unusedVariables false
set_option linter.unusedSimpArgs false
open Go.RowKit Go.Proofs.YtefnmlglpldgfaaDoor.QL Go.Proofs.YtefnmlglpldgfaaDoorW.PrintWords Go.Proofs.YtefnmlglpldgfaaDoorW.PrintLast Go.Proofs.YtefnmlglpldgfaaDoorW.PrintMore Go.Proofs.YtefnmlglpldgfaaDoor.Aux Go.Proofs.YtefnmlglpldgfaaDoor.Dom Go.Proofs.YtefnmlglpldgfaaDoor.Ext
theorem spec_IsLeap_eq {y : Int} (h : 0 ≤ y) : spec_IsLeap.f y = some (leapB y) := by
  unfold spec_IsLeap.f leapB
  rw [Int.tmod_eq_emod_of_nonneg h, Int.tmod_eq_emod_of_nonneg h, Int.tmod_eq_emod_of_nonneg h]
  by_cases h4 : y % 4 = 0
  · rw [if_pos h4]
    by_cases h100 : y % 100 = 0
    · rw [if_pos h100]
      congr 1
      rw [Bool.eq_iff_iff]; simp; omega
    · rw [if_neg h100, decide_eq_true (Or.inl ⟨h4, h100⟩)]
  · rw [if_neg h4, decide_eq_false (by omega)]

end Go.Proofs.YtefnmlglpldgfaaDoor.Pure

namespace Go.Proofs.YtefnmlglpldgfaaDoor.Pure
set_option linter.unusedVariables false
set_option linter.unusedSimpArgs false
open Go.RowKit Go.Proofs.YtefnmlglpldgfaaDoor.QL Go.Proofs.YtefnmlglpldgfaaDoorW.PrintWords Go.Proofs.YtefnmlglpldgfaaDoorW.PrintLast Go.Proofs.YtefnmlglpldgfaaDoorW.PrintMore Go.Proofs.YtefnmlglpldgfaaDoor.Aux Go.Proofs.YtefnmlglpldgfaaDoor.Dom Go.Proofs.YtefnmlglpldgfaaDoor.Ext
theorem spec_l4Months_eq {y : Int} (h : 0 ≤ y) : ∃ l, spec_l4Months.f y = some l ∧ l.length = 12 ∧ ∀ m : Int, 1 ≤ m → m ≤ 12 → rd l (m - 1) = monthD y m := by
  unfold spec_l4Months.f
  rw [spec_IsLeap_eq h, Option.bind_some]
  have hm : ∀ m : Int, 1 ≤ m → m ≤ 12 → m = 1 ∨ m = 2 ∨ m = 3 ∨ m = 4 ∨ m = 5 ∨ m = 6 ∨ m = 7 ∨ m = 8 ∨ m = 9 ∨ m = 10 ∨ m = 11 ∨ m = 12 := fun m h1 h2 => by omega
  cases hl : leapB y with
  | true =>
    refine ⟨_, if_pos rfl, rfl, fun m h1 h2 => ?_⟩
    rcases hm m h1 h2 with rfl | rfl | rfl | rfl | rfl | rfl | rfl | rfl | rfl | rfl | rfl | rfl <;> simp [monthD, hl, rd]
  | false =>
    refine ⟨_, if_neg (by decide), rfl, fun m h1 h2 => ?_⟩
    rcases hm m h1 h2 with rfl | rfl | rfl | rfl | rfl | rfl | rfl | rfl | rfl | rfl | rfl | rfl <;> simp [monthD, hl, rd]
theorem spec_DaysOf_l1 (y m : Int) (hy : 0 ≤ y) (hm : m ≤ 13) : ∀ (d : Nat) (n i : Int), 1 ≤ i → m - i = d → 0 ≤ n → n + 31 * d ≤ 100000 → Ev (fun k => spec_DaysOf.l1 k y m n i) (n + monthsD y d i)
  | 0, n, i, h1, hd, n0, n1 => by
    refine ev_last fun k => ?_
    simp only [spec_DaysOf.l1]
    rw [if_neg (by omega)]
    simp [monthsD]
  | d + 1, n, i, h1, hd, n0, n1 => by
    obtain ⟨l, e, hl, hr⟩ := spec_l4Months_eq hy
    have hb := monthD_bd y i
    refine Ev.step (f := fun k => spec_DaysOf.l1 k y m (n + monthD y i) (i + 1)) (fun k => ?_) (ev_eq (spec_DaysOf_l1 y m hy hm d _ (i + 1) (by omega) (by omega) (by omega) (by omega)) (by rw [monthsD]; omega))
    simp only [spec_DaysOf.l1]
    rw [if_pos (by omega), e, Option.bind_some, wrap_id (x := i - 1) (by omega) (by omega), if_pos (by omega), if_pos (by omega), hr i h1 (by omega), wrap_id (by omega) (by omega), wrap_id (by omega) (by omega)]
theorem spec_DaysOf_l0 (y m : Int) (hy : y ≤ 2037) (h1970 : 1970 ≤ y) (hm1 : 1 ≤ m) (hm : m ≤ 12) : ∀ (d : Nat) (n i : Int), 1970 ≤ i → y - i = d → 0 ≤ n → n + 366 * d ≤ 50000 → Ev (fun k => spec_DaysOf.l0 k y m n i) (n + yearsD d i + monthsD y (m - 1).toNat 1)
  | 0, n, i, h1, hd, n0, n1 => by
    refine Ev.step (f := fun k => spec_DaysOf.l1 k y m n 1) (fun k => ?_) (ev_eq (spec_DaysOf_l1 y m (by omega) (by omega) (m - 1).toNat n 1 (by omega) (by omega) n0 (by omega)) (by simp [yearsD]))
    simp only [spec_DaysOf.l0]
    rw [if_neg (by omega)]
  | d + 1, n, i, h1, hd, n0, n1 => by
    have hb := yearD_bd i
    refine Ev.step (f := fun k => spec_DaysOf.l0 k y m (n + yearD i) (i + 1)) (fun k => ?_) (ev_eq (spec_DaysOf_l0 y m hy h1970 hm1 hm d _ (i + 1) (by omega) (by omega) (by omega) (by omega)) (by rw [yearsD]; omega))
    simp only [spec_DaysOf.l0]
    rw [if_pos (by omega), spec_IsLeap_eq (by omega), Option.bind_some, wrap_id (x := n + 365) (by omega) (by omega), wrap_id (x := i + 1) (by omega) (by omega), wrap_id (x := n + 365 + 1) (by omega) (by omega)]
    unfold yearD
    cases leapB i with
    | true => rw [if_pos rfl, if_pos rfl, show n + 365 + 1 = n + 366 by omega]
    | false => rw [if_neg (by decide), if_neg (by decide)]
theorem spec_DaysOf_ev (y m d : Int) : Ev (fun k => spec_DaysOf.f k y m d) (daysP y m d) := by
  have hbad : ∀ k, spec_DaysOf.j0 (k + 1) y m d true = some (-1) := fun k => by simp only [spec_DaysOf.j0]; rw [if_pos trivial]
  refine Ev.congr (fun k => by unfold spec_DaysOf.f; rw [spec_l1In_eq, Option.bind_some]) ?_
  unfold daysP
  by_cases h1 : 1970 ≤ y ∧ y ≤ 2037
  · refine ev_if_pos (by simpa using h1) ?_
    refine Ev.congr (fun k => by rw [spec_l1In_eq, Option.bind_some]) ?_
    by_cases h2 : 1 ≤ m ∧ m ≤ 12
    · refine ev_if_pos (by simpa using h2) ?_
      obtain ⟨l, e, hl, hr⟩ := spec_l4Months_eq (y := y) (by omega)
      refine Ev.congr (fun k => by rw [e, Option.bind_some, wrap_id (x := m - 1) (by omega) (by omega), if_pos (by omega), if_pos (by omega), hr m h2.1 h2.2, spec_l1In_eq, Option.bind_some]) ?_
      have hb := monthD_bd y m
      by_cases h3 : 1 ≤ d ∧ d ≤ monthD y m
      · rw [decide_eq_true h3, if_pos ⟨h1, h2, h3⟩]
        refine Ev.step (f := fun k => spec_DaysOf.l0 k y m (d - 1) 1970) (fun k => ?_) (ev_eq (spec_DaysOf_l0 y m h1.2 h1.1 h2.1 h2.2 (y - 1970).toNat (d - 1) 1970 (by omega) (by omega) (by omega) (by omega)) (by omega))
        simp only [spec_DaysOf.j0]
        rw [if_neg (by decide), wrap_id (by omega) (by omega)]
      · rw [decide_eq_false h3, if_neg (fun h => h3 h.2.2)]
        exact ev_last hbad
    · rw [if_neg (fun h => h2 h.2.1)]
      exact ev_if_neg (by simpa using h2) (ev_last hbad)
  · rw [if_neg (fun h => h1 h.1)]
    exact ev_if_neg (by simpa using h1) (ev_last hbad)

end Go.Proofs.YtefnmlglpldgfaaDoor.Pure

namespace Go.Proofs.YtefnmlglpldgfaaDoor.Pure
set_option linter.unusedVariables false
set_option linter.unusedSimpArgs false
open Go.RowKit Go.Proofs.YtefnmlglpldgfaaDoor.QL Go.Proofs.YtefnmlglpldgfaaDoorW.PrintWords Go.Proofs.YtefnmlglpldgfaaDoorW.PrintLast Go.Proofs.YtefnmlglpldgfaaDoorW.PrintMore Go.Proofs.YtefnmlglpldgfaaDoor.Aux Go.Proofs.YtefnmlglpldgfaaDoor.Dom Go.Proofs.YtefnmlglpldgfaaDoor.Ext
theorem spec_Dec_pos : ∀ (d : Nat) (n : Int) (acc : List Int), 0 ≤ n → n ≤ 9223372036854775807 → n < 10 ^ d → acc.length + d ≤ 100 → Ev (fun k => spec_Dec.l0 k n (strOfNums acc) false) (strOfNums (decL d n acc))
  | 0, n, acc, h0, h1, hn, ha => by
    refine ev_last fun k => ?_
    simp only [spec_Dec.l0]
    rw [if_pos (by simp at hn; omega), if_neg (by decide)]
    rfl
  | d + 1, n, acc, h0, h1, hn, ha => by
    by_cases h : n > 0
    · refine Ev.step (f := fun k => spec_Dec.l0 k (n / 10) (strOfNums ((48 + n % 10) :: acc)) false) (fun k => ?_) (ev_eq (spec_Dec_pos d (n / 10) _ (by omega) (by omega) (by rw [Int.pow_succ] at hn; omega) (by simp; omega)) (by rw [decL, if_pos h]))
      simp only [spec_Dec.l0, Option.bind_some]
      rw [if_neg (by omega), Int.tmod_eq_emod_of_nonneg (by omega), Int.tdiv_eq_ediv_of_nonneg (by omega), if_neg (by omega), if_pos (by rw [strOfNums_size, strOfNums_size]; simp; omega), wrap_id (x := 48 + n % 10) (by omega) (by omega), wrap_id (by omega) (by omega), Int.emod_eq_of_lt (a := 48 + n % 10) (by omega) (by omega), ← strOfNums_append]
      rfl
    · refine ev_last fun k => ?_
      simp only [spec_Dec.l0]
      rw [if_pos (by omega), if_neg (by decide), decL, if_neg h]
theorem spec_Dec_neg : ∀ (d : Nat) (n : Int) (acc : List Int), 0 ≤ n → n ≤ 9223372036854775808 → n < 10 ^ d → acc.length + d ≤ 100 → Ev (fun k => spec_Dec.l0 k (-n) (strOfNums acc) true) (strOfNums (45 :: decL d n acc))
  | 0, n, acc, h0, h1, hn, ha => by
    refine ev_last fun k => ?_
    simp only [spec_Dec.l0]
    rw [if_pos (by simp at hn; omega), if_pos (by trivial), if_pos (by rw [strOfNums_size]; omega)]
    rw [show (45 :: decL 0 n acc : List Int) = [45] ++ acc from rfl, strOfNums_append]
    rfl
  | d + 1, n, acc, h0, h1, hn, ha => by
    by_cases h : n > 0
    · refine Ev.step (f := fun k => spec_Dec.l0 k (-(n / 10)) (strOfNums ((48 + n % 10) :: acc)) true) (fun k => ?_) (ev_eq (spec_Dec_neg d (n / 10) _ (by omega) (by omega) (by rw [Int.pow_succ] at hn; omega) (by simp; omega)) (by rw [decL, if_pos h]))
      simp only [spec_Dec.l0, Option.bind_some]
      rw [if_neg (by omega), Int.neg_tmod, Int.neg_tdiv, Int.tmod_eq_emod_of_nonneg (by omega), Int.tdiv_eq_ediv_of_nonneg (by omega)]
      by_cases hr : -(n % 10) < 0
      · rw [if_pos hr, if_pos (by rw [strOfNums_size, strOfNums_size]; simp; omega), Int.neg_neg, wrap_id (x := n % 10) (by omega) (by omega), wrap_id (x := 48 + n % 10) (by omega) (by omega), wrap_id (by omega) (by omega), Int.emod_eq_of_lt (a := 48 + n % 10) (by omega) (by omega), ← strOfNums_append]
        rfl
      · have hr0 : n % 10 = 0 := by omega
        rw [if_neg hr, if_pos (by rw [strOfNums_size, strOfNums_size]; simp; omega), hr0, wrap_id (x := -(n / 10)) (by omega) (by omega), ← strOfNums_append, show (wrap64 (48 + -0) % 256 : Int) = 48 + 0 by rw [wrap_id (by omega) (by omega)]; omega]
        rfl
    · refine ev_last fun k => ?_
      simp only [spec_Dec.l0]
      rw [if_pos (by omega), if_pos (by trivial), if_pos (by rw [strOfNums_size]; omega), decL, if_neg h]
      rw [show (45 :: acc : List Int) = [45] ++ acc from rfl, strOfNums_append]
      rfl
theorem spec_Dec_ev (n : Int) (h0 : -9223372036854775808 ≤ n) (h1 : n ≤ 9223372036854775807) : Ev (fun k => spec_Dec.f k n) (decB n) := by
  have hp : (10 : Int) ^ 20 = 100000000000000000000 := by decide
  unfold decB decP
  by_cases hz : n = 0
  · rw [if_pos hz]
    exact ev_some fun k => by unfold spec_Dec.f; rw [if_pos hz]; rfl
  · rw [if_neg hz]
    refine Ev.congr (fun k => by unfold spec_Dec.f; rw [if_neg hz]) ?_
    by_cases hn : n < 0
    · rw [if_pos hn, decide_eq_true hn]
      have h := spec_Dec_neg 20 (-n) [] (by omega) (by omega) (by rw [hp]; omega) (by simp)
      rw [Int.neg_neg] at h
      exact h
    · rw [if_neg hn, decide_eq_false hn]
      exact spec_Dec_pos 20 n [] (by omega) (by omega) (by rw [hp]; omega) (by simp)

end Go.Proofs.YtefnmlglpldgfaaDoor.Pure

namespace Go.Proofs.YtefnmlglpldgfaaDoor.Pure
set_option linter.unusedVariables false
set_option linter.unusedSimpArgs false
open Go.RowKit Go.Proofs.YtefnmlglpldgfaaDoor.QL Go.Proofs.YtefnmlglpldgfaaDoorW.PrintWords Go.Proofs.YtefnmlglpldgfaaDoorW.PrintLast Go.Proofs.YtefnmlglpldgfaaDoorW.PrintMore Go.Proofs.YtefnmlglpldgfaaDoor.Aux Go.Proofs.YtefnmlglpldgfaaDoor.Dom Go.Proofs.YtefnmlglpldgfaaDoor.Ext
theorem spec_l4Two_eq {n : Int} (h0 : 0 ≤ n) (h1 : n ≤ 99) : spec_l4Two.f n = some (strOfNums (twoL n)) := by
  unfold spec_l4Two.f twoL
  rw [Int.tdiv_eq_ediv_of_nonneg h0, wrap_id (x := n / 10) (by omega) (by omega), Int.tmod_eq_emod_of_nonneg (by omega), Int.tmod_eq_emod_of_nonneg h0, wrap_id (by omega) (by omega), wrap_id (by omega) (by omega), Int.emod_eq_of_lt (a := 48 + n / 10 % 10) (by omega) (by omega), Int.emod_eq_of_lt (a := 48 + n % 10) (by omega) (by omega)]
/-- The days of a year's first day, and of a month's. -/
theorem daysP_year {y : Int} (h : 1970 ≤ y) (h2 : y ≤ 2037) : daysP y 1 1 = yearsD (y - 1970).toNat 1970 := by
  have hb := monthD_bd y 1
  unfold daysP
  rw [if_pos ⟨⟨h, h2⟩, by omega, by omega⟩]
  simp [monthsD]
theorem daysP_month {y m : Int} (h : 1970 ≤ y) (h2 : y ≤ 2037) (h3 : 1 ≤ m) (h4 : m ≤ 12) : daysP y m 1 = yearsD (y - 1970).toNat 1970 + monthsD y (m - 1).toNat 1 := by
  have hb := monthD_bd y m
  unfold daysP
  rw [if_pos ⟨⟨h, h2⟩, ⟨h3, h4⟩, by omega⟩]
  omega
theorem spec_ShowDate_j3 (sec y m : Int) (hs0 : 0 ≤ sec) (hs1 : sec ≤ 2000000000) (hy : 1970 ≤ y) (hy2 : y ≤ 2037) (hm : 1 ≤ m) (hm2 : m ≤ 12) (hd : daysP y m 1 ≤ sec / 86400) (hd2 : sec / 86400 < daysP y m 1 + monthD y m) :
    Ev (fun k => spec_ShowDate.j3 k sec (sec / 86400) y m) (strOfNums (weekL (sec / 86400 % 7) ++ [44, 32] ++ twoL (sec / 86400 - daysP y m 1 + 1) ++ [32] ++ monL m ++ [32] ++ decP y ++ [32] ++ twoL (sec / 3600 % 24) ++ [58] ++ twoL (sec / 60 % 60) ++ [58] ++ twoL (sec % 60) ++ [32, 71, 77, 84])) := by
  have hb := monthD_bd y m
  have hdp := daysP_month hy hy2 hm hm2
  have hyb := yearsD_bd (y - 1970).toNat 1970
  have hmb := monthsD_bd y (m - 1).toNat 1
  have w2 : wrap64 (m - 1) = m - 1 := wrap_id (by omega) (by omega)
  have w1 : wrap64 (wrap64 (sec / 86400 - daysP y m 1) + 1) = sec / 86400 - daysP y m 1 + 1 := by rw [wrap_id (x := sec / 86400 - daysP y m 1) (by omega) (by omega), wrap_id (by omega) (by omega)]
  have w3 : Int.tmod (wrap64 (Int.tdiv sec 3600)) 24 = sec / 3600 % 24 := by rw [Int.tdiv_eq_ediv_of_nonneg hs0, wrap_id (by omega) (by omega), Int.tmod_eq_emod_of_nonneg (by omega)]
  have w4 : Int.tmod (wrap64 (Int.tdiv sec 60)) 60 = sec / 60 % 60 := by rw [Int.tdiv_eq_ediv_of_nonneg hs0, wrap_id (by omega) (by omega), Int.tmod_eq_emod_of_nonneg (by omega)]
  have w5 : Int.tmod sec 60 = sec % 60 := Int.tmod_eq_emod_of_nonneg hs0
  have w6 : Int.tmod (sec / 86400) 7 = sec / 86400 % 7 := Int.tmod_eq_emod_of_nonneg (by omega)
  have s1 : (strOfNums (weekL (sec / 86400 % 7))).size = 3 := by rw [strOfNums_size, weekL_length]
  have s2 : ∀ n, (strOfNums (twoL n)).size = 2 := fun n => by rw [strOfNums_size]; rfl
  have s3 : (strOfNums (monL m)).size = 3 := by rw [strOfNums_size, monL_length]
  have s4 : (decB y).size = 4 := by unfold decB; rw [decP_year (by omega) (by omega), strOfNums_size]; rfl
  have z1 : (⟨#[44, 32]⟩ : ByteArray).size = 2 := rfl
  have z2 : (⟨#[32]⟩ : ByteArray).size = 1 := rfl
  have z3 : (⟨#[58]⟩ : ByteArray).size = 1 := rfl
  refine Ev.step (fun k => by simp only [spec_ShowDate.j3]; rfl) (ev_bind (spec_DaysOf_ev y m 1) ?_)
  refine Ev.congr (fun k => by
    simp only [Option.bind_some]
    rw [w6, if_pos (c := 0 ≤ sec / 86400 % 7) (by omega), if_pos (c := sec / 86400 % 7 < _) (by simp; omega), w2, if_pos (c := 0 ≤ m - 1) (by omega), if_pos (c := m - 1 < _) (by simp; omega), week_rd (by omega) (by omega), months_rd hm hm2, if_pos (by rw [s1]; decide), w1, spec_l4Two_eq (n := sec / 86400 - daysP y m 1 + 1) (by omega) (by omega), Option.bind_some]) ?_
  refine Ev.congr (fun k => by
    simp only [ByteArray.size_append, s1, s2, s3, z1, z2, Nat.reduceAdd, Nat.reduceLeDiff, if_true]
    rfl) ?_
  refine ev_bind (spec_Dec_ev y (by omega) (by omega)) ?_
  refine ev_some fun k => ?_
  rw [w3, w4, w5, spec_l4Two_eq (n := sec / 3600 % 24) (by omega) (by omega), spec_l4Two_eq (n := sec / 60 % 60) (by omega) (by omega), spec_l4Two_eq (n := sec % 60) (by omega) (by omega)]
  simp only [Option.bind_some, ByteArray.size_append, s1, s2, s3, s4, z1, z2, z3, Nat.reduceAdd, Nat.reduceLeDiff, if_true]
  congr 1
  simp only [strOfNums_append, decB]
  rfl
theorem spec_ShowDate_l1 (sec y : Int) (hs0 : 0 ≤ sec) (hs1 : sec ≤ 2000000000) (hy : 1970 ≤ y) (hy2 : y ≤ 2037) : ∀ (f : Nat) (m d : Int), 1 ≤ m → m + f = 13 → 0 ≤ d → d < monthsD y f m → daysP y m 1 + d = sec / 86400 →
    Ev (fun k => spec_ShowDate.l1 k sec (sec / 86400) y m) (strOfNums (weekL (sec / 86400 % 7) ++ [44, 32] ++ twoL ((mdL y f m d).2 + 1) ++ [32] ++ monL (mdL y f m d).1 ++ [32] ++ decP y ++ [32] ++ twoL (sec / 3600 % 24) ++ [58] ++ twoL (sec / 60 % 60) ++ [58] ++ twoL (sec % 60) ++ [32, 71, 77, 84]))
  | 0, m, d, h1, hf, h0, hd, he => by simp [monthsD] at hd; omega
  | f + 1, m, d, h1, hf, h0, hd, he => by
    have hb := monthD_bd y m
    rw [monthsD] at hd
    rw [mdL]
    have e3 : d = sec / 86400 - daysP y m 1 := by omega
    by_cases h12 : m < 12
    · have hn : daysP y (m + 1) 1 = daysP y m 1 + monthD y m := by
        rw [daysP_month hy hy2 (by omega) (by omega), daysP_month hy hy2 h1 (by omega), show (m + 1 - 1).toNat = (m - 1).toNat + 1 by omega, monthsD_succ, show 1 + (((m - 1).toNat : Nat) : Int) = m by omega]
        omega
      refine Ev.step (fun k => by simp only [spec_ShowDate.l1]; rw [if_pos h12, wrap_id (x := m + 1) (by omega) (by omega)]) (ev_bind (spec_DaysOf_ev y (m + 1) 1) ?_)
      by_cases h : monthD y m ≤ d
      · rw [if_pos h]
        exact ev_if_pos (by omega) (spec_ShowDate_l1 sec y hs0 hs1 hy hy2 f (m + 1) (d - monthD y m) (by omega) (by omega) (by omega) (by omega) (by omega))
      · rw [if_neg h]
        refine ev_if_neg (by omega) ?_
        have := spec_ShowDate_j3 sec y m hs0 hs1 hy hy2 h1 (by omega) (by omega) (by omega)
        rw [← e3] at this
        exact this
    · refine Ev.step (f := fun k => spec_ShowDate.j3 k sec (sec / 86400) y m) (fun k => by simp only [spec_ShowDate.l1]; rw [if_neg h12]) ?_
      have hf0 : f = 0 := by omega
      subst hf0
      simp only [monthsD] at hd
      rw [if_neg (by omega)]
      have := spec_ShowDate_j3 sec y m hs0 hs1 hy hy2 h1 (by omega) (by omega) (by omega)
      rw [← e3] at this
      exact this
theorem spec_ShowDate_l0 (sec : Int) (hs0 : 0 ≤ sec) (hs1 : sec ≤ 2000000000) : ∀ (f : Nat) (y d : Int), 1970 ≤ y → y + f = 2037 → 0 ≤ d → d < 365 * f → daysP y 1 1 + d = sec / 86400 →
    Ev (fun k => spec_ShowDate.l0 k sec (sec / 86400) y 1) (strOfNums (weekL (sec / 86400 % 7) ++ [44, 32] ++ twoL ((mdL (ydL f y d).1 12 1 (ydL f y d).2).2 + 1) ++ [32] ++ monL (mdL (ydL f y d).1 12 1 (ydL f y d).2).1 ++ [32] ++ decP (ydL f y d).1 ++ [32] ++ twoL (sec / 3600 % 24) ++ [58] ++ twoL (sec / 60 % 60) ++ [58] ++ twoL (sec % 60) ++ [32, 71, 77, 84]))
  | 0, y, d, h1, hf, h0, hd, he => by omega
  | f + 1, y, d, h1, hf, h0, hd, he => by
    have hb := yearD_bd y
    rw [ydL]
    have hn : daysP (y + 1) 1 1 = daysP y 1 1 + yearD y := by
      rw [daysP_year (by omega) (by omega), daysP_year h1 (by omega), show (y + 1 - 1970).toNat = (y - 1970).toNat + 1 by omega, yearsD_succ, show 1970 + (((y - 1970).toNat : Nat) : Int) = y by omega]
    refine Ev.step (fun k => by simp only [spec_ShowDate.l0]; rw [if_pos (by omega), wrap_id (x := y + 1) (by omega) (by omega)]) (ev_bind (spec_DaysOf_ev (y + 1) 1 1) ?_)
    by_cases h : yearD y ≤ d
    · rw [if_pos h]
      exact ev_if_pos (by omega) (spec_ShowDate_l0 sec hs0 hs1 f (y + 1) (d - yearD y) (by omega) (by omega) (by omega) (by omega) (by omega))
    · rw [if_neg h]
      have hw := yearW_eq y
      unfold yearW at hw
      refine ev_if_neg (by omega) (Ev.step (f := fun k => spec_ShowDate.l1 k sec (sec / 86400) y 1) (fun k => by simp only [spec_ShowDate.j1]) ?_)
      exact spec_ShowDate_l1 sec y hs0 hs1 h1 (by omega) 12 1 d (by omega) (by omega) h0 (by omega) he
theorem spec_ShowDate_ev (sec : Int) (h0 : -9223372036854775808 ≤ sec) (h1 : sec ≤ 9223372036854775807) : Ev (fun k => spec_ShowDate.f k sec) (dateB sec) := by
  refine Ev.congr (fun k => by unfold spec_ShowDate.f; rw [spec_l1In_eq, Option.bind_some]) ?_
  unfold dateB
  by_cases h : 0 ≤ sec ∧ sec ≤ 2000000000
  · rw [if_pos h]
    refine ev_if_pos (by simpa using h) ?_
    have w1 : wrap64 (Int.tdiv sec 86400) = sec / 86400 := by rw [Int.tdiv_eq_ediv_of_nonneg h.1, wrap_id (by omega) (by omega)]
    refine Ev.congr (fun k => by rw [w1]) ?_
    have hy0 : daysP 1970 1 1 = 0 := by rw [daysP_year (by omega) (by omega)]; rfl
    refine ev_eq (spec_ShowDate_l0 sec h.1 h.2 67 1970 (sec / 86400) (by omega) (by omega) (by omega) (by omega) (by omega)) ?_
    unfold dateL ymd
    rw [show (70 : Nat) = 67 + 3 from rfl, ydL_more 67 3 1970 (sec / 86400) (by omega) (by omega)]
  · rw [if_neg h]
    exact ev_if_neg (by simpa using h) (Ev.now _)

end Go.Proofs.YtefnmlglpldgfaaDoor.Pure

namespace Go.Proofs.YtefnmlglpldgfaaDoor.Pure
set_option linter.unusedVariables false
set_option linter.unusedSimpArgs false
open Go.RowKit Go.Proofs.YtefnmlglpldgfaaDoor.QL Go.Proofs.YtefnmlglpldgfaaDoorW.PrintWords Go.Proofs.YtefnmlglpldgfaaDoorW.PrintLast Go.Proofs.YtefnmlglpldgfaaDoorW.PrintMore Go.Proofs.YtefnmlglpldgfaaDoor.Aux Go.Proofs.YtefnmlglpldgfaaDoor.Dom Go.Proofs.YtefnmlglpldgfaaDoor.Ext
theorem take_cons_drop (s : ByteArray) (i : Int) (n : Nat) (h0 : 0 ≤ i) (h1 : i < (s.size : Int)) : ((bytesOf s).drop i.toNat).take (n + 1) = bt s i :: ((bytesOf s).drop (i + 1).toNat).take n := by
  rw [drop_bt h0 h1, List.take_succ_cons]
theorem spec_l4Num_l0 (s : ByteArray) (a n : Int) (hs : s.size ≤ 8388608) (ha : 0 ≤ a) (hn : n ≤ 9) (hb : a + n ≤ s.size) : ∀ (d : Nat) (x i : Int) (j : Nat), a ≤ i → a + n - i = d → 0 ≤ x → x < 10 ^ j → (j : Int) = i - a →
    Ev (fun k => spec_l4Num.l0 k s a n x i) (if (((bytesOf s).drop i.toNat).take d).all digC = true then valL x (((bytesOf s).drop i.toNat).take d) else -1)
  | 0, x, i, j, h0, hd, x0, x1, hj => by
    refine ev_last fun k => ?_
    simp only [spec_l4Num.l0]
    rw [wrap_id (x := a + n) (by omega) (by omega), if_neg (by omega), List.take_zero]
    rfl
  | d + 1, x, i, j, h0, hd, x0, x1, hj => by
    have hlt : i < (s.size : Int) := by omega
    have hp : (10 : Int) ^ 9 = 1000000000 := by decide
    have hle : (10 : Int) ^ j ≤ 10 ^ 9 := pow_le 10 (by decide) (by omega)
    rw [take_cons_drop s i d (by omega) hlt, List.all_cons]
    by_cases h1 : digC (bt s i) = true
    · have h2 := digC_iff.1 h1
      refine Ev.step (f := fun k => spec_l4Num.l0 k s a n (x * 10 + (bt s i - 48)) (i + 1)) (fun k => ?_) (ev_eq (spec_l4Num_l0 s a n hs ha hn hb d _ (i + 1) (j + 1) (by omega) (by omega) (by omega) (by rw [Int.pow_succ]; omega) (by omega)) (by rw [h1, Bool.true_and, valL]))
      simp only [spec_l4Num.l0]
      rw [wrap_id (x := a + n) (by omega) (by omega), if_pos (by omega), if_pos (by omega), if_pos hlt, if_neg (by omega), if_neg (by omega), Int.emod_eq_of_lt (a := bt s i - 48) (by omega) (by omega), wrap_id (x := x * 10) (by omega) (by omega), wrap_id (x := x * 10 + (bt s i - 48)) (by omega) (by omega), wrap_id (x := i + 1) (by omega) (by omega)]
    · rw [Bool.eq_false_iff.2 h1, Bool.false_and, if_neg (by decide)]
      rw [digC_iff] at h1
      refine ev_last fun k => ?_
      simp only [spec_l4Num.l0]
      rw [wrap_id (x := a + n) (by omega) (by omega), if_pos (by omega), if_pos (by omega), if_pos hlt]
      by_cases h3 : bt s i < 48
      · rw [if_pos h3]
      · rw [if_neg h3, if_pos (by omega)]
theorem spec_l4Num_ev (s : ByteArray) (a n : Nat) (hs : s.size ≤ 8388608) (hn : n ≤ 9) (hb : a + n ≤ s.size) : Ev (fun k => spec_l4Num.f k s a n) (numP (sub (bytesOf s) a n)) := by
  have h := spec_l4Num_l0 s a n hs (by omega) (by omega) (by omega) n 0 a 0 (by omega) (by omega) (by omega) (by decide) (by omega)
  rw [Int.toNat_natCast] at h
  exact h
theorem spec_ReadDate_j1 (s : ByteArray) (hs : s.size = 29) (days h m x : Int) (hd : days = daysI (bytesOf s)) (hh : h = numP (sub (bytesOf s) 17 2)) (hm : m = numP (sub (bytesOf s) 20 2)) (hx : x = numP (sub (bytesOf s) 23 2)) (b : Bool) (hb : b = decide (days < 0 ∨ h < 0 ∨ m < 0 ∨ x < 0)) :
    Ev (fun k => spec_ReadDate.j1 k s days h m x b) (readDateP s) := by
  have hl := bytesOf_length s
  have b1 : -1 ≤ days ∧ days ≤ 30000 := by rw [hd]; exact daysP_bd _ _ _
  have e2 : (10 : Int) ^ 2 = 100 := by decide
  have b2 := numP_bd (sub (bytesOf s) 17 2) 2 (by unfold sub; rw [List.length_take]; omega)
  have b3 := numP_bd (sub (bytesOf s) 20 2) 2 (by unfold sub; rw [List.length_take]; omega)
  have b4 := numP_bd (sub (bytesOf s) 23 2) 2 (by unfold sub; rw [List.length_take]; omega)
  rw [← hh] at b2
  rw [← hm] at b3
  rw [← hx] at b4
  cases b with
  | true =>
    have hneg := of_decide_eq_true hb.symm
    rw [readDateP_none (fun sec _ e => by
      obtain ⟨q0, q1, q2, _⟩ := dateB_some hs e
      obtain ⟨f1, f2, f3, f4⟩ := date_facts q0 q1
      rw [← q2] at f1 f2 f3 f4
      rw [← hd] at f1
      rw [← hh] at f2
      rw [← hm] at f3
      rw [← hx] at f4
      omega)]
    exact ev_last fun k => by simp only [spec_ReadDate.j1]; rw [if_pos (by trivial)]
  | false =>
    have hnn := of_decide_eq_false hb.symm
    have hr : readL (bytesOf s) = days * 86400 + h * 3600 + m * 60 + x := by unfold readL; rw [← hd, ← hh, ← hm, ← hx]
    refine Ev.step (fun k => by simp only [spec_ReadDate.j1]; rw [if_neg (by decide), wrap_id (x := days * 86400) (by omega) (by omega), wrap_id (x := h * 3600) (by omega) (by omega), wrap_id (x := days * 86400 + h * 3600) (by omega) (by omega), wrap_id (x := m * 60) (by omega) (by omega), wrap_id (x := days * 86400 + h * 3600 + m * 60) (by omega) (by omega), wrap_id (x := days * 86400 + h * 3600 + m * 60 + x) (by omega) (by omega)]) (ev_bind (spec_ShowDate_ev (days * 86400 + h * 3600 + m * 60 + x) (by omega) (by omega)) ?_)
    rw [← hr]
    by_cases he : dateB (readL (bytesOf s)) = s
    · refine ev_if_pos (by rw [he]) (ev_eq (Ev.now _) ?_)
      rw [readDateP_some hs he]
    · refine ev_if_neg (by rw [toList_eq_iff]; exact he) (ev_eq (Ev.now _) ?_)
      unfold readDateP
      rw [if_neg (fun h => he h.2)]
theorem spec_ReadDate_l0 (s : ByteArray) (hs : s.size = 29) : ∀ (d : Nat) (mon m : Int), 1 ≤ m → m + d = 13 → monF (sub (bytesOf s) 8 3) d m mon = monI (sub (bytesOf s) 8 3) → Ev (fun k => spec_ReadDate.l0 k s mon m) (readDateP s)
  | 0, mon, m, h1, hd, he => by
    have hmon : mon = monI (sub (bytesOf s) 8 3) := he
    have w1 : Ev (fun k => spec_l4Num.f k s 12 4) (numP (sub (bytesOf s) 12 4)) := spec_l4Num_ev s 12 4 (by omega) (by omega) (by omega)
    have w2 : Ev (fun k => spec_l4Num.f k s 5 2) (numP (sub (bytesOf s) 5 2)) := spec_l4Num_ev s 5 2 (by omega) (by omega) (by omega)
    have w3 : Ev (fun k => spec_l4Num.f k s 17 2) (numP (sub (bytesOf s) 17 2)) := spec_l4Num_ev s 17 2 (by omega) (by omega) (by omega)
    have w4 : Ev (fun k => spec_l4Num.f k s 20 2) (numP (sub (bytesOf s) 20 2)) := spec_l4Num_ev s 20 2 (by omega) (by omega) (by omega)
    have w5 : Ev (fun k => spec_l4Num.f k s 23 2) (numP (sub (bytesOf s) 23 2)) := spec_l4Num_ev s 23 2 (by omega) (by omega) (by omega)
    refine Ev.step (fun k => by simp only [spec_ReadDate.l0]; rw [if_neg (by omega)]) (ev_bind w1 (ev_bind w2 (ev_bind (spec_DaysOf_ev _ mon _) (ev_bind w3 (ev_bind w4 (ev_bind w5 ?_))))))
    have hj := spec_ReadDate_j1 s hs (daysI (bytesOf s)) _ _ _ rfl rfl rfl rfl
    have ed : daysP (numP (sub (bytesOf s) 12 4)) mon (numP (sub (bytesOf s) 5 2)) = daysI (bytesOf s) := by rw [hmon]; rfl
    simp only [ed]
    by_cases c1 : daysI (bytesOf s) < 0
    · exact ev_if_pos c1 (hj true (decide_eq_true (.inl c1)).symm)
    · refine ev_if_neg c1 ?_
      by_cases c2 : numP (sub (bytesOf s) 17 2) < 0
      · exact ev_if_pos c2 (hj true (decide_eq_true (.inr (.inl c2))).symm)
      · refine ev_if_neg c2 ?_
        by_cases c3 : numP (sub (bytesOf s) 20 2) < 0
        · exact ev_if_pos c3 (hj true (decide_eq_true (.inr (.inr (.inl c3)))).symm)
        · refine ev_if_neg c3 (hj _ ?_)
          rw [decide_eq_decide]
          exact ⟨fun h => .inr (.inr (.inr h)), fun h => by omega⟩
  | d + 1, mon, m, h1, hd, he => by
    rw [monF] at he
    have hw : bytesOf (s.extract 8 11) = sub (bytesOf s) 8 3 := by
      rw [bytesOf_extract, sub, List.drop_take]
    have hmm : (s.extract 8 11 = strOfNums (monL m)) ↔ sub (bytesOf s) 8 3 = monL m := by
      rw [← hw]
      have hr := bytesOf_strOfNums (xs := monL m) (fun c hc => by have := monL_ge m c hc; omega)
      exact ⟨fun h => by rw [h, hr], fun h => bytesOf_inj (by rw [h, hr])⟩
    by_cases h : sub (bytesOf s) 8 3 = monL m
    · rw [if_pos h] at he
      refine Ev.step (f := fun k => spec_ReadDate.l0 k s m (m + 1)) (fun k => ?_) (spec_ReadDate_l0 s hs d m (m + 1) (by omega) (by omega) he)
      simp only [spec_ReadDate.l0]
      rw [if_pos (by omega), if_pos (by decide), if_pos (by omega), Option.bind_some, wrap_id (x := m - 1) (by omega) (by omega), if_pos (by omega), if_pos (by simp; omega), months_rd h1 (by omega), if_pos (by rw [hmm.2 h]), wrap_id (x := m + 1) (by omega) (by omega)]
    · rw [if_neg h] at he
      refine Ev.step (f := fun k => spec_ReadDate.l0 k s mon (m + 1)) (fun k => ?_) (spec_ReadDate_l0 s hs d mon (m + 1) (by omega) (by omega) he)
      simp only [spec_ReadDate.l0]
      rw [if_pos (by omega), if_pos (by decide), if_pos (by omega), Option.bind_some, wrap_id (x := m - 1) (by omega) (by omega), if_pos (by omega), if_pos (by simp; omega), months_rd h1 (by omega), if_neg (by rw [toList_eq_iff]; exact fun hh => h (hmm.1 hh)), wrap_id (x := m + 1) (by omega) (by omega)]
theorem spec_ReadDate_ev (s : ByteArray) (hs : s.size ≤ 8388608) : Ev (fun k => spec_ReadDate.f k s) (readDateP s) := by
  by_cases h : (s.size : Int) = 29
  · exact Ev.congr (fun k => by unfold spec_ReadDate.f; rw [if_pos h]) (spec_ReadDate_l0 s (by omega) 12 0 1 (by omega) (by omega) rfl)
  · rw [readDateP_none (fun sec e1 e2 => h (by omega))]
    exact Ev.congr (fun k => by unfold spec_ReadDate.f; rw [if_neg h]) (Ev.now _)

end Go.Proofs.YtefnmlglpldgfaaDoor.Pure

namespace Go.Proofs.YtefnmlglpldgfaaDoor.Pure
set_option linter.unusedVariables false
set_option linter.unusedSimpArgs false
open Go.RowKit Go.Proofs.YtefnmlglpldgfaaDoor.QL Go.Proofs.YtefnmlglpldgfaaDoorW.PrintWords Go.Proofs.YtefnmlglpldgfaaDoorW.PrintLast Go.Proofs.YtefnmlglpldgfaaDoorW.PrintMore Go.Proofs.YtefnmlglpldgfaaDoor.Aux Go.Proofs.YtefnmlglpldgfaaDoor.Dom Go.Proofs.YtefnmlglpldgfaaDoor.Ext
theorem spec_DateOf_ev (l : List S81) (nm : ByteArray) (hl : l.length ≤ 1048576) (hz : ¬ szF 1048576 (l.map fun x => (x.f0, x.f1)) < 0) : Ev (fun k => spec_DateOf.f k l nm) (dateOfP (l.map fun x => (x.f0, x.f1)) nm) := by
  have q1 := szF_sum nm (by omega) hz
  have j1 := joinG_size nm _ (by omega) hz
  have rdt := spec_ReadDate_ev (joinG nm (l.map fun x => (x.f0, x.f1))) (by omega)
  refine Ev.congr (fun k => by unfold spec_DateOf.f; rfl) (ev_bind (spec_FieldGet_ev l nm hl (by omega)) ?_)
  unfold dateOfP
  exact ev_ite (fun h1 => ev_bind rdt (Ev.now _)) (fun h1 => Ev.now _)

end Go.Proofs.YtefnmlglpldgfaaDoor.Pure

namespace Go.Proofs.YtefnmlglpldgfaaDoor.Pure
set_option linter.unusedVariables false
set_option linter.unusedSimpArgs false
open Go.RowKit Go.Proofs.YtefnmlglpldgfaaDoor.QL Go.Proofs.YtefnmlglpldgfaaDoorW.PrintWords Go.Proofs.YtefnmlglpldgfaaDoorW.PrintLast Go.Proofs.YtefnmlglpldgfaaDoorW.PrintMore Go.Proofs.YtefnmlglpldgfaaDoor.Aux Go.Proofs.YtefnmlglpldgfaaDoor.Dom Go.Proofs.YtefnmlglpldgfaaDoor.Ext
theorem impl_FieldGet_l0 (l : List S81) (nm : ByteArray) (hl : l.length ≤ 1048576) (V : List ByteArray) (hV : (V.map fun v => v.size + 2).sum ≤ 8388608) (hW : V.length ≤ 1048576) : ∀ (d : Nat) (acc : List ByteArray) (i : Int), 0 ≤ i → (l.length : Int) - i = d → acc ++ getL nm ((l.drop i.toNat).map fun x => (x.f0, x.f1)) = V →
    Ev (fun k => impl_FieldGet.l0 k nm acc l (l.length : Int) i) (joinB ⟨#[44, 32]⟩ V, !V.isEmpty)
  | 0, acc, i, h0, hd, ha => by
    refine ev_last fun k => ?_
    simp only [impl_FieldGet.l0]
    rw [drop_nil (by omega)] at ha
    simp only [List.map_nil, getL, List.append_nil] at ha
    subst ha
    have hs : (joinB ⟨#[44, 32]⟩ acc).size ≤ (acc.map fun v => v.size + 2).sum := joinB_size ⟨#[44, 32]⟩ acc
    rw [if_neg (by omega), strings_Join.f, if_pos ⟨by omega, by omega⟩, Option.bind_some]
    cases acc <;> simp
  | d + 1, acc, i, h0, hd, ha => by
    have hlt : i < (l.length : Int) := by omega
    have hdrop : l.drop i.toNat = rd_T81 l i :: l.drop (i + 1).toNat := drop_rdOf (d := z81) h0 hlt
    rw [hdrop] at ha
    simp only [List.map_cons, getL] at ha
    by_cases h : (rd_T81 l i).f0 = nm
    · rw [if_pos h] at ha
      have hlen : acc.length < 8796093022208 := by
        have := congrArg List.length ha
        simp at this
        omega
      refine Ev.step (f := fun k => impl_FieldGet.l0 k nm (acc ++ [(rd_T81 l i).f1]) l (l.length : Int) (i + 1)) (fun k => ?_) (impl_FieldGet_l0 l nm hl V hV hW d (acc ++ [(rd_T81 l i).f1]) (i + 1) (by omega) (by omega) (by rw [← ha]; simp))
      simp only [impl_FieldGet.l0]
      rw [if_pos hlt, if_pos h0, if_pos hlt, if_pos (by rw [h]), if_pos hlen, wrap_id (by omega) (by omega)]
    · rw [if_neg h] at ha
      refine Ev.step (f := fun k => impl_FieldGet.l0 k nm acc l (l.length : Int) (i + 1)) (fun k => ?_) (impl_FieldGet_l0 l nm hl V hV hW d acc (i + 1) (by omega) (by omega) ha)
      simp only [impl_FieldGet.l0]
      rw [if_pos hlt, if_pos h0, if_pos hlt, if_neg (by rw [toList_eq_iff]; exact h), wrap_id (by omega) (by omega)]
theorem impl_FieldGet_ev (l : List S81) (nm : ByteArray) (hl : l.length ≤ 1048576) (hV : ((getL nm (l.map fun x => (x.f0, x.f1))).map fun v => v.size + 2).sum ≤ 8388608) : Ev (fun k => impl_FieldGet.f k l nm) (joinB ⟨#[44, 32]⟩ (getL nm (l.map fun x => (x.f0, x.f1))), !(getL nm (l.map fun x => (x.f0, x.f1))).isEmpty) := by
  have hW := getL_length nm (l.map fun x => (x.f0, x.f1))
  rw [List.length_map] at hW
  have h := impl_FieldGet_l0 l nm hl _ hV (by omega) l.length [] 0 (by omega) (by omega) (by simp)
  simpa [impl_FieldGet.f] using h

end Go.Proofs.YtefnmlglpldgfaaDoor.Pure

namespace Go.Proofs.YtefnmlglpldgfaaDoor.Pure
set_option linter.unusedVariables false
set_option linter.unusedSimpArgs false
open Go.RowKit Go.Proofs.YtefnmlglpldgfaaDoor.QL Go.Proofs.YtefnmlglpldgfaaDoorW.PrintWords Go.Proofs.YtefnmlglpldgfaaDoorW.PrintLast Go.Proofs.YtefnmlglpldgfaaDoorW.PrintMore Go.Proofs.YtefnmlglpldgfaaDoor.Aux Go.Proofs.YtefnmlglpldgfaaDoor.Dom Go.Proofs.YtefnmlglpldgfaaDoor.Ext
theorem strconv_Atoi_short (s : ByteArray) (n : Int) (hs : s.size ≤ 18) (h : Lib.atoi s.data.toList = some n) : strconv_Atoi.f s = some (n, none) := by
  unfold strconv_Atoi.f
  rw [if_pos (by omega), Lib.atoiAll_short _ (by rw [← Lib.size_eq]; exact hs), h]
  rfl
theorem strconv_Atoi_nil : strconv_Atoi.f ⟨#[]⟩ = some (0, some 0) := rfl
theorem atoi_dig (ds : List Int) (hd : ds.all digC = true) (hne : ds ≠ []) : Lib.atoi (strOfNums ds).data.toList = some (valL 0 ds) := by
  have hr : bytesOf (strOfNums ds) = ds := bytesOf_strOfNums fun c hc => by
    have := digC_iff.1 (List.all_eq_true.1 hd c hc)
    omega
  have hm : ((strOfNums ds).data.toList.map fun b : UInt8 => (b.toNat : Int)) = ds := hr
  obtain ⟨m, h1, h2⟩ := decFrom_val (strOfNums ds).data.toList 0 (by rw [hm]; exact hd)
  rw [hm] at h2
  cases hl : (strOfNums ds).data.toList with
  | nil => rw [hl] at hm; exact absurd hm.symm hne
  | cons b r =>
    rw [hl] at hm h1
    have hb : digC (b.toNat : Int) = true := by
      rw [← hm] at hd
      rw [List.map_cons, List.all_cons, Bool.and_eq_true] at hd
      exact hd.1
    rw [digC_iff] at hb
    have n45 : (b == 45) = false := beq_eq_false_iff_ne.mpr fun e => by subst e; simp at hb
    have n43 : (b == 43) = false := beq_eq_false_iff_ne.mpr fun e => by subst e; simp at hb
    rw [Lib.atoi, if_neg (by rw [n45]; decide), if_neg (by rw [n43]; decide), Lib.decNat, if_neg (by simp), h1, Option.map_some, h2]
    rfl
theorem strconv_Atoi_dig (ds : List Int) (hd : ds.all digC = true) (hne : ds ≠ []) (hl : ds.length ≤ 18) : strconv_Atoi.f (strOfNums ds) = some (valL 0 ds, none) :=
  strconv_Atoi_short _ _ (by rw [strOfNums_size]; exact hl) (atoi_dig ds hd hne)
theorem strconv_Atoi_dec (ds : List Int) (hd : ds.all digC = true) (hl : ds.length ≤ 10) : strconv_Atoi.f ((⟨#[48]⟩ : ByteArray) ++ strOfNums ds) = some (valL 0 ds, none) := by
  have e : (⟨#[48]⟩ : ByteArray) ++ strOfNums ds = strOfNums (48 :: ds) := by
    rw [show (48 :: ds : List Int) = [48] ++ ds from rfl, strOfNums_append]
    rfl
  rw [e, strconv_Atoi_dig (48 :: ds) (by rw [List.all_cons, hd]; rfl) (by simp) (by simp; omega)]
  rfl
theorem valL_decL : ∀ (f : Nat) (n : Int) (acc : List Int), 0 ≤ n → n < 10 ^ f → valL 0 (decL f n acc) = valL n acc
  | 0, n, acc, h0, h => by
    have : n = 0 := by simp at h; omega
    subst this; rfl
  | f + 1, n, acc, h0, h => by
    rw [decL]
    split
    · rw [valL_decL f (n / 10) _ (by omega) (by rw [Int.pow_succ] at h; omega), valL]
      congr 1
      omega
    · have : n = 0 := by omega
      subst this; rfl
theorem decL_dig : ∀ (f : Nat) (n : Int) (acc : List Int), 0 ≤ n → acc.all digC = true → (decL f n acc).all digC = true
  | 0, n, acc, h0, h => h
  | f + 1, n, acc, h0, h => by
    rw [decL]
    split
    · refine decL_dig f (n / 10) _ (by omega) ?_
      rw [List.all_cons, h, Bool.and_true, digC_iff]
      omega
    · exact h
theorem decL_ne : ∀ (f : Nat) (n : Int) (acc : List Int), acc ≠ [] → decL f n acc ≠ []
  | 0, n, acc, h => h
  | f + 1, n, acc, h => by
    rw [decL]
    split
    · exact decL_ne f (n / 10) _ (by simp)
    · exact h
/-- A numeral's digits: all digits, some, they tell the number; at most nine of them where it is less than a thousand million. -/
theorem decL_facts {n : Int} (h0 : 0 < n) (h1 : n ≤ 999999999) : (decL 20 n []).all digC = true ∧ decL 20 n [] ≠ [] ∧ valL 0 (decL 20 n []) = n ∧ (decL 20 n []).length ≤ 9 := by
  have hp : (10 : Int) ^ 9 = 1000000000 := by decide
  have hp2 : (10 : Int) ^ 20 = 100000000000000000000 := by decide
  refine ⟨decL_dig 20 n [] (by omega) rfl, ?_, ?_, ?_⟩
  · rw [show (20 : Nat) = 19 + 1 from rfl, decL, if_pos (by omega)]
    exact decL_ne 19 _ _ (by simp)
  · rw [valL_decL 20 n [] (by omega) (by omega)]; rfl
  · rw [show (20 : Nat) = 9 + 11 from rfl, decL_more 11 9 n [] (by omega)]
    have := decL_length 9 n []
    simpa using this
theorem atoi_decB {n : Int} (h0 : -999999999 ≤ n) (h1 : n ≤ 999999999) : Lib.atoi (decB n).data.toList = some n := by
  unfold decB decP
  by_cases hz : n = 0
  · subst hz; rfl
  · rw [if_neg hz]
    by_cases hn : n < 0
    · rw [if_pos hn]
      obtain ⟨a1, a2, a3, a4⟩ := decL_facts (n := -n) (by omega) (by omega)
      generalize decL 20 (-n) [] = ds at a1 a2 a3 a4
      have hr : bytesOf (strOfNums ds) = ds := bytesOf_strOfNums fun c hc => by
        have := digC_iff.1 (List.all_eq_true.1 a1 c hc)
        omega
      have hm : ((strOfNums ds).data.toList.map fun b : UInt8 => (b.toNat : Int)) = ds := hr
      obtain ⟨m, h1, h2⟩ := decFrom_val (strOfNums ds).data.toList 0 (by rw [hm]; exact a1)
      rw [hm] at h2
      have e1 : (strOfNums (45 :: ds)).data.toList = 45 :: (strOfNums ds).data.toList := by
        rw [show (45 :: ds : List Int) = [45] ++ ds from rfl, strOfNums_append, ByteArray.data_append, Array.toList_append]
        rfl
      have hne : (strOfNums ds).data.toList.isEmpty = false := by
        cases hl : (strOfNums ds).data.toList with
        | nil => rw [hl] at hm; exact absurd hm.symm a2
        | cons b r => rfl
      rw [e1, Lib.atoi, if_pos (by decide), Lib.decNat, if_neg (by rw [hne]; decide), h1, Option.map_some, h2]
      congr 1
      have : ((0 : Nat) : Int) = 0 := rfl
      rw [this, a3]
      omega
    · rw [if_neg hn]
      obtain ⟨a1, a2, a3, a4⟩ := decL_facts (n := n) (by omega) (by omega)
      rw [atoi_dig _ a1 a2, a3]
theorem decB_size {n : Int} (h0 : -999999999 ≤ n) (h1 : n ≤ 999999999) : (decB n).size ≤ 10 := by
  unfold decB decP
  rw [strOfNums_size]
  by_cases hz : n = 0
  · rw [if_pos hz]; simp
  · rw [if_neg hz]
    by_cases hn : n < 0
    · rw [if_pos hn]
      have := (decL_facts (n := -n) (by omega) (by omega)).2.2.2
      simp; omega
    · rw [if_neg hn]
      have := (decL_facts (n := n) (by omega) (by omega)).2.2.2
      omega
theorem decB_inj {n m : Int} (h0 : -999999999 ≤ n) (h1 : n ≤ 999999999) (h2 : -999999999 ≤ m) (h3 : m ≤ 999999999) (h : decB n = decB m) : n = m := by
  have a := atoi_decB h0 h1
  rw [h, atoi_decB h2 h3] at a
  exact (Option.some.inj a).symm
open Classical in
/-- The number of nine digits at most whose numeral a text is. -/
noncomputable def decOf (s : ByteArray) : Option Int := if h : ∃ n, -999999999 ≤ n ∧ n ≤ 999999999 ∧ decB n = s then some h.choose else none
theorem decOf_some {s : ByteArray} {n : Int} (h0 : -999999999 ≤ n) (h1 : n ≤ 999999999) (h : decB n = s) : decOf s = some n := by
  have hx : ∃ n, -999999999 ≤ n ∧ n ≤ 999999999 ∧ decB n = s := ⟨n, h0, h1, h⟩
  unfold decOf
  rw [dif_pos hx]
  obtain ⟨a, b, c⟩ := hx.choose_spec
  exact congrArg some (decB_inj a b h0 h1 (c.trans h.symm))
theorem decOf_spec {s : ByteArray} {n : Int} (h : decOf s = some n) : -999999999 ≤ n ∧ n ≤ 999999999 ∧ decB n = s := by
  unfold decOf at h
  split at h
  · rename_i hx
    obtain rfl := Option.some.inj h
    exact hx.choose_spec
  · cases h
/-- What ReadDec tells. -/
noncomputable def readDecP (s : ByteArray) : Int × Bool := match decOf s with
  | some n => (n, true)
  | none => (0, false)

end Go.Proofs.YtefnmlglpldgfaaDoor.Pure

namespace Go.Proofs.YtefnmlglpldgfaaDoor.Pure
set_option linter.unusedVariables false
set_option linter.unusedSimpArgs false
open Go.RowKit Go.Proofs.YtefnmlglpldgfaaDoor.QL Go.Proofs.YtefnmlglpldgfaaDoorW.PrintWords Go.Proofs.YtefnmlglpldgfaaDoorW.PrintLast Go.Proofs.YtefnmlglpldgfaaDoorW.PrintMore Go.Proofs.YtefnmlglpldgfaaDoor.Aux Go.Proofs.YtefnmlglpldgfaaDoor.Dom Go.Proofs.YtefnmlglpldgfaaDoor.Ext
/-- What the program's number tells. -/
def numA (s : ByteArray) : Int := if (bytesOf s).all digC = true then (match Lib.atoiAll s.data.toList with
  | .ok v => v
  | .range => Lib.atoiSat s.data.toList
  | _ => 0) else -1
theorem numA_short {s : ByteArray} (h : s.size ≤ 18) : numA s = numP (bytesOf s) := by
  unfold numA numP
  by_cases ha : (bytesOf s).all digC = true
  · rw [if_pos ha, if_pos ha]
    by_cases hn : bytesOf s = []
    · have hs : s = ⟨#[]⟩ := bytesOf_inj (hn.trans rfl)
      subst hs
      rfl
    · have h1 := atoi_dig (bytesOf s) ha hn
      rw [strOfNums_bytesOf] at h1
      rw [Lib.atoiAll_short _ (by rw [← Lib.size_eq]; exact h), h1]
      rfl
  · rw [if_neg ha, if_neg ha]
theorem strconv_Atoi_num (s : ByteArray) (hs : s.size ≤ 8388608) (ha : (bytesOf s).all digC = true) : ∃ e, strconv_Atoi.f s = some (numA s, e) := by
  unfold strconv_Atoi.f numA
  rw [if_pos hs, if_pos ha]
  cases hc : Lib.atoiAll s.data.toList with
  | ok v => exact ⟨none, rfl⟩
  | range => exact ⟨some 0, rfl⟩
  | _ => exact ⟨some 0, rfl⟩
theorem impl_number_l0 (s : ByteArray) (hs : s.size ≤ 8388608) : ∀ (d : Nat) (i : Int), 0 ≤ i → (s.size : Int) - i = d → ((bytesOf s).take i.toNat).all digC = true →
    Ev (fun k => impl_number.l0 k s (s.size : Int) i) (numA s)
  | 0, i, h0, hd, ht => by
    have hl := bytesOf_length s
    have hall : (bytesOf s).all digC = true := by rw [List.take_of_length_le (by omega)] at ht; exact ht
    obtain ⟨e, he⟩ := strconv_Atoi_num s hs hall
    refine ev_last fun k => ?_
    simp only [impl_number.l0]
    rw [if_neg (by omega), he, Option.bind_some]
  | d + 1, i, h0, hd, ht => by
    have hlt : i < (s.size : Int) := by omega
    have hl := bytesOf_length s
    have hmem : bt s i ∈ bytesOf s := List.mem_of_mem_drop (i := i.toNat) (by rw [drop_bt h0 hlt]; exact List.mem_cons_self)
    by_cases h1 : digC (bt s i) = true
    · have h2 := digC_iff.1 h1
      refine Ev.step (f := fun k => impl_number.l0 k s (s.size : Int) (i + 1)) (fun k => ?_) (impl_number_l0 s hs d (i + 1) (by omega) (by omega) ?_)
      · simp only [impl_number.l0]
        rw [if_pos hlt, if_pos h0, if_pos hlt, if_neg (by omega), if_neg (by omega), wrap_id (by omega) (by omega)]
      · have e : (bytesOf s).take (i + 1).toNat = (bytesOf s).take i.toNat ++ [bt s i] := by
          have h3 := List.take_append_drop i.toNat ((bytesOf s).take (i + 1).toNat)
          rw [List.take_take, Nat.min_eq_left (by omega), List.drop_take, drop_bt h0 hlt, show (i + 1).toNat - i.toNat = 1 by omega] at h3
          rw [← h3]
          rfl
        rw [e, List.all_append, ht, List.all_cons, h1]
        rfl
    · have hn : ¬ (bytesOf s).all digC = true := fun h => h1 (List.all_eq_true.1 h _ hmem)
      unfold numA
      rw [if_neg hn]
      rw [digC_iff] at h1
      refine ev_last fun k => ?_
      simp only [impl_number.l0]
      rw [if_pos hlt, if_pos h0, if_pos hlt]
      by_cases h3 : bt s i < 48
      · rw [if_pos h3]
      · rw [if_neg h3, if_pos (by omega)]
theorem impl_number_ev (s : ByteArray) (hs : s.size ≤ 8388608) : Ev (fun k => impl_number.f k s) (numA s) :=
  impl_number_l0 s hs s.size 0 (by omega) (by omega) (by simp)

end Go.Proofs.YtefnmlglpldgfaaDoor.Pure

namespace Go.Proofs.YtefnmlglpldgfaaDoor.Pure
set_option linter.unusedVariables false
set_option linter.unusedSimpArgs false
open Go.RowKit Go.Proofs.YtefnmlglpldgfaaDoor.QL Go.Proofs.YtefnmlglpldgfaaDoorW.PrintWords Go.Proofs.YtefnmlglpldgfaaDoorW.PrintLast Go.Proofs.YtefnmlglpldgfaaDoorW.PrintMore Go.Proofs.YtefnmlglpldgfaaDoor.Aux Go.Proofs.YtefnmlglpldgfaaDoor.Dom Go.Proofs.YtefnmlglpldgfaaDoor.Ext
theorem slices_Index_l0 (L : List ByteArray) (w : ByteArray) (hL : L.length ≤ 1000000) : ∀ (d : Nat) (i : Int), 0 ≤ i → (L.length : Int) - i = d →
    Ev (fun k => slices_Index_string_string.l0 k L w (L.length : Int) i) (if idxT w (L.drop i.toNat) = -1 then -1 else idxT w (L.drop i.toNat) + i)
  | 0, i, h0, hd => by
    refine ev_last fun k => ?_
    simp only [slices_Index_string_string.l0]
    rw [if_neg (by omega), drop_nil (by omega)]
    rfl
  | d + 1, i, h0, hd => by
    have hlt : i < (L.length : Int) := by omega
    have hdrop : L.drop i.toNat = rdOf ByteArray.empty L i :: L.drop (i + 1).toNat := drop_rdOf (d := ByteArray.empty) h0 hlt
    rw [hdrop, idxT]
    by_cases h : w = rdOf ByteArray.empty L i
    · rw [if_pos h, if_neg (by decide)]
      refine ev_last fun k => ?_
      simp only [slices_Index_string_string.l0]
      rw [if_pos hlt, if_pos h0, if_pos hlt, if_pos (by rw [← h]), Int.zero_add]
    · rw [if_neg h]
      refine Ev.step (f := fun k => slices_Index_string_string.l0 k L w (L.length : Int) (i + 1)) (fun k => ?_) (ev_eq (slices_Index_l0 L w hL d (i + 1) (by omega) (by omega)) ?_)
      · simp only [slices_Index_string_string.l0]
        rw [if_pos hlt, if_pos h0, if_pos hlt, if_neg (by rw [toList_eq_iff]; exact h), wrap_id (by omega) (by omega)]
      · have hb := idxT_bd w (L.drop (i + 1).toNat)
        by_cases h2 : idxT w (L.drop (i + 1).toNat) = -1
        · rw [if_pos h2, if_pos h2, if_pos rfl]
        · rw [if_neg h2, if_neg h2, if_neg (by omega)]
          omega
theorem slices_Index_ev (L : List ByteArray) (w : ByteArray) (hL : L.length ≤ 1000000) : Ev (fun k => slices_Index_string_string.f k L w) (idxT w L) := by
  refine ev_eq (slices_Index_l0 L w hL L.length 0 (by omega) (by omega)) ?_
  simp only [Int.toNat_zero, List.drop_zero, Int.add_zero]
  split
  · rename_i h; exact h.symm
  · rfl

end Go.Proofs.YtefnmlglpldgfaaDoor.Pure

namespace Go.Proofs.YtefnmlglpldgfaaDoor.Pure
set_option linter.unusedVariables false
set_option linter.unusedSimpArgs false
open Go.RowKit Go.Proofs.YtefnmlglpldgfaaDoor.QL Go.Proofs.YtefnmlglpldgfaaDoorW.PrintWords Go.Proofs.YtefnmlglpldgfaaDoorW.PrintLast Go.Proofs.YtefnmlglpldgfaaDoorW.PrintMore Go.Proofs.YtefnmlglpldgfaaDoor.Aux Go.Proofs.YtefnmlglpldgfaaDoor.Dom Go.Proofs.YtefnmlglpldgfaaDoor.Ext
theorem impl_in_eq (a b c : Int) : impl_in.f a b c = some (decide (b ≤ a ∧ a ≤ c)) := by
  unfold impl_in.f
  by_cases h : a ≥ b
  · rw [if_pos h]; simp [show b ≤ a from h]
  · rw [if_neg h]; simp [show ¬ b ≤ a from h]

end Go.Proofs.YtefnmlglpldgfaaDoor.Pure

namespace Go.Proofs.YtefnmlglpldgfaaDoor.Pure
set_option linter.unusedVariables false
set_option linter.unusedSimpArgs false
open Go.RowKit Go.Proofs.YtefnmlglpldgfaaDoor.QL Go.Proofs.YtefnmlglpldgfaaDoorW.PrintWords Go.Proofs.YtefnmlglpldgfaaDoorW.PrintLast Go.Proofs.YtefnmlglpldgfaaDoorW.PrintMore Go.Proofs.YtefnmlglpldgfaaDoor.Aux Go.Proofs.YtefnmlglpldgfaaDoor.Dom Go.Proofs.YtefnmlglpldgfaaDoor.Ext
theorem impl_IsLeap_eq {y : Int} (h : 0 ≤ y) : impl_IsLeap.f y = some (leapB y) := by
  unfold impl_IsLeap.f leapB
  rw [Int.tmod_eq_emod_of_nonneg h, Int.tmod_eq_emod_of_nonneg h, Int.tmod_eq_emod_of_nonneg h]
  by_cases h4 : y % 4 = 0
  · rw [if_pos h4]
    by_cases h100 : y % 100 = 0
    · rw [if_pos h100]
      congr 1
      rw [Bool.eq_iff_iff]; simp; omega
    · rw [if_neg h100, decide_eq_true (Or.inl ⟨h4, h100⟩)]
  · rw [if_neg h4]
    congr 1
    rw [Bool.eq_iff_iff]; simp; omega

end Go.Proofs.YtefnmlglpldgfaaDoor.Pure

namespace Go.Proofs.YtefnmlglpldgfaaDoor.Pure
set_option linter.unusedVariables false
set_option linter.unusedSimpArgs false
open Go.RowKit Go.Proofs.YtefnmlglpldgfaaDoor.QL Go.Proofs.YtefnmlglpldgfaaDoorW.PrintWords Go.Proofs.YtefnmlglpldgfaaDoorW.PrintLast Go.Proofs.YtefnmlglpldgfaaDoorW.PrintMore Go.Proofs.YtefnmlglpldgfaaDoor.Aux Go.Proofs.YtefnmlglpldgfaaDoor.Dom Go.Proofs.YtefnmlglpldgfaaDoor.Ext
theorem impl_monthDays_eq {y m : Int} (hy : 0 ≤ y) (h1 : 1 ≤ m) (h2 : m ≤ 12) : impl_monthDays.f y m = some (monthD y m) := by
  unfold impl_monthDays.f
  rw [impl_IsLeap_eq hy]
  have hm : m = 1 ∨ m = 2 ∨ m = 3 ∨ m = 4 ∨ m = 5 ∨ m = 6 ∨ m = 7 ∨ m = 8 ∨ m = 9 ∨ m = 10 ∨ m = 11 ∨ m = 12 := by omega
  cases hl : leapB y with
  | true => rcases hm with rfl | rfl | rfl | rfl | rfl | rfl | rfl | rfl | rfl | rfl | rfl | rfl <;> simp [monthD, hl, rd, wrap64]
  | false => rcases hm with rfl | rfl | rfl | rfl | rfl | rfl | rfl | rfl | rfl | rfl | rfl | rfl <;> simp [monthD, hl, rd, wrap64]
theorem impl_yearDays_eq {y : Int} (hy : 0 ≤ y) : impl_yearDays.f y = some (yearD y) := by
  unfold impl_yearDays.f yearD
  rw [impl_IsLeap_eq hy, Option.bind_some]
  cases leapB y <;> rfl
theorem impl_DaysOf_l1 (y m : Int) (hy : 0 ≤ y) (hm : m ≤ 13) : ∀ (d : Nat) (n i : Int), 1 ≤ i → m - i = d → 0 ≤ n → n + 31 * d ≤ 100000 → Ev (fun k => impl_DaysOf.l1 k y m n i) (n + monthsD y d i)
  | 0, n, i, h1, hd, n0, n1 => by
    refine ev_last fun k => ?_
    simp only [impl_DaysOf.l1]
    rw [if_neg (by omega)]
    simp [monthsD]
  | d + 1, n, i, h1, hd, n0, n1 => by
    have hb := monthD_bd y i
    refine Ev.step (f := fun k => impl_DaysOf.l1 k y m (n + monthD y i) (i + 1)) (fun k => ?_) (ev_eq (impl_DaysOf_l1 y m hy hm d _ (i + 1) (by omega) (by omega) (by omega) (by omega)) (by rw [monthsD]; omega))
    simp only [impl_DaysOf.l1]
    rw [if_pos (by omega), impl_monthDays_eq hy h1 (by omega), Option.bind_some, wrap_id (by omega) (by omega), wrap_id (by omega) (by omega)]
theorem impl_DaysOf_l0 (y m : Int) (hy : y ≤ 2037) (h1970 : 1970 ≤ y) (hm1 : 1 ≤ m) (hm : m ≤ 12) : ∀ (d : Nat) (n i : Int), 1970 ≤ i → y - i = d → 0 ≤ n → n + 366 * d ≤ 50000 → Ev (fun k => impl_DaysOf.l0 k y m n i) (n + yearsD d i + monthsD y (m - 1).toNat 1)
  | 0, n, i, h1, hd, n0, n1 => by
    refine Ev.step (f := fun k => impl_DaysOf.l1 k y m n 1) (fun k => ?_) (ev_eq (impl_DaysOf_l1 y m (by omega) (by omega) (m - 1).toNat n 1 (by omega) (by omega) n0 (by omega)) (by simp [yearsD]))
    simp only [impl_DaysOf.l0]
    rw [if_neg (by omega)]
  | d + 1, n, i, h1, hd, n0, n1 => by
    have hb := yearD_bd i
    refine Ev.step (f := fun k => impl_DaysOf.l0 k y m (n + yearD i) (i + 1)) (fun k => ?_) (ev_eq (impl_DaysOf_l0 y m hy h1970 hm1 hm d _ (i + 1) (by omega) (by omega) (by omega) (by omega)) (by rw [yearsD]; omega))
    simp only [impl_DaysOf.l0]
    rw [if_pos (by omega), impl_yearDays_eq (by omega), Option.bind_some, wrap_id (by omega) (by omega), wrap_id (by omega) (by omega)]
theorem impl_DaysOf_ev (y m d : Int) : Ev (fun k => impl_DaysOf.f k y m d) (daysP y m d) := by
  have hbad : ∀ k, impl_DaysOf.j0 (k + 1) y m d true = some (-1) := fun k => by simp only [impl_DaysOf.j0]; rw [if_pos trivial]
  refine Ev.congr (fun k => by unfold impl_DaysOf.f; rw [impl_in_eq, Option.bind_some]) ?_
  unfold daysP
  by_cases h1 : 1970 ≤ y ∧ y ≤ 2037
  · refine ev_if_pos (by simpa using h1) ?_
    refine Ev.congr (fun k => by rw [impl_in_eq, Option.bind_some]) ?_
    by_cases h2 : 1 ≤ m ∧ m ≤ 12
    · refine ev_if_pos (by simpa using h2) ?_
      refine Ev.congr (fun k => by rw [impl_monthDays_eq (by omega) h2.1 h2.2, Option.bind_some, impl_in_eq, Option.bind_some]) ?_
      have hb := monthD_bd y m
      by_cases h3 : 1 ≤ d ∧ d ≤ monthD y m
      · rw [decide_eq_true h3, if_pos ⟨h1, h2, h3⟩]
        refine Ev.step (f := fun k => impl_DaysOf.l0 k y m (d - 1) 1970) (fun k => ?_) (ev_eq (impl_DaysOf_l0 y m h1.2 h1.1 h2.1 h2.2 (y - 1970).toNat (d - 1) 1970 (by omega) (by omega) (by omega) (by omega)) (by omega))
        simp only [impl_DaysOf.j0]
        rw [if_neg (by decide), wrap_id (by omega) (by omega)]
      · rw [decide_eq_false h3, if_neg (fun h => h3 h.2.2)]
        exact ev_last hbad
    · rw [if_neg (fun h => h2 h.2.1)]
      exact ev_if_neg (by simpa using h2) (ev_last hbad)
  · rw [if_neg (fun h => h1 h.1)]
    exact ev_if_neg (by simpa using h1) (ev_last hbad)

end Go.Proofs.YtefnmlglpldgfaaDoor.Pure

namespace Go.Proofs.YtefnmlglpldgfaaDoor.Pure
set_option linter.unusedVariables false
set_option linter.unusedSimpArgs false
open Go.RowKit Go.Proofs.YtefnmlglpldgfaaDoor.QL Go.Proofs.YtefnmlglpldgfaaDoorW.PrintWords Go.Proofs.YtefnmlglpldgfaaDoorW.PrintLast Go.Proofs.YtefnmlglpldgfaaDoorW.PrintMore Go.Proofs.YtefnmlglpldgfaaDoor.Aux Go.Proofs.YtefnmlglpldgfaaDoor.Dom Go.Proofs.YtefnmlglpldgfaaDoor.Ext
theorem impl_two_eq {n : Int} (h0 : 0 ≤ n) (h1 : n ≤ 99) : impl_two.f n = some (strOfNums (twoL n)) := by
  unfold impl_two.f strconv_Itoa.f
  rw [wrap_id (by omega) (by omega), if_pos ⟨by omega, by omega⟩, Option.bind_some]
  have e : decB (100 + n) = strOfNums (49 :: twoL n) := by unfold decB; rw [decP_100 h0 h1]
  rw [e, if_pos (by rw [strOfNums_size]; simp [twoL])]
  congr 1
theorem impl_ShowDate_fin (k : Nat) (d rest y m wd : Int) (hy : 1970 ≤ y) (hy2 : y ≤ 2037) (hm : 1 ≤ m) (hm2 : m ≤ 12) (hd : 0 ≤ d) (hd2 : d < monthD y m) (hr0 : 0 ≤ rest) (hr1 : rest < 86400) :
    impl_ShowDate.l1 (k + 1) d rest (strOfNums (weekL wd)) y m = some (strOfNums (weekL wd ++ [44, 32] ++ twoL (d + 1) ++ [32] ++ monL m ++ [32] ++ decP y ++ [32] ++ twoL (rest / 3600) ++ [58] ++ twoL (rest / 60 % 60) ++ [58] ++ twoL (rest % 60) ++ [32, 71, 77, 84])) := by
  have hb := monthD_bd y m
  have w1 : wrap64 (d + 1) = d + 1 := wrap_id (by omega) (by omega)
  have w2 : wrap64 (m - 1) = m - 1 := wrap_id (by omega) (by omega)
  have w3 : wrap64 (Int.tdiv rest 3600) = rest / 3600 := by rw [Int.tdiv_eq_ediv_of_nonneg hr0, wrap_id (by omega) (by omega)]
  have w4 : Int.tmod (wrap64 (Int.tdiv rest 60)) 60 = rest / 60 % 60 := by rw [Int.tdiv_eq_ediv_of_nonneg hr0, wrap_id (by omega) (by omega), Int.tmod_eq_emod_of_nonneg (by omega)]
  have w5 : Int.tmod rest 60 = rest % 60 := Int.tmod_eq_emod_of_nonneg hr0
  have s1 : (strOfNums (weekL wd)).size = 3 := by rw [strOfNums_size, weekL_length]
  have s2 : ∀ n, (strOfNums (twoL n)).size = 2 := fun n => by rw [strOfNums_size]; rfl
  have s3 : (strOfNums (monL m)).size = 3 := by rw [strOfNums_size, monL_length]
  have s4 : (decB y).size = 4 := by unfold decB; rw [decP_year (by omega) (by omega), strOfNums_size]; rfl
  have z1 : (⟨#[44, 32]⟩ : ByteArray).size = 2 := rfl
  have z2 : (⟨#[32]⟩ : ByteArray).size = 1 := rfl
  have z3 : (⟨#[58]⟩ : ByteArray).size = 1 := rfl
  have i1 : strconv_Itoa.f y = some (decB y) := by unfold strconv_Itoa.f; rw [if_pos ⟨by omega, by omega⟩]
  simp only [impl_ShowDate.l1, impl_monthDays_eq (y := y) (m := m) (by omega) hm hm2, Option.bind_some]
  rw [if_neg (by omega), w1, w2, w3, w4, w5, impl_two_eq (n := d + 1) (by omega) (by omega), impl_two_eq (n := rest / 3600) (by omega) (by omega), impl_two_eq (n := rest / 60 % 60) (by omega) (by omega), impl_two_eq (n := rest % 60) (by omega) (by omega), i1]
  simp only [impl_months.f, Option.bind_some]
  rw [if_pos (c := 0 ≤ m - 1) (by omega), if_pos (c := m - 1 < _) (by simp; omega)]
  simp only [months_rd hm hm2, ByteArray.size_append, s1, s2, s3, s4, z1, z2, z3, Nat.reduceAdd, Nat.reduceLeDiff, if_true]
  congr 1
  simp only [strOfNums_append, decB]
  rfl
theorem impl_ShowDate_l1 (rest y wd : Int) (hy : 1970 ≤ y) (hy2 : y ≤ 2037) (hr0 : 0 ≤ rest) (hr1 : rest < 86400) : ∀ (f : Nat) (m d : Int), 1 ≤ m → m + f = 13 → 0 ≤ d → d < monthsD y f m →
    Ev (fun k => impl_ShowDate.l1 k d rest (strOfNums (weekL wd)) y m) (strOfNums (weekL wd ++ [44, 32] ++ twoL ((mdL y f m d).2 + 1) ++ [32] ++ monL (mdL y f m d).1 ++ [32] ++ decP y ++ [32] ++ twoL (rest / 3600) ++ [58] ++ twoL (rest / 60 % 60) ++ [58] ++ twoL (rest % 60) ++ [32, 71, 77, 84]))
  | 0, m, d, h1, hf, h0, hd => by simp [monthsD] at hd; omega
  | f + 1, m, d, h1, hf, h0, hd => by
    have hb := monthD_bd y m
    have hb2 := monthsD_bd y f (m + 1)
    rw [monthsD] at hd
    rw [mdL]
    by_cases h : monthD y m ≤ d
    · rw [if_pos h]
      refine Ev.step (f := fun k => impl_ShowDate.l1 k (d - monthD y m) rest (strOfNums (weekL wd)) y (m + 1)) (fun k => ?_) (impl_ShowDate_l1 rest y wd hy hy2 hr0 hr1 f (m + 1) (d - monthD y m) (by omega) (by omega) (by omega) (by omega))
      simp only [impl_ShowDate.l1, impl_monthDays_eq (y := y) (m := m) (by omega) h1 (by omega), Option.bind_some]
      rw [if_pos h, wrap_id (x := d - monthD y m) (by omega) (by omega), wrap_id (x := m + 1) (by omega) (by omega)]
    · rw [if_neg h]
      exact ev_last fun k => impl_ShowDate_fin k d rest y m wd hy hy2 h1 (by omega) h0 (by omega) hr0 hr1
theorem impl_ShowDate_l0 (rest wd : Int) (hr0 : 0 ≤ rest) (hr1 : rest < 86400) : ∀ (f : Nat) (y d : Int), 1970 ≤ y → y + f = 2038 → 0 ≤ d → d < 365 * f →
    Ev (fun k => impl_ShowDate.l0 k d rest (strOfNums (weekL wd)) y 1) (strOfNums (weekL wd ++ [44, 32] ++ twoL ((mdL (ydL f y d).1 12 1 (ydL f y d).2).2 + 1) ++ [32] ++ monL (mdL (ydL f y d).1 12 1 (ydL f y d).2).1 ++ [32] ++ decP (ydL f y d).1 ++ [32] ++ twoL (rest / 3600) ++ [58] ++ twoL (rest / 60 % 60) ++ [58] ++ twoL (rest % 60) ++ [32, 71, 77, 84]))
  | 0, y, d, h1, hf, h0, hd => by omega
  | f + 1, y, d, h1, hf, h0, hd => by
    have hb := yearD_bd y
    rw [ydL]
    by_cases h : yearD y ≤ d
    · rw [if_pos h]
      refine Ev.step (f := fun k => impl_ShowDate.l0 k (d - yearD y) rest (strOfNums (weekL wd)) (y + 1) 1) (fun k => ?_) (impl_ShowDate_l0 rest wd hr0 hr1 f (y + 1) (d - yearD y) (by omega) (by omega) (by omega) (by omega))
      simp only [impl_ShowDate.l0, impl_yearDays_eq (y := y) (by omega), Option.bind_some]
      rw [if_pos h, wrap_id (x := d - yearD y) (by omega) (by omega), wrap_id (x := y + 1) (by omega) (by omega)]
    · rw [if_neg h]
      have hw := yearW_eq y
      unfold yearW at hw
      refine Ev.step (f := fun k => impl_ShowDate.l1 k d rest (strOfNums (weekL wd)) y 1) (fun k => ?_) (impl_ShowDate_l1 rest y wd h1 (by omega) hr0 hr1 12 1 d (by omega) (by omega) h0 (by omega))
      simp only [impl_ShowDate.l0, impl_yearDays_eq (y := y) (by omega), Option.bind_some]
      rw [if_neg (by omega)]
theorem impl_ShowDate_ev (sec : Int) (h0 : -9223372036854775808 ≤ sec) (h1 : sec ≤ 9223372036854775807) : Ev (fun k => impl_ShowDate.f k sec) (dateB sec) := by
  refine Ev.congr (fun k => by unfold impl_ShowDate.f; rw [impl_in_eq, Option.bind_some]) ?_
  unfold dateB
  by_cases h : 0 ≤ sec ∧ sec ≤ 2000000000
  · rw [if_pos h]
    refine ev_if_pos (by simpa using h) ?_
    have w1 : wrap64 (Int.tdiv sec 86400) = sec / 86400 := by rw [Int.tdiv_eq_ediv_of_nonneg h.1, wrap_id (by omega) (by omega)]
    have w2 : Int.tmod (sec / 86400) 7 = sec / 86400 % 7 := Int.tmod_eq_emod_of_nonneg (by omega)
    have w3 : Int.tmod sec 86400 = sec % 86400 := Int.tmod_eq_emod_of_nonneg h.1
    refine Ev.congr (fun k => by rw [w1, w2, w3, Option.bind_some, if_pos (by omega), if_pos (by simp; omega), week_rd (by omega) (by omega)]) ?_
    refine ev_eq (impl_ShowDate_l0 (sec % 86400) (sec / 86400 % 7) (by omega) (by omega) 68 1970 (sec / 86400) (by omega) (by omega) (by omega) (by omega)) ?_
    unfold dateL ymd
    rw [show (70 : Nat) = 68 + 2 from rfl, ydL_more 68 2 1970 (sec / 86400) (by omega) (by omega), show sec % 86400 / 3600 = sec / 3600 % 24 by omega, show sec % 86400 / 60 % 60 = sec / 60 % 60 by omega, show sec % 86400 % 60 = sec % 60 by omega]
  · rw [if_neg h]
    exact ev_if_neg (by simpa using h) (Ev.now _)

end Go.Proofs.YtefnmlglpldgfaaDoor.Pure

namespace Go.Proofs.YtefnmlglpldgfaaDoor.Pure
set_option linter.unusedVariables false
set_option linter.unusedSimpArgs false
open Go.RowKit Go.Proofs.YtefnmlglpldgfaaDoor.QL Go.Proofs.YtefnmlglpldgfaaDoorW.PrintWords Go.Proofs.YtefnmlglpldgfaaDoorW.PrintLast Go.Proofs.YtefnmlglpldgfaaDoorW.PrintMore Go.Proofs.YtefnmlglpldgfaaDoor.Aux Go.Proofs.YtefnmlglpldgfaaDoor.Dom Go.Proofs.YtefnmlglpldgfaaDoor.Ext
theorem size_29 {s : ByteArray} {a b : Nat} : bytesOf (s.extract a b) = ((bytesOf s).take b).drop a := bytesOf_extract s a b
theorem impl_ReadDate_ev (s : ByteArray) (hs : s.size ≤ 8388608) : Ev (fun k => impl_ReadDate.f k s) (readDateP s) := by
  have hsp : strings_Split.f s (⟨#[32]⟩ : ByteArray) = some ((splC 32 (bytesOf s)).map strOfNums) := by unfold strings_Split.f; rw [if_pos ⟨hs, rfl⟩]
  have hbad : ∀ L, Ev (fun k => impl_ReadDate.j0 k s L true) ((0 : Int), false) := fun L => ev_last fun k => by simp only [impl_ReadDate.j0]; rw [if_pos (by trivial)]
  -- what a date's parts are
  have hok : ∀ sec, s.size = 29 → dateB sec = s → 0 ≤ sec ∧ sec ≤ 2000000000 ∧ splC 32 (bytesOf s) = [weekL (sec / 86400 % 7) ++ [44], twoL (ymd (sec / 86400)).2.2, monL (ymd (sec / 86400)).2.1, decP (ymd (sec / 86400)).1, twoL (sec / 3600 % 24) ++ [58] ++ twoL (sec / 60 % 60) ++ [58] ++ twoL (sec % 60), [71, 77, 84]] := by
    intro sec h1 h2
    obtain ⟨a, b, c, _⟩ := dateB_some h1 h2
    exact ⟨a, b, by rw [c]; exact splC_date a b⟩
  refine Ev.congr (fun k => by unfold impl_ReadDate.f; rw [hsp, Option.bind_some]) ?_
  generalize hP : (splC 32 (bytesOf s)).map strOfNums = L
  have hPl : ∀ p ∈ L, p.size ≤ s.size := by
    intro p hp
    rw [← hP] at hp
    obtain ⟨q, hq, rfl⟩ := List.mem_map.1 hp
    rw [strOfNums_size]
    have := splC_mem (bytesOf s) 32 q hq
    rw [bytesOf_length] at this
    exact this
  by_cases h6 : (L.length : Int) = 6
  · refine ev_if_pos h6 ?_
    by_cases h29 : (s.size : Int) = 29
    · refine ev_if_pos h29 (ev_if_pos (by omega) ?_)
      by_cases h8 : ((rdOf ByteArray.empty L 4).size : Int) = 8
      · refine ev_if_pos h8 (ev_if_pos (by omega) ?_)
        by_cases h4 : ((rdOf ByteArray.empty L 3).size : Int) = 4
        · have hin : ∀ i : Int, 0 ≤ i → i < 6 → (rdOf ByteArray.empty L i).size ≤ s.size := by
            intro i i0 i1
            refine hPl _ (List.mem_of_mem_drop (i := i.toNat) ?_)
            rw [drop_rdOf (d := ByteArray.empty) i0 (by omega)]
            exact List.mem_cons_self
          have hc : (rdOf ByteArray.empty L 4).size = 8 := by omega
          have x1 : ((rdOf ByteArray.empty L 4).extract 0 2).size = 2 := by rw [ByteArray.size_extract]; omega
          have x2 : ((rdOf ByteArray.empty L 4).extract 3 5).size = 2 := by rw [ByteArray.size_extract]; omega
          have x3 : ((rdOf ByteArray.empty L 4).extract 6 (rdOf ByteArray.empty L 4).size).size = 2 := by rw [ByteArray.size_extract]; omega
          have n3 := impl_number_ev (rdOf ByteArray.empty L 3) (by omega)
          have n1 := impl_number_ev (rdOf ByteArray.empty L 1) (by have := hin 1 (by omega) (by omega); omega)
          have c1 := impl_number_ev ((rdOf ByteArray.empty L 4).extract 0 2) (by omega)
          have c2 := impl_number_ev ((rdOf ByteArray.empty L 4).extract 3 5) (by omega)
          have c3 := impl_number_ev ((rdOf ByteArray.empty L 4).extract 6 (rdOf ByteArray.empty L 4).size) (by omega)
          rw [numA_short (s := (rdOf ByteArray.empty L 4).extract 0 2) (by omega)] at c1
          rw [numA_short (s := (rdOf ByteArray.empty L 4).extract 3 5) (by omega)] at c2
          rw [numA_short (s := (rdOf ByteArray.empty L 4).extract 6 (rdOf ByteArray.empty L 4).size) (by omega)] at c3
          rw [numA_short (s := rdOf ByteArray.empty L 3) (by omega)] at n3
          have e2 : (10 : Int) ^ 2 = 100 := by decide
          have b1 := numP_bd (bytesOf ((rdOf ByteArray.empty L 4).extract 0 2)) 2 (by rw [bytesOf_length]; omega)
          have b2 := numP_bd (bytesOf ((rdOf ByteArray.empty L 4).extract 3 5)) 2 (by rw [bytesOf_length]; omega)
          have b3 := numP_bd (bytesOf ((rdOf ByteArray.empty L 4).extract 6 (rdOf ByteArray.empty L 4).size)) 2 (by rw [bytesOf_length]; omega)
          have ix := slices_Index_ev monthsB (rdOf ByteArray.empty L 2) (by decide)
          have ib := idxT_bd (rdOf ByteArray.empty L 2) monthsB
          have ibl : (monthsB.length : Int) = 12 := rfl
          have hmo : impl_months.f = some monthsB := rfl
          have key : ∀ sec, dateB sec = s → sec = daysP (numP (bytesOf (rdOf ByteArray.empty L 3))) (idxT (rdOf ByteArray.empty L 2) monthsB + 1) (numA (rdOf ByteArray.empty L 1)) * 86400 + 3600 * numP (bytesOf ((rdOf ByteArray.empty L 4).extract 0 2)) + 60 * numP (bytesOf ((rdOf ByteArray.empty L 4).extract 3 5)) + numP (bytesOf ((rdOf ByteArray.empty L 4).extract 6 (rdOf ByteArray.empty L 4).size)) ∧ 0 ≤ daysP (numP (bytesOf (rdOf ByteArray.empty L 3))) (idxT (rdOf ByteArray.empty L 2) monthsB + 1) (numA (rdOf ByteArray.empty L 1)) := by
            intro sec e
            obtain ⟨q0, q1, q2⟩ := hok sec (by omega) e
            obtain ⟨a1, a2, a3, a4, a5, a6, _⟩ := ymd_spec (days := sec / 86400) (by omega) (by omega)
            have hmb := monthD_bd (ymd (sec / 86400)).1 (ymd (sec / 86400)).2.1
            rw [q2] at hP
            subst hP
            have rT : ∀ n : Int, 0 ≤ n → n ≤ 99 → bytesOf (strOfNums (twoL n)) = twoL n := fun n h0 h1 => bytesOf_strOfNums (fun c hc => by simp [twoL] at hc; omega)
            have rY : bytesOf (strOfNums (decP (ymd (sec / 86400)).1)) = decP (ymd (sec / 86400)).1 := bytesOf_strOfNums (fun c hc => by rw [decP_year (by omega) (by omega)] at hc; simp at hc; omega)
            have rC : bytesOf (strOfNums (twoL (sec / 3600 % 24) ++ [58] ++ twoL (sec / 60 % 60) ++ [58] ++ twoL (sec % 60))) = twoL (sec / 3600 % 24) ++ [58] ++ twoL (sec / 60 % 60) ++ [58] ++ twoL (sec % 60) := bytesOf_strOfNums (fun c hc => by simp [twoL] at hc; omega)
            have sC : (strOfNums (twoL (sec / 3600 % 24) ++ [58] ++ twoL (sec / 60 % 60) ++ [58] ++ twoL (sec % 60))).size = 8 := by rw [strOfNums_size]; rfl
            show sec = daysP (numP (bytesOf (strOfNums (decP (ymd (sec / 86400)).1)))) (idxT (strOfNums (monL (ymd (sec / 86400)).2.1)) monthsB + 1) (numA (strOfNums (twoL (ymd (sec / 86400)).2.2))) * 86400 + 3600 * numP (bytesOf ((strOfNums (twoL (sec / 3600 % 24) ++ [58] ++ twoL (sec / 60 % 60) ++ [58] ++ twoL (sec % 60))).extract 0 2)) + 60 * numP (bytesOf ((strOfNums (twoL (sec / 3600 % 24) ++ [58] ++ twoL (sec / 60 % 60) ++ [58] ++ twoL (sec % 60))).extract 3 5)) + numP (bytesOf ((strOfNums (twoL (sec / 3600 % 24) ++ [58] ++ twoL (sec / 60 % 60) ++ [58] ++ twoL (sec % 60))).extract 6 (strOfNums (twoL (sec / 3600 % 24) ++ [58] ++ twoL (sec / 60 % 60) ++ [58] ++ twoL (sec % 60))).size)) ∧ 0 ≤ daysP (numP (bytesOf (strOfNums (decP (ymd (sec / 86400)).1)))) (idxT (strOfNums (monL (ymd (sec / 86400)).2.1)) monthsB + 1) (numA (strOfNums (twoL (ymd (sec / 86400)).2.2)))
            rw [sC, bytesOf_extract, bytesOf_extract, bytesOf_extract, rC, rY, idxT_month a3 a4, numA_short (s := strOfNums (twoL (ymd (sec / 86400)).2.2)) (by rw [strOfNums_size]; show 2 ≤ 18; omega), rT _ (by omega) (by omega), numP_year (by omega) (by omega), numP_two (n := (ymd (sec / 86400)).2.2) (by omega) (by omega), show (ymd (sec / 86400)).2.1 - 1 + 1 = (ymd (sec / 86400)).2.1 by omega, daysP_ymd (by omega) (by omega)]
            have p1 : numP (((twoL (sec / 3600 % 24) ++ [58] ++ twoL (sec / 60 % 60) ++ [58] ++ twoL (sec % 60)).take 2).drop 0) = sec / 3600 % 24 := numP_two (by omega) (by omega)
            have p2 : numP (((twoL (sec / 3600 % 24) ++ [58] ++ twoL (sec / 60 % 60) ++ [58] ++ twoL (sec % 60)).take 5).drop 3) = sec / 60 % 60 := numP_two (by omega) (by omega)
            have p3 : numP (((twoL (sec / 3600 % 24) ++ [58] ++ twoL (sec / 60 % 60) ++ [58] ++ twoL (sec % 60)).take 8).drop 6) = sec % 60 := numP_two (by omega) (by omega)
            rw [p1, p2, p3]
            omega
          have db := daysP_bd (numP (bytesOf (rdOf ByteArray.empty L 3))) (idxT (rdOf ByteArray.empty L 2) monthsB + 1) (numA (rdOf ByteArray.empty L 1))
          refine Ev.congr (fun k => by rw [show (((rdOf ByteArray.empty L 3).size : Int) != 4) = false from bne_eq_false_iff_eq.2 h4]) ?_
          refine Ev.step (fun k => by simp only [impl_ReadDate.j0]; rw [if_neg (by decide), if_pos (by omega), if_pos (by omega), hmo]) ?_
          refine ev_bind n3 (Ev.congr (fun k => by rw [Option.bind_some, if_pos (by omega)]) (ev_bind ix ?_))
          refine ev_if_pos (show (1 : Int) < (L.length : Int) by omega) (ev_bind n1 ?_)
          refine Ev.congr (fun k => by rw [wrap_id (x := idxT (rdOf ByteArray.empty L 2) monthsB + 1) (by omega) (by omega)]) (ev_bind (impl_DaysOf_ev _ _ _) ?_)
          generalize daysP (numP (bytesOf (rdOf ByteArray.empty L 3))) (idxT (rdOf ByteArray.empty L 2) monthsB + 1) (numA (rdOf ByteArray.empty L 1)) = days at key db
          by_cases hd : days < 0
          · rw [readDateP_none (fun sec _ e => by have := (key sec e).2; omega)]
            exact ev_if_pos hd (Ev.now _)
          · refine ev_if_neg hd ?_
            refine ev_if_pos (show (0 : Nat) ≤ 2 by decide) ?_
            refine ev_if_pos (show (2 : Int) ≤ ((rdOf ByteArray.empty L 4).size : Int) by omega) (ev_bind c1 ?_)
            refine ev_if_pos (show (3 : Nat) ≤ 5 by decide) ?_
            refine ev_if_pos (show (5 : Int) ≤ ((rdOf ByteArray.empty L 4).size : Int) by omega) (ev_bind c2 ?_)
            refine ev_if_pos (show (6 : Int) ≤ ((rdOf ByteArray.empty L 4).size : Int) by omega) (ev_bind c3 ?_)
            generalize numP (bytesOf ((rdOf ByteArray.empty L 4).extract 0 2)) = v1 at key b1
            generalize numP (bytesOf ((rdOf ByteArray.empty L 4).extract 3 5)) = v2 at key b2
            generalize numP (bytesOf ((rdOf ByteArray.empty L 4).extract 6 (rdOf ByteArray.empty L 4).size)) = v3 at key b3
            refine Ev.congr (fun k => by rw [wrap_id (x := days * 86400) (by omega) (by omega), wrap_id (x := 3600 * v1) (by omega) (by omega), wrap_id (x := days * 86400 + 3600 * v1) (by omega) (by omega), wrap_id (x := 60 * v2) (by omega) (by omega), wrap_id (x := days * 86400 + 3600 * v1 + 60 * v2) (by omega) (by omega), wrap_id (x := days * 86400 + 3600 * v1 + 60 * v2 + v3) (by omega) (by omega)]) (ev_bind (impl_ShowDate_ev (days * 86400 + 3600 * v1 + 60 * v2 + v3) (by omega) (by omega)) ?_)
            by_cases he : dateB (days * 86400 + 3600 * v1 + 60 * v2 + v3) = s
            · exact ev_if_pos (by rw [he]) (ev_eq (Ev.now _) (readDateP_some (by omega) he).symm)
            · rw [readDateP_none (fun sec _ e => he (by rw [← (key sec e).1]; exact e))]
              exact ev_if_neg (by rw [toList_eq_iff]; exact he) (Ev.now _)
        · rw [readDateP_none (fun sec e1 e2 => by
            obtain ⟨a, b, c⟩ := hok sec e1 e2
            rw [c] at hP
            subst hP
            exact h4 (by
              obtain ⟨a1, a2, _⟩ := ymd_spec (days := sec / 86400) (by omega) (by omega)
              show ((strOfNums (decP _)).size : Int) = 4
              rw [decP_year (by omega) (by omega), strOfNums_size]
              rfl))]
          refine Ev.congr (fun k => by rw [show (((rdOf ByteArray.empty L 3).size : Int) != 4) = true from bne_iff_ne.2 h4]) (hbad L)
      · rw [readDateP_none (fun sec e1 e2 => by
          obtain ⟨a, b, c⟩ := hok sec e1 e2
          rw [c] at hP
          subst hP
          exact h8 (by
            show ((strOfNums (twoL _ ++ [58] ++ twoL _ ++ [58] ++ twoL _)).size : Int) = 8
            rw [strOfNums_size]
            rfl))]
        exact ev_if_neg h8 (hbad L)
    · rw [readDateP_none (fun sec e1 e2 => h29 (by omega))]
      exact ev_if_neg h29 (hbad L)
  · rw [readDateP_none (fun sec e1 e2 => by
      obtain ⟨a, b, c⟩ := hok sec e1 e2
      rw [c] at hP
      subst hP
      exact h6 rfl)]
    exact ev_if_neg h6 (hbad L)

end Go.Proofs.YtefnmlglpldgfaaDoor.Pure

namespace Go.Proofs.YtefnmlglpldgfaaDoor.Pure
set_option linter.unusedVariables false
set_option linter.unusedSimpArgs false
open Go.RowKit Go.Proofs.YtefnmlglpldgfaaDoor.QL Go.Proofs.YtefnmlglpldgfaaDoorW.PrintWords Go.Proofs.YtefnmlglpldgfaaDoorW.PrintLast Go.Proofs.YtefnmlglpldgfaaDoorW.PrintMore Go.Proofs.YtefnmlglpldgfaaDoor.Aux Go.Proofs.YtefnmlglpldgfaaDoor.Dom Go.Proofs.YtefnmlglpldgfaaDoor.Ext
theorem impl_DateOf_ev (l : List S81) (nm : ByteArray) (hl : l.length ≤ 1048576) (hz : ¬ szF 1048576 (l.map fun x => (x.f0, x.f1)) < 0) : Ev (fun k => impl_DateOf.f k l nm) (dateOfP (l.map fun x => (x.f0, x.f1)) nm) := by
  have q1 := szF_sum nm (by omega) hz
  have j1 := joinG_size nm _ (by omega) hz
  have rdt := impl_ReadDate_ev (joinG nm (l.map fun x => (x.f0, x.f1))) (by omega)
  refine Ev.congr (fun k => by unfold impl_DateOf.f; rfl) (ev_bind (impl_FieldGet_ev l nm hl (by omega)) ?_)
  unfold dateOfP
  exact ev_ite (fun h1 => ev_bind rdt (Ev.now _)) (fun h1 => Ev.now _)

end Go.Proofs.YtefnmlglpldgfaaDoor.Pure

namespace Go.Proofs.YtefnmlglpldgfaaDoor.Pure
set_option linter.unusedVariables false
set_option linter.unusedSimpArgs false
open Go.RowKit Go.Proofs.YtefnmlglpldgfaaDoor.QL Go.Proofs.YtefnmlglpldgfaaDoorW.PrintWords Go.Proofs.YtefnmlglpldgfaaDoorW.PrintLast Go.Proofs.YtefnmlglpldgfaaDoorW.PrintMore Go.Proofs.YtefnmlglpldgfaaDoor.Aux Go.Proofs.YtefnmlglpldgfaaDoor.Dom Go.Proofs.YtefnmlglpldgfaaDoor.Ext

theorem FnExactDateOf : laws_FnExactDateOf.Pure := by
  intro l nm hl hm hn
  by_cases h1 : (nm.size : Int) > 1048576
  · exact ⟨0, by unfold laws_FnExactDateOf.f; rw [if_pos h1]⟩
  refine Ev.rounds (Ev.congr (fun k => by unfold laws_FnExactDateOf.f; rw [if_neg h1]) ?_)
  refine ev_bind (laws_szFieldS_ev l 1048576 hl hm (by omega) (by omega)) ?_
  by_cases h3 : szF 1048576 (l.map fun x => (x.f0, x.f1)) < 0
  · exact ev_if_pos h3 (Ev.now _)
  have q1 := szF_len h3
  rw [List.length_map] at q1
  have la : l.length ≤ 1048576 := by omega
  have tol := laws_toFieldS_ev l la
  have eX : ((l.map fun x => (⟨x.f0, x.f1⟩ : S81)).map fun x => (x.f0, x.f1)) = l.map fun x => (x.f0, x.f1) := by rw [List.map_map]; rfl
  have sp := spec_DateOf_ev (l.map fun x => (⟨x.f0, x.f1⟩ : S81)) nm (by rw [List.length_map]; exact la) (by rw [eX]; exact h3)
  have im := impl_DateOf_ev (l.map fun x => (⟨x.f0, x.f1⟩ : S81)) nm (by rw [List.length_map]; exact la) (by rw [eX]; exact h3)
  have eqX := laws_eqFieldS_ev (l.map fun x => (⟨x.f0, x.f1⟩ : S81)) (by rw [List.length_map]; omega)
  refine ev_if_neg h3 (ev_bind tol (ev_bind sp (ev_bind tol (ev_bind im (ev_if_pos rfl ?_)))))
  refine Ev.step (fun k => by simp only [laws_FnExactDateOf.j0]; rfl) ?_
  exact ev_if_neg (by simp) (ev_bind tol (ev_bind eqX (ev_if_pos rfl (Ev.now _))))

end Go.Proofs.YtefnmlglpldgfaaDoor.Pure
