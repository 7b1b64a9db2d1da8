/- The program's BodyOf returns what the reference's returns, for all fields, texts and bools (where they hold more than 2^20 fields and bytes they are let by). -/
import Derived.Test.YtefnmlglpldgfaaDoorDom
import Derived.Test.YtefnmlglpldgfaaDoorEspecLower
import Derived.Test.YtefnmlglpldgfaaDoorDomB
import Derived.Test.YtefnmlglpldgfaaDoorEimplLower
import Derived.Test.YtefnmlglpldgfaaDoorEstringsIndexByte
import Derived.Test.YtefnmlglpldgfaaDoorEstringsCut
import Derived.Test.YtefnmlglpldgfaaDoorEstrconvAtoi
import Derived.Test.YtefnmlglpldgfaaDoorCFnExactBodyOfb
namespace Go.Proofs.YtefnmlglpldgfaaDoor.QL
open Go.RowKit Go.Proofs.YtefnmlglpldgfaaDoorW.PrintWords Go.Proofs.YtefnmlglpldgfaaDoorW.PrintLast Go.Proofs.YtefnmlglpldgfaaDoorW.PrintMore Go.Proofs.YtefnmlglpldgfaaDoor.Aux Go.Proofs.YtefnmlglpldgfaaDoor.Dom Go.Proofs.YtefnmlglpldgfaaDoor.Ext Go.Proofs.YtefnmlglpldgfaaDoor.Glob
def laws_FnExactBodyOf.Pure : Prop := ∀ (l0 : List S79) (a1 : ByteArray) (a2 : Bool), l0.length ≤ maxLen → (∀ x ∈ l0, x.f0.size ≤ maxLen ∧ x.f1.size ≤ maxLen) → a1.size ≤ 140737488351232 → ∃ k, laws_FnExactBodyOf.f k l0 a1 a2 = some true
theorem laws_FnExactBodyOf.walk (P : laws_FnExactBodyOf.Pure) (A0 : Option Addr) (c0 : Nat) (l0 : List S79) (a1 : ByteArray) (a2 : Bool) (w : World) (hr0 : Kd.C k79 w A0 l0.length l0) (hc0 : l0.length ≤ c0) (zl0 : l0.length ≤ maxLen) (zm0 : ∀ x ∈ l0, x.f0.size ≤ maxLen ∧ x.f1.size ≤ maxLen) (za1 : a1.size ≤ 140737488351232) (hGErr : GErr w) (hGMax : GMax w) :
    Calls Tryd.prog 13 #[.slice A0 l0.length c0, .string a1, .bool a2] w fun e w' => e = .returned (.bool true) ∧ Below w.heap.size w w' := by
  obtain ⟨k, h⟩ := P l0 a1 a2 zl0 zm0 za1
  refine (laws_FnExactBodyOf.calls k A0 c0 l0 a1 a2 true w hr0 hc0 hGErr hGMax h).mono ?_
  rintro e w' ⟨rfl, hd⟩
  exact ⟨rfl, hd⟩
end Go.Proofs.YtefnmlglpldgfaaDoor.QL

namespace Go.Proofs.YtefnmlglpldgfaaDoor.Pure
set_option linter.unusedVariables false
set_option linter.unusedSimpArgs false
open Go.RowKit Go.Proofs.YtefnmlglpldgfaaDoor.QL Go.Proofs.YtefnmlglpldgfaaDoorW.PrintWords Go.Proofs.YtefnmlglpldgfaaDoorW.PrintLast Go.Proofs.YtefnmlglpldgfaaDoorW.PrintMore Go.Proofs.YtefnmlglpldgfaaDoor.Aux Go.Proofs.YtefnmlglpldgfaaDoor.Dom Go.Proofs.YtefnmlglpldgfaaDoor.Ext
theorem laws_szField_eq (a b : ByteArray) (n : Int) (ha : a.size ≤ maxLen) (hb : b.size ≤ maxLen) (h0 : 0 ≤ n) (h1 : n ≤ 9223372036854775807) :
    laws_szField.f a b n = some (if n - a.size - b.size < 0 then -1 else n - a.size - b.size) := by
  unfold maxLen at ha hb
  unfold laws_szField.f
  by_cases h : n - a.size < 0
  · rw [wrap_id (by omega) (by omega), if_pos h, if_pos (by omega)]
  · rw [wrap_id (x := n - a.size) (by omega) (by omega), if_neg h, wrap_id (by omega) (by omega)]
    by_cases h2 : n - a.size - b.size < 0
    · rw [if_pos h2, if_pos h2]
    · rw [if_neg h2, if_neg h2]

end Go.Proofs.YtefnmlglpldgfaaDoor.Pure

namespace Go.Proofs.YtefnmlglpldgfaaDoor.Pure
set_option linter.unusedVariables false
set_option linter.unusedSimpArgs false
open Go.RowKit Go.Proofs.YtefnmlglpldgfaaDoor.QL Go.Proofs.YtefnmlglpldgfaaDoorW.PrintWords Go.Proofs.YtefnmlglpldgfaaDoorW.PrintLast Go.Proofs.YtefnmlglpldgfaaDoorW.PrintMore Go.Proofs.YtefnmlglpldgfaaDoor.Aux Go.Proofs.YtefnmlglpldgfaaDoor.Dom Go.Proofs.YtefnmlglpldgfaaDoor.Ext
theorem laws_szFieldS_l0 (l : List S79) (hl : l.length ≤ maxLen) (hm : ∀ x ∈ l, x.f0.size ≤ maxLen ∧ x.f1.size ≤ maxLen) : ∀ (d : Nat) (n i : Int), 0 ≤ i → (l.length : Int) - i = d → 0 ≤ n → n ≤ 1048576 →
    Ev (fun k => laws_szFieldS.l0 k l n i) (szL n ((l.drop i.toNat).map fun x => (x.f0, x.f1)))
  | 0, n, i, h0, hd, n0, n1 => by
    refine ev_last fun k => ?_
    simp only [laws_szFieldS.l0]
    rw [if_neg (by omega), drop_nil (by omega)]
    rfl
  | d + 1, n, i, h0, hd, n0, n1 => by
    have hlt : i < (l.length : Int) := by omega
    have hx : (rd_T79 l i) ∈ l := by
      unfold rd_T79
      rw [List.getD_eq_getElem?_getD, List.getElem?_eq_getElem (by omega)]
      exact List.getElem_mem _
    have e := laws_szField_eq (rd_T79 l i).f0 (rd_T79 l i).f1 n (hm _ hx).1 (hm _ hx).2 n0 (by omega)
    have hdrop : l.drop i.toNat = rd_T79 l i :: l.drop (i + 1).toNat := drop_rdOf (d := z79) h0 hlt
    rw [hdrop]
    simp only [List.map_cons, szL]
    by_cases h : n - ((rd_T79 l i).f0.size : Int) - ((rd_T79 l i).f1.size : Int) < 0
    · refine ev_last fun k => ?_
      simp only [laws_szFieldS.l0]
      rw [if_pos hlt, if_pos h0, e, if_pos h, Option.bind_some, if_pos (by omega), if_pos h]
    · refine Ev.step (f := fun k => laws_szFieldS.l0 k l (n - ((rd_T79 l i).f0.size : Int) - ((rd_T79 l i).f1.size : Int)) (i + 1)) (fun k => ?_) (ev_eq (laws_szFieldS_l0 l hl hm d _ (i + 1) (by omega) (by omega) (by omega) (by omega)) ?_)
      · simp only [laws_szFieldS.l0]
        rw [if_pos hlt, if_pos h0, e, if_neg h, Option.bind_some, if_neg h, wrap_id (by omega) (by unfold maxLen at hl; omega)]
      · rw [if_neg h]
theorem laws_szFieldS_ev (l : List S79) (n : Int) (hl : l.length ≤ maxLen) (hm : ∀ x ∈ l, x.f0.size ≤ maxLen ∧ x.f1.size ≤ maxLen) (n0 : 0 ≤ n) (n1 : n ≤ 1048576) :
    Ev (fun k => laws_szFieldS.f k l n) (szF n (l.map fun x => (x.f0, x.f1))) := by
  unfold szF
  rw [List.length_map]
  by_cases h : n - (l.length : Int) < 0
  · rw [if_pos h]
    refine ev_some fun k => ?_
    unfold laws_szFieldS.f
    rw [wrap_id (by unfold maxLen at hl; omega) (by omega), if_pos h]
  · rw [if_neg h]
    refine Ev.congr (fun k => by unfold laws_szFieldS.f; rw [wrap_id (by unfold maxLen at hl; omega) (by omega), if_neg h]) ?_
    have e := laws_szFieldS_l0 l hl hm l.length (n - l.length) 0 (by omega) (by omega) (by omega) (by omega)
    simpa using e

end Go.Proofs.YtefnmlglpldgfaaDoor.Pure

namespace Go.Proofs.YtefnmlglpldgfaaDoor.Pure
set_option linter.unusedVariables false
set_option linter.unusedSimpArgs false
open Go.RowKit Go.Proofs.YtefnmlglpldgfaaDoor.QL Go.Proofs.YtefnmlglpldgfaaDoorW.PrintWords Go.Proofs.YtefnmlglpldgfaaDoorW.PrintLast Go.Proofs.YtefnmlglpldgfaaDoorW.PrintMore Go.Proofs.YtefnmlglpldgfaaDoor.Aux Go.Proofs.YtefnmlglpldgfaaDoor.Dom Go.Proofs.YtefnmlglpldgfaaDoor.Ext
theorem laws_toFieldS_l0 (l : List S79) (hl : l.length ≤ 1048576) : ∀ (d : Nat) (ys : List S81) (i : Int), 0 ≤ i → (l.length : Int) - i = d → (ys.length : Int) = i →
    Ev (fun k => laws_toFieldS.l0 k l (ys ++ List.replicate d z81) i) (ys ++ (l.drop i.toNat).map fun x => (⟨x.f0, x.f1⟩ : S81))
  | 0, ys, i, h0, hd, hy => by
    refine ev_last fun k => ?_
    simp only [laws_toFieldS.l0]
    rw [if_neg (by omega), drop_nil (by omega)]
    simp
  | d + 1, ys, i, h0, hd, hy => by
    have hlt : i < (l.length : Int) := by omega
    have hdrop : l.drop i.toNat = rd_T79 l i :: l.drop (i + 1).toNat := drop_rdOf (d := z79) h0 hlt
    refine Ev.step (f := fun k => laws_toFieldS.l0 k l ((ys ++ [(⟨(rd_T79 l i).f0, (rd_T79 l i).f1⟩ : S81)]) ++ List.replicate d z81) (i + 1)) (fun k => ?_) (ev_eq (laws_toFieldS_l0 l hl d _ (i + 1) (by omega) (by omega) (by simp; omega)) ?_)
    · simp only [laws_toFieldS.l0, laws_toField.f, Option.bind_some]
      have e : (ys ++ List.replicate (d + 1) z81).set i.toNat (⟨(rd_T79 l i).f0, (rd_T79 l i).f1⟩ : S81) = (ys ++ [(⟨(rd_T79 l i).f0, (rd_T79 l i).f1⟩ : S81)]) ++ List.replicate d z81 := by
        rw [List.set_append_right _ _ (by omega), show i.toNat - ys.length = 0 by omega, List.replicate_succ]
        simp
      rw [if_pos hlt, if_pos h0, if_pos (by simp; omega), e, wrap_id (by omega) (by omega)]
    · rw [hdrop]; simp
theorem laws_toFieldS_ev (l : List S79) (hl : l.length ≤ 1048576) : Ev (fun k => laws_toFieldS.f k l) (l.map fun x => (⟨x.f0, x.f1⟩ : S81)) := by
  refine Ev.congr (fun k => by unfold laws_toFieldS.f; rw [if_pos (by omega), if_pos (by omega)]) ?_
  have e := laws_toFieldS_l0 l hl l.length [] 0 (by omega) (by omega) (by simp)
  simpa using e

end Go.Proofs.YtefnmlglpldgfaaDoor.Pure

namespace Go.Proofs.YtefnmlglpldgfaaDoor.Pure
set_option linter.unusedVariables false
set_option linter.unusedSimpArgs false
open Go.RowKit Go.Proofs.YtefnmlglpldgfaaDoor.QL Go.Proofs.YtefnmlglpldgfaaDoorW.PrintWords Go.Proofs.YtefnmlglpldgfaaDoorW.PrintLast Go.Proofs.YtefnmlglpldgfaaDoorW.PrintMore Go.Proofs.YtefnmlglpldgfaaDoor.Aux Go.Proofs.YtefnmlglpldgfaaDoor.Dom Go.Proofs.YtefnmlglpldgfaaDoor.Ext
theorem laws_eqFieldS_l0 (l : List S81) (hl : l.length ≤ 9223372036854775806) : ∀ (d : Nat) (i : Int), 0 ≤ i → (l.length : Int) - i = d → Ev (fun k => laws_eqFieldS.l0 k l l i) true
  | 0, i, h0, hd => by
    refine ev_last fun k => ?_
    simp only [laws_eqFieldS.l0]
    rw [if_neg (by omega)]
  | d + 1, i, h0, hd => by
    have hlt : i < (l.length : Int) := by omega
    refine Ev.step (f := fun k => laws_eqFieldS.l0 k l l (i + 1)) (fun k => ?_) (laws_eqFieldS_l0 l hl d (i + 1) (by omega) (by omega))
    simp only [laws_eqFieldS.l0, laws_eqField.f]
    rw [if_pos hlt, if_pos h0, if_pos hlt]
    simp only [if_true, Option.bind_some]
    rw [wrap_id (by omega) (by omega)]
/-- Two that are one are alike. -/
theorem laws_eqFieldS_ev (l : List S81) (hl : l.length ≤ 9223372036854775806) : Ev (fun k => laws_eqFieldS.f k l l) true := by
  refine Ev.congr (fun k => by unfold laws_eqFieldS.f; rw [if_pos rfl]) ?_
  exact laws_eqFieldS_l0 l hl l.length 0 (by omega) (by omega)

end Go.Proofs.YtefnmlglpldgfaaDoor.Pure

namespace Go.Proofs.YtefnmlglpldgfaaDoor.Pure
set_option linter.unusedVariables false
set_option linter.unusedSimpArgs false
open Go.RowKit Go.Proofs.YtefnmlglpldgfaaDoor.QL Go.Proofs.YtefnmlglpldgfaaDoorW.PrintWords Go.Proofs.YtefnmlglpldgfaaDoorW.PrintLast Go.Proofs.YtefnmlglpldgfaaDoorW.PrintMore Go.Proofs.YtefnmlglpldgfaaDoor.Aux Go.Proofs.YtefnmlglpldgfaaDoor.Dom Go.Proofs.YtefnmlglpldgfaaDoor.Ext
theorem spec_FieldGet_l0 (l : List S81) (nm : ByteArray) (hl : l.length ≤ 1048576) (V : List ByteArray) (hV : (V.map fun v => v.size + 2).sum ≤ 8388608) : ∀ (d : Nat) (acc : List ByteArray) (i : Int), 0 ≤ i → (l.length : Int) - i = d → acc ++ getL nm ((l.drop i.toNat).map fun x => (x.f0, x.f1)) = V →
    Ev (fun k => spec_FieldGet.l0 k l nm (joinB ⟨#[44, 32]⟩ acc) (!acc.isEmpty) i) (joinB ⟨#[44, 32]⟩ V, !V.isEmpty)
  | 0, acc, i, h0, hd, ha => by
    refine ev_last fun k => ?_
    simp only [spec_FieldGet.l0]
    rw [drop_nil (by omega)] at ha
    simp only [List.map_nil, getL, List.append_nil] at ha
    rw [if_neg (by omega), ha]
  | d + 1, acc, i, h0, hd, ha => by
    have hlt : i < (l.length : Int) := by omega
    have hdrop : l.drop i.toNat = rd_T81 l i :: l.drop (i + 1).toNat := drop_rdOf (d := z81) h0 hlt
    rw [hdrop] at ha
    simp only [List.map_cons, getL] at ha
    by_cases h : (rd_T81 l i).f0 = nm
    · rw [if_pos h] at ha
      have hs := joinB_size ⟨#[44, 32]⟩ acc
      have hb : (acc.map fun v => v.size + 2).sum + ((rd_T81 l i).f1.size + 2) ≤ 8388608 := by
        rw [← ha] at hV
        simp only [List.map_append, List.sum_append, List.map_cons, List.sum_cons] at hV
        omega
      have hs2 : (joinB ⟨#[44, 32]⟩ acc).size ≤ (acc.map fun v => v.size + 2).sum := hs
      cases acc with
      | nil =>
        refine Ev.step (f := fun k => spec_FieldGet.l0 k l nm (joinB ⟨#[44, 32]⟩ [(rd_T81 l i).f1]) true (i + 1)) (fun k => ?_) (spec_FieldGet_l0 l nm hl V hV d [(rd_T81 l i).f1] (i + 1) (by omega) (by omega) ha)
        simp only [spec_FieldGet.l0]
        have e0 : (joinB ⟨#[44, 32]⟩ [] ++ (rd_T81 l i).f1) = (rd_T81 l i).f1 := ByteArray.empty_append
        have e1 : (joinB ⟨#[44, 32]⟩ []).size = 0 := rfl
        rw [if_pos hlt, if_pos h0, if_pos (by rw [h]), if_neg (by decide), if_pos (by omega), wrap_id (by omega) (by omega), e0]
        rfl
      | cons a acc =>
        refine Ev.step (f := fun k => spec_FieldGet.l0 k l nm (joinB ⟨#[44, 32]⟩ ((a :: acc) ++ [(rd_T81 l i).f1])) true (i + 1)) (fun k => ?_) (spec_FieldGet_l0 l nm hl V hV d ((a :: acc) ++ [(rd_T81 l i).f1]) (i + 1) (by omega) (by omega) (by rw [← ha]; simp))
        simp only [spec_FieldGet.l0]
        rw [if_pos hlt, if_pos h0, if_pos (by rw [h]), if_pos (show (!(a :: acc).isEmpty) = true from rfl), if_pos (by omega), if_pos (by rw [ByteArray.size_append]; have : (⟨#[44, 32]⟩ : ByteArray).size = 2 := rfl; omega), wrap_id (by omega) (by omega), joinB_snoc _ _ _ (by simp)]
    · rw [if_neg h] at ha
      refine Ev.step (f := fun k => spec_FieldGet.l0 k l nm (joinB ⟨#[44, 32]⟩ acc) (!acc.isEmpty) (i + 1)) (fun k => ?_) (spec_FieldGet_l0 l nm hl V hV d acc (i + 1) (by omega) (by omega) ha)
      simp only [spec_FieldGet.l0]
      rw [if_pos hlt, if_pos h0, if_neg (by rw [toList_eq_iff]; exact h), wrap_id (by omega) (by omega)]
theorem spec_FieldGet_ev (l : List S81) (nm : ByteArray) (hl : l.length ≤ 1048576) (hV : ((getL nm (l.map fun x => (x.f0, x.f1))).map fun v => v.size + 2).sum ≤ 8388608) : Ev (fun k => spec_FieldGet.f k l nm) (joinB ⟨#[44, 32]⟩ (getL nm (l.map fun x => (x.f0, x.f1))), !(getL nm (l.map fun x => (x.f0, x.f1))).isEmpty) := by
  have h := spec_FieldGet_l0 l nm hl _ hV l.length [] 0 (by omega) (by omega) (by simp)
  simpa [spec_FieldGet.f, joinB] using h

end Go.Proofs.YtefnmlglpldgfaaDoor.Pure

namespace Go.Proofs.YtefnmlglpldgfaaDoor.Pure
set_option linter.unusedVariables false
set_option linter.unusedSimpArgs false
open Go.RowKit Go.Proofs.YtefnmlglpldgfaaDoor.QL Go.Proofs.YtefnmlglpldgfaaDoorW.PrintWords Go.Proofs.YtefnmlglpldgfaaDoorW.PrintLast Go.Proofs.YtefnmlglpldgfaaDoorW.PrintMore Go.Proofs.YtefnmlglpldgfaaDoor.Aux Go.Proofs.YtefnmlglpldgfaaDoor.Dom Go.Proofs.YtefnmlglpldgfaaDoor.Ext
theorem spec_Lower_eq (s : ByteArray) (hs : s.size ≤ 8388608) : spec_Lower.f s = some (strOfNums ((bytesOf s).map lowC)) := by unfold spec_Lower.f; rw [if_pos hs]

end Go.Proofs.YtefnmlglpldgfaaDoor.Pure

namespace Go.Proofs.YtefnmlglpldgfaaDoor.Pure
set_option linter.unusedVariables false
set_option linter.unusedSimpArgs false
open Go.RowKit Go.Proofs.YtefnmlglpldgfaaDoor.QL Go.Proofs.YtefnmlglpldgfaaDoorW.PrintWords Go.Proofs.YtefnmlglpldgfaaDoorW.PrintLast Go.Proofs.YtefnmlglpldgfaaDoorW.PrintMore Go.Proofs.YtefnmlglpldgfaaDoor.Aux Go.Proofs.YtefnmlglpldgfaaDoor.Dom Go.Proofs.YtefnmlglpldgfaaDoor.Ext
theorem spec_l1In_eq (a b c : Int) : spec_l1In.f a b c = some (decide (b ≤ a ∧ a ≤ c)) := by
  unfold spec_l1In.f
  by_cases h : a ≥ b
  · rw [if_pos h]; simp [show b ≤ a from h]
  · rw [if_neg h]; simp [show ¬ b ≤ a from h]

end Go.Proofs.YtefnmlglpldgfaaDoor.Pure

namespace Go.Proofs.YtefnmlglpldgfaaDoor.Pure
set_option linter.unusedVariables false
set_option linter.unusedSimpArgs false
open Go.RowKit Go.Proofs.YtefnmlglpldgfaaDoor.QL Go.Proofs.YtefnmlglpldgfaaDoorW.PrintWords Go.Proofs.YtefnmlglpldgfaaDoorW.PrintLast Go.Proofs.YtefnmlglpldgfaaDoorW.PrintMore Go.Proofs.YtefnmlglpldgfaaDoor.Aux Go.Proofs.YtefnmlglpldgfaaDoor.Dom Go.Proofs.YtefnmlglpldgfaaDoor.Ext
theorem spec_ReadHexNum_l0 (s : ByteArray) (hs : s.size ≤ 8388608) : ∀ (d : Nat) (n i : Int), 0 ≤ i → (s.size : Int) - i = d →
    Ev (fun k => spec_ReadHexNum.l0 k s n i) (bif (((bytesOf s).drop i.toNat).all fun c => decide (0 ≤ hexV c)) && decide (1 ≤ (s.size : Int) ∧ (s.size : Int) ≤ 6) then (hexW n ((bytesOf s).drop i.toNat), true) else (0, false))
  | 0, n, i, h0, hd => by
    refine ev_last fun k => ?_
    simp only [spec_ReadHexNum.l0]
    rw [if_neg (by omega), drop_end (by omega), spec_l1In_eq, Option.bind_some]
    simp only [List.all_nil, Bool.true_and, hexW]
    by_cases h : 1 ≤ (s.size : Int) ∧ (s.size : Int) ≤ 6
    · rw [decide_eq_true h]; simp
    · rw [decide_eq_false h]; simp
  | d + 1, n, i, h0, hd => by
    have hb := bt_bound s i
    have hlt : i < (s.size : Int) := by omega
    have ih := fun n' => spec_ReadHexNum_l0 s hs d n' (i + 1) (by omega) (by omega)
    have wi : wrap64 (i + 1) = i + 1 := wrap_id (by omega) (by omega)
    rw [drop_bt h0 hlt]
    simp only [List.all_cons, hexW]
    generalize hc : bt s i = c at hb
    have hgo : 0 ≤ hexV c → ∀ n', n' = wrap64 (n * 16 + hexV c) → Ev (fun k => spec_ReadHexNum.l0 k s n' (i + 1)) (bif (decide (0 ≤ hexV c) && ((bytesOf s).drop (i + 1).toNat).all fun c => decide (0 ≤ hexV c)) && decide (1 ≤ (s.size : Int) ∧ (s.size : Int) ≤ 6) then (hexW (wrap64 (n * 16 + hexV c)) ((bytesOf s).drop (i + 1).toNat), true) else (0, false)) := by
      intro hv n' hn'
      rw [decide_eq_true hv, Bool.true_and, ← hn']
      exact ih n'
    by_cases hd1 : 48 ≤ c ∧ c ≤ 57
    · have hv : hexV c = c - 48 := by unfold hexV; rw [if_pos hd1]
      refine Ev.step (f := fun k => spec_ReadHexNum.j1 k s n i c true) (fun k => ?_) (Ev.step (f := fun k => spec_ReadHexNum.l0 k s (wrap64 (wrap64 (n * 16) + (c - 48) % 256)) (i + 1)) (fun k => ?_) (hgo (by omega) _ (by rw [wrap_wrap, hv, Int.emod_eq_of_lt (by omega) (by omega)])))
      · simp only [spec_ReadHexNum.l0]
        rw [if_pos hlt, if_pos h0, hc, if_pos (by omega), decide_eq_true (by omega)]
      · simp only [spec_ReadHexNum.j1]
        rw [if_pos trivial, wi]
    · have hj1 : ∀ k, spec_ReadHexNum.l0 (k + 1) s n i = spec_ReadHexNum.j1 k s n i c false := by
        intro k
        simp only [spec_ReadHexNum.l0]
        rw [if_pos hlt, if_pos h0, hc]
        by_cases h48 : c ≥ 48
        · rw [if_pos h48, decide_eq_false (by omega)]
        · rw [if_neg h48]
      refine Ev.step hj1 ?_
      by_cases hd2 : 97 ≤ c ∧ c ≤ 102
      · have hv : hexV c = c - 87 := by unfold hexV; rw [if_neg hd1, if_pos hd2]
        refine Ev.step (f := fun k => spec_ReadHexNum.j2 k s n i c true) (fun k => ?_) (Ev.step (f := fun k => spec_ReadHexNum.l0 k s (wrap64 (wrap64 (wrap64 (n * 16) + (c - 97) % 256) + 10)) (i + 1)) (fun k => ?_) (hgo (by omega) _ (by rw [wrap_wrap, show wrap64 (n * 16) + (c - 97) % 256 + 10 = wrap64 (n * 16) + ((c - 97) % 256 + 10) by omega, wrap_wrap, hv, Int.emod_eq_of_lt (by omega) (by omega)]; congr 1; omega)))
        · simp only [spec_ReadHexNum.j1]
          rw [if_neg (by decide), if_pos (by omega), decide_eq_true (by omega)]
        · simp only [spec_ReadHexNum.j2]
          rw [if_pos trivial, wi]
      · have hj2 : ∀ k, spec_ReadHexNum.j1 (k + 1) s n i c false = spec_ReadHexNum.j2 k s n i c false := by
          intro k
          simp only [spec_ReadHexNum.j1]
          rw [if_neg (by decide)]
          by_cases h97 : c ≥ 97
          · rw [if_pos h97, decide_eq_false (by omega)]
          · rw [if_neg h97]
        refine Ev.step hj2 ?_
        by_cases hd3 : 65 ≤ c ∧ c ≤ 70
        · have hv : hexV c = c - 55 := by unfold hexV; rw [if_neg hd1, if_neg hd2, if_pos hd3]
          refine Ev.step (f := fun k => spec_ReadHexNum.l0 k s (wrap64 (wrap64 (wrap64 (n * 16) + (c - 65) % 256) + 10)) (i + 1)) (fun k => ?_) (hgo (by omega) _ (by rw [wrap_wrap, show wrap64 (n * 16) + (c - 65) % 256 + 10 = wrap64 (n * 16) + ((c - 65) % 256 + 10) by omega, wrap_wrap, hv, Int.emod_eq_of_lt (by omega) (by omega)]; congr 1; omega))
          simp only [spec_ReadHexNum.j2]
          rw [if_neg (by decide), if_pos (by omega), if_pos (by omega), wi]
        · have hv : hexV c = -1 := by unfold hexV; rw [if_neg hd1, if_neg hd2, if_neg hd3]
          refine ev_last fun k => ?_
          simp only [spec_ReadHexNum.j2]
          rw [if_neg (by decide), hv]
          by_cases h65 : c ≥ 65
          · rw [if_pos h65, if_neg (by omega)]; simp
          · rw [if_neg h65]; simp
theorem spec_ReadHexNum_ev (s : ByteArray) (hs : s.size ≤ 8388608) : Ev (fun k => spec_ReadHexNum.f k s) (readHexP (bytesOf s)) := by
  have h := spec_ReadHexNum_l0 s hs s.size 0 0 (by omega) (by omega)
  simpa [spec_ReadHexNum.f, readHexP, bytesOf_length] using h

end Go.Proofs.YtefnmlglpldgfaaDoor.Pure

namespace Go.Proofs.YtefnmlglpldgfaaDoor.Pure
set_option linter.unusedVariables false
set_option linter.unusedSimpArgs false
open Go.RowKit Go.Proofs.YtefnmlglpldgfaaDoor.QL Go.Proofs.YtefnmlglpldgfaaDoorW.PrintWords Go.Proofs.YtefnmlglpldgfaaDoorW.PrintLast Go.Proofs.YtefnmlglpldgfaaDoorW.PrintMore Go.Proofs.YtefnmlglpldgfaaDoor.Aux Go.Proofs.YtefnmlglpldgfaaDoor.Dom Go.Proofs.YtefnmlglpldgfaaDoor.Ext
theorem spec_l3Line_l0 (s : ByteArray) (hs : s.size ≤ 8388608) (at0 : Int) (ha : 0 ≤ at0) : ∀ (d : Nat) (i : Int), at0 ≤ i → (s.size : Int) - i = d →
    Ev (fun k => spec_l3Line.l0 k s at0 i) (if idxS ((bytesOf s).drop i.toNat) [13, 10] < 0 then ((⟨#[]⟩ : ByteArray), -1) else (s.extract at0.toNat (i + idxS ((bytesOf s).drop i.toNat) [13, 10]).toNat, i + idxS ((bytesOf s).drop i.toNat) [13, 10] + 2))
  | 0, i, h0, hd => by
    have hl := bytesOf_length s
    refine ev_last fun k => ?_
    simp only [spec_l3Line.l0]
    rw [wrap_id (by omega) (by omega), if_neg (by omega), idxS_short (by rw [List.length_drop]; omega), if_pos (by omega)]
  | d + 1, i, h0, hd => by
    have hl := bytesOf_length s
    by_cases h1 : i + 1 < (s.size : Int)
    · have ih := spec_l3Line_l0 s hs at0 ha d (i + 1) (by omega) (by omega)
      have hx := idxS_bound [13, 10] ((bytesOf s).drop (i + 1).toNat)
      have e := idxS_crlf (bt s i) (bt s (i + 1)) ((bytesOf s).drop (i + 1 + 1).toNat)
      rw [← drop_bt (by omega) h1, ← drop_bt (by omega) (by omega)] at e
      rw [e]
      by_cases h13 : bt s i = 13 ∧ bt s (i + 1) = 10
      · refine ev_last fun k => ?_
        simp only [spec_l3Line.l0]
        rw [wrap_id (x := i + 1) (by omega) (by omega), if_pos h1, if_pos (by omega), if_pos (by omega), if_pos h13.1, if_pos (by omega), if_pos h13.2, if_pos ha, if_pos h0, if_pos (by omega), wrap_id (by omega) (by omega), if_pos h13, if_neg (by omega)]
        simp
      · rw [if_neg h13]
        refine Ev.step (f := fun k => spec_l3Line.l0 k s at0 (i + 1)) (fun k => ?_) (ev_eq ih ?_)
        · simp only [spec_l3Line.l0]
          rw [wrap_id (x := i + 1) (by omega) (by omega), if_pos h1, if_pos (by omega), if_pos (by omega)]
          by_cases ha13 : bt s i = 13
          · rw [if_pos ha13, if_pos (by omega), if_neg (fun hh => h13 ⟨ha13, hh⟩)]
          · rw [if_neg ha13]
        · rcases hx with hx | hx
          · rw [hx, if_pos (by omega), if_pos rfl, if_pos (by omega)]
          · rw [if_neg (show ¬ idxS ((bytesOf s).drop (i + 1).toNat) [13, 10] < 0 by omega), if_neg (show ¬ idxS ((bytesOf s).drop (i + 1).toNat) [13, 10] = -1 by omega), if_neg (by omega)]
            congr 2 <;> omega
    · refine ev_last fun k => ?_
      simp only [spec_l3Line.l0]
      rw [wrap_id (by omega) (by omega), if_neg (by omega), idxS_short (by rw [List.length_drop]; omega), if_pos (by omega)]
theorem spec_l3Line_ev (s : ByteArray) (hs : s.size ≤ 8388608) (i : Int) (h0 : 0 ≤ i) (h1 : i ≤ (s.size : Int)) :
    Ev (fun k => spec_l3Line.f k s i) (if idxS ((bytesOf s).drop i.toNat) [13, 10] < 0 then ((⟨#[]⟩ : ByteArray), -1) else (strOfNums (((bytesOf s).drop i.toNat).take (idxS ((bytesOf s).drop i.toNat) [13, 10]).toNat), i + idxS ((bytesOf s).drop i.toNat) [13, 10] + 2)) := by
  have e := spec_l3Line_l0 s hs i h0 ((s.size : Int) - i).toNat i (by omega) (by omega)
  refine ev_eq (by simpa only [spec_l3Line.f] using e) ?_
  by_cases h : idxS ((bytesOf s).drop i.toNat) [13, 10] < 0
  · rw [if_pos h, if_pos h]
  · rw [if_neg h, if_neg h]
    congr 1
    refine bytesOf_inj ?_
    rw [bytesOf_extract, bytesOf_strOfNums (fun c hc => bytesOf_range (List.mem_of_mem_drop (List.mem_of_mem_take hc))), List.drop_take]
    congr 1
    omega

end Go.Proofs.YtefnmlglpldgfaaDoor.Pure

namespace Go.Proofs.YtefnmlglpldgfaaDoor.Pure
set_option linter.unusedVariables false
set_option linter.unusedSimpArgs false
open Go.RowKit Go.Proofs.YtefnmlglpldgfaaDoor.QL Go.Proofs.YtefnmlglpldgfaaDoorW.PrintWords Go.Proofs.YtefnmlglpldgfaaDoorW.PrintLast Go.Proofs.YtefnmlglpldgfaaDoorW.PrintMore Go.Proofs.YtefnmlglpldgfaaDoor.Aux Go.Proofs.YtefnmlglpldgfaaDoor.Dom Go.Proofs.YtefnmlglpldgfaaDoor.Ext
theorem spec_Unchunk_l0 (s : ByteArray) (hs : s.size ≤ 8388608) : ∀ (d : Nat) (out : ByteArray) (i : Int), 0 ≤ i → i ≤ (s.size : Int) → (s.size : Int) - i < d → out.size ≤ 60 →
    Ev (fun k => spec_Unchunk.l0 k s out i) (unchP (bytesOf s) d out i)
  | 0, out, i, h0, h1, hd, ho => by omega
  | d + 1, out, i, h0, h1, hd, ho => by
    have hl := bytesOf_length s
    have hx := idxS_bound [13, 10] ((bytesOf s).drop i.toNat)
    simp only [List.length_cons, List.length_nil, List.length_drop] at hx
    have ih := fun out' i' => spec_Unchunk_l0 s hs d out' i'
    refine Ev.step (fun k => by simp only [spec_Unchunk.l0]; rfl) (ev_bind (spec_l3Line_ev s hs i h0 h1) ?_)
    rw [unchP]
    have hlen : ((bytesOf s).drop i.toNat).length = s.size - i.toNat := by rw [List.length_drop, hl]
    by_cases hi : idxS ((bytesOf s).drop i.toNat) [13, 10] < 0
    · rw [if_pos hi]
      have hp : pieceP ((bytesOf s).drop i.toNat) out.size = (if ((s.size : Int) - i) ≤ 8 then ((⟨#[]⟩ : ByteArray), 0, 1) else (⟨#[]⟩, 0, 2)) := by
        unfold pieceP
        rw [if_pos hi, hlen, show ((s.size - i.toNat : Nat) : Int) = (s.size : Int) - i by omega]
      rw [hp]
      refine ev_if_pos (by decide) ?_
      rw [wrap_id (by omega) (by omega)]
      by_cases h8 : (s.size : Int) - i ≤ 8
      · rw [if_pos h8]
        exact ev_if_neg (by omega) (ev_eq (Ev.now _) (by simp))
      · rw [if_neg h8]
        exact ev_if_pos (by omega) (ev_eq (Ev.now _) (by simp))
    · rw [if_neg hi]
      refine ev_if_neg (by simp only; omega) ?_
      have hline : bytesOf (strOfNums (((bytesOf s).drop i.toNat).take (idxS ((bytesOf s).drop i.toNat) [13, 10]).toNat)) = ((bytesOf s).drop i.toNat).take (idxS ((bytesOf s).drop i.toNat) [13, 10]).toNat := bytesOf_strOfNums fun c hc => bytesOf_range (List.mem_of_mem_drop (List.mem_of_mem_take hc))
      have hh := spec_ReadHexNum_ev (strOfNums (((bytesOf s).drop i.toNat).take (idxS ((bytesOf s).drop i.toNat) [13, 10]).toNat)) (by rw [strOfNums_size, List.length_take, List.length_drop]; omega)
      rw [hline] at hh
      refine ev_bind hh ?_
      have hbd := @readHexP_bound (((bytesOf s).drop i.toNat).take (idxS ((bytesOf s).drop i.toNat) [13, 10]).toNat)
      unfold pieceP
      rw [if_neg hi]
      simp only
      generalize readHexP (((bytesOf s).drop i.toNat).take (idxS ((bytesOf s).drop i.toNat) [13, 10]).toNat) = h at hbd
      generalize hj : idxS ((bytesOf s).drop i.toNat) [13, 10] = j at hi hx
      have hbad : ∀ k a b, spec_Unchunk.j1 (k + 1) s out a b true = some ((⟨#[]⟩ : ByteArray), 0, 2) := fun k a b => by simp only [spec_Unchunk.j1]; rw [if_pos trivial]
      by_cases hok : h.2 = true
      · have hb := hbd hok
        refine ev_if_pos hok ?_
        rw [wrap_id (x := (out.size : Int) + h.1) (by omega) (by omega)]
        by_cases h60 : (out.size : Int) + h.1 > 60
        · rw [decide_eq_true h60, if_pos (show ¬ (h.2 = true ∧ (out.size : Int) + h.1 ≤ 60) from fun hh => by omega)]
          exact ev_eq (ev_last fun k => hbad k _ _) (by simp)
        · rw [decide_eq_false h60, if_neg (show ¬ ¬ (h.2 = true ∧ (out.size : Int) + h.1 ≤ 60) from fun hn => hn ⟨hok, by omega⟩)]
          have hrl : ((((bytesOf s).drop i.toNat).drop (j.toNat + 2)).length : Int) = (s.size : Int) - (i + j + 2) := by rw [List.length_drop, hlen]; omega
          have w1 : wrap64 (i + j + 2 + h.1) = i + j + 2 + h.1 := wrap_id (by omega) (by omega)
          have w2 : wrap64 (i + j + 2 + h.1 + 2) = i + j + 2 + h.1 + 2 := wrap_id (by omega) (by omega)
          have w3 : wrap64 (i + j + 2 + h.1 + 1) = i + j + 2 + h.1 + 1 := wrap_id (by omega) (by omega)
          refine Ev.step (fun k => by simp only [spec_Unchunk.j1]; rw [if_neg (by decide), w1, w2]; try rfl) ?_
          rw [hrl]
          by_cases h3 : (s.size : Int) < i + j + 2 + h.1 + 2
          · rw [if_pos (show (s.size : Int) - (i + j + 2) < h.1 + 2 by omega)]
            exact ev_if_pos h3 (ev_eq (Ev.now _) (by simp))
          · rw [if_neg (show ¬ (s.size : Int) - (i + j + 2) < h.1 + 2 by omega)]
            refine ev_if_neg h3 (ev_if_pos (by omega) (ev_if_pos (by omega) ?_))
            have hcut : ((((bytesOf s).drop i.toNat).drop (j.toNat + 2)).drop h.1.toNat).take 2 = [bt s (i + j + 2 + h.1), bt s (i + j + 2 + h.1 + 1)] := by
              rw [List.drop_drop, List.drop_drop, show i.toNat + (j.toNat + 2 + h.1.toNat) = (i + j + 2 + h.1).toNat by omega, drop_bt (by omega) (by omega), drop_bt (by omega) (by omega)]
              rfl
            have hex : s.extract (i + j + 2).toNat (i + j + 2 + h.1).toNat = strOfNums ((((bytesOf s).drop i.toNat).drop (j.toNat + 2)).take h.1.toNat) := by
              refine bytesOf_inj ?_
              rw [bytesOf_extract, bytesOf_strOfNums (fun c hc => bytesOf_range (List.mem_of_mem_drop (List.mem_of_mem_drop (List.mem_of_mem_take hc)))), List.drop_drop, List.drop_take]
              congr 1
              · omega
              · congr 1; omega
            have hsz : (strOfNums ((((bytesOf s).drop i.toNat).drop (j.toNat + 2)).take h.1.toNat)).size = h.1.toNat := by
              rw [strOfNums_size, List.length_take, List.length_drop, hlen]; omega
            rw [hcut]
            by_cases h4 : bt s (i + j + 2 + h.1) = 13 ∧ bt s (i + j + 2 + h.1 + 1) = 10
            · have hq : [bt s (i + j + 2 + h.1), bt s (i + j + 2 + h.1 + 1)] = [13, 10] := by rw [h4.1, h4.2]
              rw [if_pos hq]
              have hstep : ∀ {r}, Ev (fun k => spec_Unchunk.j2 k s out (i + j + 2) h.1 false) r → Ev (fun k => if bt s (i + j + 2 + h.1) = 13 then (if 0 ≤ wrap64 (i + j + 2 + h.1 + 1) then (if wrap64 (i + j + 2 + h.1 + 1) < (s.size : Int) then (spec_Unchunk.j2 k s out (i + j + 2) h.1 ((bt s (wrap64 (i + j + 2 + h.1 + 1))) != 10)) else (none)) else (none)) else (spec_Unchunk.j2 k s out (i + j + 2) h.1 true)) r := by
                intro r hr
                rw [w3]
                refine ev_if_pos h4.1 (ev_if_pos (by omega) (ev_if_pos (by omega) ?_))
                rw [h4.2]; exact hr
              refine hstep ?_
              simp only [if_true]
              refine Ev.step (fun k => by simp only [spec_Unchunk.j2]; rw [if_neg (by decide), if_pos (show 0 ≤ i + j + 2 by omega), w1, if_pos (show i + j + 2 ≤ i + j + 2 + h.1 by omega), if_pos (show i + j + 2 + h.1 ≤ (s.size : Int) by omega), hex, hsz, if_pos (by omega), w2]) ?_
              have hz : strOfNums ((((bytesOf s).drop i.toNat).drop (j.toNat + 2)).take h.1.toNat) = ⟨#[]⟩ ↔ h.1 = 0 := by
                constructor
                · intro hh
                  rw [hh] at hsz
                  have : h.1.toNat = 0 := hsz.symm
                  omega
                · intro hh
                  rw [hh]; rfl
              by_cases h5 : h.1 = 0
              · rw [if_pos (hz.2 h5)]
                refine ev_if_pos h5 (ev_eq (Ev.now _) ?_)
                rw [hz.2 h5]
                refine Prod.ext ?_ (Prod.ext ?_ rfl)
                · exact bytesOf_inj (by rw [bytesOf_append]; simp [bytesOf])
                · simp only; omega
              · rw [if_neg (fun hh => h5 (hz.1 hh))]
                refine ev_if_neg h5 (ev_eq (ih _ _ (by omega) (by omega) (by omega) (by rw [ByteArray.size_append, hsz]; omega)) ?_)
                congr 1
                omega
            · rw [if_neg (show ¬ [bt s (i + j + 2 + h.1), bt s (i + j + 2 + h.1 + 1)] = [13, 10] from fun hh => h4 (by simpa using hh))]
              have hj2 : ∀ k, spec_Unchunk.j2 (k + 1) s out (i + j + 2) h.1 true = some ((⟨#[]⟩ : ByteArray), 0, 2) := fun k => by simp only [spec_Unchunk.j2]; rw [if_pos trivial]
              refine ev_eq (r := ((⟨#[]⟩ : ByteArray), 0, 2)) ?_ (by simp)
              by_cases h13 : bt s (i + j + 2 + h.1) = 13
              · refine ev_if_pos h13 ?_
                rw [w3]
                refine ev_if_pos (by omega) (ev_if_pos (by omega) ?_)
                rw [show (bt s (i + j + 2 + h.1 + 1) != 10) = true from bne_iff_ne.mpr (fun hh => h4 ⟨h13, hh⟩)]
                exact ev_last hj2
              · exact ev_if_neg h13 (ev_last hj2)
      · rw [if_pos (show ¬ (h.2 = true ∧ (out.size : Int) + h.1 ≤ 60) from fun hh => hok hh.1)]
        exact ev_if_neg hok (ev_eq (ev_last fun k => hbad k _ _) (by simp))
theorem spec_Unchunk_ev (s : ByteArray) (hs : s.size ≤ 8388608) : Ev (fun k => spec_Unchunk.f k s) (unchunkP (bytesOf s)) := by
  have hl := bytesOf_length s
  have h := spec_Unchunk_l0 s hs (s.size + 1) ⟨#[]⟩ 0 (by omega) (by omega) (by omega) (by decide)
  unfold unchunkP
  rw [hl]
  exact h

end Go.Proofs.YtefnmlglpldgfaaDoor.Pure

namespace Go.Proofs.YtefnmlglpldgfaaDoor.Pure
set_option linter.unusedVariables false
set_option linter.unusedSimpArgs false
open Go.RowKit Go.Proofs.YtefnmlglpldgfaaDoor.QL Go.Proofs.YtefnmlglpldgfaaDoorW.PrintWords Go.Proofs.YtefnmlglpldgfaaDoorW.PrintLast Go.Proofs.YtefnmlglpldgfaaDoorW.PrintMore Go.Proofs.YtefnmlglpldgfaaDoor.Aux Go.Proofs.YtefnmlglpldgfaaDoor.Dom Go.Proofs.YtefnmlglpldgfaaDoor.Ext
theorem spec_Seconds_l0 (s : ByteArray) (hs : s.size ≤ 8388608) : ∀ (d : Nat) (n i : Int), 0 ≤ i → (s.size : Int) - i = d → 0 ≤ n → n ≤ 2147483648 →
    Ev (fun k => spec_Seconds.l0 k s n i) (if ((bytesOf s).drop i.toNat).all digC = true then (satV n ((bytesOf s).drop i.toNat), decide (0 < s.size)) else (0, false))
  | 0, n, i, h0, hd, hn, hm => by
    refine ev_last fun k => ?_
    simp only [spec_Seconds.l0]
    rw [if_neg (by omega), drop_end (by omega), if_pos (show ([] : List Int).all digC = true from rfl), satV]
    congr 2
    rw [decide_eq_decide]
    omega
  | d + 1, n, i, h0, hd, hn, hm => by
    have hlt : i < (s.size : Int) := by omega
    rw [drop_bt h0 hlt, List.all_cons]
    by_cases h1 : bt s i < 48
    · refine ev_last fun k => ?_
      simp only [spec_Seconds.l0]
      have e : digC (bt s i) = false := by rw [Bool.eq_false_iff, Ne, digC_iff]; omega
      rw [if_pos hlt, if_pos h0, if_pos h1, e]
      rfl
    · by_cases h2 : bt s i > 57
      · refine ev_last fun k => ?_
        simp only [spec_Seconds.l0]
        have e : digC (bt s i) = false := by rw [Bool.eq_false_iff, Ne, digC_iff]; omega
        rw [if_pos hlt, if_pos h0, if_neg h1, if_pos h2, e]
        rfl
      · have e : digC (bt s i) = true := digC_iff.2 (by omega)
        have w1 : wrap64 (n * 10) = n * 10 := wrap_id (by omega) (by omega)
        have w2 : (bt s i - 48) % 256 = bt s i - 48 := Int.emod_eq_of_lt (by omega) (by omega)
        have w3 : wrap64 (n * 10 + (bt s i - 48)) = n * 10 + (bt s i - 48) := wrap_id (by omega) (by omega)
        have hmn : 0 ≤ mn (n * 10 + (bt s i - 48)) 2147483648 ∧ mn (n * 10 + (bt s i - 48)) 2147483648 ≤ 2147483648 := by unfold mn; split <;> omega
        refine Ev.step (f := fun k => spec_Seconds.l0 k s (mn (n * 10 + (bt s i - 48)) 2147483648) (i + 1)) (fun k => ?_) (ev_eq (spec_Seconds_l0 s hs d _ (i + 1) (by omega) (by omega) hmn.1 hmn.2) (by rw [e, Bool.true_and, satV]))
        simp only [spec_Seconds.l0]
        rw [if_pos hlt, if_pos h0, if_neg h1, if_neg h2, w1, w2, w3, wrap_id (by omega) (by omega)]
theorem spec_Seconds_ev (s : ByteArray) (hs : s.size ≤ 8388608) : Ev (fun k => spec_Seconds.f k s) (secP (bytesOf s)) := by
  have h := spec_Seconds_l0 s hs s.size 0 0 (by omega) (by omega) (by omega) (by omega)
  unfold secP
  rw [bytesOf_length]
  exact h

end Go.Proofs.YtefnmlglpldgfaaDoor.Pure

namespace Go.Proofs.YtefnmlglpldgfaaDoor.Pure
set_option linter.unusedVariables false
set_option linter.unusedSimpArgs false
open Go.RowKit Go.Proofs.YtefnmlglpldgfaaDoor.QL Go.Proofs.YtefnmlglpldgfaaDoorW.PrintWords Go.Proofs.YtefnmlglpldgfaaDoorW.PrintLast Go.Proofs.YtefnmlglpldgfaaDoorW.PrintMore Go.Proofs.YtefnmlglpldgfaaDoor.Aux Go.Proofs.YtefnmlglpldgfaaDoor.Dom Go.Proofs.YtefnmlglpldgfaaDoor.Ext
theorem spec_BodyOf_ev (l : List S81) (s : ByteArray) (c : Bool) (hl : l.length ≤ 1048576) (hz : ¬ szF 1048576 (l.map fun x => (x.f0, x.f1)) < 0) (hs : s.size ≤ 8388608) : Ev (fun k => spec_BodyOf.f k l s c) (bodyP (l.map fun x => (x.f0, x.f1)) s c) := by
  have q1 := szF_sum nmTE (by omega) hz
  have q2 := szF_sum nmCL (by omega) hz
  have j1 := joinG_size nmTE _ (by omega) hz
  have j2 := joinG_size nmCL _ (by omega) hz
  refine Ev.congr (fun k => by unfold spec_BodyOf.f; rfl) (ev_bind (spec_FieldGet_ev l nmTE hl (by omega)) (ev_bind (spec_FieldGet_ev l nmCL hl (by omega)) (ev_bind (spec_Seconds_ev (joinG nmCL (l.map fun x => (x.f0, x.f1))) (by omega)) ?_)))
  have hb := secP_bd (bytesOf (joinG nmCL (l.map fun x => (x.f0, x.f1))))
  have low : spec_Lower.f (joinG nmTE (l.map fun x => (x.f0, x.f1))) = some (lowB (joinG nmTE (l.map fun x => (x.f0, x.f1)))) := spec_Lower_eq _ (by omega)
  unfold bodyP
  generalize secP (bytesOf (joinG nmCL (l.map fun x => (x.f0, x.f1)))) = q at hb ⊢
  obtain ⟨n, b⟩ := q
  simp only at hb
  have e1 : joinB ⟨#[44, 32]⟩ (getL nmTE (l.map fun x => (x.f0, x.f1))) = joinG nmTE (l.map fun x => (x.f0, x.f1)) := rfl
  simp only [e1]
  generalize joinG nmTE (l.map fun x => (x.f0, x.f1)) = te at low
  generalize (!(getL nmTE (l.map fun x => (x.f0, x.f1))).isEmpty) = bt
  generalize (!(getL nmCL (l.map fun x => (x.f0, x.f1))).isEmpty) = bl
  have fin : ∀ bl : Bool, Ev (fun k => spec_BodyOf.j0 k s c false bl n b false) (if bl = true then lenP (n, b) s else if c = true then (if (s.size : Int) > 60 then (⟨#[]⟩, 0, 2) else (s, (s.size : Int), 0)) else (⟨#[]⟩, 0, 0)) := by
    intro bl
    cases bl with
    | true =>
      rw [if_pos rfl]
      unfold lenP
      have hj : ∀ x : Bool, x = true → Ev (fun k => spec_BodyOf.j1 k s c true n x) ((⟨#[]⟩ : ByteArray), 0, 2) := fun x hx => ev_last fun k => by simp only [spec_BodyOf.j1]; rw [if_pos hx]
      cases b with
      | false =>
        rw [if_neg (fun h => by cases h.1)]
        refine Ev.step (f := fun k => spec_BodyOf.j1 k s c true n true) (fun k => ?_) (hj _ rfl)
        simp only [spec_BodyOf.j0]
        rw [if_neg (by decide), if_neg (by decide), if_pos (by trivial), if_neg (by decide)]
      | true =>
        refine Ev.step (f := fun k => spec_BodyOf.j1 k s c true n (decide (n > 60))) (fun k => ?_) ?_
        · simp only [spec_BodyOf.j0]
          rw [if_neg (by decide), if_neg (by decide), if_pos (by trivial), if_pos (by trivial)]
        · by_cases h3 : n > 60
          · rw [if_neg (fun h => by have := h.2; simp only at this; omega)]
            exact hj _ (decide_eq_true h3)
          · rw [if_pos ⟨rfl, by simp only; omega⟩]
            refine Ev.step (f := fun k => spec_BodyOf.j2 k s c true n (decide ((s.size : Int) < n))) (fun k => ?_) (ev_last fun k => ?_)
            · simp only [spec_BodyOf.j1]
              rw [if_neg (by rw [decide_eq_false h3]; decide), if_pos (by trivial)]
            · simp only [spec_BodyOf.j2]
              by_cases h4 : (s.size : Int) < n
              · rw [if_pos (decide_eq_true h4), if_pos h4]
              · rw [if_neg (by rw [decide_eq_false h4]; decide), if_pos (by trivial), if_neg h4, if_pos hb.1, if_pos (by omega)]
    | false =>
      rw [if_neg (by decide)]
      refine Ev.step (f := fun k => spec_BodyOf.j1 k s c false n false) (fun k => ?_) ?_
      · simp only [spec_BodyOf.j0]
        rw [if_neg (by decide), if_neg (by decide), if_neg (by decide)]
      refine Ev.step (f := fun k => spec_BodyOf.j2 k s c false n false) (fun k => ?_) ?_
      · simp only [spec_BodyOf.j1]
        rw [if_neg (by decide), if_neg (by decide)]
      cases c with
      | true =>
        rw [if_pos rfl]
        refine Ev.step (f := fun k => spec_BodyOf.j3 k s true (decide ((s.size : Int) > 60))) (fun k => ?_) (ev_last fun k => ?_)
        · simp only [spec_BodyOf.j2]
          rw [if_neg (by decide), if_neg (by decide), if_pos (by trivial)]
        · simp only [spec_BodyOf.j3]
          by_cases h4 : (s.size : Int) > 60
          · rw [if_pos (decide_eq_true h4), if_pos h4]
          · rw [if_neg (by rw [decide_eq_false h4]; decide), if_neg h4, if_pos (by trivial)]
      | false =>
        rw [if_neg (by decide)]
        refine Ev.step (f := fun k => spec_BodyOf.j3 k s false false) (fun k => ?_) (ev_last fun k => ?_)
        · simp only [spec_BodyOf.j2]
          rw [if_neg (by decide), if_neg (by decide), if_neg (by decide)]
        · simp only [spec_BodyOf.j3]
          rw [if_neg (by decide), if_neg (by decide)]
  cases bt with
  | true =>
    rw [if_pos rfl]
    refine ev_if_pos rfl (ev_bind (ev_some fun _ => low) ?_)
    have bad : Ev (fun k => spec_BodyOf.j0 k s c true bl n b true) ((⟨#[]⟩ : ByteArray), 0, 2) := ev_last fun k => by simp only [spec_BodyOf.j0]; rw [if_pos (by trivial)]
    by_cases h2 : lowB te = chunkedW
    · rw [if_pos h2]
      refine ev_if_pos ((chunked_lit _).2 h2) ?_
      cases bl with
      | true => rw [if_pos rfl]; exact bad
      | false =>
        rw [if_neg (by decide)]
        refine Ev.step (fun k => by simp only [spec_BodyOf.j0]; rw [if_neg (by decide), if_pos (by trivial)]) (ev_bind (spec_Unchunk_ev s hs) (Ev.now _))
    · rw [if_neg h2]
      exact ev_if_neg (fun h => h2 ((chunked_lit _).1 h)) bad
  | false =>
    rw [if_neg (by decide)]
    exact ev_if_neg (by decide) (fin bl)

end Go.Proofs.YtefnmlglpldgfaaDoor.Pure

namespace Go.Proofs.YtefnmlglpldgfaaDoor.Pure
set_option linter.unusedVariables false
set_option linter.unusedSimpArgs false
open Go.RowKit Go.Proofs.YtefnmlglpldgfaaDoor.QL Go.Proofs.YtefnmlglpldgfaaDoorW.PrintWords Go.Proofs.YtefnmlglpldgfaaDoorW.PrintLast Go.Proofs.YtefnmlglpldgfaaDoorW.PrintMore Go.Proofs.YtefnmlglpldgfaaDoor.Aux Go.Proofs.YtefnmlglpldgfaaDoor.Dom Go.Proofs.YtefnmlglpldgfaaDoor.Ext
theorem impl_FieldGet_l0 (l : List S81) (nm : ByteArray) (hl : l.length ≤ 1048576) (V : List ByteArray) (hV : (V.map fun v => v.size + 2).sum ≤ 8388608) (hW : V.length ≤ 1048576) : ∀ (d : Nat) (acc : List ByteArray) (i : Int), 0 ≤ i → (l.length : Int) - i = d → acc ++ getL nm ((l.drop i.toNat).map fun x => (x.f0, x.f1)) = V →
    Ev (fun k => impl_FieldGet.l0 k nm acc l (l.length : Int) i) (joinB ⟨#[44, 32]⟩ V, !V.isEmpty)
  | 0, acc, i, h0, hd, ha => by
    refine ev_last fun k => ?_
    simp only [impl_FieldGet.l0]
    rw [drop_nil (by omega)] at ha
    simp only [List.map_nil, getL, List.append_nil] at ha
    subst ha
    have hs : (joinB ⟨#[44, 32]⟩ acc).size ≤ (acc.map fun v => v.size + 2).sum := joinB_size ⟨#[44, 32]⟩ acc
    rw [if_neg (by omega), strings_Join.f, if_pos ⟨by omega, by omega⟩, Option.bind_some]
    cases acc <;> simp
  | d + 1, acc, i, h0, hd, ha => by
    have hlt : i < (l.length : Int) := by omega
    have hdrop : l.drop i.toNat = rd_T81 l i :: l.drop (i + 1).toNat := drop_rdOf (d := z81) h0 hlt
    rw [hdrop] at ha
    simp only [List.map_cons, getL] at ha
    by_cases h : (rd_T81 l i).f0 = nm
    · rw [if_pos h] at ha
      have hlen : acc.length < 8796093022208 := by
        have := congrArg List.length ha
        simp at this
        omega
      refine Ev.step (f := fun k => impl_FieldGet.l0 k nm (acc ++ [(rd_T81 l i).f1]) l (l.length : Int) (i + 1)) (fun k => ?_) (impl_FieldGet_l0 l nm hl V hV hW d (acc ++ [(rd_T81 l i).f1]) (i + 1) (by omega) (by omega) (by rw [← ha]; simp))
      simp only [impl_FieldGet.l0]
      rw [if_pos hlt, if_pos h0, if_pos hlt, if_pos (by rw [h]), if_pos hlen, wrap_id (by omega) (by omega)]
    · rw [if_neg h] at ha
      refine Ev.step (f := fun k => impl_FieldGet.l0 k nm acc l (l.length : Int) (i + 1)) (fun k => ?_) (impl_FieldGet_l0 l nm hl V hV hW d acc (i + 1) (by omega) (by omega) ha)
      simp only [impl_FieldGet.l0]
      rw [if_pos hlt, if_pos h0, if_pos hlt, if_neg (by rw [toList_eq_iff]; exact h), wrap_id (by omega) (by omega)]
theorem impl_FieldGet_ev (l : List S81) (nm : ByteArray) (hl : l.length ≤ 1048576) (hV : ((getL nm (l.map fun x => (x.f0, x.f1))).map fun v => v.size + 2).sum ≤ 8388608) : Ev (fun k => impl_FieldGet.f k l nm) (joinB ⟨#[44, 32]⟩ (getL nm (l.map fun x => (x.f0, x.f1))), !(getL nm (l.map fun x => (x.f0, x.f1))).isEmpty) := by
  have hW := getL_length nm (l.map fun x => (x.f0, x.f1))
  rw [List.length_map] at hW
  have h := impl_FieldGet_l0 l nm hl _ hV (by omega) l.length [] 0 (by omega) (by omega) (by simp)
  simpa [impl_FieldGet.f] using h

end Go.Proofs.YtefnmlglpldgfaaDoor.Pure

namespace Go.Proofs.YtefnmlglpldgfaaDoor.Pure
set_option linter.unusedVariables false
set_option linter.unusedSimpArgs false
open Go.RowKit Go.Proofs.YtefnmlglpldgfaaDoor.QL Go.Proofs.YtefnmlglpldgfaaDoorW.PrintWords Go.Proofs.YtefnmlglpldgfaaDoorW.PrintLast Go.Proofs.YtefnmlglpldgfaaDoorW.PrintMore Go.Proofs.YtefnmlglpldgfaaDoor.Aux Go.Proofs.YtefnmlglpldgfaaDoor.Dom Go.Proofs.YtefnmlglpldgfaaDoor.Ext
theorem impl_Lower_eq (s : ByteArray) (hs : s.size ≤ 8388608) : impl_Lower.f s = some (strOfNums ((bytesOf s).map lowC)) := by unfold impl_Lower.f; rw [if_pos hs]

end Go.Proofs.YtefnmlglpldgfaaDoor.Pure

namespace Go.Proofs.YtefnmlglpldgfaaDoor.Pure
set_option linter.unusedVariables false
set_option linter.unusedSimpArgs false
open Go.RowKit Go.Proofs.YtefnmlglpldgfaaDoor.QL Go.Proofs.YtefnmlglpldgfaaDoorW.PrintWords Go.Proofs.YtefnmlglpldgfaaDoorW.PrintLast Go.Proofs.YtefnmlglpldgfaaDoorW.PrintMore Go.Proofs.YtefnmlglpldgfaaDoor.Aux Go.Proofs.YtefnmlglpldgfaaDoor.Dom Go.Proofs.YtefnmlglpldgfaaDoor.Ext
theorem impl_in_eq (a b c : Int) : impl_in.f a b c = some (decide (b ≤ a ∧ a ≤ c)) := by
  unfold impl_in.f
  by_cases h : a ≥ b
  · rw [if_pos h]; simp [show b ≤ a from h]
  · rw [if_neg h]; simp [show ¬ b ≤ a from h]

end Go.Proofs.YtefnmlglpldgfaaDoor.Pure

namespace Go.Proofs.YtefnmlglpldgfaaDoor.Pure
set_option linter.unusedVariables false
set_option linter.unusedSimpArgs false
open Go.RowKit Go.Proofs.YtefnmlglpldgfaaDoor.QL Go.Proofs.YtefnmlglpldgfaaDoorW.PrintWords Go.Proofs.YtefnmlglpldgfaaDoorW.PrintLast Go.Proofs.YtefnmlglpldgfaaDoorW.PrintMore Go.Proofs.YtefnmlglpldgfaaDoor.Aux Go.Proofs.YtefnmlglpldgfaaDoor.Dom Go.Proofs.YtefnmlglpldgfaaDoor.Ext
theorem strings_IndexByte_eq (s : ByteArray) (c : Int) (h0 : 0 ≤ c) (h1 : c < 256) : strings_IndexByte.f s c = some (idxB (bytesOf s) c) := by unfold strings_IndexByte.f; rw [if_pos ⟨h0, h1⟩]

end Go.Proofs.YtefnmlglpldgfaaDoor.Pure

namespace Go.Proofs.YtefnmlglpldgfaaDoor.Pure
set_option linter.unusedVariables false
set_option linter.unusedSimpArgs false
open Go.RowKit Go.Proofs.YtefnmlglpldgfaaDoor.QL Go.Proofs.YtefnmlglpldgfaaDoorW.PrintWords Go.Proofs.YtefnmlglpldgfaaDoorW.PrintLast Go.Proofs.YtefnmlglpldgfaaDoorW.PrintMore Go.Proofs.YtefnmlglpldgfaaDoor.Aux Go.Proofs.YtefnmlglpldgfaaDoor.Dom Go.Proofs.YtefnmlglpldgfaaDoor.Ext
theorem impl_hexdigit (c : Int) (h0 : 0 ≤ c) (h1 : c < 256) : strings_IndexByte.f (⟨#[48, 49, 50, 51, 52, 53, 54, 55, 56, 57, 97, 98, 99, 100, 101, 102]⟩ : ByteArray) c = some (idxB hexDs c) := strings_IndexByte_eq _ c h0 h1
theorem impl_hexV {c : Int} (h0 : 0 ≤ c) (h1 : c < 256) : hexV c = if 65 ≤ c ∧ c ≤ 70 then c - 55 else idxB hexDs c :=
  byte_all (P := fun c => hexV c = if 65 ≤ c ∧ c ≤ 70 then c - 55 else idxB hexDs c) (by decide +kernel) h0 h1
theorem impl_ReadHexNum_l0 (s : ByteArray) (hs : s.size ≤ 8388608) : ∀ (d : Nat) (n i : Int), 0 ≤ i → (s.size : Int) - i = d →
    Ev (fun k => impl_ReadHexNum.l0 k s n (s.size : Int) i) (bif (((bytesOf s).drop i.toNat).all fun c => decide (0 ≤ hexV c)) then (hexW n ((bytesOf s).drop i.toNat), true) else (0, false))
  | 0, n, i, h0, hd => by
    refine ev_last fun k => ?_
    simp only [impl_ReadHexNum.l0]
    rw [if_neg (by omega), drop_end (by omega)]
    simp [hexW]
  | d + 1, n, i, h0, hd => by
    have hb := bt_bound s i
    have hlt : i < (s.size : Int) := by omega
    have wi : wrap64 (i + 1) = i + 1 := wrap_id (by omega) (by omega)
    have hvv := impl_hexV hb.1 hb.2
    rw [drop_bt h0 hlt]
    simp only [List.all_cons, hexW]
    by_cases hd3 : 65 ≤ bt s i ∧ bt s i ≤ 70
    · rw [if_pos hd3] at hvv
      refine Ev.step (f := fun k => impl_ReadHexNum.j1 k s n i (idxB hexDs (bt s i)) (s.size : Int) i true) (fun k => ?_) (Ev.step (f := fun k => impl_ReadHexNum.l0 k s (wrap64 (n * 16 + hexV (bt s i))) (s.size : Int) (i + 1)) (fun k => ?_) (ev_eq (impl_ReadHexNum_l0 s hs d _ (i + 1) (by omega) (by omega)) (by rw [decide_eq_true (show 0 ≤ hexV (bt s i) by omega), Bool.true_and])))
      · simp only [impl_ReadHexNum.l0]
        rw [if_pos hlt, if_pos h0, if_pos hlt, impl_hexdigit _ hb.1 hb.2, Option.bind_some, if_pos (by omega), decide_eq_true (by omega)]
      · simp only [impl_ReadHexNum.j1]
        rw [if_pos trivial, if_pos h0, if_pos hlt, if_neg (by omega), wi, wrap_wrap, hvv, Int.emod_eq_of_lt (by omega) (by omega), show 16 * n + (bt s i - 65 + 10) = n * 16 + (bt s i - 55) by omega]
    · rw [if_neg hd3] at hvv
      have hj1 : ∀ k, impl_ReadHexNum.l0 (k + 1) s n (s.size : Int) i = impl_ReadHexNum.j1 k s n i (idxB hexDs (bt s i)) (s.size : Int) i false := by
        intro k
        simp only [impl_ReadHexNum.l0]
        rw [if_pos hlt, if_pos h0, if_pos hlt, impl_hexdigit _ hb.1 hb.2, Option.bind_some]
        by_cases h65 : bt s i ≥ 65
        · rw [if_pos h65, decide_eq_false (by omega)]
        · rw [if_neg h65]
      refine Ev.step hj1 ?_
      rw [hvv]
      by_cases hx : idxB hexDs (bt s i) < 0
      · refine ev_last fun k => ?_
        simp only [impl_ReadHexNum.j1]
        rw [if_neg (by decide), if_pos hx, decide_eq_false (by omega)]
        simp
      · refine Ev.step (f := fun k => impl_ReadHexNum.l0 k s (wrap64 (n * 16 + idxB hexDs (bt s i))) (s.size : Int) (i + 1)) (fun k => ?_) (ev_eq (impl_ReadHexNum_l0 s hs d _ (i + 1) (by omega) (by omega)) (by rw [decide_eq_true (show 0 ≤ idxB hexDs (bt s i) by omega), Bool.true_and]))
        simp only [impl_ReadHexNum.j1]
        rw [if_neg (by decide), if_neg hx, wi, wrap_wrap, show 16 * n + idxB hexDs (bt s i) = n * 16 + idxB hexDs (bt s i) by omega]
theorem impl_ReadHexNum_ev (s : ByteArray) (hs : s.size ≤ 8388608) : Ev (fun k => impl_ReadHexNum.f k s) (readHexP (bytesOf s)) := by
  refine Ev.congr (fun k => by unfold impl_ReadHexNum.f; rw [impl_in_eq, Option.bind_some]) ?_
  unfold readHexP
  rw [bytesOf_length]
  by_cases h : 1 ≤ (s.size : Int) ∧ (s.size : Int) ≤ 6
  · refine ev_if_pos (by simpa using h) (ev_eq (impl_ReadHexNum_l0 s hs s.size 0 0 (by omega) (by omega)) ?_)
    rw [decide_eq_true h, Bool.and_true]; rfl
  · refine ev_if_neg (by simpa using h) (ev_eq (Ev.now _) ?_)
    rw [decide_eq_false h, Bool.and_false]; rfl

end Go.Proofs.YtefnmlglpldgfaaDoor.Pure

namespace Go.Proofs.YtefnmlglpldgfaaDoor.Pure
set_option linter.unusedVariables false
set_option linter.unusedSimpArgs false
open Go.RowKit Go.Proofs.YtefnmlglpldgfaaDoor.QL Go.Proofs.YtefnmlglpldgfaaDoorW.PrintWords Go.Proofs.YtefnmlglpldgfaaDoorW.PrintLast Go.Proofs.YtefnmlglpldgfaaDoorW.PrintMore Go.Proofs.YtefnmlglpldgfaaDoor.Aux Go.Proofs.YtefnmlglpldgfaaDoor.Dom Go.Proofs.YtefnmlglpldgfaaDoor.Ext
theorem strings_Cut_eq (s sep : ByteArray) (hs : s.size ≤ 8388608) : strings_Cut.f s sep = some (strOfNums (cutL (bytesOf s) (bytesOf sep)).1, strOfNums (cutL (bytesOf s) (bytesOf sep)).2.1, (cutL (bytesOf s) (bytesOf sep)).2.2) := by unfold strings_Cut.f; rw [if_pos hs]

end Go.Proofs.YtefnmlglpldgfaaDoor.Pure

namespace Go.Proofs.YtefnmlglpldgfaaDoor.Pure
set_option linter.unusedVariables false
set_option linter.unusedSimpArgs false
open Go.RowKit Go.Proofs.YtefnmlglpldgfaaDoor.QL Go.Proofs.YtefnmlglpldgfaaDoorW.PrintWords Go.Proofs.YtefnmlglpldgfaaDoorW.PrintLast Go.Proofs.YtefnmlglpldgfaaDoorW.PrintMore Go.Proofs.YtefnmlglpldgfaaDoor.Aux Go.Proofs.YtefnmlglpldgfaaDoor.Dom Go.Proofs.YtefnmlglpldgfaaDoor.Ext
theorem impl_piece_ev (s : ByteArray) (hs : s.size ≤ 8388608) (ahead : Int) (h0 : 0 ≤ ahead) (h1 : ahead ≤ 60) : Ev (fun k => impl_piece.f k s ahead) (pieceP (bytesOf s) ahead) := by
  have hl := bytesOf_length s
  have hx := idxS_bound [13, 10] (bytesOf s)
  simp only [List.length_cons, List.length_nil] at hx
  refine Ev.congr (fun k => by unfold impl_piece.f; rw [strings_Cut_eq s _ hs, Option.bind_some]) ?_
  have eb : bytesOf (⟨#[13, 10]⟩ : ByteArray) = [13, 10] := by decide +kernel
  rw [eb]
  unfold cutL pieceP
  by_cases hi : idxS (bytesOf s) [13, 10] < 0
  · rw [if_neg (show ¬ 0 ≤ idxS (bytesOf s) [13, 10] by omega), if_pos hi]
    refine ev_if_neg (fun hh => by cases hh) ?_
    rw [hl]
    exact ev_ite (fun _ => Ev.now _) (fun _ => Ev.now _)
  · rw [if_pos (show 0 ≤ idxS (bytesOf s) [13, 10] by omega), if_neg hi]
    refine ev_if_pos rfl ?_
    simp only
    have hline : bytesOf (strOfNums ((bytesOf s).take (idxS (bytesOf s) [13, 10]).toNat)) = (bytesOf s).take (idxS (bytesOf s) [13, 10]).toNat := bytesOf_strOfNums fun c hc => bytesOf_range (List.mem_of_mem_take hc)
    have hrest : bytesOf (strOfNums ((bytesOf s).drop ((idxS (bytesOf s) [13, 10]).toNat + 2))) = (bytesOf s).drop ((idxS (bytesOf s) [13, 10]).toNat + 2) := bytesOf_strOfNums fun c hc => bytesOf_range (List.mem_of_mem_drop hc)
    have hh := impl_ReadHexNum_ev (strOfNums ((bytesOf s).take (idxS (bytesOf s) [13, 10]).toNat)) (by rw [strOfNums_size, List.length_take]; omega)
    rw [hline] at hh
    refine ev_bind hh ?_
    have hbd := @readHexP_bound ((bytesOf s).take (idxS (bytesOf s) [13, 10]).toNat)
    generalize readHexP ((bytesOf s).take (idxS (bytesOf s) [13, 10]).toNat) = h at hbd
    have hbad : ∀ k a b c, impl_piece.j0 (k + 1) a b c true = some ((⟨#[]⟩ : ByteArray), 0, 2) := fun k a b c => by simp only [impl_piece.j0]; rw [if_pos trivial]
    by_cases hok : h.2 = true
    · have hb := hbd hok
      refine ev_if_pos hok ?_
      rw [wrap_id (x := ahead + h.1) (by omega) (by omega)]
      by_cases h60 : ahead + h.1 > 60
      · rw [decide_eq_true h60, if_pos (fun hh => by omega)]
        exact ev_last fun k => hbad k _ _ _
      · rw [decide_eq_false h60, if_neg (fun hn => hn ⟨hok, by omega⟩)]
        have hl2 : (idxS (bytesOf s) [13, 10]).toNat + ([13, 10] : List Int).length = (idxS (bytesOf s) [13, 10]).toNat + 2 := rfl
        rw [hl2]
        have hsz : ((strOfNums ((bytesOf s).drop ((idxS (bytesOf s) [13, 10]).toNat + 2))).size : Int) = (((bytesOf s).drop ((idxS (bytesOf s) [13, 10]).toNat + 2)).length : Int) := by rw [strOfNums_size]
        have hlen : (((bytesOf s).drop ((idxS (bytesOf s) [13, 10]).toNat + 2)).length : Int) ≤ 8388608 := by rw [List.length_drop]; omega
        refine Ev.step (fun k => by simp only [impl_piece.j0]; rw [if_neg (by decide), hsz, wrap_id (x := h.1 + 2) (by omega) (by omega)]) ?_
        refine ev_ite (fun _ => Ev.now _) (fun h3 => ?_)
        refine Ev.congr (fun k => by rw [if_pos hb.1, if_pos (by omega), if_pos (by omega)]) ?_
        have hcmp : ((strOfNums ((bytesOf s).drop ((idxS (bytesOf s) [13, 10]).toNat + 2))).extract h.1.toNat (h.1 + 2).toNat).toList = ([13, 10] : List UInt8) ↔ (((bytesOf s).drop ((idxS (bytesOf s) [13, 10]).toNat + 2)).drop h.1.toNat).take 2 = [13, 10] := by
          rw [toList_lit, bytesOf_extract, hrest, List.drop_take, show (h.1 + 2).toNat - h.1.toNat = 2 by omega]
          rfl
        by_cases h4 : (((bytesOf s).drop ((idxS (bytesOf s) [13, 10]).toNat + 2)).drop h.1.toNat).take 2 = [13, 10]
        · rw [if_pos h4]
          refine ev_if_pos (hcmp.2 h4) (ev_if_pos (by omega) (ev_eq (Ev.now _) ?_))
          have e1 : (strOfNums ((bytesOf s).drop ((idxS (bytesOf s) [13, 10]).toNat + 2))).extract 0 h.1.toNat = strOfNums (((bytesOf s).drop ((idxS (bytesOf s) [13, 10]).toNat + 2)).take h.1.toNat) := by
            refine bytesOf_inj ?_
            rw [bytesOf_extract, hrest, bytesOf_strOfNums (fun c hc => bytesOf_range (List.mem_of_mem_drop (List.mem_of_mem_take hc)))]
            simp
          rw [e1, strOfNums_size, List.length_take, wrap_id (x := _ + h.1) (by omega) (by omega), wrap_id (by omega) (by omega)]
          congr 2
          omega
        · rw [if_neg h4]
          exact ev_if_neg (fun hh => h4 (hcmp.1 hh)) (Ev.now _)
    · rw [if_pos (fun hh => hok hh.1)]
      exact ev_if_neg hok (ev_last fun k => hbad k _ _ _)

end Go.Proofs.YtefnmlglpldgfaaDoor.Pure

namespace Go.Proofs.YtefnmlglpldgfaaDoor.Pure
set_option linter.unusedVariables false
set_option linter.unusedSimpArgs false
open Go.RowKit Go.Proofs.YtefnmlglpldgfaaDoor.QL Go.Proofs.YtefnmlglpldgfaaDoorW.PrintWords Go.Proofs.YtefnmlglpldgfaaDoorW.PrintLast Go.Proofs.YtefnmlglpldgfaaDoorW.PrintMore Go.Proofs.YtefnmlglpldgfaaDoor.Aux Go.Proofs.YtefnmlglpldgfaaDoor.Dom Go.Proofs.YtefnmlglpldgfaaDoor.Ext
theorem impl_Unchunk_l0 (s : ByteArray) (hs : s.size ≤ 8388608) : ∀ (d : Nat) (out : ByteArray) (i : Int), 0 ≤ i → i ≤ (s.size : Int) → (s.size : Int) - i < d → out.size ≤ 60 →
    Ev (fun k => impl_Unchunk.l0 k s out i) (unchP (bytesOf s) d out i)
  | 0, out, i, h0, h1, hd, ho => by omega
  | d + 1, out, i, h0, h1, hd, ho => by
    have hl := bytesOf_length s
    have he : bytesOf (s.extract i.toNat s.size) = (bytesOf s).drop i.toNat := by
      rw [bytesOf_extract, List.take_of_length_le (by omega)]
    have hp := impl_piece_ev (s.extract i.toNat s.size) (by rw [← bytesOf_length, he, List.length_drop]; omega) out.size (by omega) (by omega)
    rw [he] at hp
    refine Ev.step (fun k => by simp only [impl_Unchunk.l0]; rw [if_pos h0, if_pos h1]) (ev_bind hp ?_)
    rw [unchP]
    refine ev_ite (fun hc => ?_) (fun hc => Ev.now _)
    obtain ⟨q0, q1, q2, q3, q4⟩ := pieceP_ok hc (by omega)
    have hb := readHexP_bound q1
    rw [List.length_drop] at q3
    have e21 : (pieceP ((bytesOf s).drop i.toNat) out.size).2.1 = idxS ((bytesOf s).drop i.toNat) [13, 10] + (readHexP (((bytesOf s).drop i.toNat).take (idxS ((bytesOf s).drop i.toNat) [13, 10]).toNat)).1 + 4 := by rw [q4]
    have e1 : (pieceP ((bytesOf s).drop i.toNat) out.size).1.size = (readHexP (((bytesOf s).drop i.toNat).take (idxS ((bytesOf s).drop i.toNat) [13, 10]).toNat)).1.toNat := by
      rw [q4, strOfNums_size, List.length_take, List.length_drop, List.length_drop]
      omega
    rw [wrap_id (x := i + _) (by omega) (by omega)]
    by_cases hz : (pieceP ((bytesOf s).drop i.toNat) out.size).1 = ⟨#[]⟩
    · rw [if_pos hz]
      exact ev_if_pos ((toList_lit _ _).2 (by rw [hz]; rfl)) (Ev.now _)
    · rw [if_neg hz]
      refine ev_if_neg (fun hh => hz (bytesOf_inj (by rw [(toList_lit _ _).1 hh]; rfl))) (ev_if_pos (by omega) ?_)
      exact impl_Unchunk_l0 s hs d _ _ (by omega) (by omega) (by omega) (by rw [ByteArray.size_append]; omega)
theorem impl_Unchunk_ev (s : ByteArray) (hs : s.size ≤ 8388608) : Ev (fun k => impl_Unchunk.f k s) (unchunkP (bytesOf s)) := by
  have hl := bytesOf_length s
  have h := impl_Unchunk_l0 s hs (s.size + 1) ⟨#[]⟩ 0 (by omega) (by omega) (by omega) (by decide)
  unfold unchunkP
  rw [hl]
  exact h

end Go.Proofs.YtefnmlglpldgfaaDoor.Pure

namespace Go.Proofs.YtefnmlglpldgfaaDoor.Pure
set_option linter.unusedVariables false
set_option linter.unusedSimpArgs false
open Go.RowKit Go.Proofs.YtefnmlglpldgfaaDoor.QL Go.Proofs.YtefnmlglpldgfaaDoorW.PrintWords Go.Proofs.YtefnmlglpldgfaaDoorW.PrintLast Go.Proofs.YtefnmlglpldgfaaDoorW.PrintMore Go.Proofs.YtefnmlglpldgfaaDoor.Aux Go.Proofs.YtefnmlglpldgfaaDoor.Dom Go.Proofs.YtefnmlglpldgfaaDoor.Ext
theorem strconv_Atoi_short (s : ByteArray) (n : Int) (hs : s.size ≤ 18) (h : Lib.atoi s.data.toList = some n) : strconv_Atoi.f s = some (n, none) := by
  unfold strconv_Atoi.f
  rw [if_pos (by omega), Lib.atoiAll_short _ (by rw [← Lib.size_eq]; exact hs), h]
  rfl
theorem strconv_Atoi_nil : strconv_Atoi.f ⟨#[]⟩ = some (0, some 0) := rfl
theorem atoi_dig (ds : List Int) (hd : ds.all digC = true) (hne : ds ≠ []) : Lib.atoi (strOfNums ds).data.toList = some (valL 0 ds) := by
  have hr : bytesOf (strOfNums ds) = ds := bytesOf_strOfNums fun c hc => by
    have := digC_iff.1 (List.all_eq_true.1 hd c hc)
    omega
  have hm : ((strOfNums ds).data.toList.map fun b : UInt8 => (b.toNat : Int)) = ds := hr
  obtain ⟨m, h1, h2⟩ := decFrom_val (strOfNums ds).data.toList 0 (by rw [hm]; exact hd)
  rw [hm] at h2
  cases hl : (strOfNums ds).data.toList with
  | nil => rw [hl] at hm; exact absurd hm.symm hne
  | cons b r =>
    rw [hl] at hm h1
    have hb : digC (b.toNat : Int) = true := by
      rw [← hm] at hd
      rw [List.map_cons, List.all_cons, Bool.and_eq_true] at hd
      exact hd.1
    rw [digC_iff] at hb
    have n45 : (b == 45) = false := beq_eq_false_iff_ne.mpr fun e => by subst e; simp at hb
    have n43 : (b == 43) = false := beq_eq_false_iff_ne.mpr fun e => by subst e; simp at hb
    rw [Lib.atoi, if_neg (by rw [n45]; decide), if_neg (by rw [n43]; decide), Lib.decNat, if_neg (by simp), h1, Option.map_some, h2]
    rfl
theorem strconv_Atoi_dig (ds : List Int) (hd : ds.all digC = true) (hne : ds ≠ []) (hl : ds.length ≤ 18) : strconv_Atoi.f (strOfNums ds) = some (valL 0 ds, none) :=
  strconv_Atoi_short _ _ (by rw [strOfNums_size]; exact hl) (atoi_dig ds hd hne)
theorem strconv_Atoi_dec (ds : List Int) (hd : ds.all digC = true) (hl : ds.length ≤ 10) : strconv_Atoi.f ((⟨#[48]⟩ : ByteArray) ++ strOfNums ds) = some (valL 0 ds, none) := by
  have e : (⟨#[48]⟩ : ByteArray) ++ strOfNums ds = strOfNums (48 :: ds) := by
    rw [show (48 :: ds : List Int) = [48] ++ ds from rfl, strOfNums_append]
    rfl
  rw [e, strconv_Atoi_dig (48 :: ds) (by rw [List.all_cons, hd]; rfl) (by simp) (by simp; omega)]
  rfl
theorem valL_decL : ∀ (f : Nat) (n : Int) (acc : List Int), 0 ≤ n → n < 10 ^ f → valL 0 (decL f n acc) = valL n acc
  | 0, n, acc, h0, h => by
    have : n = 0 := by simp at h; omega
    subst this; rfl
  | f + 1, n, acc, h0, h => by
    rw [decL]
    split
    · rw [valL_decL f (n / 10) _ (by omega) (by rw [Int.pow_succ] at h; omega), valL]
      congr 1
      omega
    · have : n = 0 := by omega
      subst this; rfl
theorem decL_dig : ∀ (f : Nat) (n : Int) (acc : List Int), 0 ≤ n → acc.all digC = true → (decL f n acc).all digC = true
  | 0, n, acc, h0, h => h
  | f + 1, n, acc, h0, h => by
    rw [decL]
    split
    · refine decL_dig f (n / 10) _ (by omega) ?_
      rw [List.all_cons, h, Bool.and_true, digC_iff]
      omega
    · exact h
theorem decL_ne : ∀ (f : Nat) (n : Int) (acc : List Int), acc ≠ [] → decL f n acc ≠ []
  | 0, n, acc, h => h
  | f + 1, n, acc, h => by
    rw [decL]
    split
    · exact decL_ne f (n / 10) _ (by simp)
    · exact h
/-- A numeral's digits: all digits, some, they tell the number; at most nine of them where it is less than a thousand million. -/
theorem decL_facts {n : Int} (h0 : 0 < n) (h1 : n ≤ 999999999) : (decL 20 n []).all digC = true ∧ decL 20 n [] ≠ [] ∧ valL 0 (decL 20 n []) = n ∧ (decL 20 n []).length ≤ 9 := by
  have hp : (10 : Int) ^ 9 = 1000000000 := by decide
  have hp2 : (10 : Int) ^ 20 = 100000000000000000000 := by decide
  refine ⟨decL_dig 20 n [] (by omega) rfl, ?_, ?_, ?_⟩
  · rw [show (20 : Nat) = 19 + 1 from rfl, decL, if_pos (by omega)]
    exact decL_ne 19 _ _ (by simp)
  · rw [valL_decL 20 n [] (by omega) (by omega)]; rfl
  · rw [show (20 : Nat) = 9 + 11 from rfl, decL_more 11 9 n [] (by omega)]
    have := decL_length 9 n []
    simpa using this
theorem atoi_decB {n : Int} (h0 : -999999999 ≤ n) (h1 : n ≤ 999999999) : Lib.atoi (decB n).data.toList = some n := by
  unfold decB decP
  by_cases hz : n = 0
  · subst hz; rfl
  · rw [if_neg hz]
    by_cases hn : n < 0
    · rw [if_pos hn]
      obtain ⟨a1, a2, a3, a4⟩ := decL_facts (n := -n) (by omega) (by omega)
      generalize decL 20 (-n) [] = ds at a1 a2 a3 a4
      have hr : bytesOf (strOfNums ds) = ds := bytesOf_strOfNums fun c hc => by
        have := digC_iff.1 (List.all_eq_true.1 a1 c hc)
        omega
      have hm : ((strOfNums ds).data.toList.map fun b : UInt8 => (b.toNat : Int)) = ds := hr
      obtain ⟨m, h1, h2⟩ := decFrom_val (strOfNums ds).data.toList 0 (by rw [hm]; exact a1)
      rw [hm] at h2
      have e1 : (strOfNums (45 :: ds)).data.toList = 45 :: (strOfNums ds).data.toList := by
        rw [show (45 :: ds : List Int) = [45] ++ ds from rfl, strOfNums_append, ByteArray.data_append, Array.toList_append]
        rfl
      have hne : (strOfNums ds).data.toList.isEmpty = false := by
        cases hl : (strOfNums ds).data.toList with
        | nil => rw [hl] at hm; exact absurd hm.symm a2
        | cons b r => rfl
      rw [e1, Lib.atoi, if_pos (by decide), Lib.decNat, if_neg (by rw [hne]; decide), h1, Option.map_some, h2]
      congr 1
      have : ((0 : Nat) : Int) = 0 := rfl
      rw [this, a3]
      omega
    · rw [if_neg hn]
      obtain ⟨a1, a2, a3, a4⟩ := decL_facts (n := n) (by omega) (by omega)
      rw [atoi_dig _ a1 a2, a3]
theorem decB_size {n : Int} (h0 : -999999999 ≤ n) (h1 : n ≤ 999999999) : (decB n).size ≤ 10 := by
  unfold decB decP
  rw [strOfNums_size]
  by_cases hz : n = 0
  · rw [if_pos hz]; simp
  · rw [if_neg hz]
    by_cases hn : n < 0
    · rw [if_pos hn]
      have := (decL_facts (n := -n) (by omega) (by omega)).2.2.2
      simp; omega
    · rw [if_neg hn]
      have := (decL_facts (n := n) (by omega) (by omega)).2.2.2
      omega
theorem decB_inj {n m : Int} (h0 : -999999999 ≤ n) (h1 : n ≤ 999999999) (h2 : -999999999 ≤ m) (h3 : m ≤ 999999999) (h : decB n = decB m) : n = m := by
  have a := atoi_decB h0 h1
  rw [h, atoi_decB h2 h3] at a
  exact (Option.some.inj a).symm
open Classical in
/-- The number of nine digits at most whose numeral a text is. -/
noncomputable def decOf (s : ByteArray) : Option Int := if h : ∃ n, -999999999 ≤ n ∧ n ≤ 999999999 ∧ decB n = s then some h.choose else none
theorem decOf_some {s : ByteArray} {n : Int} (h0 : -999999999 ≤ n) (h1 : n ≤ 999999999) (h : decB n = s) : decOf s = some n := by
  have hx : ∃ n, -999999999 ≤ n ∧ n ≤ 999999999 ∧ decB n = s := ⟨n, h0, h1, h⟩
  unfold decOf
  rw [dif_pos hx]
  obtain ⟨a, b, c⟩ := hx.choose_spec
  exact congrArg some (decB_inj a b h0 h1 (c.trans h.symm))
theorem decOf_spec {s : ByteArray} {n : Int} (h : decOf s = some n) : -999999999 ≤ n ∧ n ≤ 999999999 ∧ decB n = s := by
  unfold decOf at h
  split at h
  · rename_i hx
    obtain rfl := Option.some.inj h
    exact hx.choose_spec
  · cases h
/-- What ReadDec tells. -/
noncomputable def readDecP (s : ByteArray) : Int × Bool := match decOf s with
  | some n => (n, true)
  | none => (0, false)

end Go.Proofs.YtefnmlglpldgfaaDoor.Pure

namespace Go.Proofs.YtefnmlglpldgfaaDoor.Pure
set_option linter.unusedVariables false
set_option linter.unusedSimpArgs false
open Go.RowKit Go.Proofs.YtefnmlglpldgfaaDoor.QL Go.Proofs.YtefnmlglpldgfaaDoorW.PrintWords Go.Proofs.YtefnmlglpldgfaaDoorW.PrintLast Go.Proofs.YtefnmlglpldgfaaDoorW.PrintMore Go.Proofs.YtefnmlglpldgfaaDoor.Aux Go.Proofs.YtefnmlglpldgfaaDoor.Dom Go.Proofs.YtefnmlglpldgfaaDoor.Ext
theorem impl_Seconds_l0 (s : ByteArray) (hs : s.size ≤ 8388608) (hA : (bytesOf s).all digC = true ∨ True) : ∀ (d : Nat) (i : Int), 0 ≤ i → (s.size : Int) - i = d → ((bytesOf s).take i.toNat).all digC = true →
    Ev (fun k => impl_Seconds.l0 k s (s.size : Int) i) (secP (bytesOf s))
  | 0, i, h0, hd, ht => by
    have hl := bytesOf_length s
    have hall : (bytesOf s).all digC = true := by rw [List.take_of_length_le (by omega)] at ht; exact ht
    refine Ev.step (fun k => by simp only [impl_Seconds.l0]; rw [if_neg (by omega)]) ?_
    unfold secP
    rw [if_pos hall, satV_eq _ 0 (by omega) (by omega) hall, ← valL_cut]
    by_cases he : s.toList = ([] : List UInt8)
    · have hb : bytesOf s = [] := by have := (toList_lit _ _).1 he; simpa using this
      refine ev_if_pos he (ev_eq (Ev.now _) ?_)
      rw [hb]
      rfl
    · have hne : 0 < (bytesOf s).length := by
        rcases Nat.eq_zero_or_pos (bytesOf s).length with h | h
        · exact absurd ((toList_lit _ _).2 (by rw [List.eq_nil_of_length_eq_zero h]; rfl)) he
        · exact h
      rw [decide_eq_true hne]
      have htl : strings_TrimLeft.f s (⟨#[48]⟩ : ByteArray) = some (strOfNums (cutC 48 (bytesOf s))) := by unfold strings_TrimLeft.f; rw [if_pos rfl]
      refine ev_if_neg he (ev_bind (ev_some fun _ => htl) ?_)
      have hca := cutC_all hall
      by_cases h10 : 10 < (cutC 48 (bytesOf s)).length
      · refine ev_if_pos (by rw [strOfNums_size]; omega) (ev_eq (Ev.now _) ?_)
        rw [mn_ge (cutC_big hall h10)]
      · refine ev_if_neg (by rw [strOfNums_size]; omega) (ev_if_pos (by rw [strOfNums_size]; omega) ?_)
        exact ev_bind (ev_some fun _ => strconv_Atoi_dec _ hca (by omega)) (Ev.now _)
  | d + 1, i, h0, hd, ht => by
    have hlt : i < (s.size : Int) := by omega
    have hl := bytesOf_length s
    have hmem : bt s i ∈ bytesOf s := List.mem_of_mem_drop (i := i.toNat) (by rw [drop_bt h0 hlt]; exact List.mem_cons_self)
    by_cases h1 : digC (bt s i) = true
    · have h2 := digC_iff.1 h1
      refine Ev.step (f := fun k => impl_Seconds.l0 k s (s.size : Int) (i + 1)) (fun k => ?_) (impl_Seconds_l0 s hs hA d (i + 1) (by omega) (by omega) ?_)
      · simp only [impl_Seconds.l0]
        rw [if_pos hlt, if_pos h0, if_pos hlt, if_neg (by omega), if_neg (by omega), wrap_id (by omega) (by omega)]
      · have e : (bytesOf s).take (i + 1).toNat = (bytesOf s).take i.toNat ++ [bt s i] := by
          have h3 := List.take_append_drop i.toNat ((bytesOf s).take (i + 1).toNat)
          rw [List.take_take, Nat.min_eq_left (by omega), List.drop_take, drop_bt h0 hlt, show (i + 1).toNat - i.toNat = 1 by omega] at h3
          rw [← h3]
          rfl
        rw [e, List.all_append, ht, List.all_cons, h1]
        rfl
    · have hn : ¬ (bytesOf s).all digC = true := fun h => h1 (List.all_eq_true.1 h _ hmem)
      unfold secP
      rw [if_neg hn]
      rw [digC_iff] at h1
      refine ev_last fun k => ?_
      simp only [impl_Seconds.l0]
      rw [if_pos hlt, if_pos h0, if_pos hlt]
      by_cases h3 : bt s i < 48
      · rw [if_pos h3]
      · rw [if_neg h3, if_pos (by omega)]
theorem impl_Seconds_ev (s : ByteArray) (hs : s.size ≤ 8388608) : Ev (fun k => impl_Seconds.f k s) (secP (bytesOf s)) :=
  impl_Seconds_l0 s hs (.inr trivial) s.size 0 (by omega) (by omega) (by simp)

end Go.Proofs.YtefnmlglpldgfaaDoor.Pure

namespace Go.Proofs.YtefnmlglpldgfaaDoor.Pure
set_option linter.unusedVariables false
set_option linter.unusedSimpArgs false
open Go.RowKit Go.Proofs.YtefnmlglpldgfaaDoor.QL Go.Proofs.YtefnmlglpldgfaaDoorW.PrintWords Go.Proofs.YtefnmlglpldgfaaDoorW.PrintLast Go.Proofs.YtefnmlglpldgfaaDoorW.PrintMore Go.Proofs.YtefnmlglpldgfaaDoor.Aux Go.Proofs.YtefnmlglpldgfaaDoor.Dom Go.Proofs.YtefnmlglpldgfaaDoor.Ext
theorem impl_BodyOf_ev (l : List S81) (s : ByteArray) (c : Bool) (hl : l.length ≤ 1048576) (hz : ¬ szF 1048576 (l.map fun x => (x.f0, x.f1)) < 0) (hs : s.size ≤ 8388608) : Ev (fun k => impl_BodyOf.f k l s c) (bodyP (l.map fun x => (x.f0, x.f1)) s c) := by
  have q1 := szF_sum nmTE (by omega) hz
  have q2 := szF_sum nmCL (by omega) hz
  have j1 := joinG_size nmTE _ (by omega) hz
  have j2 := joinG_size nmCL _ (by omega) hz
  have lw : impl_Lower.f (joinG nmTE (l.map fun x => (x.f0, x.f1))) = some (lowB (joinG nmTE (l.map fun x => (x.f0, x.f1)))) := impl_Lower_eq _ (by omega)
  have sc := impl_Seconds_ev (joinG nmCL (l.map fun x => (x.f0, x.f1))) (by omega)
  refine Ev.congr (fun k => by unfold impl_BodyOf.f; rfl) (ev_bind (impl_FieldGet_ev l nmTE hl (by omega)) (ev_bind (impl_FieldGet_ev l nmCL hl (by omega)) ?_))
  unfold bodyP
  refine ev_ite (fun h1 => ?_) (fun h1 => ?_)
  · refine ev_bind (ev_some fun _ => lw) ?_
    by_cases h2 : lowB (joinG nmTE (l.map fun x => (x.f0, x.f1))) = chunkedW
    · rw [if_pos h2]
      refine ev_if_pos ((chunked_lit _).2 h2) (ev_ite (fun h3 => Ev.now _) (fun h3 => ?_))
      exact ev_bind (impl_Unchunk_ev s hs) (Ev.now _)
    · rw [if_neg h2]
      exact ev_if_neg (fun h => h2 ((chunked_lit _).1 h)) (Ev.now _)
  · refine ev_ite (fun h2 => ?_) (fun h2 => ?_)
    · refine ev_bind sc ?_
      have hb := secP_bd (bytesOf (joinG nmCL (l.map fun x => (x.f0, x.f1))))
      generalize secP (bytesOf (joinG nmCL (l.map fun x => (x.f0, x.f1)))) = q at hb ⊢
      obtain ⟨n, b⟩ := q
      simp only at hb
      unfold lenP
      cases b with
      | false =>
        refine ev_if_neg (fun h => by cases h) (ev_last fun k => ?_)
        simp only [impl_BodyOf.j0]
        rw [if_pos (by trivial), if_neg (fun h => by cases h.1)]
      | true =>
        refine ev_if_pos rfl (ev_last fun k => ?_)
        simp only [impl_BodyOf.j0]
        by_cases h3 : n > 60
        · rw [if_pos (decide_eq_true h3), if_neg (fun h => by omega)]
        · rw [if_neg (by rw [decide_eq_false h3]; decide), if_pos (c := True ∧ n ≤ 60) ⟨trivial, by omega⟩]
          by_cases h4 : (s.size : Int) < n
          · rw [if_pos h4, if_pos h4]
          · rw [if_neg h4, if_neg h4, if_pos hb.1, if_pos (by omega)]
    · exact ev_ite (fun h3 => ev_ite (fun h4 => Ev.now _) (fun h4 => Ev.now _)) (fun h3 => Ev.now _)

end Go.Proofs.YtefnmlglpldgfaaDoor.Pure

namespace Go.Proofs.YtefnmlglpldgfaaDoor.Pure
set_option linter.unusedVariables false
set_option linter.unusedSimpArgs false
open Go.RowKit Go.Proofs.YtefnmlglpldgfaaDoor.QL Go.Proofs.YtefnmlglpldgfaaDoorW.PrintWords Go.Proofs.YtefnmlglpldgfaaDoorW.PrintLast Go.Proofs.YtefnmlglpldgfaaDoorW.PrintMore Go.Proofs.YtefnmlglpldgfaaDoor.Aux Go.Proofs.YtefnmlglpldgfaaDoor.Dom Go.Proofs.YtefnmlglpldgfaaDoor.Ext

theorem FnExactBodyOf : laws_FnExactBodyOf.Pure := by
  intro l s c hl hm hn
  by_cases h1 : (s.size : Int) > 1048576
  · exact ⟨0, by unfold laws_FnExactBodyOf.f; rw [if_pos h1]⟩
  refine Ev.rounds (Ev.congr (fun k => by unfold laws_FnExactBodyOf.f; rw [if_neg h1]) ?_)
  refine ev_bind (laws_szFieldS_ev l 1048576 hl hm (by omega) (by omega)) ?_
  by_cases h3 : szF 1048576 (l.map fun x => (x.f0, x.f1)) < 0
  · exact ev_if_pos h3 (Ev.now _)
  have q1 := szF_len h3
  rw [List.length_map] at q1
  have la : l.length ≤ 1048576 := by omega
  have tol := laws_toFieldS_ev l la
  have eX : ((l.map fun x => (⟨x.f0, x.f1⟩ : S81)).map fun x => (x.f0, x.f1)) = l.map fun x => (x.f0, x.f1) := by rw [List.map_map]; rfl
  have sp := spec_BodyOf_ev (l.map fun x => (⟨x.f0, x.f1⟩ : S81)) s c (by rw [List.length_map]; exact la) (by rw [eX]; exact h3) (by omega)
  have im := impl_BodyOf_ev (l.map fun x => (⟨x.f0, x.f1⟩ : S81)) s c (by rw [List.length_map]; exact la) (by rw [eX]; exact h3) (by omega)
  have eqX := laws_eqFieldS_ev (l.map fun x => (⟨x.f0, x.f1⟩ : S81)) (by rw [List.length_map]; omega)
  refine ev_if_neg h3 (ev_bind tol (ev_bind sp (ev_bind tol (ev_bind im (ev_if_pos rfl (ev_if_pos rfl ?_))))))
  refine Ev.step (fun k => by simp only [laws_FnExactBodyOf.j0]; rfl) ?_
  exact ev_if_neg (by simp) (ev_bind tol (ev_bind eqX (ev_if_pos rfl (Ev.now _))))

end Go.Proofs.YtefnmlglpldgfaaDoor.Pure
