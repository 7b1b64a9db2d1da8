/- The program's Directives returns what the reference's returns, for all lists of fields, in new memory (those that hold more than 2^20 fields and bytes are let by). -/
import Derived.Test.YtefnmlglpldgfaaDoorDom
import Derived.Test.YtefnmlglpldgfaaDoorEspecLower
import Derived.Test.YtefnmlglpldgfaaDoorDomB
import Derived.Test.YtefnmlglpldgfaaDoorEstringsIndexByte
import Derived.Test.YtefnmlglpldgfaaDoorEimplLower
import Derived.Test.YtefnmlglpldgfaaDoorEstringsCut
import Derived.Test.YtefnmlglpldgfaaDoorCFnExactDirectivesb
namespace Go.Proofs.YtefnmlglpldgfaaDoor.QL
open Go.RowKit Go.Proofs.YtefnmlglpldgfaaDoorW.PrintWords Go.Proofs.YtefnmlglpldgfaaDoorW.PrintLast Go.Proofs.YtefnmlglpldgfaaDoorW.PrintMore Go.Proofs.YtefnmlglpldgfaaDoor.Aux Go.Proofs.YtefnmlglpldgfaaDoor.Dom Go.Proofs.YtefnmlglpldgfaaDoor.Ext Go.Proofs.YtefnmlglpldgfaaDoor.Glob
def laws_FnExactDirectives.Pure : Prop := ∀ (l0 : List S79), l0.length ≤ maxLen → (∀ x ∈ l0, x.f0.size ≤ maxLen ∧ x.f1.size ≤ maxLen) → ∃ k, laws_FnExactDirectives.f k l0 = some true
theorem laws_FnExactDirectives.walk (P : laws_FnExactDirectives.Pure) (A0 : Option Addr) (c0 : Nat) (l0 : List S79) (w : World) (hr0 : Kd.C k79 w A0 l0.length l0) (hc0 : l0.length ≤ c0) (zl0 : l0.length ≤ maxLen) (zm0 : ∀ x ∈ l0, x.f0.size ≤ maxLen ∧ x.f1.size ≤ maxLen) (hGMax : GMax w) :
    Calls Tryd.prog 8 #[.slice A0 l0.length c0] w fun e w' => e = .returned (.bool true) ∧ Below w.heap.size w w' := by
  obtain ⟨k, h⟩ := P l0 zl0 zm0
  refine (laws_FnExactDirectives.calls k A0 c0 l0 true w hr0 hc0 hGMax h).mono ?_
  rintro e w' ⟨rfl, hd⟩
  exact ⟨rfl, hd⟩
end Go.Proofs.YtefnmlglpldgfaaDoor.QL

namespace Go.Proofs.YtefnmlglpldgfaaDoor.Pure
set_option linter.unusedVariables false
set_option linter.unusedSimpArgs false
open Go.RowKit Go.Proofs.YtefnmlglpldgfaaDoor.QL Go.Proofs.YtefnmlglpldgfaaDoorW.PrintWords Go.Proofs.YtefnmlglpldgfaaDoorW.PrintLast Go.Proofs.YtefnmlglpldgfaaDoorW.PrintMore Go.Proofs.YtefnmlglpldgfaaDoor.Aux Go.Proofs.YtefnmlglpldgfaaDoor.Dom Go.Proofs.YtefnmlglpldgfaaDoor.Ext
theorem laws_szField_eq (a b : ByteArray) (n : Int) (ha : a.size ≤ maxLen) (hb : b.size ≤ maxLen) (h0 : 0 ≤ n) (h1 : n ≤ 9223372036854775807) :
    laws_szField.f a b n = some (if n - a.size - b.size < 0 then -1 else n - a.size - b.size) := by
  unfold maxLen at ha hb
  unfold laws_szField.f
  by_cases h : n - a.size < 0
  · rw [wrap_id (by omega) (by omega), if_pos h, if_pos (by omega)]
  · rw [wrap_id (x := n - a.size) (by omega) (by omega), if_neg h, wrap_id (by omega) (by omega)]
    by_cases h2 : n - a.size - b.size < 0
    · rw [if_pos h2, if_pos h2]
    · rw [if_neg h2, if_neg h2]

end Go.Proofs.YtefnmlglpldgfaaDoor.Pure

namespace Go.Proofs.YtefnmlglpldgfaaDoor.Pure
set_option linter.unusedVariables false
set_option linter.unusedSimpArgs false
open Go.RowKit Go.Proofs.YtefnmlglpldgfaaDoor.QL Go.Proofs.YtefnmlglpldgfaaDoorW.PrintWords Go.Proofs.YtefnmlglpldgfaaDoorW.PrintLast Go.Proofs.YtefnmlglpldgfaaDoorW.PrintMore Go.Proofs.YtefnmlglpldgfaaDoor.Aux Go.Proofs.YtefnmlglpldgfaaDoor.Dom Go.Proofs.YtefnmlglpldgfaaDoor.Ext
theorem laws_szFieldS_l0 (l : List S79) (hl : l.length ≤ maxLen) (hm : ∀ x ∈ l, x.f0.size ≤ maxLen ∧ x.f1.size ≤ maxLen) : ∀ (d : Nat) (n i : Int), 0 ≤ i → (l.length : Int) - i = d → 0 ≤ n → n ≤ 1048576 →
    Ev (fun k => laws_szFieldS.l0 k l n i) (szL n ((l.drop i.toNat).map fun x => (x.f0, x.f1)))
  | 0, n, i, h0, hd, n0, n1 => by
    refine ev_last fun k => ?_
    simp only [laws_szFieldS.l0]
    rw [if_neg (by omega), drop_nil (by omega)]
    rfl
  | d + 1, n, i, h0, hd, n0, n1 => by
    have hlt : i < (l.length : Int) := by omega
    have hx : (rd_T79 l i) ∈ l := by
      unfold rd_T79
      rw [List.getD_eq_getElem?_getD, List.getElem?_eq_getElem (by omega)]
      exact List.getElem_mem _
    have e := laws_szField_eq (rd_T79 l i).f0 (rd_T79 l i).f1 n (hm _ hx).1 (hm _ hx).2 n0 (by omega)
    have hdrop : l.drop i.toNat = rd_T79 l i :: l.drop (i + 1).toNat := drop_rdOf (d := z79) h0 hlt
    rw [hdrop]
    simp only [List.map_cons, szL]
    by_cases h : n - ((rd_T79 l i).f0.size : Int) - ((rd_T79 l i).f1.size : Int) < 0
    · refine ev_last fun k => ?_
      simp only [laws_szFieldS.l0]
      rw [if_pos hlt, if_pos h0, e, if_pos h, Option.bind_some, if_pos (by omega), if_pos h]
    · refine Ev.step (f := fun k => laws_szFieldS.l0 k l (n - ((rd_T79 l i).f0.size : Int) - ((rd_T79 l i).f1.size : Int)) (i + 1)) (fun k => ?_) (ev_eq (laws_szFieldS_l0 l hl hm d _ (i + 1) (by omega) (by omega) (by omega) (by omega)) ?_)
      · simp only [laws_szFieldS.l0]
        rw [if_pos hlt, if_pos h0, e, if_neg h, Option.bind_some, if_neg h, wrap_id (by omega) (by unfold maxLen at hl; omega)]
      · rw [if_neg h]
theorem laws_szFieldS_ev (l : List S79) (n : Int) (hl : l.length ≤ maxLen) (hm : ∀ x ∈ l, x.f0.size ≤ maxLen ∧ x.f1.size ≤ maxLen) (n0 : 0 ≤ n) (n1 : n ≤ 1048576) :
    Ev (fun k => laws_szFieldS.f k l n) (szF n (l.map fun x => (x.f0, x.f1))) := by
  unfold szF
  rw [List.length_map]
  by_cases h : n - (l.length : Int) < 0
  · rw [if_pos h]
    refine ev_some fun k => ?_
    unfold laws_szFieldS.f
    rw [wrap_id (by unfold maxLen at hl; omega) (by omega), if_pos h]
  · rw [if_neg h]
    refine Ev.congr (fun k => by unfold laws_szFieldS.f; rw [wrap_id (by unfold maxLen at hl; omega) (by omega), if_neg h]) ?_
    have e := laws_szFieldS_l0 l hl hm l.length (n - l.length) 0 (by omega) (by omega) (by omega) (by omega)
    simpa using e

end Go.Proofs.YtefnmlglpldgfaaDoor.Pure

namespace Go.Proofs.YtefnmlglpldgfaaDoor.Pure
set_option linter.unusedVariables false
set_option linter.unusedSimpArgs false
open Go.RowKit Go.Proofs.YtefnmlglpldgfaaDoor.QL Go.Proofs.YtefnmlglpldgfaaDoorW.PrintWords Go.Proofs.YtefnmlglpldgfaaDoorW.PrintLast Go.Proofs.YtefnmlglpldgfaaDoorW.PrintMore Go.Proofs.YtefnmlglpldgfaaDoor.Aux Go.Proofs.YtefnmlglpldgfaaDoor.Dom Go.Proofs.YtefnmlglpldgfaaDoor.Ext
theorem laws_toFieldS_l0 (l : List S79) (hl : l.length ≤ 1048576) : ∀ (d : Nat) (ys : List S81) (i : Int), 0 ≤ i → (l.length : Int) - i = d → (ys.length : Int) = i →
    Ev (fun k => laws_toFieldS.l0 k l (ys ++ List.replicate d z81) i) (ys ++ (l.drop i.toNat).map fun x => (⟨x.f0, x.f1⟩ : S81))
  | 0, ys, i, h0, hd, hy => by
    refine ev_last fun k => ?_
    simp only [laws_toFieldS.l0]
    rw [if_neg (by omega), drop_nil (by omega)]
    simp
  | d + 1, ys, i, h0, hd, hy => by
    have hlt : i < (l.length : Int) := by omega
    have hdrop : l.drop i.toNat = rd_T79 l i :: l.drop (i + 1).toNat := drop_rdOf (d := z79) h0 hlt
    refine Ev.step (f := fun k => laws_toFieldS.l0 k l ((ys ++ [(⟨(rd_T79 l i).f0, (rd_T79 l i).f1⟩ : S81)]) ++ List.replicate d z81) (i + 1)) (fun k => ?_) (ev_eq (laws_toFieldS_l0 l hl d _ (i + 1) (by omega) (by omega) (by simp; omega)) ?_)
    · simp only [laws_toFieldS.l0, laws_toField.f, Option.bind_some]
      have e : (ys ++ List.replicate (d + 1) z81).set i.toNat (⟨(rd_T79 l i).f0, (rd_T79 l i).f1⟩ : S81) = (ys ++ [(⟨(rd_T79 l i).f0, (rd_T79 l i).f1⟩ : S81)]) ++ List.replicate d z81 := by
        rw [List.set_append_right _ _ (by omega), show i.toNat - ys.length = 0 by omega, List.replicate_succ]
        simp
      rw [if_pos hlt, if_pos h0, if_pos (by simp; omega), e, wrap_id (by omega) (by omega)]
    · rw [hdrop]; simp
theorem laws_toFieldS_ev (l : List S79) (hl : l.length ≤ 1048576) : Ev (fun k => laws_toFieldS.f k l) (l.map fun x => (⟨x.f0, x.f1⟩ : S81)) := by
  refine Ev.congr (fun k => by unfold laws_toFieldS.f; rw [if_pos (by omega), if_pos (by omega)]) ?_
  have e := laws_toFieldS_l0 l hl l.length [] 0 (by omega) (by omega) (by simp)
  simpa using e

end Go.Proofs.YtefnmlglpldgfaaDoor.Pure

namespace Go.Proofs.YtefnmlglpldgfaaDoor.Pure
set_option linter.unusedVariables false
set_option linter.unusedSimpArgs false
open Go.RowKit Go.Proofs.YtefnmlglpldgfaaDoor.QL Go.Proofs.YtefnmlglpldgfaaDoorW.PrintWords Go.Proofs.YtefnmlglpldgfaaDoorW.PrintLast Go.Proofs.YtefnmlglpldgfaaDoorW.PrintMore Go.Proofs.YtefnmlglpldgfaaDoor.Aux Go.Proofs.YtefnmlglpldgfaaDoor.Dom Go.Proofs.YtefnmlglpldgfaaDoor.Ext
theorem laws_eqFieldS_l0 (l : List S81) (hl : l.length ≤ 9223372036854775806) : ∀ (d : Nat) (i : Int), 0 ≤ i → (l.length : Int) - i = d → Ev (fun k => laws_eqFieldS.l0 k l l i) true
  | 0, i, h0, hd => by
    refine ev_last fun k => ?_
    simp only [laws_eqFieldS.l0]
    rw [if_neg (by omega)]
  | d + 1, i, h0, hd => by
    have hlt : i < (l.length : Int) := by omega
    refine Ev.step (f := fun k => laws_eqFieldS.l0 k l l (i + 1)) (fun k => ?_) (laws_eqFieldS_l0 l hl d (i + 1) (by omega) (by omega))
    simp only [laws_eqFieldS.l0, laws_eqField.f]
    rw [if_pos hlt, if_pos h0, if_pos hlt]
    simp only [if_true, Option.bind_some]
    rw [wrap_id (by omega) (by omega)]
/-- Two that are one are alike. -/
theorem laws_eqFieldS_ev (l : List S81) (hl : l.length ≤ 9223372036854775806) : Ev (fun k => laws_eqFieldS.f k l l) true := by
  refine Ev.congr (fun k => by unfold laws_eqFieldS.f; rw [if_pos rfl]) ?_
  exact laws_eqFieldS_l0 l hl l.length 0 (by omega) (by omega)

end Go.Proofs.YtefnmlglpldgfaaDoor.Pure

namespace Go.Proofs.YtefnmlglpldgfaaDoor.Pure
set_option linter.unusedVariables false
set_option linter.unusedSimpArgs false
open Go.RowKit Go.Proofs.YtefnmlglpldgfaaDoor.QL Go.Proofs.YtefnmlglpldgfaaDoorW.PrintWords Go.Proofs.YtefnmlglpldgfaaDoorW.PrintLast Go.Proofs.YtefnmlglpldgfaaDoorW.PrintMore Go.Proofs.YtefnmlglpldgfaaDoor.Aux Go.Proofs.YtefnmlglpldgfaaDoor.Dom Go.Proofs.YtefnmlglpldgfaaDoor.Ext
theorem laws_markText_l0 : ∀ (f : Nat) (n : Int) (acc : List Int), n < 10 ^ f → f < 19 → acc.length + f ≤ 100 →
    Ev (fun k => laws_markText.l0 k n (strOfNums acc)) ((⟨#[109]⟩ : ByteArray) ++ strOfNums (decL f n acc))
  | 0, n, acc, hn, hf, ha => by
    refine ev_last fun k => ?_
    simp only [laws_markText.l0]
    rw [if_neg (by simp at hn; omega), if_pos (by rw [strOfNums_size]; omega)]
    rfl
  | f + 1, n, acc, hn, hf, ha => by
    by_cases h : n > 0
    · have hm : (10 : Int) ^ (f + 1) ≤ 10 ^ 18 := pow_le 10 (by decide) (by omega)
      refine Ev.step (f := fun k => laws_markText.l0 k (n / 10) (strOfNums ((48 + n % 10) :: acc))) (fun k => ?_) (ev_eq (laws_markText_l0 f (n / 10) _ (by rw [Int.pow_succ] at hn; omega) (by omega) (by simp; omega)) ?_)
      · simp only [laws_markText.l0, Option.bind_some]
        rw [if_pos h, if_pos (by rw [strOfNums_size, strOfNums_size]; simp; omega), Int.tmod_eq_emod_of_nonneg (by omega), Int.tdiv_eq_ediv_of_nonneg (by omega), wrap_id (x := 48 + n % 10) (by omega) (by omega), wrap_id (by omega) (by omega), Int.emod_eq_of_lt (a := 48 + n % 10) (by omega) (by omega), ← strOfNums_append]
        rfl
      · rw [decL, if_pos h]
    · refine ev_last fun k => ?_
      simp only [laws_markText.l0]
      rw [if_neg h, if_pos (by rw [strOfNums_size]; omega), decL, if_neg h]
theorem laws_markText_ev (n : Int) (hn : n < 10 ^ 18) : Ev (fun k => laws_markText.f k n) (markB n) := by
  unfold markB
  by_cases h : n ≤ 0
  · rw [if_pos h]
    exact ev_some fun k => by unfold laws_markText.f; rw [if_pos h]
  · rw [if_neg h]
    refine Ev.congr (fun k => by unfold laws_markText.f; rw [if_neg h]) ?_
    refine ev_eq (laws_markText_l0 18 n [] hn (by omega) (by simp)) ?_
    have e : decL 20 n [] = decL 18 n [] := decL_more 2 18 n [] hn
    rw [e]

end Go.Proofs.YtefnmlglpldgfaaDoor.Pure

namespace Go.Proofs.YtefnmlglpldgfaaDoor.Pure
set_option linter.unusedVariables false
set_option linter.unusedSimpArgs false
open Go.RowKit Go.Proofs.YtefnmlglpldgfaaDoor.QL Go.Proofs.YtefnmlglpldgfaaDoorW.PrintWords Go.Proofs.YtefnmlglpldgfaaDoorW.PrintLast Go.Proofs.YtefnmlglpldgfaaDoorW.PrintMore Go.Proofs.YtefnmlglpldgfaaDoor.Aux Go.Proofs.YtefnmlglpldgfaaDoor.Dom Go.Proofs.YtefnmlglpldgfaaDoor.Ext
theorem laws_markFieldS_l0 : ∀ (d : Nat) (ys zs : List S81) (n i : Int), zs.length = d → (ys.length : Int) = i → i + d ≤ 2097152 → 0 ≤ n → n + 2 * d ≤ 10000000 →
    Ev (fun k => laws_markFieldS.l0 k (ys ++ zs) n i) (n + 2 * d, ys ++ (markF (zs.map fun x => (x.f0, x.f1)) n).map fun p => (⟨p.1, p.2⟩ : S81))
  | 0, ys, zs, n, i, hd, hy, hi, h0, hn => by
    obtain rfl := List.eq_nil_of_length_eq_zero hd
    refine ev_last fun k => ?_
    simp only [laws_markFieldS.l0]
    rw [if_neg (by simp; omega)]
    simp [markF]
  | d + 1, ys, [], n, i, hd, hy, hi, h0, hn => by simp at hd
  | d + 1, ys, z :: zs, n, i, hd, hy, hi, h0, hn => by
    have hz : zs.length = d := by simpa using hd
    have i0 : i.toNat = ys.length := by omega
    have hs1 : ∀ v : S81, (ys ++ z :: zs).set i.toNat v = ys ++ v :: zs := fun v => by rw [i0, List.set_append_right _ _ (Nat.le_refl _)]; simp
    have hs2 : ∀ v v' : S81, (ys ++ v' :: zs).set i.toNat v = ys ++ v :: zs := fun v v' => by rw [i0, List.set_append_right _ _ (Nat.le_refl _)]; simp
    have hr : ∀ v : S81, rd_T81 (ys ++ v :: zs) i = v := fun v => by unfold rd_T81; rw [i0]; simp [List.getD_eq_getElem?_getD]
    have ih := laws_markFieldS_l0 d (ys ++ [(⟨markB n, markB (n + 1)⟩ : S81)]) zs (n + 2) (i + 1) hz (by simp; omega) (by omega) (by omega) (by omega)
    refine Ev.step (f := fun k => (laws_markText.f k n).bind fun t1 => (laws_markText.f k (n + 1)).bind fun t2 => laws_markFieldS.l0 k (ys ++ (⟨t1, t2⟩ : S81) :: zs) (n + 2) (i + 1)) (fun k => ?_) (ev_bind (laws_markText_ev n (by omega)) (ev_bind (laws_markText_ev (n + 1) (by omega)) (ev_eq (by simpa using ih) ?_)))
    · simp only [laws_markFieldS.l0]
      have hi0 : 0 ≤ i := by omega
      rw [if_pos (by simp; omega), wrap_id (x := n + 1) (by omega) (by omega), wrap_id (x := n + 1 + 1) (by omega) (by omega), wrap_id (x := i + 1) (by omega) (by omega), show n + 1 + 1 = n + 2 by omega]
      simp only [hi0, if_true, Option.bind_some, hs1, hs2, hr]
    · refine Prod.ext (by simp; omega) ?_
      simp [markF]
theorem laws_markFieldS_ev (l : List S81) (hl : l.length ≤ 2097152) : Ev (fun k => laws_markFieldS.f k l 1) (1 + 2 * (l.length : Int), (markF (l.map fun x => (x.f0, x.f1)) 1).map fun p => (⟨p.1, p.2⟩ : S81)) := by
  have h := laws_markFieldS_l0 l.length [] l 1 0 rfl (by simp) (by omega) (by omega) (by omega)
  simpa [laws_markFieldS.f] using h

end Go.Proofs.YtefnmlglpldgfaaDoor.Pure

namespace Go.Proofs.YtefnmlglpldgfaaDoor.Pure
set_option linter.unusedVariables false
set_option linter.unusedSimpArgs false
open Go.RowKit Go.Proofs.YtefnmlglpldgfaaDoor.QL Go.Proofs.YtefnmlglpldgfaaDoorW.PrintWords Go.Proofs.YtefnmlglpldgfaaDoorW.PrintLast Go.Proofs.YtefnmlglpldgfaaDoorW.PrintMore Go.Proofs.YtefnmlglpldgfaaDoor.Aux Go.Proofs.YtefnmlglpldgfaaDoor.Dom Go.Proofs.YtefnmlglpldgfaaDoor.Ext
theorem laws_markDirectiveS_l0 : ∀ (d : Nat) (ys zs : List S80) (n i : Int), zs.length = d → (ys.length : Int) = i → i + d ≤ 4194304 → 0 ≤ n → n + 2 * d ≤ 10000000 →
    Ev (fun k => laws_markDirectiveS.l0 k (ys ++ zs) n i) (n + 2 * d, ys ++ (markF (zs.map fun x => (x.f0, x.f1)) n).map fun p => (⟨p.1, p.2⟩ : S80))
  | 0, ys, zs, n, i, hd, hy, hi, h0, hn => by
    obtain rfl := List.eq_nil_of_length_eq_zero hd
    refine ev_last fun k => ?_
    simp only [laws_markDirectiveS.l0]
    rw [if_neg (by simp; omega)]
    simp [markF]
  | d + 1, ys, [], n, i, hd, hy, hi, h0, hn => by simp at hd
  | d + 1, ys, z :: zs, n, i, hd, hy, hi, h0, hn => by
    have hz : zs.length = d := by simpa using hd
    have i0 : i.toNat = ys.length := by omega
    have hs1 : ∀ v : S80, (ys ++ z :: zs).set i.toNat v = ys ++ v :: zs := fun v => by rw [i0, List.set_append_right _ _ (Nat.le_refl _)]; simp
    have hs2 : ∀ v v' : S80, (ys ++ v' :: zs).set i.toNat v = ys ++ v :: zs := fun v v' => by rw [i0, List.set_append_right _ _ (Nat.le_refl _)]; simp
    have hr : ∀ v : S80, rd_T80 (ys ++ v :: zs) i = v := fun v => by unfold rd_T80; rw [i0]; simp [List.getD_eq_getElem?_getD]
    have ih := laws_markDirectiveS_l0 d (ys ++ [(⟨markB n, markB (n + 1)⟩ : S80)]) zs (n + 2) (i + 1) hz (by simp; omega) (by omega) (by omega) (by omega)
    refine Ev.step (f := fun k => (laws_markText.f k n).bind fun t1 => (laws_markText.f k (n + 1)).bind fun t2 => laws_markDirectiveS.l0 k (ys ++ (⟨t1, t2⟩ : S80) :: zs) (n + 2) (i + 1)) (fun k => ?_) (ev_bind (laws_markText_ev n (by omega)) (ev_bind (laws_markText_ev (n + 1) (by omega)) (ev_eq (by simpa using ih) ?_)))
    · simp only [laws_markDirectiveS.l0]
      have hi0 : 0 ≤ i := by omega
      rw [if_pos (by simp; omega), wrap_id (x := n + 1) (by omega) (by omega), wrap_id (x := n + 1 + 1) (by omega) (by omega), wrap_id (x := i + 1) (by omega) (by omega), show n + 1 + 1 = n + 2 by omega]
      simp only [hi0, if_true, Option.bind_some, hs1, hs2, hr]
    · refine Prod.ext (by simp; omega) ?_
      simp [markF]
theorem laws_markDirectiveS_ev (l : List S80) (hl : l.length ≤ 4194304) : Ev (fun k => laws_markDirectiveS.f k l 1) (1 + 2 * (l.length : Int), (markF (l.map fun x => (x.f0, x.f1)) 1).map fun p => (⟨p.1, p.2⟩ : S80)) := by
  have h := laws_markDirectiveS_l0 l.length [] l 1 0 rfl (by simp) (by omega) (by omega) (by omega)
  simpa [laws_markDirectiveS.f] using h

end Go.Proofs.YtefnmlglpldgfaaDoor.Pure

namespace Go.Proofs.YtefnmlglpldgfaaDoor.Pure
set_option linter.unusedVariables false
set_option linter.unusedSimpArgs false
open Go.RowKit Go.Proofs.YtefnmlglpldgfaaDoor.QL Go.Proofs.YtefnmlglpldgfaaDoorW.PrintWords Go.Proofs.YtefnmlglpldgfaaDoorW.PrintLast Go.Proofs.YtefnmlglpldgfaaDoorW.PrintMore Go.Proofs.YtefnmlglpldgfaaDoor.Aux Go.Proofs.YtefnmlglpldgfaaDoor.Dom Go.Proofs.YtefnmlglpldgfaaDoor.Ext
theorem laws_heldDirectiveS_l0 : ∀ (d : Nat) (ys : List S80) (zs : List (ByteArray × ByteArray)) (n i : Int), zs.length = d → (ys.length : Int) = i → i + d ≤ 4194304 → 0 ≤ n → n + 2 * d ≤ 10000000 →
    Ev (fun k => laws_heldDirectiveS.l0 k (ys ++ (markF zs n).map fun p => (⟨p.1, p.2⟩ : S80)) n i) (n + 2 * d)
  | 0, ys, zs, n, i, hd, hy, hi, h0, hn => by
    obtain rfl := List.eq_nil_of_length_eq_zero hd
    refine ev_last fun k => ?_
    simp only [laws_heldDirectiveS.l0]
    rw [if_neg (by simp [markF]; omega)]
    simp
  | d + 1, ys, [], n, i, hd, hy, hi, h0, hn => by simp at hd
  | d + 1, ys, z :: zs, n, i, hd, hy, hi, h0, hn => by
    have hz : zs.length = d := by simpa using hd
    have i0 : i.toNat = ys.length := by omega
    have hr : ∀ (v : S80) (r : List S80), rd_T80 (ys ++ v :: r) i = v := fun v r => by unfold rd_T80; rw [i0]; simp [List.getD_eq_getElem?_getD]
    have ih := laws_heldDirectiveS_l0 d (ys ++ [(⟨markB n, markB (n + 1)⟩ : S80)]) zs (n + 2) (i + 1) hz (by simp; omega) (by omega) (by omega) (by omega)
    simp only [markF, List.map_cons]
    refine Ev.step (f := fun k => (laws_markText.f k n).bind fun t1 => if (markB n).toList = t1.toList then (laws_markText.f k (n + 1)).bind (fun t2 => if (markB (n + 1)).toList = t2.toList then laws_heldDirectiveS.l0 k (ys ++ (⟨markB n, markB (n + 1)⟩ : S80) :: ((markF zs (n + 2)).map fun p => (⟨p.1, p.2⟩ : S80))) (n + 2) (i + 1) else some (-1)) else some (-1)) (fun k => ?_) (ev_bind (laws_markText_ev n (by omega)) (ev_if_pos rfl (ev_bind (laws_markText_ev (n + 1) (by omega)) (ev_if_pos rfl (ev_eq (by simpa using ih) (by omega))))))
    simp only [laws_heldDirectiveS.l0]
    rw [if_pos (by simp; omega), if_pos (show 0 ≤ i by omega), wrap_id (x := n + 1) (by omega) (by omega), wrap_id (x := n + 1 + 1) (by omega) (by omega), wrap_id (x := i + 1) (by omega) (by omega), show n + 1 + 1 = n + 2 by omega]
    simp only [hr]
theorem laws_heldDirectiveS_ev (zs : List (ByteArray × ByteArray)) (hl : zs.length ≤ 4194304) : Ev (fun k => laws_heldDirectiveS.f k ((markF zs 1).map fun p => (⟨p.1, p.2⟩ : S80)) 1) (1 + 2 * (zs.length : Int)) := by
  have h := laws_heldDirectiveS_l0 zs.length [] zs 1 0 rfl (by simp) (by omega) (by omega) (by omega)
  simpa [laws_heldDirectiveS.f] using h

end Go.Proofs.YtefnmlglpldgfaaDoor.Pure

namespace Go.Proofs.YtefnmlglpldgfaaDoor.Pure
set_option linter.unusedVariables false
set_option linter.unusedSimpArgs false
open Go.RowKit Go.Proofs.YtefnmlglpldgfaaDoor.QL Go.Proofs.YtefnmlglpldgfaaDoorW.PrintWords Go.Proofs.YtefnmlglpldgfaaDoorW.PrintLast Go.Proofs.YtefnmlglpldgfaaDoorW.PrintMore Go.Proofs.YtefnmlglpldgfaaDoor.Aux Go.Proofs.YtefnmlglpldgfaaDoor.Dom Go.Proofs.YtefnmlglpldgfaaDoor.Ext
theorem laws_eqDirectiveS_l0 (l : List S80) (hl : l.length ≤ 9223372036854775806) : ∀ (d : Nat) (i : Int), 0 ≤ i → (l.length : Int) - i = d → Ev (fun k => laws_eqDirectiveS.l0 k l l i) true
  | 0, i, h0, hd => by
    refine ev_last fun k => ?_
    simp only [laws_eqDirectiveS.l0]
    rw [if_neg (by omega)]
  | d + 1, i, h0, hd => by
    have hlt : i < (l.length : Int) := by omega
    refine Ev.step (f := fun k => laws_eqDirectiveS.l0 k l l (i + 1)) (fun k => ?_) (laws_eqDirectiveS_l0 l hl d (i + 1) (by omega) (by omega))
    simp only [laws_eqDirectiveS.l0, laws_eqDirective.f]
    rw [if_pos hlt, if_pos h0, if_pos hlt]
    simp only [if_true, Option.bind_some]
    rw [wrap_id (by omega) (by omega)]
/-- Two that are one are alike. -/
theorem laws_eqDirectiveS_ev (l : List S80) (hl : l.length ≤ 9223372036854775806) : Ev (fun k => laws_eqDirectiveS.f k l l) true := by
  refine Ev.congr (fun k => by unfold laws_eqDirectiveS.f; rw [if_pos rfl]) ?_
  exact laws_eqDirectiveS_l0 l hl l.length 0 (by omega) (by omega)

end Go.Proofs.YtefnmlglpldgfaaDoor.Pure

namespace Go.Proofs.YtefnmlglpldgfaaDoor.Pure
set_option linter.unusedVariables false
set_option linter.unusedSimpArgs false
open Go.RowKit Go.Proofs.YtefnmlglpldgfaaDoor.QL Go.Proofs.YtefnmlglpldgfaaDoorW.PrintWords Go.Proofs.YtefnmlglpldgfaaDoorW.PrintLast Go.Proofs.YtefnmlglpldgfaaDoorW.PrintMore Go.Proofs.YtefnmlglpldgfaaDoor.Aux Go.Proofs.YtefnmlglpldgfaaDoor.Dom Go.Proofs.YtefnmlglpldgfaaDoor.Ext
theorem spec_FieldGet_l0 (l : List S81) (nm : ByteArray) (hl : l.length ≤ 1048576) (V : List ByteArray) (hV : (V.map fun v => v.size + 2).sum ≤ 8388608) : ∀ (d : Nat) (acc : List ByteArray) (i : Int), 0 ≤ i → (l.length : Int) - i = d → acc ++ getL nm ((l.drop i.toNat).map fun x => (x.f0, x.f1)) = V →
    Ev (fun k => spec_FieldGet.l0 k l nm (joinB ⟨#[44, 32]⟩ acc) (!acc.isEmpty) i) (joinB ⟨#[44, 32]⟩ V, !V.isEmpty)
  | 0, acc, i, h0, hd, ha => by
    refine ev_last fun k => ?_
    simp only [spec_FieldGet.l0]
    rw [drop_nil (by omega)] at ha
    simp only [List.map_nil, getL, List.append_nil] at ha
    rw [if_neg (by omega), ha]
  | d + 1, acc, i, h0, hd, ha => by
    have hlt : i < (l.length : Int) := by omega
    have hdrop : l.drop i.toNat = rd_T81 l i :: l.drop (i + 1).toNat := drop_rdOf (d := z81) h0 hlt
    rw [hdrop] at ha
    simp only [List.map_cons, getL] at ha
    by_cases h : (rd_T81 l i).f0 = nm
    · rw [if_pos h] at ha
      have hs := joinB_size ⟨#[44, 32]⟩ acc
      have hb : (acc.map fun v => v.size + 2).sum + ((rd_T81 l i).f1.size + 2) ≤ 8388608 := by
        rw [← ha] at hV
        simp only [List.map_append, List.sum_append, List.map_cons, List.sum_cons] at hV
        omega
      have hs2 : (joinB ⟨#[44, 32]⟩ acc).size ≤ (acc.map fun v => v.size + 2).sum := hs
      cases acc with
      | nil =>
        refine Ev.step (f := fun k => spec_FieldGet.l0 k l nm (joinB ⟨#[44, 32]⟩ [(rd_T81 l i).f1]) true (i + 1)) (fun k => ?_) (spec_FieldGet_l0 l nm hl V hV d [(rd_T81 l i).f1] (i + 1) (by omega) (by omega) ha)
        simp only [spec_FieldGet.l0]
        have e0 : (joinB ⟨#[44, 32]⟩ [] ++ (rd_T81 l i).f1) = (rd_T81 l i).f1 := ByteArray.empty_append
        have e1 : (joinB ⟨#[44, 32]⟩ []).size = 0 := rfl
        rw [if_pos hlt, if_pos h0, if_pos (by rw [h]), if_neg (by decide), if_pos (by omega), wrap_id (by omega) (by omega), e0]
        rfl
      | cons a acc =>
        refine Ev.step (f := fun k => spec_FieldGet.l0 k l nm (joinB ⟨#[44, 32]⟩ ((a :: acc) ++ [(rd_T81 l i).f1])) true (i + 1)) (fun k => ?_) (spec_FieldGet_l0 l nm hl V hV d ((a :: acc) ++ [(rd_T81 l i).f1]) (i + 1) (by omega) (by omega) (by rw [← ha]; simp))
        simp only [spec_FieldGet.l0]
        rw [if_pos hlt, if_pos h0, if_pos (by rw [h]), if_pos (show (!(a :: acc).isEmpty) = true from rfl), if_pos (by omega), if_pos (by rw [ByteArray.size_append]; have : (⟨#[44, 32]⟩ : ByteArray).size = 2 := rfl; omega), wrap_id (by omega) (by omega), joinB_snoc _ _ _ (by simp)]
    · rw [if_neg h] at ha
      refine Ev.step (f := fun k => spec_FieldGet.l0 k l nm (joinB ⟨#[44, 32]⟩ acc) (!acc.isEmpty) (i + 1)) (fun k => ?_) (spec_FieldGet_l0 l nm hl V hV d acc (i + 1) (by omega) (by omega) ha)
      simp only [spec_FieldGet.l0]
      rw [if_pos hlt, if_pos h0, if_neg (by rw [toList_eq_iff]; exact h), wrap_id (by omega) (by omega)]
theorem spec_FieldGet_ev (l : List S81) (nm : ByteArray) (hl : l.length ≤ 1048576) (hV : ((getL nm (l.map fun x => (x.f0, x.f1))).map fun v => v.size + 2).sum ≤ 8388608) : Ev (fun k => spec_FieldGet.f k l nm) (joinB ⟨#[44, 32]⟩ (getL nm (l.map fun x => (x.f0, x.f1))), !(getL nm (l.map fun x => (x.f0, x.f1))).isEmpty) := by
  have h := spec_FieldGet_l0 l nm hl _ hV l.length [] 0 (by omega) (by omega) (by simp)
  simpa [spec_FieldGet.f, joinB] using h

end Go.Proofs.YtefnmlglpldgfaaDoor.Pure

namespace Go.Proofs.YtefnmlglpldgfaaDoor.Pure
set_option linter.unusedVariables false
set_option linter.unusedSimpArgs false
open Go.RowKit Go.Proofs.YtefnmlglpldgfaaDoor.QL Go.Proofs.YtefnmlglpldgfaaDoorW.PrintWords Go.Proofs.YtefnmlglpldgfaaDoorW.PrintLast Go.Proofs.YtefnmlglpldgfaaDoorW.PrintMore Go.Proofs.YtefnmlglpldgfaaDoor.Aux Go.Proofs.YtefnmlglpldgfaaDoor.Dom Go.Proofs.YtefnmlglpldgfaaDoor.Ext
theorem spec_l2Blank_eq (c : Int) : spec_l2Blank.f c = some (blkC c) := by
  unfold spec_l2Blank.f blkC
  by_cases h : c = 32
  · rw [if_pos h, decide_eq_true h, Bool.true_or]
  · rw [if_neg h, decide_eq_false h, Bool.false_or]
    congr 1
theorem spec_Trim_l1 : ∀ (d : Nat) (s : ByteArray), s.size = d → d ≤ 8388608 → Ev (fun k => spec_Trim.l1 k s) (strOfNums ((bytesOf s).reverse.dropWhile blkC).reverse)
  | 0, s, h, _ => by
    refine ev_last fun k => ?_
    simp only [spec_Trim.l1]
    rw [if_neg (by omega), bytesOf_nil h]
    congr 1
    rw [← strOfNums_bytesOf s, bytesOf_nil h]
    rfl
  | d + 1, s, h, hd => by
    have hb := bytesOf_last h
    have hw : wrap64 ((s.size : Int) - 1) = (d : Int) := by rw [wrap_id (by omega) (by omega)]; omega
    have er : (bytesOf s).reverse = bt s (d : Int) :: ((bytesOf s).take d).reverse := by
      conv => lhs; rw [hb]
      rw [List.reverse_append, List.reverse_singleton, List.singleton_append]
    by_cases hk : blkC (bt s (d : Int)) = true
    · have hx : bytesOf (s.extract 0 d) = (bytesOf s).take d := by rw [bytesOf_extract, List.drop_zero]
      have ih := spec_Trim_l1 d (s.extract 0 d) (by rw [ByteArray.size_extract]; omega) (by omega)
      rw [hx] at ih
      refine Ev.step (f := fun k => spec_Trim.l1 k (s.extract 0 d)) (fun k => ?_) (ev_eq ih (by rw [er, List.dropWhile_cons_of_pos hk]))
      simp only [spec_Trim.l1, hw]
      rw [if_pos (by omega), if_pos (by omega), if_pos (by omega), spec_l2Blank_eq, hk, Option.bind_some, if_pos rfl, if_pos (by omega), Int.toNat_natCast]
    · refine ev_last fun k => ?_
      simp only [spec_Trim.l1, hw]
      have hk' : blkC (bt s (d : Int)) = false := by simpa using hk
      rw [if_pos (by omega), if_pos (by omega), if_pos (by omega), spec_l2Blank_eq, hk', Option.bind_some, if_neg (by decide), er, List.dropWhile_cons_of_neg hk, ← er, List.reverse_reverse, strOfNums_bytesOf]
theorem spec_Trim_l0 : ∀ (d : Nat) (s : ByteArray), s.size = d → d ≤ 8388608 → Ev (fun k => spec_Trim.l0 k s) (strOfNums (((bytesOf s).dropWhile blkC).reverse.dropWhile blkC).reverse)
  | 0, s, h, hd => by
    refine Ev.step (f := fun k => spec_Trim.j1 k s) (fun k => ?_) (Ev.step (f := fun k => spec_Trim.l1 k s) (fun k => by simp only [spec_Trim.j1]) (ev_eq (spec_Trim_l1 0 s h hd) (by rw [bytesOf_nil h]; rfl)))
    simp only [spec_Trim.l0]
    rw [if_neg (by omega)]
  | d + 1, s, h, hd => by
    have er : bytesOf s = bt s 0 :: (bytesOf s).drop 1 := drop_bt (s := s) (i := 0) (by omega) (by omega)
    by_cases hk : blkC (bt s 0) = true
    · have hx : bytesOf (s.extract 1 s.size) = (bytesOf s).drop 1 := by rw [bytesOf_extract, List.take_of_length_le (by rw [bytesOf_length]; omega)]
      have ih := spec_Trim_l0 d (s.extract 1 s.size) (by rw [ByteArray.size_extract]; omega) (by omega)
      rw [hx] at ih
      refine Ev.step (f := fun k => spec_Trim.l0 k (s.extract 1 s.size)) (fun k => ?_) (ev_eq ih (by conv => rhs; rw [er, List.dropWhile_cons_of_pos hk]))
      simp only [spec_Trim.l0]
      rw [if_pos (by omega), if_pos (by omega), spec_l2Blank_eq, hk, Option.bind_some, if_pos rfl, if_pos (by omega)]
    · have hk' : blkC (bt s 0) = false := by simpa using hk
      refine Ev.step (f := fun k => spec_Trim.j1 k s) (fun k => ?_) (Ev.step (f := fun k => spec_Trim.l1 k s) (fun k => by simp only [spec_Trim.j1]) (ev_eq (spec_Trim_l1 (d + 1) s h hd) (by conv => rhs; rw [er, List.dropWhile_cons_of_neg hk, ← er])))
      simp only [spec_Trim.l0]
      rw [if_pos (by omega), if_pos (by omega), spec_l2Blank_eq, hk', Option.bind_some, if_neg (by decide)]
theorem spec_Trim_ev (s : ByteArray) (hs : s.size ≤ 8388608) : Ev (fun k => spec_Trim.f k s) (trimB s) := by
  have h := spec_Trim_l0 s.size s rfl hs
  rw [← dropWhile_ends] at h
  exact h

end Go.Proofs.YtefnmlglpldgfaaDoor.Pure

namespace Go.Proofs.YtefnmlglpldgfaaDoor.Pure
set_option linter.unusedVariables false
set_option linter.unusedSimpArgs false
open Go.RowKit Go.Proofs.YtefnmlglpldgfaaDoor.QL Go.Proofs.YtefnmlglpldgfaaDoorW.PrintWords Go.Proofs.YtefnmlglpldgfaaDoorW.PrintLast Go.Proofs.YtefnmlglpldgfaaDoorW.PrintMore Go.Proofs.YtefnmlglpldgfaaDoor.Aux Go.Proofs.YtefnmlglpldgfaaDoor.Dom Go.Proofs.YtefnmlglpldgfaaDoor.Ext
/-- The end of the text reached by a jump. -/
theorem spec_SplitList_over (s : ByteArray) (hs : s.size ≤ 8388608) (acc : List ByteArray) (a : Int) (h0 : 0 ≤ a) (ha : a < (s.size : Int)) (hacc : (acc.length : Int) ≤ s.size) :
    Ev (fun k => spec_SplitList.l0 k s acc a true ((s.size : Int) + 1)) (acc ++ splL s a [(s.size : Int)]) := by
  have ht := spec_Trim_ev (s.extract a.toNat s.size) (by rw [ByteArray.size_extract]; omega)
  refine Ev.step (f := fun k => spec_SplitList.j5 k s acc a true) (fun k => ?_) (Ev.step (f := fun k => (spec_Trim.f k (s.extract a.toNat s.size)).bind fun t => if t.toList = ([] : List UInt8) then some acc else if acc.length < 8796093022208 then some (acc ++ [t]) else none) (fun k => ?_) (ev_bind ht ?_))
  · simp only [spec_SplitList.l0]
    rw [if_neg (by omega), if_pos ha]
  · simp only [spec_SplitList.j5]
    rw [if_pos trivial, if_pos h0, if_pos (by omega)]
  · simp only [splL, Int.toNat_natCast]
    by_cases he : trimB (s.extract a.toNat s.size) = ⟨#[]⟩
    · rw [if_pos he]
      exact ev_if_pos ((trim_nil _).2 he) (ev_eq (Ev.now _) (by simp))
    · rw [if_neg he]
      exact ev_if_neg (fun h => he ((trim_nil _).1 h)) (ev_if_pos (by omega) (Ev.now _))
/-- A part is taken. -/
theorem spec_SplitList_take (s : ByteArray) (hs : s.size ≤ 8388608) (acc : List ByteArray) (a i : Int) (q : Bool) (h0 : 0 ≤ a) (ha : a ≤ i) (hi : i ≤ (s.size : Int)) (hacc : (acc.length : Int) ≤ i) (R : List Int)
    (h : ∀ acc' : List ByteArray, (acc'.length : Int) ≤ i + 1 → Ev (fun k => spec_SplitList.l0 k s acc' (i + 1) q (i + 1)) (acc' ++ splL s (i + 1) R)) :
    Ev (fun k => spec_SplitList.j4 k s acc a q i true) (acc ++ splL s a (i :: R)) := by
  have ht := spec_Trim_ev (s.extract a.toNat i.toNat) (by rw [ByteArray.size_extract]; omega)
  have w1 : wrap64 (i + 1) = i + 1 := wrap_id (by omega) (by omega)
  have hm : mn i (s.size : Int) = i := by unfold mn; split <;> omega
  refine Ev.step (f := fun k => (spec_Trim.f k (s.extract a.toNat i.toNat)).bind fun t => if t.toList = ([] : List UInt8) then spec_SplitList.l0 k s acc (i + 1) q (i + 1) else if acc.length < 8796093022208 then spec_SplitList.l0 k s (acc ++ [t]) (i + 1) q (i + 1) else none) (fun k => ?_) (ev_bind ht ?_)
  · simp only [spec_SplitList.j4, hm, w1]
    rw [if_pos (by trivial), if_pos h0, if_pos ha, if_pos hi]
  · rw [splL]
    by_cases he : trimB (s.extract a.toNat i.toNat) = ⟨#[]⟩
    · rw [if_pos he]
      exact ev_if_pos ((trim_nil _).2 he) (h acc (by omega))
    · rw [if_neg he]
      exact ev_if_neg (fun h => he ((trim_nil _).1 h)) (ev_if_pos (by omega) (ev_eq (h (acc ++ [trimB (s.extract a.toNat i.toNat)]) (by simp; omega)) (by simp)))
theorem spec_SplitList_l0 (s : ByteArray) (hs : s.size ≤ 8388608) : ∀ (d : Nat) (acc : List ByteArray) (a : Int) (q : Bool) (i : Int), 0 ≤ a → a ≤ i → (s.size : Int) - i ≤ d → (acc.length : Int) ≤ i → i ≤ (s.size : Int) →
    Ev (fun k => spec_SplitList.l0 k s acc a q i) (acc ++ splL s a (comL ((bytesOf s).drop i.toNat) q false i ++ [(s.size : Int)])) := by
  intro d
  induction d with
  | zero =>
    intro acc a q i h0 ha hd hacc hi
    have hie : i = (s.size : Int) := by omega
    subst hie
    rw [drop_end (by omega)]
    simp only [comL, List.nil_append]
    refine Ev.step (f := fun k => spec_SplitList.j1 k s acc a q (s.size : Int) false) (fun k => ?_) (Ev.step (f := fun k => spec_SplitList.j2 k s acc a q (s.size : Int)) (fun k => ?_) (Ev.step (f := fun k => spec_SplitList.j3 k s acc a q (s.size : Int) false) (fun k => ?_) (Ev.step (f := fun k => spec_SplitList.j4 k s acc a q (s.size : Int) true) (fun k => ?_) (spec_SplitList_take s hs acc a (s.size : Int) q h0 ha (by omega) hacc [] ?_))))
    · simp only [spec_SplitList.l0]
      rw [if_pos (by omega), if_neg (by omega)]
    · simp only [spec_SplitList.j1]
      rw [if_neg (by decide)]
    · simp only [spec_SplitList.j2]
      rw [if_neg (by omega)]
    · simp only [spec_SplitList.j3]
      rw [if_neg (by decide), if_pos (by omega)]
    · intro acc' _
      refine Ev.step (f := fun k => spec_SplitList.j5 k s acc' ((s.size : Int) + 1) false) (fun k => ?_) (ev_last fun k => ?_)
      · simp only [spec_SplitList.l0]
        rw [if_neg (by omega), if_neg (by omega)]
      · simp only [spec_SplitList.j5]
        rw [if_neg (by decide)]
        simp [splL]
  | succ d ih =>
    intro acc a q i h0 ha hd hacc hi
    by_cases hlt : i < (s.size : Int)
    · rw [drop_bt (by omega) hlt]
      have hi0 : 0 ≤ i := by omega
      have w1 : wrap64 (i + 1) = i + 1 := wrap_id (by omega) (by omega)
      have w2 : wrap64 (i + 1 + 1) = i + 2 := by rw [wrap_id (by omega) (by omega)]; omega
      -- the quotes
      have hq1 : ∀ r, Ev (fun k => spec_SplitList.j2 k s acc a (if bt s i = 34 then !q else q) i) r → Ev (fun k => spec_SplitList.l0 k s acc a q i) r := by
        intro r hr
        by_cases h34 : bt s i = 34
        · rw [if_pos h34] at hr
          refine Ev.step (f := fun k => spec_SplitList.j1 k s acc a q i true) (fun k => ?_) (Ev.step (f := fun k => spec_SplitList.j2 k s acc a (!q) i) (fun k => ?_) hr)
          · simp only [spec_SplitList.l0]
            rw [if_pos hi, if_pos hlt, if_pos hi0, h34]
            rfl
          · simp only [spec_SplitList.j1]
            rw [if_pos (by trivial)]
        · rw [if_neg h34] at hr
          have e : (bt s i == 34) = false := by rw [beq_eq_false_iff_ne]; exact h34
          refine Ev.step (f := fun k => spec_SplitList.j1 k s acc a q i false) (fun k => ?_) (Ev.step (f := fun k => spec_SplitList.j2 k s acc a q i) (fun k => ?_) hr)
          · simp only [spec_SplitList.l0]
            rw [if_pos hi, if_pos hlt, if_pos hi0, e]
          · simp only [spec_SplitList.j1]
            rw [if_neg (by decide)]
      -- no escape
      have hj3 : ∀ (q' : Bool) r, ¬(q' = true ∧ bt s i = 92) → Ev (fun k => spec_SplitList.j3 k s acc a q' i false) r → Ev (fun k => spec_SplitList.j2 k s acc a q' i) r := by
        intro q' r hn hr
        refine Ev.step (f := fun k => spec_SplitList.j3 k s acc a q' i false) (fun k => ?_) hr
        simp only [spec_SplitList.j2]
        rw [if_pos hlt]
        by_cases hq : q' = true
        · have e : (bt s i == 92) = false := by rw [beq_eq_false_iff_ne]; exact fun h => hn ⟨hq, h⟩
          rw [if_pos hq, if_pos hi0, e]
        · rw [if_neg hq]
      have hgo : ∀ (q' : Bool), bt s i ≠ 44 ∨ q' = true → Ev (fun k => spec_SplitList.j3 k s acc a q' i false) (acc ++ splL s a (comL ((bytesOf s).drop (i + 1).toNat) q' false (i + 1) ++ [(s.size : Int)])) := by
        intro q' hn
        refine Ev.step (f := fun k => spec_SplitList.j4 k s acc a q' i false) (fun k => ?_) (Ev.step (f := fun k => spec_SplitList.l0 k s acc a q' (i + 1)) (fun k => ?_) (ih acc a q' (i + 1) h0 (by omega) (by omega) (by omega) (by omega)))
        · simp only [spec_SplitList.j3]
          rw [if_neg (by decide), if_neg (by omega), if_pos hi0, if_pos hlt]
          by_cases h44 : bt s i = 44
          · rw [if_pos h44]
            rcases hn with hn | hn
            · exact absurd h44 hn
            · rw [hn]; rfl
          · rw [if_neg h44]
        · simp only [spec_SplitList.j4]
          rw [if_neg (by decide), w1]
      refine hq1 _ ?_
      rw [comL]
      by_cases h34 : bt s i = 34
      · rw [if_pos h34, if_pos h34]
        exact hj3 _ _ (fun h => by have := h.2; omega) (hgo _ (.inl (by omega)))
      · rw [if_neg h34, if_neg h34]
        by_cases hesc : q = true ∧ bt s i = 92
        · rw [if_pos hesc]
          obtain ⟨rfl, h92⟩ := hesc
          refine Ev.step (f := fun k => spec_SplitList.j3 k s acc a true i true) (fun k => ?_) (Ev.step (f := fun k => spec_SplitList.l0 k s acc a true (i + 2)) (fun k => ?_) ?_)
          · simp only [spec_SplitList.j2]
            rw [if_pos hlt, if_pos (by trivial), if_pos hi0, h92]
            rfl
          · simp only [spec_SplitList.j3]
            rw [if_pos (by trivial), w1, w2]
          · by_cases h2 : i + 1 < (s.size : Int)
            · rw [drop_bt (by omega) h2, comL, show i + 1 + 1 = i + 2 by omega]
              exact ih acc a true (i + 2) h0 (by omega) (by omega) (by omega) (by omega)
            · rw [drop_end (by omega)]
              simp only [comL, List.nil_append]
              have e : i + 2 = (s.size : Int) + 1 := by omega
              rw [e]
              exact spec_SplitList_over s hs acc a h0 (by omega) (by omega)
        · rw [if_neg hesc]
          refine hj3 _ _ hesc ?_
          by_cases hc : q = false ∧ bt s i = 44
          · rw [if_pos hc]
            obtain ⟨rfl, h44⟩ := hc
            rw [List.cons_append]
            refine Ev.step (f := fun k => spec_SplitList.j4 k s acc a false i true) (fun k => ?_) (spec_SplitList_take s hs acc a i false h0 ha hi hacc _ fun acc' hacc' => ih acc' (i + 1) false (i + 1) (by omega) (by omega) (by omega) (by omega) (by omega))
            simp only [spec_SplitList.j3]
            rw [if_neg (by decide), if_neg (by omega), if_pos hi0, if_pos hlt, if_pos h44]
            rfl
          · rw [if_neg hc]
            refine hgo q ?_
            cases q with
            | true => exact .inr rfl
            | false => exact .inl fun h => hc ⟨rfl, h⟩
    · exact ih acc a q i h0 ha (by omega) hacc hi
theorem spec_SplitList_ev (s : ByteArray) (hs : s.size ≤ 8388608) : Ev (fun k => spec_SplitList.f k s) (splL s 0 (comL (bytesOf s) false false 0 ++ [(s.size : Int)])) := by
  have h := spec_SplitList_l0 s hs s.size [] 0 false 0 (by omega) (by omega) (by omega) (by simp) (by omega)
  simpa [spec_SplitList.f] using h

end Go.Proofs.YtefnmlglpldgfaaDoor.Pure

namespace Go.Proofs.YtefnmlglpldgfaaDoor.Pure
set_option linter.unusedVariables false
set_option linter.unusedSimpArgs false
open Go.RowKit Go.Proofs.YtefnmlglpldgfaaDoor.QL Go.Proofs.YtefnmlglpldgfaaDoorW.PrintWords Go.Proofs.YtefnmlglpldgfaaDoorW.PrintLast Go.Proofs.YtefnmlglpldgfaaDoorW.PrintMore Go.Proofs.YtefnmlglpldgfaaDoor.Aux Go.Proofs.YtefnmlglpldgfaaDoor.Dom Go.Proofs.YtefnmlglpldgfaaDoor.Ext
theorem spec_l2Token_eq {c : Int} (h0 : 0 ≤ c) (h1 : c < 256) : spec_l2Token.f c = some (tokC c) := by unfold spec_l2Token.f; rw [if_pos ⟨h0, h1⟩]
theorem spec_IsTokenText_l0 (s : ByteArray) (hs : s.size ≤ 8388608) : ∀ (d : Nat) (i : Int), 0 ≤ i → (s.size : Int) - i = d →
    Ev (fun k => spec_IsTokenText.l0 k s i) (((bytesOf s).drop i.toNat).all tokC && !(bytesOf s).isEmpty)
  | 0, i, h0, hd => by
    refine ev_last fun k => ?_
    simp only [spec_IsTokenText.l0]
    rw [if_neg (by omega), drop_end (by omega)]
    have hl := bytesOf_length s
    cases hb : bytesOf s with
    | nil => rw [hb] at hl; simp at hl; simp [← hl]
    | cons a r => rw [hb] at hl; simp at hl; simp; omega
  | d + 1, i, h0, hd => by
    have hb := bt_bound s i
    have hlt : i < (s.size : Int) := by omega
    have e := spec_l2Token_eq hb.1 hb.2
    rw [drop_bt h0 hlt, List.all_cons]
    cases ht : tokC (bt s i) with
    | true =>
      refine Ev.step (f := fun k => spec_IsTokenText.l0 k s (i + 1)) (fun k => ?_) (ev_eq (spec_IsTokenText_l0 s hs d (i + 1) (by omega) (by omega)) (by rw [Bool.true_and]))
      simp only [spec_IsTokenText.l0]
      rw [if_pos hlt, if_pos h0, e, ht, Option.bind_some, if_pos rfl, wrap_id (by omega) (by omega)]
    | false =>
      refine ev_last fun k => ?_
      simp only [spec_IsTokenText.l0]
      rw [if_pos hlt, if_pos h0, e, ht, Option.bind_some, if_neg (by decide)]
      rfl
theorem spec_IsTokenText_ev (s : ByteArray) (hs : s.size ≤ 8388608) : Ev (fun k => spec_IsTokenText.f k s) (tokB (bytesOf s)) := by
  have h := spec_IsTokenText_l0 s hs s.size 0 (by omega) (by omega)
  simpa [spec_IsTokenText.f, tokB] using h

end Go.Proofs.YtefnmlglpldgfaaDoor.Pure

namespace Go.Proofs.YtefnmlglpldgfaaDoor.Pure
set_option linter.unusedVariables false
set_option linter.unusedSimpArgs false
open Go.RowKit Go.Proofs.YtefnmlglpldgfaaDoor.QL Go.Proofs.YtefnmlglpldgfaaDoorW.PrintWords Go.Proofs.YtefnmlglpldgfaaDoorW.PrintLast Go.Proofs.YtefnmlglpldgfaaDoorW.PrintMore Go.Proofs.YtefnmlglpldgfaaDoor.Aux Go.Proofs.YtefnmlglpldgfaaDoor.Dom Go.Proofs.YtefnmlglpldgfaaDoor.Ext
theorem spec_Lower_eq (s : ByteArray) (hs : s.size ≤ 8388608) : spec_Lower.f s = some (strOfNums ((bytesOf s).map lowC)) := by unfold spec_Lower.f; rw [if_pos hs]

end Go.Proofs.YtefnmlglpldgfaaDoor.Pure

namespace Go.Proofs.YtefnmlglpldgfaaDoor.Pure
set_option linter.unusedVariables false
set_option linter.unusedSimpArgs false
open Go.RowKit Go.Proofs.YtefnmlglpldgfaaDoor.QL Go.Proofs.YtefnmlglpldgfaaDoorW.PrintWords Go.Proofs.YtefnmlglpldgfaaDoorW.PrintLast Go.Proofs.YtefnmlglpldgfaaDoorW.PrintMore Go.Proofs.YtefnmlglpldgfaaDoor.Aux Go.Proofs.YtefnmlglpldgfaaDoor.Dom Go.Proofs.YtefnmlglpldgfaaDoor.Ext
theorem spec_l7Unquote_eq (R : ByteArray) (hR : R.size ≤ 8388608) : spec_l7Unquote.f R = some (unqB R) := by
  have w1 : wrap64 ((R.size : Int) - 1) = (R.size : Int) - 1 := wrap_id (by omega) (by omega)
  unfold spec_l7Unquote.f
  by_cases h2 : (R.size : Int) ≥ 2
  · rw [if_pos h2, if_pos (by omega)]
    by_cases hq : bt R 0 = 34
    · rw [if_pos hq, w1, if_pos (by omega), if_pos (by omega)]
      by_cases hr : bt R ((R.size : Int) - 1) = 34
      · rw [if_pos hr, if_pos (by omega), if_pos (by omega), show unqB R = R.extract 1 (R.size - 1) from if_pos ⟨by omega, hq, hr⟩, show ((R.size : Int) - 1).toNat = R.size - 1 by omega]
      · rw [if_neg hr, show unqB R = R from if_neg (fun h => hr h.2.2)]
    · rw [if_neg hq, show unqB R = R from if_neg (fun h => hq h.2.1)]
  · rw [if_neg h2, show unqB R = R from if_neg (fun h => h2 (by have := h.1; omega))]

end Go.Proofs.YtefnmlglpldgfaaDoor.Pure

namespace Go.Proofs.YtefnmlglpldgfaaDoor.Pure
set_option linter.unusedVariables false
set_option linter.unusedSimpArgs false
open Go.RowKit Go.Proofs.YtefnmlglpldgfaaDoor.QL Go.Proofs.YtefnmlglpldgfaaDoorW.PrintWords Go.Proofs.YtefnmlglpldgfaaDoorW.PrintLast Go.Proofs.YtefnmlglpldgfaaDoorW.PrintMore Go.Proofs.YtefnmlglpldgfaaDoor.Aux Go.Proofs.YtefnmlglpldgfaaDoor.Dom Go.Proofs.YtefnmlglpldgfaaDoor.Ext
/-- The place of the first '=' at or behind i. -/
theorem spec_Dir_l1 (p : ByteArray) (hs : p.size ≤ 8388608) (acc : List S80) (L : List ByteArray) (j : Int) (r : List S80) : ∀ (d : Nat) (i : Int), 0 ≤ i → (p.size : Int) - i = d →
    Ev (fun k => spec_Directives.j2 k acc L j p (if 0 ≤ idxS ((bytesOf p).drop i.toNat) [61] then idxS ((bytesOf p).drop i.toNat) [61] + i else (p.size : Int))) r → Ev (fun k => spec_Directives.l1 k acc L j p i) r
  | 0, i, h0, hd, h => by
    rw [drop_end (by omega)] at h
    rw [show (p.size : Int) = i by omega] at h
    refine Ev.step (fun k => by simp only [spec_Directives.l1]; rw [if_neg (by omega)]) ?_
    exact h
  | d + 1, i, h0, hd, h => by
    have hlt : i < (p.size : Int) := by omega
    rw [drop_bt h0 hlt, idxS_one] at h
    by_cases he : bt p i = 61
    · rw [if_pos (c := (61 : Int) = bt p i) he.symm, if_pos (by decide), Int.zero_add] at h
      exact Ev.step (fun k => by simp only [spec_Directives.l1]; rw [if_pos hlt, if_pos h0, if_pos he]) h
    · rw [if_neg (c := (61 : Int) = bt p i) (fun e => he e.symm)] at h
      refine Ev.step (fun k => by simp only [spec_Directives.l1]; rw [if_pos hlt, if_pos h0, if_neg he, wrap_id (x := i + 1) (by omega) (by omega)]) (spec_Dir_l1 p hs acc L j r d (i + 1) (by omega) (by omega) ?_)
      have hb := idxS_bound [61] ((bytesOf p).drop (i + 1).toNat)
      by_cases h1 : idxS ((bytesOf p).drop (i + 1).toNat) [61] = -1
      · rw [if_pos h1, if_neg (by decide)] at h
        rw [h1, if_neg (by decide)]
        exact h
      · rw [if_neg h1, if_pos (by omega)] at h
        rw [if_pos (by omega), show idxS ((bytesOf p).drop (i + 1).toNat) [61] + (i + 1) = idxS ((bytesOf p).drop (i + 1).toNat) [61] + 1 + i by omega]
        exact h
theorem strOfNums_take (p : ByteArray) (n : Nat) : p.extract 0 n = strOfNums ((bytesOf p).take n) := bytesOf_inj (by rw [bytesOf_extract, take_range, List.drop_zero])
theorem strOfNums_drop (p : ByteArray) (n : Nat) : p.extract n p.size = strOfNums ((bytesOf p).drop n) := bytesOf_inj (by rw [bytesOf_extract, drop_range, List.take_of_length_le (by rw [bytesOf_length]; exact Nat.le_refl _)])
theorem spec_Directives_l0 (L : List ByteArray) (hL : L.length ≤ 16777216) (hm : ∀ p ∈ L, p.size ≤ 8388608) : ∀ (d : Nat) (acc : List S80) (i : Int), 0 ≤ i → (L.length : Int) - i = d → (acc.length : Int) ≤ i →
    Ev (fun k => spec_Directives.l0 k acc L i) (acc ++ (dirL (L.drop i.toNat)).map fun p => (⟨p.1, p.2⟩ : S80))
  | 0, acc, i, h0, hd, ha => by
    refine ev_last fun k => ?_
    simp only [spec_Directives.l0]
    rw [if_neg (by omega), drop_nil (by omega)]
    simp [dirL]
  | d + 1, acc, i, h0, hd, ha => by
    have hlt : i < (L.length : Int) := by omega
    have hdrop : L.drop i.toNat = rdOf ByteArray.empty L i :: L.drop (i + 1).toNat := drop_rdOf (d := ByteArray.empty) h0 hlt
    have hmem : rdOf ByteArray.empty L i ∈ L := List.mem_of_mem_drop (i := i.toNat) (by rw [hdrop]; exact List.mem_cons_self)
    have hsz := hm _ hmem
    have hw : wrap64 (i + 1) = i + 1 := wrap_id (by omega) (by omega)
    rw [hdrop]
    simp only [dirL]
    refine Ev.step (fun k => by simp only [spec_Directives.l0]; rw [if_pos hlt, if_pos h0]) ?_
    generalize rdOf ByteArray.empty L i = p at hsz
    refine spec_Dir_l1 p hsz acc L i _ p.size 0 (by omega) (by omega) ?_
    simp only [Int.toNat_zero, List.drop_zero, Int.add_zero]
    have hl := bytesOf_length p
    have ib := idxS_bound [61] (bytesOf p)
    obtain ⟨n1, n2⟩ := cut_name p [61]
    have n3 := cut_rest p [61]
    have ih := fun acc' ha' => spec_Directives_l0 L hL hm d acc' (i + 1) (by omega) (by omega) ha'
    unfold dirOf
    by_cases h1 : 0 ≤ idxS (bytesOf p) [61]
    · have hc : cutL (bytesOf p) [61] = ((bytesOf p).take (idxS (bytesOf p) [61]).toNat, (bytesOf p).drop ((idxS (bytesOf p) [61]).toNat + 1), true) := by unfold cutL; rw [if_pos h1]; rfl
      rw [hc] at n1 n2 n3 ⊢
      rw [if_pos h1]
      simp only at n1 n2 n3 ⊢
      rcases ib with ib | ib
      · omega
      simp only [List.length_cons, List.length_nil] at ib
      have e1 : p.extract 0 (idxS (bytesOf p) [61]).toNat = strOfNums ((bytesOf p).take (idxS (bytesOf p) [61]).toNat) := strOfNums_take p _
      have e2 : p.extract (idxS (bytesOf p) [61] + 1).toNat p.size = strOfNums ((bytesOf p).drop ((idxS (bytesOf p) [61]).toNat + 1)) := by
        rw [show (idxS (bytesOf p) [61] + 1).toNat = (idxS (bytesOf p) [61]).toNat + 1 by omega]
        exact strOfNums_drop p _
      generalize strOfNums ((bytesOf p).drop ((idxS (bytesOf p) [61]).toNat + 1)) = R at n3 e2
      have tk := spec_IsTokenText_ev (strOfNums ((bytesOf p).take (idxS (bytesOf p) [61]).toNat)) (by omega)
      rw [n1] at tk
      refine Ev.step (fun k => by simp only [spec_Directives.j2]; rw [if_pos h1, if_pos (by omega), e1]) (ev_bind tk ?_)
      by_cases hT : tokB ((bytesOf p).take (idxS (bytesOf p) [61]).toNat) = true
      · rw [if_pos hT]
        refine ev_if_pos hT (ev_bind (ev_some fun _ => spec_Lower_eq _ (by omega)) ?_)
        refine Ev.congr (fun k => by rw [if_pos (by omega), wrap_id (x := idxS (bytesOf p) [61] + 1) (by omega) (by omega), if_pos (by omega), if_pos (by omega), e2, spec_l7Unquote_eq R (by omega), Option.bind_some, if_pos (by omega), hw]) ?_
        refine ev_eq (ih _ (by simp; omega)) ?_
        simp [lowB]
      · rw [if_neg hT]
        exact ev_if_neg hT (Ev.congr (fun k => by rw [hw]) (ih acc (by omega)))
    · have hc : cutL (bytesOf p) [61] = (bytesOf p, [], false) := by unfold cutL; rw [if_neg h1]
      rw [hc] at n1 n2 n3 ⊢
      rw [if_neg h1]
      simp only at n1 n2 n3 ⊢
      have e1 : p.extract 0 (p.size : Int).toNat = strOfNums (bytesOf p) := by rw [Int.toNat_natCast, strOfNums_take, List.take_of_length_le (by omega)]
      have tk := spec_IsTokenText_ev (strOfNums (bytesOf p)) (by omega)
      rw [n1] at tk
      refine Ev.step (fun k => by simp only [spec_Directives.j2]; rw [if_pos (by omega), if_pos (by omega), e1]) (ev_bind tk ?_)
      by_cases hT : tokB (bytesOf p) = true
      · rw [if_pos hT]
        refine ev_if_pos hT (ev_bind (ev_some fun _ => spec_Lower_eq _ (by omega)) ?_)
        refine Ev.congr (fun k => by rw [if_neg (by omega), if_pos (by omega), hw]) ?_
        refine ev_eq (ih _ (by simp; omega)) ?_
        have hu : unqB (strOfNums []) = ⟨#[]⟩ := by unfold unqB; rw [if_neg (fun h => by have := h.1; rw [strOfNums_size] at this; simp at this)]; rfl
        simp [lowB, hu]
      · rw [if_neg hT]
        exact ev_if_neg hT (Ev.congr (fun k => by rw [hw]) (ih acc (by omega)))
theorem spec_Directives_ev (l : List S81) (hl : l.length ≤ 1048576) (hz : ¬ szF 1048576 (l.map fun x => (x.f0, x.f1)) < 0) : Ev (fun k => spec_Directives.f k l) ((dirsL (l.map fun x => (x.f0, x.f1))).map fun p => (⟨p.1, p.2⟩ : S80)) := by
  have hs := ccB_size _ (by omega) hz
  have hq := szF_sum nmCC (by omega) hz
  have hc := comL_length (bytesOf (ccB (l.map fun x => (x.f0, x.f1)))) false false 0
  rw [bytesOf_length] at hc
  have hp := splL_length (ccB (l.map fun x => (x.f0, x.f1))) (comL (bytesOf (ccB (l.map fun x => (x.f0, x.f1)))) false false 0 ++ [((ccB (l.map fun x => (x.f0, x.f1))).size : Int)]) 0
  rw [List.length_append, List.length_singleton] at hp
  refine Ev.congr (fun k => by unfold spec_Directives.f; rfl) (ev_bind (spec_FieldGet_ev l nmCC hl (by omega)) (ev_bind (spec_SplitList_ev (ccB (l.map fun x => (x.f0, x.f1))) (by omega)) ?_))
  have h := spec_Directives_l0 (splL (ccB (l.map fun x => (x.f0, x.f1))) 0 (comL (bytesOf (ccB (l.map fun x => (x.f0, x.f1)))) false false 0 ++ [((ccB (l.map fun x => (x.f0, x.f1))).size : Int)])) (by omega) (fun p hp => Nat.le_trans (splL_size _ _ _ p hp) (by omega)) (splL (ccB (l.map fun x => (x.f0, x.f1))) 0 (comL (bytesOf (ccB (l.map fun x => (x.f0, x.f1)))) false false 0 ++ [((ccB (l.map fun x => (x.f0, x.f1))).size : Int)])).length [] 0 (by omega) (by omega) (by simp)
  exact h

end Go.Proofs.YtefnmlglpldgfaaDoor.Pure

namespace Go.Proofs.YtefnmlglpldgfaaDoor.Pure
set_option linter.unusedVariables false
set_option linter.unusedSimpArgs false
open Go.RowKit Go.Proofs.YtefnmlglpldgfaaDoor.QL Go.Proofs.YtefnmlglpldgfaaDoorW.PrintWords Go.Proofs.YtefnmlglpldgfaaDoorW.PrintLast Go.Proofs.YtefnmlglpldgfaaDoorW.PrintMore Go.Proofs.YtefnmlglpldgfaaDoor.Aux Go.Proofs.YtefnmlglpldgfaaDoor.Dom Go.Proofs.YtefnmlglpldgfaaDoor.Ext
theorem impl_FieldGet_l0 (l : List S81) (nm : ByteArray) (hl : l.length ≤ 1048576) (V : List ByteArray) (hV : (V.map fun v => v.size + 2).sum ≤ 8388608) (hW : V.length ≤ 1048576) : ∀ (d : Nat) (acc : List ByteArray) (i : Int), 0 ≤ i → (l.length : Int) - i = d → acc ++ getL nm ((l.drop i.toNat).map fun x => (x.f0, x.f1)) = V →
    Ev (fun k => impl_FieldGet.l0 k nm acc l (l.length : Int) i) (joinB ⟨#[44, 32]⟩ V, !V.isEmpty)
  | 0, acc, i, h0, hd, ha => by
    refine ev_last fun k => ?_
    simp only [impl_FieldGet.l0]
    rw [drop_nil (by omega)] at ha
    simp only [List.map_nil, getL, List.append_nil] at ha
    subst ha
    have hs : (joinB ⟨#[44, 32]⟩ acc).size ≤ (acc.map fun v => v.size + 2).sum := joinB_size ⟨#[44, 32]⟩ acc
    rw [if_neg (by omega), strings_Join.f, if_pos ⟨by omega, by omega⟩, Option.bind_some]
    cases acc <;> simp
  | d + 1, acc, i, h0, hd, ha => by
    have hlt : i < (l.length : Int) := by omega
    have hdrop : l.drop i.toNat = rd_T81 l i :: l.drop (i + 1).toNat := drop_rdOf (d := z81) h0 hlt
    rw [hdrop] at ha
    simp only [List.map_cons, getL] at ha
    by_cases h : (rd_T81 l i).f0 = nm
    · rw [if_pos h] at ha
      have hlen : acc.length < 8796093022208 := by
        have := congrArg List.length ha
        simp at this
        omega
      refine Ev.step (f := fun k => impl_FieldGet.l0 k nm (acc ++ [(rd_T81 l i).f1]) l (l.length : Int) (i + 1)) (fun k => ?_) (impl_FieldGet_l0 l nm hl V hV hW d (acc ++ [(rd_T81 l i).f1]) (i + 1) (by omega) (by omega) (by rw [← ha]; simp))
      simp only [impl_FieldGet.l0]
      rw [if_pos hlt, if_pos h0, if_pos hlt, if_pos (by rw [h]), if_pos hlen, wrap_id (by omega) (by omega)]
    · rw [if_neg h] at ha
      refine Ev.step (f := fun k => impl_FieldGet.l0 k nm acc l (l.length : Int) (i + 1)) (fun k => ?_) (impl_FieldGet_l0 l nm hl V hV hW d acc (i + 1) (by omega) (by omega) ha)
      simp only [impl_FieldGet.l0]
      rw [if_pos hlt, if_pos h0, if_pos hlt, if_neg (by rw [toList_eq_iff]; exact h), wrap_id (by omega) (by omega)]
theorem impl_FieldGet_ev (l : List S81) (nm : ByteArray) (hl : l.length ≤ 1048576) (hV : ((getL nm (l.map fun x => (x.f0, x.f1))).map fun v => v.size + 2).sum ≤ 8388608) : Ev (fun k => impl_FieldGet.f k l nm) (joinB ⟨#[44, 32]⟩ (getL nm (l.map fun x => (x.f0, x.f1))), !(getL nm (l.map fun x => (x.f0, x.f1))).isEmpty) := by
  have hW := getL_length nm (l.map fun x => (x.f0, x.f1))
  rw [List.length_map] at hW
  have h := impl_FieldGet_l0 l nm hl _ hV (by omega) l.length [] 0 (by omega) (by omega) (by simp)
  simpa [impl_FieldGet.f] using h

end Go.Proofs.YtefnmlglpldgfaaDoor.Pure

namespace Go.Proofs.YtefnmlglpldgfaaDoor.Pure
set_option linter.unusedVariables false
set_option linter.unusedSimpArgs false
open Go.RowKit Go.Proofs.YtefnmlglpldgfaaDoor.QL Go.Proofs.YtefnmlglpldgfaaDoorW.PrintWords Go.Proofs.YtefnmlglpldgfaaDoorW.PrintLast Go.Proofs.YtefnmlglpldgfaaDoorW.PrintMore Go.Proofs.YtefnmlglpldgfaaDoor.Aux Go.Proofs.YtefnmlglpldgfaaDoor.Dom Go.Proofs.YtefnmlglpldgfaaDoor.Ext
theorem impl_Trim_eq (s : ByteArray) (hs : s.size ≤ 8388608) : impl_Trim.f s = some (trimB s) := by
  unfold impl_Trim.f strings_Trim.f
  rw [if_pos ⟨hs, rfl⟩, Option.bind_some]

end Go.Proofs.YtefnmlglpldgfaaDoor.Pure

namespace Go.Proofs.YtefnmlglpldgfaaDoor.Pure
set_option linter.unusedVariables false
set_option linter.unusedSimpArgs false
open Go.RowKit Go.Proofs.YtefnmlglpldgfaaDoor.QL Go.Proofs.YtefnmlglpldgfaaDoorW.PrintWords Go.Proofs.YtefnmlglpldgfaaDoorW.PrintLast Go.Proofs.YtefnmlglpldgfaaDoorW.PrintMore Go.Proofs.YtefnmlglpldgfaaDoor.Aux Go.Proofs.YtefnmlglpldgfaaDoor.Dom Go.Proofs.YtefnmlglpldgfaaDoor.Ext
theorem impl_commas_l0 (s : ByteArray) (hs : s.size ≤ 8388608) : ∀ (d : Nat) (acc : List Int) (q : Bool) (i : Int), 0 ≤ i → (s.size : Int) - i ≤ d → (acc.length : Int) ≤ i → i ≤ (s.size : Int) + 1 →
    Ev (fun k => impl_commas.l0 k s acc q i) (acc ++ comL ((bytesOf s).drop i.toNat) q false i)
  | 0, acc, q, i, h0, hd, ha, hi => by
    refine ev_last fun k => ?_
    simp only [impl_commas.l0]
    rw [if_neg (by omega), drop_end (by omega)]
    simp [comL]
  | d + 1, acc, q, i, h0, hd, ha, hi => by
    by_cases hlt : i < (s.size : Int)
    · rw [drop_bt h0 hlt]
      have w1 : wrap64 (i + 1) = i + 1 := wrap_id (by omega) (by omega)
      have w2 : wrap64 (i + 1 + 1) = i + 2 := by rw [wrap_id (by omega) (by omega)]; omega
      by_cases h34 : bt s i = 34
      · refine Ev.step (f := fun k => impl_commas.l0 k s acc (!q) (i + 1)) (fun k => ?_) (ev_eq (impl_commas_l0 s hs d acc (!q) (i + 1) (by omega) (by omega) (by omega) (by omega)) (by rw [comL, if_pos h34]))
        simp only [impl_commas.l0]
        rw [if_pos hlt, if_pos h0, if_pos h34, w1]
      · by_cases hq : q = true
        · subst hq
          by_cases h92 : bt s i = 92
          · refine Ev.step (f := fun k => impl_commas.j1 k s acc true i true) (fun k => ?_) (Ev.step (f := fun k => impl_commas.l0 k s acc true (i + 2)) (fun k => ?_) (ev_eq (impl_commas_l0 s hs d acc true (i + 2) (by omega) (by omega) (by omega) (by omega)) ?_))
            · simp only [impl_commas.l0]
              rw [if_pos hlt, if_pos h0, if_neg h34, if_pos (by trivial), h92]
              rfl
            · simp only [impl_commas.j1]
              rw [if_pos (by trivial), w1, w2]
            · rw [comL, if_neg h34, if_pos ⟨rfl, h92⟩]
              by_cases h2 : i + 1 < (s.size : Int)
              · rw [drop_bt (by omega) h2, comL, show i + 1 + 1 = i + 2 by omega]
              · rw [drop_end (by omega), drop_end (by omega)]
                simp [comL]
          · refine Ev.step (f := fun k => impl_commas.j1 k s acc true i false) (fun k => ?_) (Ev.step (f := fun k => impl_commas.l0 k s acc true (i + 1)) (fun k => ?_) (ev_eq (impl_commas_l0 s hs d acc true (i + 1) (by omega) (by omega) (by omega) (by omega)) ?_))
            · simp only [impl_commas.l0]
              have e : (bt s i == 92) = false := by rw [beq_eq_false_iff_ne]; exact h92
              rw [if_pos hlt, if_pos h0, if_neg h34, if_pos (by trivial), e]
            · simp only [impl_commas.j1]
              rw [if_neg (by decide), if_pos (by trivial), w1]
            · rw [comL, if_neg h34, if_neg (fun h => h92 h.2), if_neg (fun h => by simp at h)]
        · have hq' : q = false := by simpa using hq
          subst hq'
          by_cases h44 : bt s i = 44
          · refine Ev.step (f := fun k => impl_commas.j1 k s acc false i false) (fun k => ?_) (Ev.step (f := fun k => impl_commas.l0 k s (acc ++ [i]) false (i + 1)) (fun k => ?_) (ev_eq (impl_commas_l0 s hs d (acc ++ [i]) false (i + 1) (by omega) (by omega) (by simp; omega) (by omega)) ?_))
            · simp only [impl_commas.l0]
              rw [if_pos hlt, if_pos h0, if_neg h34, if_neg (by decide)]
            · simp only [impl_commas.j1]
              rw [if_neg (by decide), if_neg (by decide), if_pos h0, if_pos hlt, if_pos h44, if_pos (by omega), w1]
            · rw [comL, if_neg h34, if_neg (fun h => by simp at h), if_pos ⟨rfl, h44⟩]
              simp
          · refine Ev.step (f := fun k => impl_commas.j1 k s acc false i false) (fun k => ?_) (Ev.step (f := fun k => impl_commas.l0 k s acc false (i + 1)) (fun k => ?_) (ev_eq (impl_commas_l0 s hs d acc false (i + 1) (by omega) (by omega) (by omega) (by omega)) ?_))
            · simp only [impl_commas.l0]
              rw [if_pos hlt, if_pos h0, if_neg h34, if_neg (by decide)]
            · simp only [impl_commas.j1]
              rw [if_neg (by decide), if_neg (by decide), if_pos h0, if_pos hlt, if_neg h44, w1]
            · rw [comL, if_neg h34, if_neg (fun h => by simp at h), if_neg (fun h => h44 h.2)]
    · refine ev_last fun k => ?_
      simp only [impl_commas.l0]
      rw [if_neg (by omega), drop_end (by omega)]
      simp [comL]
theorem impl_commas_ev (s : ByteArray) (hs : s.size ≤ 8388608) : Ev (fun k => impl_commas.f k s) (comL (bytesOf s) false false 0) := by
  have h := impl_commas_l0 s hs s.size [] false 0 (by omega) (by omega) (by simp) (by omega)
  simpa [impl_commas.f] using h

end Go.Proofs.YtefnmlglpldgfaaDoor.Pure

namespace Go.Proofs.YtefnmlglpldgfaaDoor.Pure
set_option linter.unusedVariables false
set_option linter.unusedSimpArgs false
open Go.RowKit Go.Proofs.YtefnmlglpldgfaaDoor.QL Go.Proofs.YtefnmlglpldgfaaDoorW.PrintWords Go.Proofs.YtefnmlglpldgfaaDoorW.PrintLast Go.Proofs.YtefnmlglpldgfaaDoorW.PrintMore Go.Proofs.YtefnmlglpldgfaaDoor.Aux Go.Proofs.YtefnmlglpldgfaaDoor.Dom Go.Proofs.YtefnmlglpldgfaaDoor.Ext
theorem impl_SplitList_l0 (s : ByteArray) (hs : s.size ≤ 8388608) (L : List Int) (hL : L.length ≤ 8388609) : ∀ (d : Nat) (acc : List ByteArray) (a : Int) (j : Int), 0 ≤ j → (L.length : Int) - j = d → (acc.length : Int) ≤ j → 0 ≤ a → upL s.size a (L.drop j.toNat) →
    Ev (fun k => impl_SplitList.l0 k s acc a L (L.length : Int) j) (acc ++ splL s a (L.drop j.toNat))
  | 0, acc, a, j, h0, hd, ha, ha0, hu => by
    refine ev_last fun k => ?_
    simp only [impl_SplitList.l0]
    rw [if_neg (by omega), drop_nil (by omega)]
    simp [splL]
  | d + 1, acc, a, j, h0, hd, ha, ha0, hu => by
    have hlt : j < (L.length : Int) := by omega
    have hdrop : L.drop j.toNat = rd L j :: L.drop (j + 1).toNat := drop_rdOf (d := 0) h0 hlt
    rw [hdrop] at hu ⊢
    obtain ⟨u1, u2, u3⟩ := hu
    have w1 : wrap64 (rd L j + 1) = rd L j + 1 := wrap_id (by omega) (by omega)
    have w2 : wrap64 (j + 1) = j + 1 := wrap_id (by omega) (by omega)
    have ht := impl_Trim_eq (s.extract a.toNat (rd L j).toNat) (by rw [ByteArray.size_extract]; omega)
    by_cases he : trimB (s.extract a.toNat (rd L j).toNat) = ⟨#[]⟩
    · refine Ev.step (f := fun k => impl_SplitList.l0 k s acc (rd L j + 1) L (L.length : Int) (j + 1)) (fun k => ?_) (ev_eq (impl_SplitList_l0 s hs L hL d acc (rd L j + 1) (j + 1) (by omega) (by omega) (by omega) (by omega) u3) (by rw [splL, if_pos he]))
      simp only [impl_SplitList.l0]
      rw [if_pos hlt, if_pos h0, if_pos hlt, if_pos ha0, if_pos u1, if_pos u2, ht, Option.bind_some, if_pos ((trim_nil _).2 he), w1, w2]
    · refine Ev.step (f := fun k => impl_SplitList.l0 k s (acc ++ [trimB (s.extract a.toNat (rd L j).toNat)]) (rd L j + 1) L (L.length : Int) (j + 1)) (fun k => ?_) (ev_eq (impl_SplitList_l0 s hs L hL d _ (rd L j + 1) (j + 1) (by omega) (by omega) (by simp; omega) (by omega) u3) (by rw [splL, if_neg he]; simp))
      simp only [impl_SplitList.l0]
      rw [if_pos hlt, if_pos h0, if_pos hlt, if_pos ha0, if_pos u1, if_pos u2, ht, Option.bind_some, if_neg (fun h => he ((trim_nil _).1 h)), if_pos (by omega), w1, w2]
theorem impl_SplitList_ev (s : ByteArray) (hs : s.size ≤ 8388608) : Ev (fun k => impl_SplitList.f k s) (splL s 0 (comL (bytesOf s) false false 0 ++ [(s.size : Int)])) := by
  have hc := comL_length (bytesOf s) false false 0
  rw [bytesOf_length] at hc
  have hu := comL_up (s.size : Int) (bytesOf s) false false 0 0 (by omega) (by rw [bytesOf_length]; omega)
  refine Ev.congr (fun k => by unfold impl_SplitList.f; rfl) (ev_bind (impl_commas_ev s hs) ?_)
  refine ev_if_pos (show (comL (bytesOf s) false false 0).length < 17592186044416 by omega) ?_
  refine Ev.congr (fun k => by rw [Option.bind_some]) ?_
  have h := impl_SplitList_l0 s hs (comL (bytesOf s) false false 0 ++ [(s.size : Int)]) (by simp; omega) (comL (bytesOf s) false false 0 ++ [(s.size : Int)]).length [] 0 0 (by omega) (by omega) (by simp) (by omega) (by simpa using hu)
  exact h

end Go.Proofs.YtefnmlglpldgfaaDoor.Pure

namespace Go.Proofs.YtefnmlglpldgfaaDoor.Pure
set_option linter.unusedVariables false
set_option linter.unusedSimpArgs false
open Go.RowKit Go.Proofs.YtefnmlglpldgfaaDoor.QL Go.Proofs.YtefnmlglpldgfaaDoorW.PrintWords Go.Proofs.YtefnmlglpldgfaaDoorW.PrintLast Go.Proofs.YtefnmlglpldgfaaDoorW.PrintMore Go.Proofs.YtefnmlglpldgfaaDoor.Aux Go.Proofs.YtefnmlglpldgfaaDoor.Dom Go.Proofs.YtefnmlglpldgfaaDoor.Ext
theorem strings_IndexByte_eq (s : ByteArray) (c : Int) (h0 : 0 ≤ c) (h1 : c < 256) : strings_IndexByte.f s c = some (idxB (bytesOf s) c) := by unfold strings_IndexByte.f; rw [if_pos ⟨h0, h1⟩]

end Go.Proofs.YtefnmlglpldgfaaDoor.Pure

namespace Go.Proofs.YtefnmlglpldgfaaDoor.Pure
set_option linter.unusedVariables false
set_option linter.unusedSimpArgs false
open Go.RowKit Go.Proofs.YtefnmlglpldgfaaDoor.QL Go.Proofs.YtefnmlglpldgfaaDoorW.PrintWords Go.Proofs.YtefnmlglpldgfaaDoorW.PrintLast Go.Proofs.YtefnmlglpldgfaaDoorW.PrintMore Go.Proofs.YtefnmlglpldgfaaDoor.Aux Go.Proofs.YtefnmlglpldgfaaDoor.Dom Go.Proofs.YtefnmlglpldgfaaDoor.Ext
def lodC (c : Int) : Bool := decide (97 ≤ c ∧ c ≤ 122) || decide (65 ≤ c ∧ c ≤ 90) || decide (48 ≤ c ∧ c ≤ 57)
theorem impl_isLetterOrDigit_eq {c : Int} (h0 : 0 ≤ c) (h1 : c < 256) : impl_isLetterOrDigit.f c = some (lodC c) :=
  byte_all (P := fun c => impl_isLetterOrDigit.f c = some (lodC c)) (by decide +kernel) h0 h1
theorem impl_tok {c : Int} (h0 : 0 ≤ c) (h1 : c < 256) : tokC c = (lodC c || !decide (idxB [33, 35, 36, 37, 38, 39, 42, 43, 45, 46, 94, 95, 124, 126, 96] c < 0)) :=
  byte_all (P := fun c => tokC c = (lodC c || !decide (idxB [33, 35, 36, 37, 38, 39, 42, 43, 45, 46, 94, 95, 124, 126, 96] c < 0))) (by decide +kernel) h0 h1
theorem impl_IsTokenText_l0 (s : ByteArray) (hs : s.size ≤ 8388608) : ∀ (d : Nat) (i : Int), 0 ≤ i → (s.size : Int) - i = d →
    Ev (fun k => impl_IsTokenText.l0 k s (s.size : Int) i) (((bytesOf s).drop i.toNat).all tokC && !(bytesOf s).isEmpty)
  | 0, i, h0, hd => by
    refine ev_last fun k => ?_
    simp only [impl_IsTokenText.l0]
    rw [if_neg (by omega), drop_end (by omega)]
    congr 1
    rw [Bool.eq_iff_iff]
    simp only [bne_iff_ne, ne_eq, List.all_nil, Bool.true_and, Bool.not_eq_true', List.isEmpty_eq_false_iff]
    constructor
    · intro h he
      apply h
      exact (toList_lit _ _).2 he
    · intro h he
      exact h ((toList_lit _ _).1 he)
  | d + 1, i, h0, hd => by
    have hb := bt_bound s i
    have hlt : i < (s.size : Int) := by omega
    have e := impl_isLetterOrDigit_eq hb.1 hb.2
    have et := impl_tok hb.1 hb.2
    rw [drop_bt h0 hlt, List.all_cons]
    have ei := strings_IndexByte_eq (⟨#[33, 35, 36, 37, 38, 39, 42, 43, 45, 46, 94, 95, 124, 126, 96]⟩ : ByteArray) (bt s i) hb.1 hb.2
    have eb : bytesOf (⟨#[33, 35, 36, 37, 38, 39, 42, 43, 45, 46, 94, 95, 124, 126, 96]⟩ : ByteArray) = [33, 35, 36, 37, 38, 39, 42, 43, 45, 46, 94, 95, 124, 126, 96] := by decide +kernel
    rw [eb] at ei
    cases hl : lodC (bt s i) with
    | true =>
      rw [hl, Bool.true_or] at et
      refine Ev.step (f := fun k => impl_IsTokenText.l0 k s (s.size : Int) (i + 1)) (fun k => ?_) (ev_eq (impl_IsTokenText_l0 s hs d (i + 1) (by omega) (by omega)) (by rw [et, Bool.true_and]))
      simp only [impl_IsTokenText.l0]
      rw [if_pos hlt, if_pos h0, if_pos hlt, e, hl, Option.bind_some, if_pos rfl, wrap_id (by omega) (by omega)]
    | false =>
      rw [hl, Bool.false_or] at et
      by_cases hx : idxB [33, 35, 36, 37, 38, 39, 42, 43, 45, 46, 94, 95, 124, 126, 96] (bt s i) < 0
      · refine ev_last fun k => ?_
        simp only [impl_IsTokenText.l0]
        rw [if_pos hlt, if_pos h0, if_pos hlt, e, hl, Option.bind_some, if_neg (by decide), ei, Option.bind_some, if_pos hx, et, decide_eq_true hx]
        rfl
      · refine Ev.step (f := fun k => impl_IsTokenText.l0 k s (s.size : Int) (i + 1)) (fun k => ?_) (ev_eq (impl_IsTokenText_l0 s hs d (i + 1) (by omega) (by omega)) (by rw [et, decide_eq_false hx]; rfl))
        simp only [impl_IsTokenText.l0]
        rw [if_pos hlt, if_pos h0, if_pos hlt, e, hl, Option.bind_some, if_neg (by decide), ei, Option.bind_some, if_neg hx, wrap_id (by omega) (by omega)]
theorem impl_IsTokenText_ev (s : ByteArray) (hs : s.size ≤ 8388608) : Ev (fun k => impl_IsTokenText.f k s) (tokB (bytesOf s)) := by
  have h := impl_IsTokenText_l0 s hs s.size 0 (by omega) (by omega)
  simpa [impl_IsTokenText.f, tokB] using h

end Go.Proofs.YtefnmlglpldgfaaDoor.Pure

namespace Go.Proofs.YtefnmlglpldgfaaDoor.Pure
set_option linter.unusedVariables false
set_option linter.unusedSimpArgs false
open Go.RowKit Go.Proofs.YtefnmlglpldgfaaDoor.QL Go.Proofs.YtefnmlglpldgfaaDoorW.PrintWords Go.Proofs.YtefnmlglpldgfaaDoorW.PrintLast Go.Proofs.YtefnmlglpldgfaaDoorW.PrintMore Go.Proofs.YtefnmlglpldgfaaDoor.Aux Go.Proofs.YtefnmlglpldgfaaDoor.Dom Go.Proofs.YtefnmlglpldgfaaDoor.Ext
theorem impl_Lower_eq (s : ByteArray) (hs : s.size ≤ 8388608) : impl_Lower.f s = some (strOfNums ((bytesOf s).map lowC)) := by unfold impl_Lower.f; rw [if_pos hs]

end Go.Proofs.YtefnmlglpldgfaaDoor.Pure

namespace Go.Proofs.YtefnmlglpldgfaaDoor.Pure
set_option linter.unusedVariables false
set_option linter.unusedSimpArgs false
open Go.RowKit Go.Proofs.YtefnmlglpldgfaaDoor.QL Go.Proofs.YtefnmlglpldgfaaDoorW.PrintWords Go.Proofs.YtefnmlglpldgfaaDoorW.PrintLast Go.Proofs.YtefnmlglpldgfaaDoorW.PrintMore Go.Proofs.YtefnmlglpldgfaaDoor.Aux Go.Proofs.YtefnmlglpldgfaaDoor.Dom Go.Proofs.YtefnmlglpldgfaaDoor.Ext
theorem strings_Cut_eq (s sep : ByteArray) (hs : s.size ≤ 8388608) : strings_Cut.f s sep = some (strOfNums (cutL (bytesOf s) (bytesOf sep)).1, strOfNums (cutL (bytesOf s) (bytesOf sep)).2.1, (cutL (bytesOf s) (bytesOf sep)).2.2) := by unfold strings_Cut.f; rw [if_pos hs]

end Go.Proofs.YtefnmlglpldgfaaDoor.Pure

namespace Go.Proofs.YtefnmlglpldgfaaDoor.Pure
set_option linter.unusedVariables false
set_option linter.unusedSimpArgs false
open Go.RowKit Go.Proofs.YtefnmlglpldgfaaDoor.QL Go.Proofs.YtefnmlglpldgfaaDoorW.PrintWords Go.Proofs.YtefnmlglpldgfaaDoorW.PrintLast Go.Proofs.YtefnmlglpldgfaaDoorW.PrintMore Go.Proofs.YtefnmlglpldgfaaDoor.Aux Go.Proofs.YtefnmlglpldgfaaDoor.Dom Go.Proofs.YtefnmlglpldgfaaDoor.Ext
theorem impl_Directives_l0 (L : List ByteArray) (hL : L.length ≤ 16777216) (hm : ∀ p ∈ L, p.size ≤ 8388608) : ∀ (d : Nat) (acc : List S80) (i : Int), 0 ≤ i → (L.length : Int) - i = d → (acc.length : Int) ≤ i →
    Ev (fun k => impl_Directives.l0 k acc L (L.length : Int) i) (acc ++ (dirL (L.drop i.toNat)).map fun p => (⟨p.1, p.2⟩ : S80))
  | 0, acc, i, h0, hd, ha => by
    refine ev_last fun k => ?_
    simp only [impl_Directives.l0]
    rw [if_neg (by omega), drop_nil (by omega)]
    simp [dirL]
  | d + 1, acc, i, h0, hd, ha => by
    have hlt : i < (L.length : Int) := by omega
    have hdrop : L.drop i.toNat = rdOf ByteArray.empty L i :: L.drop (i + 1).toNat := drop_rdOf (d := ByteArray.empty) h0 hlt
    have hmem : rdOf ByteArray.empty L i ∈ L := List.mem_of_mem_drop (i := i.toNat) (by rw [hdrop]; exact List.mem_cons_self)
    have hsz := hm _ hmem
    have hw : wrap64 (i + 1) = i + 1 := wrap_id (by omega) (by omega)
    rw [hdrop]
    simp only [dirL]
    obtain ⟨p, hp⟩ : ∃ p, p = rdOf ByteArray.empty L i := ⟨_, rfl⟩
    rw [← hp] at hsz ⊢
    obtain ⟨n1, n2⟩ := cut_name p [61]
    have n3 := cut_rest p [61]
    have hc := strings_Cut_eq p ⟨#[61]⟩ hsz
    rw [show bytesOf (⟨#[61]⟩ : ByteArray) = [61] from rfl] at hc
    unfold dirOf
    generalize hN : strOfNums (cutL (bytesOf p) [61]).1 = N at n1 n2 hc
    generalize hR : strOfNums (cutL (bytesOf p) [61]).2.1 = R at n3 hc
    have w1 : wrap64 ((R.size : Int) - 1) = (R.size : Int) - 1 := wrap_id (by omega) (by omega)
    have hg : ∀ k, impl_Directives.l0 (k + 1) acc L (L.length : Int) i = (impl_IsTokenText.f k N).bind fun t113 => if t113 = true then (impl_Lower.f N).bind (fun t => if acc.length < 4398046511104 then impl_Directives.l0 k (acc ++ [(⟨t, unqB R⟩ : S80)]) L (L.length : Int) (i + 1) else none) else impl_Directives.l0 k acc L (L.length : Int) (i + 1) := by
      intro k
      simp only [impl_Directives.l0]
      rw [if_pos hlt, if_pos h0, if_pos hlt, ← hp, hc]
      simp only [Option.bind_some]
      rw [hw]
      congr 1
      funext t
      by_cases ht : t = true
      · rw [if_pos ht, if_pos ht]
        by_cases h2 : (R.size : Int) ≥ 2
        · rw [if_pos h2, if_pos (by omega)]
          by_cases hq : bt R 0 = 34
          · rw [if_pos hq, w1, if_pos (by omega), if_pos (by omega)]
            by_cases hr : bt R ((R.size : Int) - 1) = 34
            · rw [if_pos hr, if_pos (by omega), if_pos (by omega), show unqB R = R.extract 1 (R.size - 1) from if_pos ⟨by omega, hq, hr⟩, show ((R.size : Int) - 1).toNat = R.size - 1 by omega]
            · rw [if_neg hr, show unqB R = R from if_neg (fun h => hr h.2.2)]
          · rw [if_neg hq, show unqB R = R from if_neg (fun h => hq h.2.1)]
        · rw [if_neg h2, show unqB R = R from if_neg (fun h => h2 (by have := h.1; omega))]
      · rw [if_neg ht, if_neg ht]
    refine Ev.step hg (ev_bind (impl_IsTokenText_ev N (by omega)) ?_)
    rw [n1]
    by_cases hT : tokB (cutL (bytesOf p) [61]).1 = true
    · rw [if_pos hT]
      refine ev_if_pos hT (ev_bind (ev_some fun _ => impl_Lower_eq N (by omega)) (ev_if_pos (by omega) (ev_eq (impl_Directives_l0 L hL hm d _ (i + 1) (by omega) (by omega) (by simp; omega)) ?_)))
      simp [lowB]
    · rw [if_neg hT]
      exact ev_if_neg hT (impl_Directives_l0 L hL hm d acc (i + 1) (by omega) (by omega) (by omega))
theorem impl_Directives_ev (l : List S81) (hl : l.length ≤ 1048576) (hz : ¬ szF 1048576 (l.map fun x => (x.f0, x.f1)) < 0) : Ev (fun k => impl_Directives.f k l) ((dirsL (l.map fun x => (x.f0, x.f1))).map fun p => (⟨p.1, p.2⟩ : S80)) := by
  have hs := ccB_size _ (by omega) hz
  have hq := szF_sum nmCC (by omega) hz
  have hc := comL_length (bytesOf (ccB (l.map fun x => (x.f0, x.f1)))) false false 0
  rw [bytesOf_length] at hc
  have hp := splL_length (ccB (l.map fun x => (x.f0, x.f1))) (comL (bytesOf (ccB (l.map fun x => (x.f0, x.f1)))) false false 0 ++ [((ccB (l.map fun x => (x.f0, x.f1))).size : Int)]) 0
  rw [List.length_append, List.length_singleton] at hp
  refine Ev.congr (fun k => by unfold impl_Directives.f; rfl) (ev_bind (impl_FieldGet_ev l nmCC hl (by omega)) (ev_bind (impl_SplitList_ev (ccB (l.map fun x => (x.f0, x.f1))) (by omega)) ?_))
  have h := impl_Directives_l0 (splL (ccB (l.map fun x => (x.f0, x.f1))) 0 (comL (bytesOf (ccB (l.map fun x => (x.f0, x.f1)))) false false 0 ++ [((ccB (l.map fun x => (x.f0, x.f1))).size : Int)])) (by omega) (fun p hp => Nat.le_trans (splL_size _ _ _ p hp) (by omega)) (splL (ccB (l.map fun x => (x.f0, x.f1))) 0 (comL (bytesOf (ccB (l.map fun x => (x.f0, x.f1)))) false false 0 ++ [((ccB (l.map fun x => (x.f0, x.f1))).size : Int)])).length [] 0 (by omega) (by omega) (by simp)
  exact h

end Go.Proofs.YtefnmlglpldgfaaDoor.Pure

namespace Go.Proofs.YtefnmlglpldgfaaDoor.Pure
set_option linter.unusedVariables false
set_option linter.unusedSimpArgs false
open Go.RowKit Go.Proofs.YtefnmlglpldgfaaDoor.QL Go.Proofs.YtefnmlglpldgfaaDoorW.PrintWords Go.Proofs.YtefnmlglpldgfaaDoorW.PrintLast Go.Proofs.YtefnmlglpldgfaaDoorW.PrintMore Go.Proofs.YtefnmlglpldgfaaDoor.Aux Go.Proofs.YtefnmlglpldgfaaDoor.Dom Go.Proofs.YtefnmlglpldgfaaDoor.Ext

theorem FnExactDirectives : laws_FnExactDirectives.Pure := by
  intro l hl hm
  refine Ev.rounds (Ev.congr (fun k => by unfold laws_FnExactDirectives.f; rfl) ?_)
  refine ev_bind (laws_szFieldS_ev l 1048576 hl hm (by omega) (by omega)) ?_
  by_cases h3 : szF 1048576 (l.map fun x => (x.f0, x.f1)) < 0
  · exact ev_if_pos h3 (Ev.now _)
  have q1 := szF_len h3
  rw [List.length_map] at q1
  have la : l.length ≤ 1048576 := by omega
  have eX : ((l.map fun x => (⟨x.f0, x.f1⟩ : S81)).map fun x => (x.f0, x.f1)) = l.map fun x => (x.f0, x.f1) := by rw [List.map_map]; rfl
  have q2 : ((dirsL (l.map fun x => (x.f0, x.f1))).length : Int) ≤ 3145729 := by
    have q3 := dirsL_length _ (by omega) h3
    omega
  have tol := laws_toFieldS_ev l la
  have sp := spec_Directives_ev (l.map fun x => (⟨x.f0, x.f1⟩ : S81)) (by rw [List.length_map]; exact la) (by rw [eX]; exact h3)
  have im := impl_Directives_ev (l.map fun x => (⟨x.f0, x.f1⟩ : S81)) (by rw [List.length_map]; exact la) (by rw [eX]; exact h3)
  rw [eX] at sp im
  generalize hS : dirsL (l.map fun x => (x.f0, x.f1)) = S at sp im q2
  have eqS := laws_eqDirectiveS_ev (S.map fun p => (⟨p.1, p.2⟩ : S80)) (by rw [List.length_map]; omega)
  have eqX := laws_eqFieldS_ev (l.map fun x => (⟨x.f0, x.f1⟩ : S81)) (by rw [List.length_map]; omega)
  have mkX := laws_markFieldS_ev (l.map fun x => (⟨x.f0, x.f1⟩ : S81)) (by rw [List.length_map]; omega)
  have mkS := laws_markDirectiveS_ev (S.map fun p => (⟨p.1, p.2⟩ : S80)) (by rw [List.length_map]; omega)
  have eS : ((S.map fun p => (⟨p.1, p.2⟩ : S80)).map fun x => (x.f0, x.f1)) = S := by rw [List.map_map]; exact List.map_id S
  rw [eS, List.length_map] at mkS
  have hdS := laws_heldDirectiveS_ev S (by omega)
  refine ev_if_neg h3 (ev_bind tol (ev_bind sp (ev_bind tol (ev_bind im (ev_bind eqS (ev_if_pos rfl (ev_bind tol (ev_bind eqX (ev_if_pos rfl (ev_bind mkX (ev_if_neg (by simp; omega) (ev_bind eqS ?_))))))))))))
  have hlt : ¬ (1 + 2 * (S.length : Int) < 0) := by omega
  refine Ev.step (fun k => by simp only [laws_FnExactDirectives.j0]; rfl) ?_
  refine ev_if_neg (by decide) (ev_bind mkS (ev_bind hdS (ev_if_neg hlt ?_)))
  refine ev_if_pos rfl (ev_bind tol (ev_bind im (ev_bind eqS (ev_if_pos rfl (ev_bind hdS (ev_if_neg hlt ?_))))))
  exact ev_if_pos rfl (Ev.now _)

end Go.Proofs.YtefnmlglpldgfaaDoor.Pure
