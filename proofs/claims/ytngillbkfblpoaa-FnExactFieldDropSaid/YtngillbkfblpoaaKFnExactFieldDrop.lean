/- The program's FieldDrop returns what the reference's returns, for all lists of fields and names, in new memory (where they hold more than 2^20 fields and bytes they are let by). -/
import Derived.Test.YtngillbkfblpoaaDom
import Derived.Test.YtngillbkfblpoaaDomB
import Derived.Test.YtngillbkfblpoaaCFnExactFieldDropa
namespace Go.Proofs.Ytngillbkfblpoaa.QL
open Go.RowKit Go.Proofs.YtngillbkfblpoaaW.PrintWords Go.Proofs.YtngillbkfblpoaaW.PrintLast Go.Proofs.YtngillbkfblpoaaW.PrintMore Go.Proofs.Ytngillbkfblpoaa.Aux Go.Proofs.Ytngillbkfblpoaa.Dom Go.Proofs.Ytngillbkfblpoaa.Ext
def laws_FnExactFieldDrop.Pure : Prop := ∀ (l0 : List S32) (a1 : ByteArray), l0.length ≤ maxLen → (∀ x ∈ l0, x.f0.size ≤ maxLen ∧ x.f1.size ≤ maxLen) → a1.size ≤ 140737488351232 → ∃ k, laws_FnExactFieldDrop.f k l0 a1 = some true
theorem laws_FnExactFieldDrop.walk (P : laws_FnExactFieldDrop.Pure) (A0 : Option Addr) (c0 : Nat) (l0 : List S32) (a1 : ByteArray) (w : World) (hr0 : Kd.C k32 w A0 l0.length l0) (hc0 : l0.length ≤ c0) (zl0 : l0.length ≤ maxLen) (zm0 : ∀ x ∈ l0, x.f0.size ≤ maxLen ∧ x.f1.size ≤ maxLen) (za1 : a1.size ≤ 140737488351232) :
    Calls Try.prog 3 #[.slice A0 l0.length c0, .string a1] w fun e w' => e = .returned (.bool true) ∧ Below w.heap.size w w' := by
  obtain ⟨k, h⟩ := P l0 a1 zl0 zm0 za1
  refine (laws_FnExactFieldDrop.calls k A0 c0 l0 a1 true w hr0 hc0 h).mono ?_
  rintro e w' ⟨rfl, hd⟩
  exact ⟨rfl, hd⟩
end Go.Proofs.Ytngillbkfblpoaa.QL

namespace Go.Proofs.Ytngillbkfblpoaa.Pure
set_option linter.unusedVariables false
set_option linter.unusedSimpArgs false
open Go.RowKit Go.Proofs.Ytngillbkfblpoaa.QL Go.Proofs.YtngillbkfblpoaaW.PrintWords Go.Proofs.YtngillbkfblpoaaW.PrintLast Go.Proofs.YtngillbkfblpoaaW.PrintMore Go.Proofs.Ytngillbkfblpoaa.Aux Go.Proofs.Ytngillbkfblpoaa.Dom Go.Proofs.Ytngillbkfblpoaa.Ext
theorem laws_szField_eq (a b : ByteArray) (n : Int) (ha : a.size ≤ maxLen) (hb : b.size ≤ maxLen) (h0 : 0 ≤ n) (h1 : n ≤ 9223372036854775807) :
    laws_szField.f a b n = some (if n - a.size - b.size < 0 then -1 else n - a.size - b.size) := by
  unfold maxLen at ha hb
  unfold laws_szField.f
  by_cases h : n - a.size < 0
  · rw [wrap_id (by omega) (by omega), if_pos h, if_pos (by omega)]
  · rw [wrap_id (x := n - a.size) (by omega) (by omega), if_neg h, wrap_id (by omega) (by omega)]
    by_cases h2 : n - a.size - b.size < 0
    · rw [if_pos h2, if_pos h2]
    · rw [if_neg h2, if_neg h2]

end Go.Proofs.Ytngillbkfblpoaa.Pure

namespace Go.Proofs.Ytngillbkfblpoaa.Pure
set_option linter.unusedVariables false
set_option linter.unusedSimpArgs false
open Go.RowKit Go.Proofs.Ytngillbkfblpoaa.QL Go.Proofs.YtngillbkfblpoaaW.PrintWords Go.Proofs.YtngillbkfblpoaaW.PrintLast Go.Proofs.YtngillbkfblpoaaW.PrintMore Go.Proofs.Ytngillbkfblpoaa.Aux Go.Proofs.Ytngillbkfblpoaa.Dom Go.Proofs.Ytngillbkfblpoaa.Ext
theorem laws_szFieldS_l0 (l : List S32) (hl : l.length ≤ maxLen) (hm : ∀ x ∈ l, x.f0.size ≤ maxLen ∧ x.f1.size ≤ maxLen) : ∀ (d : Nat) (n i : Int), 0 ≤ i → (l.length : Int) - i = d → 0 ≤ n → n ≤ 1048576 →
    Ev (fun k => laws_szFieldS.l0 k l n i) (szL n ((l.drop i.toNat).map fun x => (x.f0, x.f1)))
  | 0, n, i, h0, hd, n0, n1 => by
    refine ev_last fun k => ?_
    simp only [laws_szFieldS.l0]
    rw [if_neg (by omega), drop_nil (by omega)]
    rfl
  | d + 1, n, i, h0, hd, n0, n1 => by
    have hlt : i < (l.length : Int) := by omega
    have hx : (rd_T32 l i) ∈ l := by
      unfold rd_T32
      rw [List.getD_eq_getElem?_getD, List.getElem?_eq_getElem (by omega)]
      exact List.getElem_mem _
    have e := laws_szField_eq (rd_T32 l i).f0 (rd_T32 l i).f1 n (hm _ hx).1 (hm _ hx).2 n0 (by omega)
    have hdrop : l.drop i.toNat = rd_T32 l i :: l.drop (i + 1).toNat := drop_rdOf (d := z32) h0 hlt
    rw [hdrop]
    simp only [List.map_cons, szL]
    by_cases h : n - ((rd_T32 l i).f0.size : Int) - ((rd_T32 l i).f1.size : Int) < 0
    · refine ev_last fun k => ?_
      simp only [laws_szFieldS.l0]
      rw [if_pos hlt, if_pos h0, e, if_pos h, Option.bind_some, if_pos (by omega), if_pos h]
    · refine Ev.step (f := fun k => laws_szFieldS.l0 k l (n - ((rd_T32 l i).f0.size : Int) - ((rd_T32 l i).f1.size : Int)) (i + 1)) (fun k => ?_) (ev_eq (laws_szFieldS_l0 l hl hm d _ (i + 1) (by omega) (by omega) (by omega) (by omega)) ?_)
      · simp only [laws_szFieldS.l0]
        rw [if_pos hlt, if_pos h0, e, if_neg h, Option.bind_some, if_neg h, wrap_id (by omega) (by unfold maxLen at hl; omega)]
      · rw [if_neg h]
theorem laws_szFieldS_ev (l : List S32) (n : Int) (hl : l.length ≤ maxLen) (hm : ∀ x ∈ l, x.f0.size ≤ maxLen ∧ x.f1.size ≤ maxLen) (n0 : 0 ≤ n) (n1 : n ≤ 1048576) :
    Ev (fun k => laws_szFieldS.f k l n) (szF n (l.map fun x => (x.f0, x.f1))) := by
  unfold szF
  rw [List.length_map]
  by_cases h : n - (l.length : Int) < 0
  · rw [if_pos h]
    refine ev_some fun k => ?_
    unfold laws_szFieldS.f
    rw [wrap_id (by unfold maxLen at hl; omega) (by omega), if_pos h]
  · rw [if_neg h]
    refine Ev.congr (fun k => by unfold laws_szFieldS.f; rw [wrap_id (by unfold maxLen at hl; omega) (by omega), if_neg h]) ?_
    have e := laws_szFieldS_l0 l hl hm l.length (n - l.length) 0 (by omega) (by omega) (by omega) (by omega)
    simpa using e

end Go.Proofs.Ytngillbkfblpoaa.Pure

namespace Go.Proofs.Ytngillbkfblpoaa.Pure
set_option linter.unusedVariables false
set_option linter.unusedSimpArgs false
open Go.RowKit Go.Proofs.Ytngillbkfblpoaa.QL Go.Proofs.YtngillbkfblpoaaW.PrintWords Go.Proofs.YtngillbkfblpoaaW.PrintLast Go.Proofs.YtngillbkfblpoaaW.PrintMore Go.Proofs.Ytngillbkfblpoaa.Aux Go.Proofs.Ytngillbkfblpoaa.Dom Go.Proofs.Ytngillbkfblpoaa.Ext
theorem laws_toFieldS_l0 (l : List S32) (hl : l.length ≤ 1048576) : ∀ (d : Nat) (ys : List S33) (i : Int), 0 ≤ i → (l.length : Int) - i = d → (ys.length : Int) = i →
    Ev (fun k => laws_toFieldS.l0 k l (ys ++ List.replicate d z33) i) (ys ++ (l.drop i.toNat).map fun x => (⟨x.f0, x.f1⟩ : S33))
  | 0, ys, i, h0, hd, hy => by
    refine ev_last fun k => ?_
    simp only [laws_toFieldS.l0]
    rw [if_neg (by omega), drop_nil (by omega)]
    simp
  | d + 1, ys, i, h0, hd, hy => by
    have hlt : i < (l.length : Int) := by omega
    have hdrop : l.drop i.toNat = rd_T32 l i :: l.drop (i + 1).toNat := drop_rdOf (d := z32) h0 hlt
    refine Ev.step (f := fun k => laws_toFieldS.l0 k l ((ys ++ [(⟨(rd_T32 l i).f0, (rd_T32 l i).f1⟩ : S33)]) ++ List.replicate d z33) (i + 1)) (fun k => ?_) (ev_eq (laws_toFieldS_l0 l hl d _ (i + 1) (by omega) (by omega) (by simp; omega)) ?_)
    · simp only [laws_toFieldS.l0, laws_toField.f, Option.bind_some]
      have e : (ys ++ List.replicate (d + 1) z33).set i.toNat (⟨(rd_T32 l i).f0, (rd_T32 l i).f1⟩ : S33) = (ys ++ [(⟨(rd_T32 l i).f0, (rd_T32 l i).f1⟩ : S33)]) ++ List.replicate d z33 := by
        rw [List.set_append_right _ _ (by omega), show i.toNat - ys.length = 0 by omega, List.replicate_succ]
        simp
      rw [if_pos hlt, if_pos h0, if_pos (by simp; omega), e, wrap_id (by omega) (by omega)]
    · rw [hdrop]; simp
theorem laws_toFieldS_ev (l : List S32) (hl : l.length ≤ 1048576) : Ev (fun k => laws_toFieldS.f k l) (l.map fun x => (⟨x.f0, x.f1⟩ : S33)) := by
  refine Ev.congr (fun k => by unfold laws_toFieldS.f; rw [if_pos (by omega), if_pos (by omega)]) ?_
  have e := laws_toFieldS_l0 l hl l.length [] 0 (by omega) (by omega) (by simp)
  simpa using e

end Go.Proofs.Ytngillbkfblpoaa.Pure

namespace Go.Proofs.Ytngillbkfblpoaa.Pure
set_option linter.unusedVariables false
set_option linter.unusedSimpArgs false
open Go.RowKit Go.Proofs.Ytngillbkfblpoaa.QL Go.Proofs.YtngillbkfblpoaaW.PrintWords Go.Proofs.YtngillbkfblpoaaW.PrintLast Go.Proofs.YtngillbkfblpoaaW.PrintMore Go.Proofs.Ytngillbkfblpoaa.Aux Go.Proofs.Ytngillbkfblpoaa.Dom Go.Proofs.Ytngillbkfblpoaa.Ext
theorem laws_eqFieldS_l0 (l : List S33) (hl : l.length ≤ 9223372036854775806) : ∀ (d : Nat) (i : Int), 0 ≤ i → (l.length : Int) - i = d → Ev (fun k => laws_eqFieldS.l0 k l l i) true
  | 0, i, h0, hd => by
    refine ev_last fun k => ?_
    simp only [laws_eqFieldS.l0]
    rw [if_neg (by omega)]
  | d + 1, i, h0, hd => by
    have hlt : i < (l.length : Int) := by omega
    refine Ev.step (f := fun k => laws_eqFieldS.l0 k l l (i + 1)) (fun k => ?_) (laws_eqFieldS_l0 l hl d (i + 1) (by omega) (by omega))
    simp only [laws_eqFieldS.l0, laws_eqField.f]
    rw [if_pos hlt, if_pos h0, if_pos hlt]
    simp only [if_true, Option.bind_some]
    rw [wrap_id (by omega) (by omega)]
/-- Two that are one are alike. -/
theorem laws_eqFieldS_ev (l : List S33) (hl : l.length ≤ 9223372036854775806) : Ev (fun k => laws_eqFieldS.f k l l) true := by
  refine Ev.congr (fun k => by unfold laws_eqFieldS.f; rw [if_pos rfl]) ?_
  exact laws_eqFieldS_l0 l hl l.length 0 (by omega) (by omega)

end Go.Proofs.Ytngillbkfblpoaa.Pure

namespace Go.Proofs.Ytngillbkfblpoaa.Pure
set_option linter.unusedVariables false
set_option linter.unusedSimpArgs false
open Go.RowKit Go.Proofs.Ytngillbkfblpoaa.QL Go.Proofs.YtngillbkfblpoaaW.PrintWords Go.Proofs.YtngillbkfblpoaaW.PrintLast Go.Proofs.YtngillbkfblpoaaW.PrintMore Go.Proofs.Ytngillbkfblpoaa.Aux Go.Proofs.Ytngillbkfblpoaa.Dom Go.Proofs.Ytngillbkfblpoaa.Ext
theorem laws_markText_l0 : ∀ (f : Nat) (n : Int) (acc : List Int), n < 10 ^ f → f < 19 → acc.length + f ≤ 100 →
    Ev (fun k => laws_markText.l0 k n (strOfNums acc)) ((⟨#[109]⟩ : ByteArray) ++ strOfNums (decL f n acc))
  | 0, n, acc, hn, hf, ha => by
    refine ev_last fun k => ?_
    simp only [laws_markText.l0]
    rw [if_neg (by simp at hn; omega), if_pos (by rw [strOfNums_size]; omega)]
    rfl
  | f + 1, n, acc, hn, hf, ha => by
    by_cases h : n > 0
    · have hm : (10 : Int) ^ (f + 1) ≤ 10 ^ 18 := pow_le 10 (by decide) (by omega)
      refine Ev.step (f := fun k => laws_markText.l0 k (n / 10) (strOfNums ((48 + n % 10) :: acc))) (fun k => ?_) (ev_eq (laws_markText_l0 f (n / 10) _ (by rw [Int.pow_succ] at hn; omega) (by omega) (by simp; omega)) ?_)
      · simp only [laws_markText.l0, Option.bind_some]
        rw [if_pos h, if_pos (by rw [strOfNums_size, strOfNums_size]; simp; omega), Int.tmod_eq_emod_of_nonneg (by omega), Int.tdiv_eq_ediv_of_nonneg (by omega), wrap_id (x := 48 + n % 10) (by omega) (by omega), wrap_id (by omega) (by omega), Int.emod_eq_of_lt (a := 48 + n % 10) (by omega) (by omega), ← strOfNums_append]
        rfl
      · rw [decL, if_pos h]
    · refine ev_last fun k => ?_
      simp only [laws_markText.l0]
      rw [if_neg h, if_pos (by rw [strOfNums_size]; omega), decL, if_neg h]
theorem laws_markText_ev (n : Int) (hn : n < 10 ^ 18) : Ev (fun k => laws_markText.f k n) (markB n) := by
  unfold markB
  by_cases h : n ≤ 0
  · rw [if_pos h]
    exact ev_some fun k => by unfold laws_markText.f; rw [if_pos h]
  · rw [if_neg h]
    refine Ev.congr (fun k => by unfold laws_markText.f; rw [if_neg h]) ?_
    refine ev_eq (laws_markText_l0 18 n [] hn (by omega) (by simp)) ?_
    have e : decL 20 n [] = decL 18 n [] := decL_more 2 18 n [] hn
    rw [e]

end Go.Proofs.Ytngillbkfblpoaa.Pure

namespace Go.Proofs.Ytngillbkfblpoaa.Pure
set_option linter.unusedVariables false
set_option linter.unusedSimpArgs false
open Go.RowKit Go.Proofs.Ytngillbkfblpoaa.QL Go.Proofs.YtngillbkfblpoaaW.PrintWords Go.Proofs.YtngillbkfblpoaaW.PrintLast Go.Proofs.YtngillbkfblpoaaW.PrintMore Go.Proofs.Ytngillbkfblpoaa.Aux Go.Proofs.Ytngillbkfblpoaa.Dom Go.Proofs.Ytngillbkfblpoaa.Ext
theorem laws_markFieldS_l0 : ∀ (d : Nat) (ys zs : List S33) (n i : Int), zs.length = d → (ys.length : Int) = i → i + d ≤ 2097152 → 0 ≤ n → n + 2 * d ≤ 10000000 →
    Ev (fun k => laws_markFieldS.l0 k (ys ++ zs) n i) (n + 2 * d, ys ++ (markF (zs.map fun x => (x.f0, x.f1)) n).map fun p => (⟨p.1, p.2⟩ : S33))
  | 0, ys, zs, n, i, hd, hy, hi, h0, hn => by
    obtain rfl := List.eq_nil_of_length_eq_zero hd
    refine ev_last fun k => ?_
    simp only [laws_markFieldS.l0]
    rw [if_neg (by simp; omega)]
    simp [markF]
  | d + 1, ys, [], n, i, hd, hy, hi, h0, hn => by simp at hd
  | d + 1, ys, z :: zs, n, i, hd, hy, hi, h0, hn => by
    have hz : zs.length = d := by simpa using hd
    have i0 : i.toNat = ys.length := by omega
    have hs1 : ∀ v : S33, (ys ++ z :: zs).set i.toNat v = ys ++ v :: zs := fun v => by rw [i0, List.set_append_right _ _ (Nat.le_refl _)]; simp
    have hs2 : ∀ v v' : S33, (ys ++ v' :: zs).set i.toNat v = ys ++ v :: zs := fun v v' => by rw [i0, List.set_append_right _ _ (Nat.le_refl _)]; simp
    have hr : ∀ v : S33, rd_T33 (ys ++ v :: zs) i = v := fun v => by unfold rd_T33; rw [i0]; simp [List.getD_eq_getElem?_getD]
    have ih := laws_markFieldS_l0 d (ys ++ [(⟨markB n, markB (n + 1)⟩ : S33)]) zs (n + 2) (i + 1) hz (by simp; omega) (by omega) (by omega) (by omega)
    refine Ev.step (f := fun k => (laws_markText.f k n).bind fun t1 => (laws_markText.f k (n + 1)).bind fun t2 => laws_markFieldS.l0 k (ys ++ (⟨t1, t2⟩ : S33) :: zs) (n + 2) (i + 1)) (fun k => ?_) (ev_bind (laws_markText_ev n (by omega)) (ev_bind (laws_markText_ev (n + 1) (by omega)) (ev_eq (by simpa using ih) ?_)))
    · simp only [laws_markFieldS.l0]
      have hi0 : 0 ≤ i := by omega
      rw [if_pos (by simp; omega), wrap_id (x := n + 1) (by omega) (by omega), wrap_id (x := n + 1 + 1) (by omega) (by omega), wrap_id (x := i + 1) (by omega) (by omega), show n + 1 + 1 = n + 2 by omega]
      simp only [hi0, if_true, Option.bind_some, hs1, hs2, hr]
    · refine Prod.ext (by simp; omega) ?_
      simp [markF]
theorem laws_markFieldS_ev (l : List S33) (hl : l.length ≤ 2097152) : Ev (fun k => laws_markFieldS.f k l 1) (1 + 2 * (l.length : Int), (markF (l.map fun x => (x.f0, x.f1)) 1).map fun p => (⟨p.1, p.2⟩ : S33)) := by
  have h := laws_markFieldS_l0 l.length [] l 1 0 rfl (by simp) (by omega) (by omega) (by omega)
  simpa [laws_markFieldS.f] using h

end Go.Proofs.Ytngillbkfblpoaa.Pure

namespace Go.Proofs.Ytngillbkfblpoaa.Pure
set_option linter.unusedVariables false
set_option linter.unusedSimpArgs false
open Go.RowKit Go.Proofs.Ytngillbkfblpoaa.QL Go.Proofs.YtngillbkfblpoaaW.PrintWords Go.Proofs.YtngillbkfblpoaaW.PrintLast Go.Proofs.YtngillbkfblpoaaW.PrintMore Go.Proofs.Ytngillbkfblpoaa.Aux Go.Proofs.Ytngillbkfblpoaa.Dom Go.Proofs.Ytngillbkfblpoaa.Ext
theorem laws_heldFieldS_l0 : ∀ (d : Nat) (ys : List S33) (zs : List (ByteArray × ByteArray)) (n i : Int), zs.length = d → (ys.length : Int) = i → i + d ≤ 2097152 → 0 ≤ n → n + 2 * d ≤ 10000000 →
    Ev (fun k => laws_heldFieldS.l0 k (ys ++ (markF zs n).map fun p => (⟨p.1, p.2⟩ : S33)) n i) (n + 2 * d)
  | 0, ys, zs, n, i, hd, hy, hi, h0, hn => by
    obtain rfl := List.eq_nil_of_length_eq_zero hd
    refine ev_last fun k => ?_
    simp only [laws_heldFieldS.l0]
    rw [if_neg (by simp [markF]; omega)]
    simp
  | d + 1, ys, [], n, i, hd, hy, hi, h0, hn => by simp at hd
  | d + 1, ys, z :: zs, n, i, hd, hy, hi, h0, hn => by
    have hz : zs.length = d := by simpa using hd
    have i0 : i.toNat = ys.length := by omega
    have hr : ∀ (v : S33) (r : List S33), rd_T33 (ys ++ v :: r) i = v := fun v r => by unfold rd_T33; rw [i0]; simp [List.getD_eq_getElem?_getD]
    have ih := laws_heldFieldS_l0 d (ys ++ [(⟨markB n, markB (n + 1)⟩ : S33)]) zs (n + 2) (i + 1) hz (by simp; omega) (by omega) (by omega) (by omega)
    simp only [markF, List.map_cons]
    refine Ev.step (f := fun k => (laws_markText.f k n).bind fun t1 => if (markB n).toList = t1.toList then (laws_markText.f k (n + 1)).bind (fun t2 => if (markB (n + 1)).toList = t2.toList then laws_heldFieldS.l0 k (ys ++ (⟨markB n, markB (n + 1)⟩ : S33) :: ((markF zs (n + 2)).map fun p => (⟨p.1, p.2⟩ : S33))) (n + 2) (i + 1) else some (-1)) else some (-1)) (fun k => ?_) (ev_bind (laws_markText_ev n (by omega)) (ev_if_pos rfl (ev_bind (laws_markText_ev (n + 1) (by omega)) (ev_if_pos rfl (ev_eq (by simpa using ih) (by omega))))))
    simp only [laws_heldFieldS.l0]
    rw [if_pos (by simp; omega), if_pos (show 0 ≤ i by omega), wrap_id (x := n + 1) (by omega) (by omega), wrap_id (x := n + 1 + 1) (by omega) (by omega), wrap_id (x := i + 1) (by omega) (by omega), show n + 1 + 1 = n + 2 by omega]
    simp only [hr]
theorem laws_heldFieldS_ev (zs : List (ByteArray × ByteArray)) (hl : zs.length ≤ 2097152) : Ev (fun k => laws_heldFieldS.f k ((markF zs 1).map fun p => (⟨p.1, p.2⟩ : S33)) 1) (1 + 2 * (zs.length : Int)) := by
  have h := laws_heldFieldS_l0 zs.length [] zs 1 0 rfl (by simp) (by omega) (by omega) (by omega)
  simpa [laws_heldFieldS.f] using h

end Go.Proofs.Ytngillbkfblpoaa.Pure

namespace Go.Proofs.Ytngillbkfblpoaa.Pure
set_option linter.unusedVariables false
set_option linter.unusedSimpArgs false
open Go.RowKit Go.Proofs.Ytngillbkfblpoaa.QL Go.Proofs.YtngillbkfblpoaaW.PrintWords Go.Proofs.YtngillbkfblpoaaW.PrintLast Go.Proofs.YtngillbkfblpoaaW.PrintMore Go.Proofs.Ytngillbkfblpoaa.Aux Go.Proofs.Ytngillbkfblpoaa.Dom Go.Proofs.Ytngillbkfblpoaa.Ext
theorem spec_FieldDrop_l0 (l : List S33) (nm : ByteArray) (hl : l.length ≤ 4194304) : ∀ (d : Nat) (acc : List S33) (i : Int), 0 ≤ i → (l.length : Int) - i = d → (acc.length : Int) ≤ i →
    Ev (fun k => spec_FieldDrop.l0 k l nm acc i) (acc ++ (dropL nm ((l.drop i.toNat).map fun x => (x.f0, x.f1))).map fun p => (⟨p.1, p.2⟩ : S33))
  | 0, acc, i, h0, hd, ha => by
    refine ev_last fun k => ?_
    simp only [spec_FieldDrop.l0]
    rw [if_neg (by omega), drop_nil (by omega)]
    simp [dropL]
  | d + 1, acc, i, h0, hd, ha => by
    have hlt : i < (l.length : Int) := by omega
    have hdrop : l.drop i.toNat = rd_T33 l i :: l.drop (i + 1).toNat := drop_rdOf (d := z33) h0 hlt
    rw [hdrop]
    simp only [List.map_cons, dropL]
    by_cases h : (rd_T33 l i).f0 = nm
    · rw [if_pos h]
      refine Ev.step (f := fun k => spec_FieldDrop.l0 k l nm acc (i + 1)) (fun k => ?_) (spec_FieldDrop_l0 l nm hl d acc (i + 1) (by omega) (by omega) (by omega))
      simp only [spec_FieldDrop.l0]
      rw [if_pos hlt, if_pos h0, if_pos (by rw [h]), wrap_id (by omega) (by omega)]
    · rw [if_neg h]
      refine Ev.step (f := fun k => spec_FieldDrop.l0 k l nm (acc ++ [rd_T33 l i]) (i + 1)) (fun k => ?_) (ev_eq (spec_FieldDrop_l0 l nm hl d _ (i + 1) (by omega) (by omega) (by simp; omega)) (by simp))
      simp only [spec_FieldDrop.l0]
      rw [if_pos hlt, if_pos h0, if_neg (by rw [toList_eq_iff]; exact h), if_pos (by omega), wrap_id (by omega) (by omega)]
theorem spec_FieldDrop_ev (l : List S33) (nm : ByteArray) (hl : l.length ≤ 4194304) : Ev (fun k => spec_FieldDrop.f k l nm) ((dropL nm (l.map fun x => (x.f0, x.f1))).map fun p => (⟨p.1, p.2⟩ : S33)) := by
  have h := spec_FieldDrop_l0 l nm hl l.length [] 0 (by omega) (by omega) (by simp)
  simpa [spec_FieldDrop.f] using h

end Go.Proofs.Ytngillbkfblpoaa.Pure

namespace Go.Proofs.Ytngillbkfblpoaa.Pure
set_option linter.unusedVariables false
set_option linter.unusedSimpArgs false
open Go.RowKit Go.Proofs.Ytngillbkfblpoaa.QL Go.Proofs.YtngillbkfblpoaaW.PrintWords Go.Proofs.YtngillbkfblpoaaW.PrintLast Go.Proofs.YtngillbkfblpoaaW.PrintMore Go.Proofs.Ytngillbkfblpoaa.Aux Go.Proofs.Ytngillbkfblpoaa.Dom Go.Proofs.Ytngillbkfblpoaa.Ext
theorem dropL_filter (nm : ByteArray) : ∀ l : List S33, (l.filter fun x => !decide (x.f0 = nm)) = (dropL nm (l.map fun x => (x.f0, x.f1))).map fun p => (⟨p.1, p.2⟩ : S33)
  | [] => rfl
  | x :: r => by
    rw [List.filter_cons, List.map_cons, dropL, dropL_filter nm r]
    by_cases h : x.f0 = nm
    · simp [h]
    · simp [h]
theorem impl_FieldDrop_eq (l : List S33) (nm : ByteArray) (hl : l.length ≤ 4194304) : impl_FieldDrop.f l nm = some ((dropL nm (l.map fun x => (x.f0, x.f1))).map fun p => (⟨p.1, p.2⟩ : S33)) := by
  unfold impl_FieldDrop.f
  rw [if_pos hl, dropL_filter]

end Go.Proofs.Ytngillbkfblpoaa.Pure

namespace Go.Proofs.Ytngillbkfblpoaa.Pure
set_option linter.unusedVariables false
set_option linter.unusedSimpArgs false
open Go.RowKit Go.Proofs.Ytngillbkfblpoaa.QL Go.Proofs.YtngillbkfblpoaaW.PrintWords Go.Proofs.YtngillbkfblpoaaW.PrintLast Go.Proofs.YtngillbkfblpoaaW.PrintMore Go.Proofs.Ytngillbkfblpoaa.Aux Go.Proofs.Ytngillbkfblpoaa.Dom Go.Proofs.Ytngillbkfblpoaa.Ext

theorem FnExactFieldDrop : laws_FnExactFieldDrop.Pure := by
  intro l nm hl hm hn
  by_cases h1 : (nm.size : Int) > 1048576
  · exact ⟨0, by unfold laws_FnExactFieldDrop.f; rw [if_pos h1]⟩
  refine Ev.rounds (Ev.congr (fun k => by unfold laws_FnExactFieldDrop.f; rw [if_neg h1]) ?_)
  refine ev_bind (laws_szFieldS_ev l 1048576 hl hm (by omega) (by omega)) ?_
  by_cases h3 : szF 1048576 (l.map fun x => (x.f0, x.f1)) < 0
  · exact ev_if_pos h3 (Ev.now _)
  have q1 := szF_len h3
  rw [List.length_map] at q1
  have la : l.length ≤ 1048576 := by omega
  have q2 := dropL_length nm ((l.map fun x => (⟨x.f0, x.f1⟩ : S33)).map fun x => (x.f0, x.f1))
  rw [List.length_map, List.length_map] at q2
  have tol := laws_toFieldS_ev l la
  have sp := spec_FieldDrop_ev (l.map fun x => (⟨x.f0, x.f1⟩ : S33)) nm (by rw [List.length_map]; omega)
  have im := impl_FieldDrop_eq (l.map fun x => (⟨x.f0, x.f1⟩ : S33)) nm (by rw [List.length_map]; omega)
  generalize hS : (dropL nm ((l.map fun x => (⟨x.f0, x.f1⟩ : S33)).map fun x => (x.f0, x.f1))) = S at sp im q2
  have imE : Ev (fun _ => impl_FieldDrop.f (l.map fun x => (⟨x.f0, x.f1⟩ : S33)) nm) (S.map fun p => (⟨p.1, p.2⟩ : S33)) := ev_some fun _ => im
  have eqS := laws_eqFieldS_ev (S.map fun p => (⟨p.1, p.2⟩ : S33)) (by rw [List.length_map]; omega)
  have eqX := laws_eqFieldS_ev (l.map fun x => (⟨x.f0, x.f1⟩ : S33)) (by rw [List.length_map]; omega)
  have mkX := laws_markFieldS_ev (l.map fun x => (⟨x.f0, x.f1⟩ : S33)) (by rw [List.length_map]; omega)
  have mkS := laws_markFieldS_ev (S.map fun p => (⟨p.1, p.2⟩ : S33)) (by rw [List.length_map]; omega)
  have eS : ((S.map fun p => (⟨p.1, p.2⟩ : S33)).map fun x => (x.f0, x.f1)) = S := by rw [List.map_map]; exact List.map_id S
  rw [eS, List.length_map] at mkS
  have hdS := laws_heldFieldS_ev S (by omega)
  refine ev_if_neg h3 (ev_bind tol (ev_bind sp (ev_bind tol (ev_bind imE (ev_bind eqS (ev_if_pos rfl (ev_bind tol (ev_bind eqX (ev_if_pos rfl (ev_bind mkX (ev_if_neg (by simp; omega) (ev_bind eqS ?_))))))))))))
  have hlt : ¬ (1 + 2 * (S.length : Int) < 0) := by omega
  refine Ev.step (fun k => by simp only [laws_FnExactFieldDrop.j0]; rfl) ?_
  refine ev_if_neg (by decide) (ev_bind mkS (ev_bind hdS (ev_if_neg hlt ?_)))
  refine ev_if_pos rfl (ev_bind tol (ev_bind imE (ev_bind eqS (ev_if_pos rfl (ev_bind hdS (ev_if_neg hlt ?_))))))
  exact ev_if_pos rfl (Ev.now _)

end Go.Proofs.Ytngillbkfblpoaa.Pure
