/- The program's SameFields returns what the reference's returns, for all lists of fields (where they hold more than 2^20 fields and bytes they are let by). -/
import Derived.Test.YtcllhbgglokejaaWalkFnExactSameFields
import Derived.Test.YtcllhbgglokejaaDom
namespace Go.Proofs.Ytcllhbgglokejaa.Pure
open Go.RowKit Go.Proofs.Ytcllhbgglokejaa.QFnExactSameFields Go.Proofs.YtcllhbgglokejaaW.PrintWords Go.Proofs.YtcllhbgglokejaaW.PrintLast Go.Proofs.YtcllhbgglokejaaW.PrintMore Go.Proofs.Ytcllhbgglokejaa.Aux Go.Proofs.Ytcllhbgglokejaa.Dom

/-! ### laws_szField -/
theorem laws_szField_eq (a b : ByteArray) (n : Int) (ha : a.size ≤ maxLen) (hb : b.size ≤ maxLen) (h0 : 0 ≤ n) (h1 : n ≤ 9223372036854775807) :
    laws_szField.f a b n = some (if n - a.size - b.size < 0 then -1 else n - a.size - b.size) := by
  unfold maxLen at ha hb
  unfold laws_szField.f
  by_cases h : n - a.size < 0
  · rw [wrap_id (by omega) (by omega), if_pos h, if_pos (by omega)]
  · rw [wrap_id (x := n - a.size) (by omega) (by omega), if_neg h, wrap_id (by omega) (by omega)]
    by_cases h2 : n - a.size - b.size < 0
    · rw [if_pos h2, if_pos h2]
    · rw [if_neg h2, if_neg h2]

/-! ### laws_szFieldS -/
theorem laws_szFieldS_l0 (l : List S62) (hl : l.length ≤ maxLen) (hm : ∀ x ∈ l, x.f0.size ≤ maxLen ∧ x.f1.size ≤ maxLen) : ∀ (d : Nat) (n i : Int), 0 ≤ i → (l.length : Int) - i = d → 0 ≤ n → n ≤ 1048576 →
    Ev (fun k => laws_szFieldS.l0 k l n i) (szL n ((l.drop i.toNat).map fun x => (x.f0, x.f1)))
  | 0, n, i, h0, hd, n0, n1 => by
    refine ev_last fun k => ?_
    simp only [laws_szFieldS.l0]
    rw [if_neg (by omega), drop_nil (by omega)]
    rfl
  | d + 1, n, i, h0, hd, n0, n1 => by
    have hlt : i < (l.length : Int) := by omega
    have hx : (rd_T62 l i) ∈ l := by
      unfold rd_T62
      rw [List.getD_eq_getElem?_getD, List.getElem?_eq_getElem (by omega)]
      exact List.getElem_mem _
    have e := laws_szField_eq (rd_T62 l i).f0 (rd_T62 l i).f1 n (hm _ hx).1 (hm _ hx).2 n0 (by omega)
    have hdrop : l.drop i.toNat = rd_T62 l i :: l.drop (i + 1).toNat := drop_rdOf (d := z62) h0 hlt
    rw [hdrop]
    simp only [List.map_cons, szL]
    by_cases h : n - ((rd_T62 l i).f0.size : Int) - ((rd_T62 l i).f1.size : Int) < 0
    · refine ev_last fun k => ?_
      simp only [laws_szFieldS.l0]
      rw [if_pos hlt, if_pos h0, e, if_pos h, Option.bind_some, if_pos (by omega), if_pos h]
    · refine Ev.step (f := fun k => laws_szFieldS.l0 k l (n - ((rd_T62 l i).f0.size : Int) - ((rd_T62 l i).f1.size : Int)) (i + 1)) (fun k => ?_) (ev_eq (laws_szFieldS_l0 l hl hm d _ (i + 1) (by omega) (by omega) (by omega) (by omega)) ?_)
      · simp only [laws_szFieldS.l0]
        rw [if_pos hlt, if_pos h0, e, if_neg h, Option.bind_some, if_neg h, wrap_id (by omega) (by unfold maxLen at hl; omega)]
      · rw [if_neg h]
theorem laws_szFieldS_ev (l : List S62) (n : Int) (hl : l.length ≤ maxLen) (hm : ∀ x ∈ l, x.f0.size ≤ maxLen ∧ x.f1.size ≤ maxLen) (n0 : 0 ≤ n) (n1 : n ≤ 1048576) :
    Ev (fun k => laws_szFieldS.f k l n) (szF n (l.map fun x => (x.f0, x.f1))) := by
  unfold szF
  rw [List.length_map]
  by_cases h : n - (l.length : Int) < 0
  · rw [if_pos h]
    refine ev_some fun k => ?_
    unfold laws_szFieldS.f
    rw [wrap_id (by unfold maxLen at hl; omega) (by omega), if_pos h]
  · rw [if_neg h]
    refine Ev.congr (fun k => by unfold laws_szFieldS.f; rw [wrap_id (by unfold maxLen at hl; omega) (by omega), if_neg h]) ?_
    have e := laws_szFieldS_l0 l hl hm l.length (n - l.length) 0 (by omega) (by omega) (by omega) (by omega)
    simpa using e

/-! ### laws_toFieldS -/
theorem laws_toFieldS_l0 (l : List S62) (hl : l.length ≤ 1048576) : ∀ (d : Nat) (ys : List S63) (i : Int), 0 ≤ i → (l.length : Int) - i = d → (ys.length : Int) = i →
    Ev (fun k => laws_toFieldS.l0 k l (ys ++ List.replicate d z63) i) (ys ++ (l.drop i.toNat).map fun x => (⟨x.f0, x.f1⟩ : S63))
  | 0, ys, i, h0, hd, hy => by
    refine ev_last fun k => ?_
    simp only [laws_toFieldS.l0]
    rw [if_neg (by omega), drop_nil (by omega)]
    simp
  | d + 1, ys, i, h0, hd, hy => by
    have hlt : i < (l.length : Int) := by omega
    have hdrop : l.drop i.toNat = rd_T62 l i :: l.drop (i + 1).toNat := drop_rdOf (d := z62) h0 hlt
    refine Ev.step (f := fun k => laws_toFieldS.l0 k l ((ys ++ [(⟨(rd_T62 l i).f0, (rd_T62 l i).f1⟩ : S63)]) ++ List.replicate d z63) (i + 1)) (fun k => ?_) (ev_eq (laws_toFieldS_l0 l hl d _ (i + 1) (by omega) (by omega) (by simp; omega)) ?_)
    · simp only [laws_toFieldS.l0, laws_toField.f, Option.bind_some]
      have e : (ys ++ List.replicate (d + 1) z63).set i.toNat (⟨(rd_T62 l i).f0, (rd_T62 l i).f1⟩ : S63) = (ys ++ [(⟨(rd_T62 l i).f0, (rd_T62 l i).f1⟩ : S63)]) ++ List.replicate d z63 := by
        rw [List.set_append_right _ _ (by omega), show i.toNat - ys.length = 0 by omega, List.replicate_succ]
        simp
      rw [if_pos hlt, if_pos h0, if_pos (by simp; omega), e, wrap_id (by omega) (by omega)]
    · rw [hdrop]; simp
theorem laws_toFieldS_ev (l : List S62) (hl : l.length ≤ 1048576) : Ev (fun k => laws_toFieldS.f k l) (l.map fun x => (⟨x.f0, x.f1⟩ : S63)) := by
  refine Ev.congr (fun k => by unfold laws_toFieldS.f; rw [if_pos (by omega), if_pos (by omega)]) ?_
  have e := laws_toFieldS_l0 l hl l.length [] 0 (by omega) (by omega) (by simp)
  simpa using e

/-! ### laws_eqFieldS -/
theorem laws_eqFieldS_l0 (l : List S63) (hl : l.length ≤ 9223372036854775806) : ∀ (d : Nat) (i : Int), 0 ≤ i → (l.length : Int) - i = d → Ev (fun k => laws_eqFieldS.l0 k l l i) true
  | 0, i, h0, hd => by
    refine ev_last fun k => ?_
    simp only [laws_eqFieldS.l0]
    rw [if_neg (by omega)]
  | d + 1, i, h0, hd => by
    have hlt : i < (l.length : Int) := by omega
    refine Ev.step (f := fun k => laws_eqFieldS.l0 k l l (i + 1)) (fun k => ?_) (laws_eqFieldS_l0 l hl d (i + 1) (by omega) (by omega))
    simp only [laws_eqFieldS.l0, laws_eqField.f]
    rw [if_pos hlt, if_pos h0, if_pos hlt]
    simp only [if_true, Option.bind_some]
    rw [wrap_id (by omega) (by omega)]
/-- Two that are one are alike. -/
theorem laws_eqFieldS_ev (l : List S63) (hl : l.length ≤ 9223372036854775806) : Ev (fun k => laws_eqFieldS.f k l l) true := by
  refine Ev.congr (fun k => by unfold laws_eqFieldS.f; rw [if_pos rfl]) ?_
  exact laws_eqFieldS_l0 l hl l.length 0 (by omega) (by omega)

/-! ### spec_SameFields -/
theorem spec_SameFields_l0 (a b : List S63) (hl : a.length ≤ 9223372036854775806) (hab : a.length = b.length) : ∀ (d : Nat) (i : Int), 0 ≤ i → (a.length : Int) - i = d →
    Ev (fun k => spec_SameFields.l0 k a b i) (sameL ((a.drop i.toNat).map fun x => (x.f0, x.f1)) ((b.drop i.toNat).map fun x => (x.f0, x.f1)))
  | 0, i, h0, hd => by
    refine ev_last fun k => ?_
    simp only [spec_SameFields.l0]
    rw [if_neg (by omega), drop_nil (by omega), drop_nil (by omega)]
    rfl
  | d + 1, i, h0, hd => by
    have hlt : i < (a.length : Int) := by omega
    have ea : a.drop i.toNat = rd_T63 a i :: a.drop (i + 1).toNat := drop_rdOf (d := z63) h0 hlt
    have eb : b.drop i.toNat = rd_T63 b i :: b.drop (i + 1).toNat := drop_rdOf (d := z63) h0 (by omega)
    rw [ea, eb]
    simp only [List.map_cons, sameL]
    by_cases h : (rd_T63 a i).f0 = (rd_T63 b i).f0 ∧ (rd_T63 a i).f1 = (rd_T63 b i).f1
    · refine Ev.step (f := fun k => spec_SameFields.l0 k a b (i + 1)) (fun k => ?_) (ev_eq (spec_SameFields_l0 a b hl hab d (i + 1) (by omega) (by omega)) ?_)
      · simp only [spec_SameFields.l0]
        rw [if_pos hlt, if_pos h0, if_pos (by omega), if_neg (by simp [h.1, h.2]), wrap_id (by omega) (by omega)]
      · rw [if_pos h]
    · refine ev_last fun k => ?_
      simp only [spec_SameFields.l0]
      rw [if_pos hlt, if_pos h0, if_pos (by omega), if_pos (by simp only [Bool.or_eq_true, Bool.not_eq_true', beq_eq_false_iff_ne, ne_eq, toList_eq_iff]; exact Classical.not_and_iff_not_or_not.1 h), if_neg h]
theorem spec_SameFields_ev (a b : List S63) (hl : a.length ≤ 9223372036854775806) : Ev (fun k => spec_SameFields.f k a b) (sameF (a.map fun x => (x.f0, x.f1)) (b.map fun x => (x.f0, x.f1))) := by
  unfold sameF
  rw [List.length_map, List.length_map]
  by_cases h : a.length = b.length
  · rw [if_pos h]
    refine Ev.congr (fun k => by unfold spec_SameFields.f; rw [if_pos (by omega)]) ?_
    have e := spec_SameFields_l0 a b hl h a.length 0 (by omega) (by omega)
    simpa using e
  · rw [if_neg h]
    exact ev_some fun k => by unfold spec_SameFields.f; rw [if_neg (by omega)]

/-! ### impl_SameFields -/
theorem impl_Field_l0 (a b : List S63) (hl : a.length ≤ 9223372036854775806) (hab : a.length = b.length) : ∀ (d : Nat) (i : Int), 0 ≤ i → (a.length : Int) - i = d →
    Ev (fun k => impl_Field.l0 k a b (a.length : Int) i) (sameL ((a.drop i.toNat).map fun x => (x.f0, x.f1)) ((b.drop i.toNat).map fun x => (x.f0, x.f1)))
  | 0, i, h0, hd => by
    refine ev_last fun k => ?_
    simp only [impl_Field.l0]
    rw [if_neg (by omega), drop_nil (by omega), drop_nil (by omega)]
    rfl
  | d + 1, i, h0, hd => by
    have hlt : i < (a.length : Int) := by omega
    have ea : a.drop i.toNat = rd_T63 a i :: a.drop (i + 1).toNat := drop_rdOf (d := z63) h0 hlt
    have eb : b.drop i.toNat = rd_T63 b i :: b.drop (i + 1).toNat := drop_rdOf (d := z63) h0 (by omega)
    rw [ea, eb]
    simp only [List.map_cons, sameL]
    by_cases h : (rd_T63 a i).f0 = (rd_T63 b i).f0 ∧ (rd_T63 a i).f1 = (rd_T63 b i).f1
    · refine Ev.step (f := fun k => impl_Field.l0 k a b (a.length : Int) (i + 1)) (fun k => ?_) (ev_eq (impl_Field_l0 a b hl hab d (i + 1) (by omega) (by omega)) ?_)
      · simp only [impl_Field.l0]
        rw [if_pos hlt, if_pos h0, if_pos hlt, if_pos (by omega), if_neg (by simp [h.1, h.2]), wrap_id (by omega) (by omega)]
      · rw [if_pos h]
    · refine ev_last fun k => ?_
      simp only [impl_Field.l0]
      rw [if_pos hlt, if_pos h0, if_pos hlt, if_pos (by omega), if_pos (by simp only [Bool.or_eq_true, Bool.not_eq_true', beq_eq_false_iff_ne, ne_eq, toList_eq_iff]; exact Classical.not_and_iff_not_or_not.1 h), if_neg h]
theorem impl_SameFields_ev (a b : List S63) (hl : a.length ≤ 9223372036854775806) : Ev (fun k => impl_SameFields.f k a b) (sameF (a.map fun x => (x.f0, x.f1)) (b.map fun x => (x.f0, x.f1))) := by
  refine Ev.congr (fun k => by unfold impl_SameFields.f; rfl) ?_
  refine ev_bind ?_ (Ev.now _)
  unfold sameF
  rw [List.length_map, List.length_map]
  by_cases h : a.length = b.length
  · rw [if_pos h]
    refine Ev.congr (fun k => by unfold impl_Field.f; rw [if_pos (by omega)]) ?_
    have e := impl_Field_l0 a b hl h a.length 0 (by omega) (by omega)
    simpa using e
  · rw [if_neg h]
    exact ev_some fun k => by unfold impl_Field.f; rw [if_neg (by omega)]

theorem FnExactSameFields : laws_FnExactSameFields.Pure := by
  intro a b ha hma hb hmb
  refine Ev.rounds (Ev.congr (fun k => by unfold laws_FnExactSameFields.f; rfl) ?_)
  refine ev_bind (laws_szFieldS_ev a 1048576 ha hma (by omega) (by omega)) ?_
  by_cases h1 : szF 1048576 (a.map fun x => (x.f0, x.f1)) < 0
  · exact ev_if_pos h1 (Ev.now _)
  · refine ev_if_neg h1 ?_
    have q1 := szF_len h1
    have q2 := szF_le 1048576 (a.map fun x => (x.f0, x.f1)) (by omega)
    refine ev_bind (laws_szFieldS_ev b _ hb hmb (by omega) (by omega)) ?_
    by_cases h2 : szF (szF 1048576 (a.map fun x => (x.f0, x.f1))) (b.map fun x => (x.f0, x.f1)) < 0
    · exact ev_if_pos h2 (Ev.now _)
    · refine ev_if_neg h2 ?_
      have q3 := szF_len h2
      rw [List.length_map] at q1 q3
      have la : a.length ≤ 1048576 := by omega
      have lb : b.length ≤ 1048576 := by omega
      refine ev_bind (laws_toFieldS_ev a la) (ev_bind (laws_toFieldS_ev b lb) (ev_bind (spec_SameFields_ev _ _ (by rw [List.length_map]; omega)) (ev_bind (laws_toFieldS_ev a la) (ev_bind (laws_toFieldS_ev b lb) (ev_bind (impl_SameFields_ev _ _ (by rw [List.length_map]; omega)) (ev_if_neg (by simp) (ev_bind (laws_toFieldS_ev a la) (ev_bind (laws_eqFieldS_ev _ (by rw [List.length_map]; omega)) (ev_if_pos rfl (ev_bind (laws_toFieldS_ev b lb) (ev_bind (laws_eqFieldS_ev _ (by rw [List.length_map]; omega)) (ev_if_pos rfl (Ev.now _)))))))))))))

end Go.Proofs.Ytcllhbgglokejaa.Pure
