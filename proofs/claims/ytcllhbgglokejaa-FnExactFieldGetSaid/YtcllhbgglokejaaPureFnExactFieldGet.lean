/- The program's FieldGet returns what the reference's returns, for all lists of fields and names (where they hold more than 2^20 fields and bytes they are let by). -/
import Derived.Test.YtcllhbgglokejaaWalkFnExactFieldGet
import Derived.Test.YtcllhbgglokejaaDom
namespace Go.Proofs.Ytcllhbgglokejaa.Pure
set_option linter.unusedVariables false
set_option linter.unusedSimpArgs false
open Go.RowKit Go.Proofs.Ytcllhbgglokejaa.QFnExactFieldGet Go.Proofs.YtcllhbgglokejaaW.PrintWords Go.Proofs.YtcllhbgglokejaaW.PrintLast Go.Proofs.YtcllhbgglokejaaW.PrintMore Go.Proofs.Ytcllhbgglokejaa.Aux Go.Proofs.Ytcllhbgglokejaa.Dom Go.Proofs.Ytcllhbgglokejaa.Ext

/-! ### laws_szField -/
theorem laws_szField_eq (a b : ByteArray) (n : Int) (ha : a.size ≤ maxLen) (hb : b.size ≤ maxLen) (h0 : 0 ≤ n) (h1 : n ≤ 9223372036854775807) :
    laws_szField.f a b n = some (if n - a.size - b.size < 0 then -1 else n - a.size - b.size) := by
  unfold maxLen at ha hb
  unfold laws_szField.f
  by_cases h : n - a.size < 0
  · rw [wrap_id (by omega) (by omega), if_pos h, if_pos (by omega)]
  · rw [wrap_id (x := n - a.size) (by omega) (by omega), if_neg h, wrap_id (by omega) (by omega)]
    by_cases h2 : n - a.size - b.size < 0
    · rw [if_pos h2, if_pos h2]
    · rw [if_neg h2, if_neg h2]

/-! ### laws_szFieldS -/
theorem laws_szFieldS_l0 (l : List S62) (hl : l.length ≤ maxLen) (hm : ∀ x ∈ l, x.f0.size ≤ maxLen ∧ x.f1.size ≤ maxLen) : ∀ (d : Nat) (n i : Int), 0 ≤ i → (l.length : Int) - i = d → 0 ≤ n → n ≤ 1048576 →
    Ev (fun k => laws_szFieldS.l0 k l n i) (szL n ((l.drop i.toNat).map fun x => (x.f0, x.f1)))
  | 0, n, i, h0, hd, n0, n1 => by
    refine ev_last fun k => ?_
    simp only [laws_szFieldS.l0]
    rw [if_neg (by omega), drop_nil (by omega)]
    rfl
  | d + 1, n, i, h0, hd, n0, n1 => by
    have hlt : i < (l.length : Int) := by omega
    have hx : (rd_T62 l i) ∈ l := by
      unfold rd_T62
      rw [List.getD_eq_getElem?_getD, List.getElem?_eq_getElem (by omega)]
      exact List.getElem_mem _
    have e := laws_szField_eq (rd_T62 l i).f0 (rd_T62 l i).f1 n (hm _ hx).1 (hm _ hx).2 n0 (by omega)
    have hdrop : l.drop i.toNat = rd_T62 l i :: l.drop (i + 1).toNat := drop_rdOf (d := z62) h0 hlt
    rw [hdrop]
    simp only [List.map_cons, szL]
    by_cases h : n - ((rd_T62 l i).f0.size : Int) - ((rd_T62 l i).f1.size : Int) < 0
    · refine ev_last fun k => ?_
      simp only [laws_szFieldS.l0]
      rw [if_pos hlt, if_pos h0, e, if_pos h, Option.bind_some, if_pos (by omega), if_pos h]
    · refine Ev.step (f := fun k => laws_szFieldS.l0 k l (n - ((rd_T62 l i).f0.size : Int) - ((rd_T62 l i).f1.size : Int)) (i + 1)) (fun k => ?_) (ev_eq (laws_szFieldS_l0 l hl hm d _ (i + 1) (by omega) (by omega) (by omega) (by omega)) ?_)
      · simp only [laws_szFieldS.l0]
        rw [if_pos hlt, if_pos h0, e, if_neg h, Option.bind_some, if_neg h, wrap_id (by omega) (by unfold maxLen at hl; omega)]
      · rw [if_neg h]
theorem laws_szFieldS_ev (l : List S62) (n : Int) (hl : l.length ≤ maxLen) (hm : ∀ x ∈ l, x.f0.size ≤ maxLen ∧ x.f1.size ≤ maxLen) (n0 : 0 ≤ n) (n1 : n ≤ 1048576) :
    Ev (fun k => laws_szFieldS.f k l n) (szF n (l.map fun x => (x.f0, x.f1))) := by
  unfold szF
  rw [List.length_map]
  by_cases h : n - (l.length : Int) < 0
  · rw [if_pos h]
    refine ev_some fun k => ?_
    unfold laws_szFieldS.f
    rw [wrap_id (by unfold maxLen at hl; omega) (by omega), if_pos h]
  · rw [if_neg h]
    refine Ev.congr (fun k => by unfold laws_szFieldS.f; rw [wrap_id (by unfold maxLen at hl; omega) (by omega), if_neg h]) ?_
    have e := laws_szFieldS_l0 l hl hm l.length (n - l.length) 0 (by omega) (by omega) (by omega) (by omega)
    simpa using e

/-! ### laws_toFieldS -/
theorem laws_toFieldS_l0 (l : List S62) (hl : l.length ≤ 1048576) : ∀ (d : Nat) (ys : List S63) (i : Int), 0 ≤ i → (l.length : Int) - i = d → (ys.length : Int) = i →
    Ev (fun k => laws_toFieldS.l0 k l (ys ++ List.replicate d z63) i) (ys ++ (l.drop i.toNat).map fun x => (⟨x.f0, x.f1⟩ : S63))
  | 0, ys, i, h0, hd, hy => by
    refine ev_last fun k => ?_
    simp only [laws_toFieldS.l0]
    rw [if_neg (by omega), drop_nil (by omega)]
    simp
  | d + 1, ys, i, h0, hd, hy => by
    have hlt : i < (l.length : Int) := by omega
    have hdrop : l.drop i.toNat = rd_T62 l i :: l.drop (i + 1).toNat := drop_rdOf (d := z62) h0 hlt
    refine Ev.step (f := fun k => laws_toFieldS.l0 k l ((ys ++ [(⟨(rd_T62 l i).f0, (rd_T62 l i).f1⟩ : S63)]) ++ List.replicate d z63) (i + 1)) (fun k => ?_) (ev_eq (laws_toFieldS_l0 l hl d _ (i + 1) (by omega) (by omega) (by simp; omega)) ?_)
    · simp only [laws_toFieldS.l0, laws_toField.f, Option.bind_some]
      have e : (ys ++ List.replicate (d + 1) z63).set i.toNat (⟨(rd_T62 l i).f0, (rd_T62 l i).f1⟩ : S63) = (ys ++ [(⟨(rd_T62 l i).f0, (rd_T62 l i).f1⟩ : S63)]) ++ List.replicate d z63 := by
        rw [List.set_append_right _ _ (by omega), show i.toNat - ys.length = 0 by omega, List.replicate_succ]
        simp
      rw [if_pos hlt, if_pos h0, if_pos (by simp; omega), e, wrap_id (by omega) (by omega)]
    · rw [hdrop]; simp
theorem laws_toFieldS_ev (l : List S62) (hl : l.length ≤ 1048576) : Ev (fun k => laws_toFieldS.f k l) (l.map fun x => (⟨x.f0, x.f1⟩ : S63)) := by
  refine Ev.congr (fun k => by unfold laws_toFieldS.f; rw [if_pos (by omega), if_pos (by omega)]) ?_
  have e := laws_toFieldS_l0 l hl l.length [] 0 (by omega) (by omega) (by simp)
  simpa using e

/-! ### laws_eqFieldS -/
theorem laws_eqFieldS_l0 (l : List S63) (hl : l.length ≤ 9223372036854775806) : ∀ (d : Nat) (i : Int), 0 ≤ i → (l.length : Int) - i = d → Ev (fun k => laws_eqFieldS.l0 k l l i) true
  | 0, i, h0, hd => by
    refine ev_last fun k => ?_
    simp only [laws_eqFieldS.l0]
    rw [if_neg (by omega)]
  | d + 1, i, h0, hd => by
    have hlt : i < (l.length : Int) := by omega
    refine Ev.step (f := fun k => laws_eqFieldS.l0 k l l (i + 1)) (fun k => ?_) (laws_eqFieldS_l0 l hl d (i + 1) (by omega) (by omega))
    simp only [laws_eqFieldS.l0, laws_eqField.f]
    rw [if_pos hlt, if_pos h0, if_pos hlt]
    simp only [if_true, Option.bind_some]
    rw [wrap_id (by omega) (by omega)]
/-- Two that are one are alike. -/
theorem laws_eqFieldS_ev (l : List S63) (hl : l.length ≤ 9223372036854775806) : Ev (fun k => laws_eqFieldS.f k l l) true := by
  refine Ev.congr (fun k => by unfold laws_eqFieldS.f; rw [if_pos rfl]) ?_
  exact laws_eqFieldS_l0 l hl l.length 0 (by omega) (by omega)

/-! ### spec_FieldGet -/
theorem spec_FieldGet_l0 (l : List S63) (nm : ByteArray) (hl : l.length ≤ 1048576) (V : List ByteArray) (hV : (V.map fun v => v.size + 2).sum ≤ 8388608) : ∀ (d : Nat) (acc : List ByteArray) (i : Int), 0 ≤ i → (l.length : Int) - i = d → acc ++ getL nm ((l.drop i.toNat).map fun x => (x.f0, x.f1)) = V →
    Ev (fun k => spec_FieldGet.l0 k l nm (joinB ⟨#[44, 32]⟩ acc) (!acc.isEmpty) i) (joinB ⟨#[44, 32]⟩ V, !V.isEmpty)
  | 0, acc, i, h0, hd, ha => by
    refine ev_last fun k => ?_
    simp only [spec_FieldGet.l0]
    rw [drop_nil (by omega)] at ha
    simp only [List.map_nil, getL, List.append_nil] at ha
    rw [if_neg (by omega), ha]
  | d + 1, acc, i, h0, hd, ha => by
    have hlt : i < (l.length : Int) := by omega
    have hdrop : l.drop i.toNat = rd_T63 l i :: l.drop (i + 1).toNat := drop_rdOf (d := z63) h0 hlt
    rw [hdrop] at ha
    simp only [List.map_cons, getL] at ha
    by_cases h : (rd_T63 l i).f0 = nm
    · rw [if_pos h] at ha
      have hs := joinB_size ⟨#[44, 32]⟩ acc
      have hb : (acc.map fun v => v.size + 2).sum + ((rd_T63 l i).f1.size + 2) ≤ 8388608 := by
        rw [← ha] at hV
        simp only [List.map_append, List.sum_append, List.map_cons, List.sum_cons] at hV
        omega
      have hs2 : (joinB ⟨#[44, 32]⟩ acc).size ≤ (acc.map fun v => v.size + 2).sum := hs
      cases acc with
      | nil =>
        refine Ev.step (f := fun k => spec_FieldGet.l0 k l nm (joinB ⟨#[44, 32]⟩ [(rd_T63 l i).f1]) true (i + 1)) (fun k => ?_) (spec_FieldGet_l0 l nm hl V hV d [(rd_T63 l i).f1] (i + 1) (by omega) (by omega) ha)
        simp only [spec_FieldGet.l0]
        have e0 : (joinB ⟨#[44, 32]⟩ [] ++ (rd_T63 l i).f1) = (rd_T63 l i).f1 := ByteArray.empty_append
        have e1 : (joinB ⟨#[44, 32]⟩ []).size = 0 := rfl
        rw [if_pos hlt, if_pos h0, if_pos (by rw [h]), if_neg (by decide), if_pos (by omega), wrap_id (by omega) (by omega), e0]
        rfl
      | cons a acc =>
        refine Ev.step (f := fun k => spec_FieldGet.l0 k l nm (joinB ⟨#[44, 32]⟩ ((a :: acc) ++ [(rd_T63 l i).f1])) true (i + 1)) (fun k => ?_) (spec_FieldGet_l0 l nm hl V hV d ((a :: acc) ++ [(rd_T63 l i).f1]) (i + 1) (by omega) (by omega) (by rw [← ha]; simp))
        simp only [spec_FieldGet.l0]
        rw [if_pos hlt, if_pos h0, if_pos (by rw [h]), if_pos (show (!(a :: acc).isEmpty) = true from rfl), if_pos (by omega), if_pos (by rw [ByteArray.size_append]; have : (⟨#[44, 32]⟩ : ByteArray).size = 2 := rfl; omega), wrap_id (by omega) (by omega), joinB_snoc _ _ _ (by simp)]
    · rw [if_neg h] at ha
      refine Ev.step (f := fun k => spec_FieldGet.l0 k l nm (joinB ⟨#[44, 32]⟩ acc) (!acc.isEmpty) (i + 1)) (fun k => ?_) (spec_FieldGet_l0 l nm hl V hV d acc (i + 1) (by omega) (by omega) ha)
      simp only [spec_FieldGet.l0]
      rw [if_pos hlt, if_pos h0, if_neg (by rw [toList_eq_iff]; exact h), wrap_id (by omega) (by omega)]
theorem spec_FieldGet_ev (l : List S63) (nm : ByteArray) (hl : l.length ≤ 1048576) (hV : ((getL nm (l.map fun x => (x.f0, x.f1))).map fun v => v.size + 2).sum ≤ 8388608) : Ev (fun k => spec_FieldGet.f k l nm) (joinB ⟨#[44, 32]⟩ (getL nm (l.map fun x => (x.f0, x.f1))), !(getL nm (l.map fun x => (x.f0, x.f1))).isEmpty) := by
  have h := spec_FieldGet_l0 l nm hl _ hV l.length [] 0 (by omega) (by omega) (by simp)
  simpa [spec_FieldGet.f, joinB] using h

/-! ### impl_FieldGet -/
theorem impl_FieldGet_l0 (l : List S63) (nm : ByteArray) (hl : l.length ≤ 1048576) (V : List ByteArray) (hV : (V.map fun v => v.size + 2).sum ≤ 8388608) (hW : V.length ≤ 1048576) : ∀ (d : Nat) (acc : List ByteArray) (i : Int), 0 ≤ i → (l.length : Int) - i = d → acc ++ getL nm ((l.drop i.toNat).map fun x => (x.f0, x.f1)) = V →
    Ev (fun k => impl_FieldGet.l0 k nm acc l (l.length : Int) i) (joinB ⟨#[44, 32]⟩ V, !V.isEmpty)
  | 0, acc, i, h0, hd, ha => by
    refine ev_last fun k => ?_
    simp only [impl_FieldGet.l0]
    rw [drop_nil (by omega)] at ha
    simp only [List.map_nil, getL, List.append_nil] at ha
    subst ha
    have hs : (joinB ⟨#[44, 32]⟩ acc).size ≤ (acc.map fun v => v.size + 2).sum := joinB_size ⟨#[44, 32]⟩ acc
    rw [if_neg (by omega), strings_Join.f, if_pos ⟨by omega, by omega⟩, Option.bind_some]
    cases acc <;> simp
  | d + 1, acc, i, h0, hd, ha => by
    have hlt : i < (l.length : Int) := by omega
    have hdrop : l.drop i.toNat = rd_T63 l i :: l.drop (i + 1).toNat := drop_rdOf (d := z63) h0 hlt
    rw [hdrop] at ha
    simp only [List.map_cons, getL] at ha
    by_cases h : (rd_T63 l i).f0 = nm
    · rw [if_pos h] at ha
      have hlen : acc.length < 8796093022208 := by
        have := congrArg List.length ha
        simp at this
        omega
      refine Ev.step (f := fun k => impl_FieldGet.l0 k nm (acc ++ [(rd_T63 l i).f1]) l (l.length : Int) (i + 1)) (fun k => ?_) (impl_FieldGet_l0 l nm hl V hV hW d (acc ++ [(rd_T63 l i).f1]) (i + 1) (by omega) (by omega) (by rw [← ha]; simp))
      simp only [impl_FieldGet.l0]
      rw [if_pos hlt, if_pos h0, if_pos hlt, if_pos (by rw [h]), if_pos hlen, wrap_id (by omega) (by omega)]
    · rw [if_neg h] at ha
      refine Ev.step (f := fun k => impl_FieldGet.l0 k nm acc l (l.length : Int) (i + 1)) (fun k => ?_) (impl_FieldGet_l0 l nm hl V hV hW d acc (i + 1) (by omega) (by omega) ha)
      simp only [impl_FieldGet.l0]
      rw [if_pos hlt, if_pos h0, if_pos hlt, if_neg (by rw [toList_eq_iff]; exact h), wrap_id (by omega) (by omega)]
theorem impl_FieldGet_ev (l : List S63) (nm : ByteArray) (hl : l.length ≤ 1048576) (hV : ((getL nm (l.map fun x => (x.f0, x.f1))).map fun v => v.size + 2).sum ≤ 8388608) : Ev (fun k => impl_FieldGet.f k l nm) (joinB ⟨#[44, 32]⟩ (getL nm (l.map fun x => (x.f0, x.f1))), !(getL nm (l.map fun x => (x.f0, x.f1))).isEmpty) := by
  have hW := getL_length nm (l.map fun x => (x.f0, x.f1))
  rw [List.length_map] at hW
  have h := impl_FieldGet_l0 l nm hl _ hV (by omega) l.length [] 0 (by omega) (by omega) (by simp)
  simpa [impl_FieldGet.f] using h

theorem FnExactFieldGet : laws_FnExactFieldGet.Pure := by
  intro l nm hl hm hn
  by_cases h1 : (nm.size : Int) > 1048576
  · exact ⟨0, by unfold laws_FnExactFieldGet.f; rw [if_pos h1]⟩
  refine Ev.rounds (Ev.congr (fun k => by unfold laws_FnExactFieldGet.f; rw [if_neg h1]) ?_)
  refine ev_bind (laws_szFieldS_ev l 1048576 hl hm (by omega) (by omega)) ?_
  by_cases h3 : szF 1048576 (l.map fun x => (x.f0, x.f1)) < 0
  · exact ev_if_pos h3 (Ev.now _)
  have q1 := szF_len h3
  have qs := szF_sum nm (by omega) h3
  rw [List.length_map] at q1
  have la : l.length ≤ 1048576 := by omega
  have tol := laws_toFieldS_ev l la
  have eX : ((l.map fun x => (⟨x.f0, x.f1⟩ : S63)).map fun x => (x.f0, x.f1)) = l.map fun x => (x.f0, x.f1) := by rw [List.map_map]; rfl
  have sp := spec_FieldGet_ev (l.map fun x => (⟨x.f0, x.f1⟩ : S63)) nm (by rw [List.length_map]; exact la) (by rw [eX]; omega)
  have im := impl_FieldGet_ev (l.map fun x => (⟨x.f0, x.f1⟩ : S63)) nm (by rw [List.length_map]; exact la) (by rw [eX]; omega)
  have eqX := laws_eqFieldS_ev (l.map fun x => (⟨x.f0, x.f1⟩ : S63)) (by rw [List.length_map]; omega)
  refine ev_if_neg h3 (ev_bind tol (ev_bind sp (ev_bind tol (ev_bind im (ev_if_pos rfl ?_)))))
  refine Ev.step (fun k => by simp only [laws_FnExactFieldGet.j0]; rfl) ?_
  exact ev_if_neg (by simp) (ev_bind tol (ev_bind eqX (ev_if_pos rfl (Ev.now _))))

end Go.Proofs.Ytcllhbgglokejaa.Pure
