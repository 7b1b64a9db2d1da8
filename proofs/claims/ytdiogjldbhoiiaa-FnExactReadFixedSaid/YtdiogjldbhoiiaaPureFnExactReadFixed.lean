/- The program's ReadFixed returns what the reference's returns, for all arguments (a text of more than 2^20 bytes is let by). -/
import Derived.Test.YtdiogjldbhoiiaaPFnExactReadFixedx1
import Derived.Test.YtdiogjldbhoiiaaDom
namespace Go.Proofs.Ytdiogjldbhoiiaa.Pure
open Go.RowKit Go.Proofs.Ytdiogjldbhoiiaa.PFnExactReadFixed Go.Proofs.YtdiogjldbhoiiaaW.PrintWords Go.Proofs.YtdiogjldbhoiiaaW.PrintLast Go.Proofs.YtdiogjldbhoiiaaW.PrintMore Go.Proofs.Ytdiogjldbhoiiaa.Aux Go.Proofs.Ytdiogjldbhoiiaa.Dom

/-! ### spec_l1In -/
theorem spec_l1In_eq (a b c : Int) : spec_l1In.f a b c = some (decide (b ≤ a ∧ a ≤ c)) := by
  unfold spec_l1In.f
  by_cases h : a ≥ b
  · rw [if_pos h]; simp [show b ≤ a from h]
  · rw [if_neg h]; simp [show ¬ b ≤ a from h]

/-! ### spec_ReadFixed -/
theorem spec_ReadFixed_l0 (s : ByteArray) (w : Int) (hw : w ≤ 7) (hs : w ≤ (s.size : Int)) : ∀ (d : Nat) (n i : Int), 0 ≤ i → w - i = d → 0 ≤ n → n < 256 ^ i.toNat →
    Ev (fun k => spec_ReadFixed.l0 k s w n i) (fixR n (((bytesOf s).take w.toNat).drop i.toNat), true)
  | 0, n, i, h0, hd, n0, n1 => by
    refine ev_last fun k => ?_
    simp only [spec_ReadFixed.l0]
    rw [if_neg (by omega), List.drop_eq_nil_of_le (by simp; omega)]
    rfl
  | d + 1, n, i, h0, hd, n0, n1 => by
    have hb := bt_bound s i
    have hlt : i < (s.size : Int) := by omega
    have hle : (256 : Int) ^ i.toNat ≤ 256 ^ 6 := pow_le 256 (by decide) (by omega)
    have hn : n * 256 + bt s i < 256 ^ (i + 1).toNat := by
      rw [show (i + 1).toNat = i.toNat + 1 by omega, Int.pow_succ]; omega
    have hdrop : ((bytesOf s).take w.toNat).drop i.toNat = bt s i :: ((bytesOf s).take w.toNat).drop (i + 1).toNat := by
      have hl := bytesOf_length s
      have e := drop_rd (xs := (bytesOf s).take w.toNat) h0 (by simp; omega)
      rw [e, bt_eq]
      simp only [rd]
      rw [List.getD_eq_getElem?_getD, List.getD_eq_getElem?_getD, List.getElem?_take_of_lt (by omega)]
    refine Ev.step (f := fun k => spec_ReadFixed.l0 k s w (n * 256 + bt s i) (i + 1)) (fun k => ?_) (ev_eq (spec_ReadFixed_l0 s w hw hs d _ (i + 1) (by omega) (by omega) (by omega) hn) ?_)
    · simp only [spec_ReadFixed.l0]
      rw [if_pos (by omega), if_pos h0, if_pos hlt, wrap_id (x := n * 256) (by omega) (by omega), wrap_id (x := bt s i) (by omega) (by omega), wrap_id (by omega) (by omega), wrap_id (by omega) (by omega)]
    · rw [hdrop]; rfl
theorem spec_ReadFixed_ev (s : ByteArray) (w : Int) :
    Ev (fun k => spec_ReadFixed.f k s w) (if (1 ≤ w ∧ w ≤ 7) ∧ w ≤ (s.size : Int) then (fixR 0 ((bytesOf s).take w.toNat), true) else (0, false)) := by
  refine Ev.congr (fun k => by unfold spec_ReadFixed.f; rw [spec_l1In_eq, Option.bind_some]) ?_
  by_cases h : 1 ≤ w ∧ w ≤ 7
  · refine ev_if_pos (by simpa using h) ?_
    by_cases h2 : w ≤ (s.size : Int)
    · rw [if_pos ⟨h, h2⟩]
      refine Ev.step (f := fun k => spec_ReadFixed.l0 k s w 0 0) (fun k => ?_) ?_
      · simp only [spec_ReadFixed.j0]; rw [if_neg (by simp; omega)]
      · have e := spec_ReadFixed_l0 s w h.2 h2 w.toNat 0 0 (by omega) (by omega) (by omega) (by simp)
        simpa using e
    · rw [if_neg (fun hh => h2 hh.2)]
      refine ev_last fun k => ?_
      simp only [spec_ReadFixed.j0]; rw [if_pos (by simp; omega)]
  · refine ev_if_neg (by simpa using h) ?_
    rw [if_neg (fun hh => h hh.1)]
    refine ev_last fun k => ?_
    simp only [spec_ReadFixed.j0]; rw [if_pos trivial]

/-! ### impl_in -/
theorem impl_in_eq (a b c : Int) : impl_in.f a b c = some (decide (b ≤ a ∧ a ≤ c)) := by
  unfold impl_in.f
  by_cases h : a ≥ b
  · rw [if_pos h]; simp [show b ≤ a from h]
  · rw [if_neg h]; simp [show ¬ b ≤ a from h]

/-! ### impl_ReadFixed -/
theorem impl_ReadFixed_l0 (s : ByteArray) (w : Int) (hw : w ≤ 7) (hs : w ≤ (s.size : Int)) : ∀ (d : Nat) (n i : Int), 0 ≤ i → w - i = d → 0 ≤ n → n < 256 ^ i.toNat →
    Ev (fun k => impl_ReadFixed.l0 k s n w i) (fixR n (((bytesOf s).take w.toNat).drop i.toNat), true)
  | 0, n, i, h0, hd, n0, n1 => by
    refine ev_last fun k => ?_
    simp only [impl_ReadFixed.l0]
    rw [if_neg (by omega), List.drop_eq_nil_of_le (by simp; omega)]
    rfl
  | d + 1, n, i, h0, hd, n0, n1 => by
    have hb := bt_bound s i
    have hlt : i < (s.size : Int) := by omega
    have hle : (256 : Int) ^ i.toNat ≤ 256 ^ 6 := pow_le 256 (by decide) (by omega)
    have hn : n * 256 + bt s i < 256 ^ (i + 1).toNat := by
      rw [show (i + 1).toNat = i.toNat + 1 by omega, Int.pow_succ]; omega
    have hdrop : ((bytesOf s).take w.toNat).drop i.toNat = bt s i :: ((bytesOf s).take w.toNat).drop (i + 1).toNat := by
      have hl := bytesOf_length s
      have e := drop_rd (xs := (bytesOf s).take w.toNat) h0 (by simp; omega)
      rw [e, bt_eq]
      simp only [rd]
      rw [List.getD_eq_getElem?_getD, List.getD_eq_getElem?_getD, List.getElem?_take_of_lt (by omega)]
    refine Ev.step (f := fun k => impl_ReadFixed.l0 k s (n * 256 + bt s i) w (i + 1)) (fun k => ?_) (ev_eq (impl_ReadFixed_l0 s w hw hs d _ (i + 1) (by omega) (by omega) (by omega) hn) ?_)
    · simp only [impl_ReadFixed.l0]
      rw [if_pos (by omega), if_pos h0, if_pos hlt, wrap_id (x := n * 256) (by omega) (by omega), wrap_id (x := bt s i) (by omega) (by omega), or256 (by omega) (by omega) (by omega) (by omega), wrap_id (by omega) (by omega)]
    · rw [hdrop]; rfl
theorem impl_ReadFixed_ev (s : ByteArray) (w : Int) :
    Ev (fun k => impl_ReadFixed.f k s w) (if (1 ≤ w ∧ w ≤ 7) ∧ w ≤ (s.size : Int) then (fixR 0 ((bytesOf s).take w.toNat), true) else (0, false)) := by
  refine Ev.congr (fun k => by unfold impl_ReadFixed.f; rw [impl_in_eq, Option.bind_some]) ?_
  by_cases h : 1 ≤ w ∧ w ≤ 7
  · refine ev_if_pos (by simpa using h) ?_
    by_cases h2 : w ≤ (s.size : Int)
    · rw [if_pos ⟨h, h2⟩]
      refine Ev.step (f := fun k => impl_ReadFixed.l0 k s 0 w 0) (fun k => ?_) ?_
      · simp only [impl_ReadFixed.j0]; rw [if_neg (by simp; omega)]
      · have e := impl_ReadFixed_l0 s w h.2 h2 w.toNat 0 0 (by omega) (by omega) (by omega) (by simp)
        simpa using e
    · rw [if_neg (fun hh => h2 hh.2)]
      refine ev_last fun k => ?_
      simp only [impl_ReadFixed.j0]; rw [if_pos (by simp; omega)]
  · refine ev_if_neg (by simpa using h) ?_
    rw [if_neg (fun hh => h hh.1)]
    refine ev_last fun k => ?_
    simp only [impl_ReadFixed.j0]; rw [if_pos trivial]

theorem FnExactReadFixed : laws_FnExactReadFixed.Pure := by
  intro s w _ _
  by_cases h : (s.size : Int) > 1048576
  · exact ⟨0, by unfold laws_FnExactReadFixed.f; rw [if_pos h]⟩
  · refine Ev.rounds (Ev.congr (fun k => by unfold laws_FnExactReadFixed.f; rw [if_neg h]) ?_)
    refine ev_bind (spec_ReadFixed_ev s w) (ev_bind (impl_ReadFixed_ev s w) (ev_if_pos rfl (ev_if_neg (by simp) (Ev.now _))))

end Go.Proofs.Ytdiogjldbhoiiaa.Pure
