/- The program's UriOk returns what the reference's returns, for every text (a text of more than 2^20 bytes is let by). -/
import Derived.Test.YtdiogjldbhoiiaaPFnExactUriOkx1
import Derived.Test.YtdiogjldbhoiiaaDom
namespace Go.Proofs.Ytdiogjldbhoiiaa.Pure
open Go.RowKit Go.Proofs.Ytdiogjldbhoiiaa.PFnExactUriOk Go.Proofs.YtdiogjldbhoiiaaW.PrintWords Go.Proofs.YtdiogjldbhoiiaaW.PrintLast Go.Proofs.YtdiogjldbhoiiaaW.PrintMore Go.Proofs.Ytdiogjldbhoiiaa.Aux Go.Proofs.Ytdiogjldbhoiiaa.Dom

/-! ### spec_l1In -/
theorem spec_l1In_eq (a b c : Int) : spec_l1In.f a b c = some (decide (b ≤ a ∧ a ≤ c)) := by
  unfold spec_l1In.f
  by_cases h : a ≥ b
  · rw [if_pos h]; simp [show b ≤ a from h]
  · rw [if_neg h]; simp [show ¬ b ≤ a from h]

/-! ### spec_UriOk -/
theorem spec_UriOk_l0 (s : ByteArray) (hs : s.size ≤ 2097152) : ∀ (d : Nat) (i : Int), 0 ≤ i → (s.size : Int) - i = d →
    Ev (fun k => spec_UriOk.l0 k s i) (((bytesOf s).drop i.toNat).all (fun c => decide (33 ≤ c ∧ c ≤ 126)) && (decide (1 ≤ (s.size : Int) ∧ (s.size : Int) ≤ 20) && (rd (bytesOf s) 0 == 47)))
  | 0, i, h0, hd => by
    refine ev_last fun k => ?_
    simp only [spec_UriOk.l0]
    rw [if_neg (by omega), drop_end (by omega), spec_l1In_eq]
    simp only [Option.bind_some]
    by_cases h : 1 ≤ (s.size : Int) ∧ (s.size : Int) ≤ 20
    · rw [if_pos (by simpa using h), if_pos (by omega), bt_eq]
      simp [h]
    · rw [if_neg (by simpa using h)]
      simp [h]
  | d + 1, i, h0, hd => by
    have hb := bt_bound s i
    have hlt : i < (s.size : Int) := by omega
    by_cases c1 : bt s i ≤ 32
    · refine ev_last fun k => ?_
      simp only [spec_UriOk.l0]
      rw [if_pos hlt, if_pos h0, if_pos c1, drop_bt h0 hlt, List.all_cons, decide_eq_false (p := 33 ≤ bt s i ∧ bt s i ≤ 126) (by omega)]
      rfl
    · by_cases c2 : bt s i ≥ 127
      · refine ev_last fun k => ?_
        simp only [spec_UriOk.l0]
        rw [if_pos hlt, if_pos h0, if_neg c1, if_pos c2, drop_bt h0 hlt, List.all_cons, decide_eq_false (p := 33 ≤ bt s i ∧ bt s i ≤ 126) (by omega)]
        rfl
      · refine Ev.step (f := fun k => spec_UriOk.l0 k s (i + 1)) (fun k => ?_) (ev_eq (spec_UriOk_l0 s hs d (i + 1) (by omega) (by omega)) ?_)
        · simp only [spec_UriOk.l0]
          rw [if_pos hlt, if_pos h0, if_neg c1, if_neg c2, wrap_id (by omega) (by omega)]
        · rw [drop_bt h0 hlt, List.all_cons, decide_eq_true (p := 33 ≤ bt s i ∧ bt s i ≤ 126) (by omega), Bool.true_and]
theorem spec_UriOk_ev (s : ByteArray) (hs : s.size ≤ 2097152) : Ev (fun k => spec_UriOk.f k s) (uriB (bytesOf s)) := by
  have h := spec_UriOk_l0 s hs s.size 0 (by omega) (by omega)
  simpa [spec_UriOk.f, uriB, bytesOf_length] using h

/-! ### impl_in -/
theorem impl_in_eq (a b c : Int) : impl_in.f a b c = some (decide (b ≤ a ∧ a ≤ c)) := by
  unfold impl_in.f
  by_cases h : a ≥ b
  · rw [if_pos h]; simp [show b ≤ a from h]
  · rw [if_neg h]; simp [show ¬ b ≤ a from h]

/-! ### impl_UriOk -/
theorem impl_UriOk_l0 (s : ByteArray) (hs : s.size ≤ 2097152) : ∀ (d : Nat) (i : Int), 0 ≤ i → (s.size : Int) - i = d →
    Ev (fun k => impl_UriOk.l0 k s (s.size : Int) i) (((bytesOf s).drop i.toNat).all (fun c => decide (33 ≤ c ∧ c ≤ 126)) && (decide (1 ≤ (s.size : Int) ∧ (s.size : Int) ≤ 20) && (rd (bytesOf s) 0 == 47)))
  | 0, i, h0, hd => by
    refine ev_last fun k => ?_
    simp only [impl_UriOk.l0]
    rw [if_neg (by omega), drop_end (by omega), impl_in_eq]
    simp only [Option.bind_some]
    by_cases h : 1 ≤ (s.size : Int) ∧ (s.size : Int) ≤ 20
    · rw [if_pos (by simpa using h), if_pos (by omega), bt_eq]
      simp [h]
    · rw [if_neg (by simpa using h)]
      simp [h]
  | d + 1, i, h0, hd => by
    have hb := bt_bound s i
    have hlt : i < (s.size : Int) := by omega
    by_cases c1 : bt s i < 33
    · refine ev_last fun k => ?_
      simp only [impl_UriOk.l0]
      rw [if_pos hlt, if_pos h0, if_pos hlt, if_pos c1, drop_bt h0 hlt, List.all_cons, decide_eq_false (p := 33 ≤ bt s i ∧ bt s i ≤ 126) (by omega)]
      rfl
    · by_cases c2 : bt s i > 126
      · refine ev_last fun k => ?_
        simp only [impl_UriOk.l0]
        rw [if_pos hlt, if_pos h0, if_pos hlt, if_neg c1, if_pos c2, drop_bt h0 hlt, List.all_cons, decide_eq_false (p := 33 ≤ bt s i ∧ bt s i ≤ 126) (by omega)]
        rfl
      · refine Ev.step (f := fun k => impl_UriOk.l0 k s (s.size : Int) (i + 1)) (fun k => ?_) (ev_eq (impl_UriOk_l0 s hs d (i + 1) (by omega) (by omega)) ?_)
        · simp only [impl_UriOk.l0]
          rw [if_pos hlt, if_pos h0, if_pos hlt, if_neg c1, if_neg c2, wrap_id (by omega) (by omega)]
        · rw [drop_bt h0 hlt, List.all_cons, decide_eq_true (p := 33 ≤ bt s i ∧ bt s i ≤ 126) (by omega), Bool.true_and]
theorem impl_UriOk_ev (s : ByteArray) (hs : s.size ≤ 2097152) : Ev (fun k => impl_UriOk.f k s) (uriB (bytesOf s)) := by
  have h := impl_UriOk_l0 s hs s.size 0 (by omega) (by omega)
  simpa [impl_UriOk.f, uriB, bytesOf_length] using h

theorem FnExactUriOk : laws_FnExactUriOk.Pure := by
  intro s _
  by_cases h : (s.size : Int) > 1048576
  · exact ⟨0, by unfold laws_FnExactUriOk.f; rw [if_pos h]⟩
  · refine Ev.rounds (Ev.congr (fun k => by unfold laws_FnExactUriOk.f; rw [if_neg h]) ?_)
    refine ev_bind (spec_UriOk_ev s (by omega)) (ev_bind (impl_UriOk_ev s (by omega)) (ev_if_neg (by simp) (Ev.now _)))

end Go.Proofs.Ytdiogjldbhoiiaa.Pure
