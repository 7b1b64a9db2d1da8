/- The program's Fixed returns what the reference's returns, for all numbers and widths. -/
import Derived.Test.YtdiogjldbhoiiaaPFnExactFixedx1
import Derived.Test.YtdiogjldbhoiiaaDom
namespace Go.Proofs.Ytdiogjldbhoiiaa.Pure
open Go.RowKit Go.Proofs.Ytdiogjldbhoiiaa.PFnExactFixed Go.Proofs.YtdiogjldbhoiiaaW.PrintWords Go.Proofs.YtdiogjldbhoiiaaW.PrintLast Go.Proofs.YtdiogjldbhoiiaaW.PrintMore Go.Proofs.Ytdiogjldbhoiiaa.Aux Go.Proofs.Ytdiogjldbhoiiaa.Dom

/-! ### spec_l1In -/
theorem spec_l1In_eq (a b c : Int) : spec_l1In.f a b c = some (decide (b ≤ a ∧ a ≤ c)) := by
  unfold spec_l1In.f
  by_cases h : a ≥ b
  · rw [if_pos h]; simp [show b ≤ a from h]
  · rw [if_neg h]; simp [show ¬ b ≤ a from h]

/-! ### spec_Fixed -/
theorem spec_Fixed_l0 (w : Int) : ∀ (d : Nat) (n : Int) (out : ByteArray) (i : Int), 0 ≤ i → i ≤ 7 → w - i = d → w ≤ 7 → 0 ≤ n → n < 2 ^ 63 → (out.size : Int) ≤ i →
    Ev (fun k => spec_Fixed.l0 k n w out i) (if n < 256 ^ d then strOfNums (fixL n d) ++ out else (⟨#[]⟩ : ByteArray))
  | 0, n, out, i, h0, h7, hd, hw, n0, n1, ho => by
    refine ev_last fun k => ?_
    simp only [spec_Fixed.l0]
    rw [if_neg (by omega)]
    by_cases h : n > 0
    · rw [if_pos h, if_neg (by simp; omega)]
    · rw [if_neg h, if_pos (by simp; omega)]
      exact congrArg some (bytesOf_inj (by rw [bytesOf_append]; rfl))
  | d + 1, n, out, i, h0, h7, hd, hw, n0, n1, ho => by
    refine Ev.step (f := fun k => spec_Fixed.l0 k (n / 256) w (strOfNums [n % 256] ++ out) (i + 1)) (fun k => ?_) (ev_eq (spec_Fixed_l0 w d (n / 256) _ (i + 1) (by omega) (by omega) (by omega) hw (by omega) (by omega) ?_) ?_)
    · simp only [spec_Fixed.l0, Option.bind_some]
      rw [if_pos (by omega), Int.tdiv_eq_ediv_of_nonneg n0, Int.tmod_eq_emod_of_nonneg n0, Int.emod_emod_of_dvd _ (Int.dvd_refl _), if_pos (by rw [strOfNums_size]; simp; omega), wrap_id (by omega) (by omega), wrap_id (by omega) (by omega)]
    · rw [ByteArray.size_append, strOfNums_size]; simp; omega
    · have e : n / 256 < 256 ^ d ↔ n < 256 ^ (d + 1) := by
        rw [Int.pow_succ]; omega
      by_cases h : n < 256 ^ (d + 1)
      · rw [if_pos (e.2 h), if_pos h]
        simp only [fixL]
        rw [strOfNums_append, ByteArray.append_assoc]
      · rw [if_neg (fun hh => h (e.1 hh)), if_neg h]
theorem spec_Fixed_ev (n w : Int) (hn : n < 2 ^ 63) : Ev (fun k => spec_Fixed.f k n w) (strOfNums (fixT n w)) := by
  refine Ev.congr (fun k => by unfold spec_Fixed.f; rw [spec_l1In_eq, Option.bind_some]) ?_
  unfold fixT
  by_cases h : 1 ≤ w ∧ w ≤ 7
  · refine ev_if_pos (by simpa using h) ?_
    by_cases h2 : n < 0
    · rw [if_neg (fun hh => by omega)]
      refine ev_last fun k => ?_
      simp only [spec_Fixed.j0]; rw [if_pos (by simpa using h2)]; rfl
    · refine Ev.step (f := fun k => spec_Fixed.l0 k n w (⟨#[]⟩ : ByteArray) 0) (fun k => ?_) (ev_eq (spec_Fixed_l0 w w.toNat n _ 0 (by omega) (by omega) (by omega) h.2 (by omega) hn (by simp [ByteArray.size])) ?_)
      · simp only [spec_Fixed.j0]; rw [if_neg (by simpa using h2)]
      · by_cases h3 : n < 256 ^ w.toNat
        · rw [if_pos h3, if_pos ⟨h, by omega, h3⟩]
          exact bytesOf_inj (by rw [bytesOf_append]; simp [bytesOf])
        · rw [if_neg h3, if_neg (fun hh => h3 hh.2.2)]; rfl
  · refine ev_if_neg (by simpa using h) ?_
    rw [if_neg (fun hh => h hh.1)]
    refine ev_last fun k => ?_
    simp only [spec_Fixed.j0]; rw [if_pos trivial]; rfl

/-! ### impl_in -/
theorem impl_in_eq (a b c : Int) : impl_in.f a b c = some (decide (b ≤ a ∧ a ≤ c)) := by
  unfold impl_in.f
  by_cases h : a ≥ b
  · rw [if_pos h]; simp [show b ≤ a from h]
  · rw [if_neg h]; simp [show ¬ b ≤ a from h]

/-! ### impl_Fixed -/
theorem impl_Fixed_l0 : ∀ (d : Nat) (n : Int) (tail : List Int), d < 9 → Ev (fun k => impl_Fixed.l0 k n (List.replicate d 0 ++ tail) ((d : Int) - 1)) (strOfNums (fixL n d ++ tail))
  | 0, n, tail, hd => by
    refine ev_last fun k => ?_
    simp only [impl_Fixed.l0]
    rw [if_neg (by omega)]; rfl
  | d + 1, n, tail, hd => by
    refine Ev.step (f := fun k => impl_Fixed.l0 k (n / 256) (List.replicate d 0 ++ (n % 256 :: tail)) ((d : Int) - 1)) (fun k => ?_) (ev_eq (impl_Fixed_l0 d (n / 256) (n % 256 :: tail) (by omega)) ?_)
    · simp only [impl_Fixed.l0]
      rw [if_pos (by omega), if_pos (by omega), if_pos (by simp; omega), wrap_id (by omega) (by omega)]
      have e : (List.replicate (d + 1) (0 : Int) ++ tail).set (((d + 1 : Nat) : Int) - 1).toNat (n % 256) = List.replicate d 0 ++ (n % 256 :: tail) := by
        rw [show (((d + 1 : Nat) : Int) - 1).toNat = d by omega, List.replicate_succ', List.append_assoc, List.set_append_right _ _ (by simp)]
        simp
      rw [e]
      congr 1
      omega
    · simp [fixL]
theorem impl_shl {w : Int} (h : 1 ≤ w ∧ w ≤ 7) : shl .i64 1 (wrap64 (8 * w)) = 256 ^ w.toNat := by
  rw [wrap_id (by omega) (by omega)]
  have : w = 1 ∨ w = 2 ∨ w = 3 ∨ w = 4 ∨ w = 5 ∨ w = 6 ∨ w = 7 := by omega
  rcases this with rfl | rfl | rfl | rfl | rfl | rfl | rfl <;> decide
theorem impl_Fixed_ev (n w : Int) : Ev (fun k => impl_Fixed.f k n w) (strOfNums (fixT n w)) := by
  refine Ev.congr (fun k => by unfold impl_Fixed.f; rw [impl_in_eq, Option.bind_some]) ?_
  unfold fixT
  by_cases h : 1 ≤ w ∧ w ≤ 7
  · have hp : (256 : Int) ^ w.toNat ≤ 256 ^ 7 := pow_le 256 (by decide) (by omega)
    have hp0 : (0 : Int) < 256 ^ w.toNat := Int.pow_pos (by decide)
    refine ev_if_pos (by simpa using h) (ev_if_pos (by rw [wrap_id (by omega) (by omega)]; omega) ?_)
    rw [impl_shl h, wrap_id (by omega) (by omega)]
    refine Ev.congr (fun k => by rw [impl_in_eq, Option.bind_some]) ?_
    by_cases h2 : 0 ≤ n ∧ n ≤ 256 ^ w.toNat - 1
    · refine Ev.step (f := fun k => impl_Fixed.l0 k n (List.replicate w.toNat 0 ++ []) ((w.toNat : Int) - 1)) (fun k => ?_) (ev_eq (impl_Fixed_l0 w.toNat n [] (by omega)) ?_)
      · simp only [impl_Fixed.j0]
        rw [if_neg (by simp only [decide_eq_true h2, Bool.not_true]; decide), if_pos (by omega), if_pos (by omega), wrap_id (by omega) (by omega), List.append_nil, show ((w.toNat : Nat) : Int) = w by omega]
      · rw [if_pos ⟨h, by omega, by omega⟩, List.append_nil]
    · rw [if_neg (fun hh => h2 ⟨hh.2.1, by omega⟩)]
      refine ev_last fun k => ?_
      simp only [impl_Fixed.j0]; rw [if_pos (by simp only [decide_eq_false h2, Bool.not_false])]; rfl
  · refine ev_if_neg (by simpa using h) ?_
    rw [if_neg (fun hh => h hh.1)]
    refine ev_last fun k => ?_
    simp only [impl_Fixed.j0]; rw [if_pos trivial]; rfl

theorem FnExactFixed : laws_FnExactFixed.Pure := by
  intro n w hn _
  have hn := wf_i64 hn
  refine Ev.rounds (Ev.congr (fun k => by unfold laws_FnExactFixed.f; rfl) ?_)
  exact ev_bind (spec_Fixed_ev n w (by omega)) (ev_bind (impl_Fixed_ev n w) (ev_if_pos rfl (Ev.now _)))

end Go.Proofs.Ytdiogjldbhoiiaa.Pure
