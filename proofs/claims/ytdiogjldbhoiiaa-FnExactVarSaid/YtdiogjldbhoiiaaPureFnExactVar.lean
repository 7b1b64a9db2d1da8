/- The program's Var returns what the reference's returns, for every number. -/
import Derived.Test.YtdiogjldbhoiiaaPFnExactVarx1
import Derived.Test.YtdiogjldbhoiiaaDom
namespace Go.Proofs.Ytdiogjldbhoiiaa.Pure
open Go.RowKit Go.Proofs.Ytdiogjldbhoiiaa.PFnExactVar Go.Proofs.YtdiogjldbhoiiaaW.PrintWords Go.Proofs.YtdiogjldbhoiiaaW.PrintLast Go.Proofs.YtdiogjldbhoiiaaW.PrintMore Go.Proofs.Ytdiogjldbhoiiaa.Aux Go.Proofs.Ytdiogjldbhoiiaa.Dom

/-! ### spec_l1In -/
theorem spec_l1In_eq (a b c : Int) : spec_l1In.f a b c = some (decide (b ≤ a ∧ a ≤ c)) := by
  unfold spec_l1In.f
  by_cases h : a ≥ b
  · rw [if_pos h]; simp [show b ≤ a from h]
  · rw [if_neg h]; simp [show ¬ b ≤ a from h]

/-! ### spec_Var -/
theorem spec_Var_l0 : ∀ (f : Nat) (n : Int) (xs : List Int), 0 ≤ n → n < 128 ^ (f + 1) → f < 9 → xs.length + f ≤ 100 →
    Ev (fun k => spec_Var.l0 k n xs) (strOfNums (xs ++ varL f n))
  | 0, n, xs, h0, h1, hf, hx => by
    refine ev_last fun k => ?_
    simp only [spec_Var.l0]
    rw [if_neg (by omega), if_pos (by omega), Int.emod_eq_of_lt h0 (by omega)]
    rfl
  | f + 1, n, xs, h0, h1, hf, hx => by
    have hm : n < 2 ^ 63 := by
      have : (128 : Int) ^ (f + 1 + 1) ≤ 128 ^ 9 := pow_le 128 (by decide) (by omega)
      omega
    by_cases h : n > 127
    · refine Ev.step (f := fun k => spec_Var.l0 k (n / 128) (xs ++ [128 + n % 128])) (fun k => ?_) (ev_eq (spec_Var_l0 f (n / 128) (xs ++ [128 + n % 128]) (by omega) ?_ (by omega) (by simp; omega)) ?_)
      · simp only [spec_Var.l0]
        rw [if_pos (by omega), if_pos (by omega), Int.tdiv_eq_ediv_of_nonneg h0, Int.tmod_eq_emod_of_nonneg h0, wrap_id (by omega) (by omega), wrap_id (by omega) (by omega), Int.emod_eq_of_lt (a := 128 + n % 128) (by omega) (by omega)]
      · rw [Int.pow_succ] at h1; omega
      · simp [varL, h]
    · refine ev_last fun k => ?_
      simp only [spec_Var.l0]
      rw [if_neg (by omega), if_pos (by omega), Int.emod_eq_of_lt h0 (by omega)]
      simp [varL, h]
theorem spec_Var_ev (n : Int) : Ev (fun k => spec_Var.f k n) (strOfNums (varT n)) := by
  refine Ev.congr (fun k => by unfold spec_Var.f; rw [spec_l1In_eq, Option.bind_some]) ?_
  unfold varT
  by_cases h : 0 ≤ n ∧ n ≤ 562949953421311
  · rw [if_pos h]
    exact ev_if_pos (by simpa using h) (by simpa using spec_Var_l0 7 n [] h.1 (by omega) (by decide) (by simp))
  · rw [if_neg h]
    exact ev_if_neg (by simpa using h) (Ev.now _)

/-! ### impl_in -/
theorem impl_in_eq (a b c : Int) : impl_in.f a b c = some (decide (b ≤ a ∧ a ≤ c)) := by
  unfold impl_in.f
  by_cases h : a ≥ b
  · rw [if_pos h]; simp [show b ≤ a from h]
  · rw [if_neg h]; simp [show ¬ b ≤ a from h]

/-! ### impl_Var -/
theorem impl_Var_l0 : ∀ (f : Nat) (n : Int) (xs : List Int), 0 ≤ n → n < 128 ^ (f + 1) → f < 9 → xs.length + f ≤ 100 →
    Ev (fun k => impl_Var.l0 k n xs) (strOfNums (xs ++ varL f n))
  | 0, n, xs, h0, h1, hf, hx => by
    refine ev_last fun k => ?_
    simp only [impl_Var.l0]
    rw [if_neg (by omega), if_pos (by omega), Int.emod_eq_of_lt h0 (by omega)]
    rfl
  | f + 1, n, xs, h0, h1, hf, hx => by
    have hm : n < 2 ^ 63 := by
      have : (128 : Int) ^ (f + 1 + 1) ≤ 128 ^ 9 := pow_le 128 (by decide) (by omega)
      omega
    by_cases h : n > 127
    · refine Ev.step (f := fun k => impl_Var.l0 k (n / 128) (xs ++ [128 + n % 128])) (fun k => ?_) (ev_eq (impl_Var_l0 f (n / 128) (xs ++ [128 + n % 128]) (by omega) ?_ (by omega) (by simp; omega)) ?_)
      · simp only [impl_Var.l0]
        rw [if_pos (by omega), if_pos (by omega), and127 h0 hm, or128 (by omega) (by omega), Int.emod_eq_of_lt (a := 128 + n % 128) (by omega) (by omega)]
      · rw [Int.pow_succ] at h1; omega
      · simp [varL, h]
    · refine ev_last fun k => ?_
      simp only [impl_Var.l0]
      rw [if_neg (by omega), if_pos (by omega), Int.emod_eq_of_lt h0 (by omega)]
      simp [varL, h]
theorem impl_Var_ev (n : Int) : Ev (fun k => impl_Var.f k n) (strOfNums (varT n)) := by
  refine Ev.congr (fun k => by unfold impl_Var.f; rw [impl_in_eq, Option.bind_some]) ?_
  unfold varT
  by_cases h : 0 ≤ n ∧ n ≤ 562949953421311
  · rw [if_pos h]
    exact ev_if_pos (by simpa using h) (by simpa using impl_Var_l0 7 n [] h.1 (by omega) (by decide) (by simp))
  · rw [if_neg h]
    exact ev_if_neg (by simpa using h) (Ev.now _)

theorem FnExactVar : laws_FnExactVar.Pure := by
  intro n _
  refine Ev.rounds (Ev.congr (fun k => by unfold laws_FnExactVar.f; rfl) ?_)
  exact ev_bind (spec_Var_ev n) (ev_bind (impl_Var_ev n) (ev_if_pos rfl (Ev.now _)))

end Go.Proofs.Ytdiogjldbhoiiaa.Pure
