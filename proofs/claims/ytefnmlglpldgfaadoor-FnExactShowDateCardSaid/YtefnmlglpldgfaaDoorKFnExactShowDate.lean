/- The program's ShowDate returns what the reference's returns, for all numbers. -/
import Derived.Test.YtefnmlglpldgfaaDoorDom
import Derived.Test.YtefnmlglpldgfaaDoorDomB
import Derived.Test.YtefnmlglpldgfaaDoorCFnExactShowDatea
namespace Go.Proofs.YtefnmlglpldgfaaDoor.QL
open Go.RowKit Go.Proofs.YtefnmlglpldgfaaDoorW.PrintWords Go.Proofs.YtefnmlglpldgfaaDoorW.PrintLast Go.Proofs.YtefnmlglpldgfaaDoorW.PrintMore Go.Proofs.YtefnmlglpldgfaaDoor.Aux Go.Proofs.YtefnmlglpldgfaaDoor.Dom Go.Proofs.YtefnmlglpldgfaaDoor.Ext Go.Proofs.YtefnmlglpldgfaaDoor.Glob
def laws_FnExactShowDate.Pure : Prop := ∀ (a0 : Int), (Lit.int .i64 a0).wf = true → ∃ k, laws_FnExactShowDate.f k a0 = some true
theorem laws_FnExactShowDate.walk (P : laws_FnExactShowDate.Pure) (a0 : Int) (w : World) (za0 : (Lit.int .i64 a0).wf = true) (hGPow : GPow w) :
    Calls Tryd.prog 4 #[.int .i64 a0] w fun e w' => e = .returned (.bool true) ∧ Below w.heap.size w w' := by
  obtain ⟨k, h⟩ := P a0 za0
  refine (laws_FnExactShowDate.calls k a0 true w  hGPow h).mono ?_
  rintro e w' ⟨rfl, hd⟩
  exact ⟨rfl, hd⟩
end Go.Proofs.YtefnmlglpldgfaaDoor.QL

namespace Go.Proofs.YtefnmlglpldgfaaDoor.Pure
set_option linter.unusedVariables false
set_option linter.unusedSimpArgs false
open Go.RowKit Go.Proofs.YtefnmlglpldgfaaDoor.QL Go.Proofs.YtefnmlglpldgfaaDoorW.PrintWords Go.Proofs.YtefnmlglpldgfaaDoorW.PrintLast Go.Proofs.YtefnmlglpldgfaaDoorW.PrintMore Go.Proofs.YtefnmlglpldgfaaDoor.Aux Go.Proofs.YtefnmlglpldgfaaDoor.Dom Go.Proofs.YtefnmlglpldgfaaDoor.Ext
theorem spec_l1In_eq (a b c : Int) : spec_l1In.f a b c = some (decide (b ≤ a ∧ a ≤ c)) := by
  unfold spec_l1In.f
  by_cases h : a ≥ b
  · rw [if_pos h]; simp [show b ≤ a from h]
  · rw [if_neg h]; simp [show ¬ b ≤ a from h]

end Go.Proofs.YtefnmlglpldgfaaDoor.Pure

namespace Go.Proofs.YtefnmlglpldgfaaDoor.Pure
set_option linter.unusedVariables false
set_option linter.unusedSimpArgs false
open Go.RowKit Go.Proofs.YtefnmlglpldgfaaDoor.QL Go.Proofs.YtefnmlglpldgfaaDoorW.PrintWords Go.Proofs.YtefnmlglpldgfaaDoorW.PrintLast Go.Proofs.YtefnmlglpldgfaaDoorW.PrintMore Go.Proofs.YtefnmlglpldgfaaDoor.Aux Go.Proofs.YtefnmlglpldgfaaDoor.Dom Go.Proofs.YtefnmlglpldgfaaDoor.Ext
theorem spec_IsLeap_eq {y : Int} (h : 0 ≤ y) : spec_IsLeap.f y = some (leapB y) := by
  unfold spec_IsLeap.f leapB
  rw [Int.tmod_eq_emod_of_nonneg h, Int.tmod_eq_emod_of_nonneg h, Int.tmod_eq_emod_of_nonneg h]
  by_cases h4 : y % 4 = 0
  · rw [if_pos h4]
    by_cases h100 : y % 100 = 0
    · rw [if_pos h100]
      congr 1
      rw [Bool.eq_iff_iff]; simp; omega
    · rw [if_neg h100, decide_eq_true (Or.inl ⟨h4, h100⟩)]
  · rw [if_neg h4, decide_eq_false (by omega)]

end Go.Proofs.YtefnmlglpldgfaaDoor.Pure

namespace Go.Proofs.YtefnmlglpldgfaaDoor.Pure
set_option linter.unusedVariables false
set_option linter.unusedSimpArgs false
open Go.RowKit Go.Proofs.YtefnmlglpldgfaaDoor.QL Go.Proofs.YtefnmlglpldgfaaDoorW.PrintWords Go.Proofs.YtefnmlglpldgfaaDoorW.PrintLast Go.Proofs.YtefnmlglpldgfaaDoorW.PrintMore Go.Proofs.YtefnmlglpldgfaaDoor.Aux Go.Proofs.YtefnmlglpldgfaaDoor.Dom Go.Proofs.YtefnmlglpldgfaaDoor.Ext
theorem spec_l4Months_eq {y : Int} (h : 0 ≤ y) : ∃ l, spec_l4Months.f y = some l ∧ l.length = 12 ∧ ∀ m : Int, 1 ≤ m → m ≤ 12 → rd l (m - 1) = monthD y m := by
  unfold spec_l4Months.f
  rw [spec_IsLeap_eq h, Option.bind_some]
  have hm : ∀ m : Int, 1 ≤ m → m ≤ 12 → m = 1 ∨ m = 2 ∨ m = 3 ∨ m = 4 ∨ m = 5 ∨ m = 6 ∨ m = 7 ∨ m = 8 ∨ m = 9 ∨ m = 10 ∨ m = 11 ∨ m = 12 := fun m h1 h2 => by omega
  cases hl : leapB y with
  | true =>
    refine ⟨_, if_pos rfl, rfl, fun m h1 h2 => ?_⟩
    rcases hm m h1 h2 with rfl | rfl | rfl | rfl | rfl | rfl | rfl | rfl | rfl | rfl | rfl | rfl <;> simp [monthD, hl, rd]
  | false =>
    refine ⟨_, if_neg (by decide), rfl, fun m h1 h2 => ?_⟩
    rcases hm m h1 h2 with rfl | rfl | rfl | rfl | rfl | rfl | rfl | rfl | rfl | rfl | rfl | rfl <;> simp [monthD, hl, rd]
theorem spec_DaysOf_l1 (y m : Int) (hy : 0 ≤ y) (hm : m ≤ 13) : ∀ (d : Nat) (n i : Int), 1 ≤ i → m - i = d → 0 ≤ n → n + 31 * d ≤ 100000 → Ev (fun k => spec_DaysOf.l1 k y m n i) (n + monthsD y d i)
  | 0, n, i, h1, hd, n0, n1 => by
    refine ev_last fun k => ?_
    simp only [spec_DaysOf.l1]
    rw [if_neg (by omega)]
    simp [monthsD]
  | d + 1, n, i, h1, hd, n0, n1 => by
    obtain ⟨l, e, hl, hr⟩ := spec_l4Months_eq hy
    have hb := monthD_bd y i
    refine Ev.step (f := fun k => spec_DaysOf.l1 k y m (n + monthD y i) (i + 1)) (fun k => ?_) (ev_eq (spec_DaysOf_l1 y m hy hm d _ (i + 1) (by omega) (by omega) (by omega) (by omega)) (by rw [monthsD]; omega))
    simp only [spec_DaysOf.l1]
    rw [if_pos (by omega), e, Option.bind_some, wrap_id (x := i - 1) (by omega) (by omega), if_pos (by omega), if_pos (by omega), hr i h1 (by omega), wrap_id (by omega) (by omega), wrap_id (by omega) (by omega)]
theorem spec_DaysOf_l0 (y m : Int) (hy : y ≤ 2037) (h1970 : 1970 ≤ y) (hm1 : 1 ≤ m) (hm : m ≤ 12) : ∀ (d : Nat) (n i : Int), 1970 ≤ i → y - i = d → 0 ≤ n → n + 366 * d ≤ 50000 → Ev (fun k => spec_DaysOf.l0 k y m n i) (n + yearsD d i + monthsD y (m - 1).toNat 1)
  | 0, n, i, h1, hd, n0, n1 => by
    refine Ev.step (f := fun k => spec_DaysOf.l1 k y m n 1) (fun k => ?_) (ev_eq (spec_DaysOf_l1 y m (by omega) (by omega) (m - 1).toNat n 1 (by omega) (by omega) n0 (by omega)) (by simp [yearsD]))
    simp only [spec_DaysOf.l0]
    rw [if_neg (by omega)]
  | d + 1, n, i, h1, hd, n0, n1 => by
    have hb := yearD_bd i
    refine Ev.step (f := fun k => spec_DaysOf.l0 k y m (n + yearD i) (i + 1)) (fun k => ?_) (ev_eq (spec_DaysOf_l0 y m hy h1970 hm1 hm d _ (i + 1) (by omega) (by omega) (by omega) (by omega)) (by rw [yearsD]; omega))
    simp only [spec_DaysOf.l0]
    rw [if_pos (by omega), spec_IsLeap_eq (by omega), Option.bind_some, wrap_id (x := n + 365) (by omega) (by omega), wrap_id (x := i + 1) (by omega) (by omega), wrap_id (x := n + 365 + 1) (by omega) (by omega)]
    unfold yearD
    cases leapB i with
    | true => rw [if_pos rfl, if_pos rfl, show n + 365 + 1 = n + 366 by omega]
    | false => rw [if_neg (by decide), if_neg (by decide)]
theorem spec_DaysOf_ev (y m d : Int) : Ev (fun k => spec_DaysOf.f k y m d) (daysP y m d) := by
  have hbad : ∀ k, spec_DaysOf.j0 (k + 1) y m d true = some (-1) := fun k => by simp only [spec_DaysOf.j0]; rw [if_pos trivial]
  refine Ev.congr (fun k => by unfold spec_DaysOf.f; rw [spec_l1In_eq, Option.bind_some]) ?_
  unfold daysP
  by_cases h1 : 1970 ≤ y ∧ y ≤ 2037
  · refine ev_if_pos (by simpa using h1) ?_
    refine Ev.congr (fun k => by rw [spec_l1In_eq, Option.bind_some]) ?_
    by_cases h2 : 1 ≤ m ∧ m ≤ 12
    · refine ev_if_pos (by simpa using h2) ?_
      obtain ⟨l, e, hl, hr⟩ := spec_l4Months_eq (y := y) (by omega)
      refine Ev.congr (fun k => by rw [e, Option.bind_some, wrap_id (x := m - 1) (by omega) (by omega), if_pos (by omega), if_pos (by omega), hr m h2.1 h2.2, spec_l1In_eq, Option.bind_some]) ?_
      have hb := monthD_bd y m
      by_cases h3 : 1 ≤ d ∧ d ≤ monthD y m
      · rw [decide_eq_true h3, if_pos ⟨h1, h2, h3⟩]
        refine Ev.step (f := fun k => spec_DaysOf.l0 k y m (d - 1) 1970) (fun k => ?_) (ev_eq (spec_DaysOf_l0 y m h1.2 h1.1 h2.1 h2.2 (y - 1970).toNat (d - 1) 1970 (by omega) (by omega) (by omega) (by omega)) (by omega))
        simp only [spec_DaysOf.j0]
        rw [if_neg (by decide), wrap_id (by omega) (by omega)]
      · rw [decide_eq_false h3, if_neg (fun h => h3 h.2.2)]
        exact ev_last hbad
    · rw [if_neg (fun h => h2 h.2.1)]
      exact ev_if_neg (by simpa using h2) (ev_last hbad)
  · rw [if_neg (fun h => h1 h.1)]
    exact ev_if_neg (by simpa using h1) (ev_last hbad)

end Go.Proofs.YtefnmlglpldgfaaDoor.Pure

namespace Go.Proofs.YtefnmlglpldgfaaDoor.Pure
set_option linter.unusedVariables false
set_option linter.unusedSimpArgs false
open Go.RowKit Go.Proofs.YtefnmlglpldgfaaDoor.QL Go.Proofs.YtefnmlglpldgfaaDoorW.PrintWords Go.Proofs.YtefnmlglpldgfaaDoorW.PrintLast Go.Proofs.YtefnmlglpldgfaaDoorW.PrintMore Go.Proofs.YtefnmlglpldgfaaDoor.Aux Go.Proofs.YtefnmlglpldgfaaDoor.Dom Go.Proofs.YtefnmlglpldgfaaDoor.Ext
theorem spec_Dec_pos : ∀ (d : Nat) (n : Int) (acc : List Int), 0 ≤ n → n ≤ 9223372036854775807 → n < 10 ^ d → acc.length + d ≤ 100 → Ev (fun k => spec_Dec.l0 k n (strOfNums acc) false) (strOfNums (decL d n acc))
  | 0, n, acc, h0, h1, hn, ha => by
    refine ev_last fun k => ?_
    simp only [spec_Dec.l0]
    rw [if_pos (by simp at hn; omega), if_neg (by decide)]
    rfl
  | d + 1, n, acc, h0, h1, hn, ha => by
    by_cases h : n > 0
    · refine Ev.step (f := fun k => spec_Dec.l0 k (n / 10) (strOfNums ((48 + n % 10) :: acc)) false) (fun k => ?_) (ev_eq (spec_Dec_pos d (n / 10) _ (by omega) (by omega) (by rw [Int.pow_succ] at hn; omega) (by simp; omega)) (by rw [decL, if_pos h]))
      simp only [spec_Dec.l0, Option.bind_some]
      rw [if_neg (by omega), Int.tmod_eq_emod_of_nonneg (by omega), Int.tdiv_eq_ediv_of_nonneg (by omega), if_neg (by omega), if_pos (by rw [strOfNums_size, strOfNums_size]; simp; omega), wrap_id (x := 48 + n % 10) (by omega) (by omega), wrap_id (by omega) (by omega), Int.emod_eq_of_lt (a := 48 + n % 10) (by omega) (by omega), ← strOfNums_append]
      rfl
    · refine ev_last fun k => ?_
      simp only [spec_Dec.l0]
      rw [if_pos (by omega), if_neg (by decide), decL, if_neg h]
theorem spec_Dec_neg : ∀ (d : Nat) (n : Int) (acc : List Int), 0 ≤ n → n ≤ 9223372036854775808 → n < 10 ^ d → acc.length + d ≤ 100 → Ev (fun k => spec_Dec.l0 k (-n) (strOfNums acc) true) (strOfNums (45 :: decL d n acc))
  | 0, n, acc, h0, h1, hn, ha => by
    refine ev_last fun k => ?_
    simp only [spec_Dec.l0]
    rw [if_pos (by simp at hn; omega), if_pos (by trivial), if_pos (by rw [strOfNums_size]; omega)]
    rw [show (45 :: decL 0 n acc : List Int) = [45] ++ acc from rfl, strOfNums_append]
    rfl
  | d + 1, n, acc, h0, h1, hn, ha => by
    by_cases h : n > 0
    · refine Ev.step (f := fun k => spec_Dec.l0 k (-(n / 10)) (strOfNums ((48 + n % 10) :: acc)) true) (fun k => ?_) (ev_eq (spec_Dec_neg d (n / 10) _ (by omega) (by omega) (by rw [Int.pow_succ] at hn; omega) (by simp; omega)) (by rw [decL, if_pos h]))
      simp only [spec_Dec.l0, Option.bind_some]
      rw [if_neg (by omega), Int.neg_tmod, Int.neg_tdiv, Int.tmod_eq_emod_of_nonneg (by omega), Int.tdiv_eq_ediv_of_nonneg (by omega)]
      by_cases hr : -(n % 10) < 0
      · rw [if_pos hr, if_pos (by rw [strOfNums_size, strOfNums_size]; simp; omega), Int.neg_neg, wrap_id (x := n % 10) (by omega) (by omega), wrap_id (x := 48 + n % 10) (by omega) (by omega), wrap_id (by omega) (by omega), Int.emod_eq_of_lt (a := 48 + n % 10) (by omega) (by omega), ← strOfNums_append]
        rfl
      · have hr0 : n % 10 = 0 := by omega
        rw [if_neg hr, if_pos (by rw [strOfNums_size, strOfNums_size]; simp; omega), hr0, wrap_id (x := -(n / 10)) (by omega) (by omega), ← strOfNums_append, show (wrap64 (48 + -0) % 256 : Int) = 48 + 0 by rw [wrap_id (by omega) (by omega)]; omega]
        rfl
    · refine ev_last fun k => ?_
      simp only [spec_Dec.l0]
      rw [if_pos (by omega), if_pos (by trivial), if_pos (by rw [strOfNums_size]; omega), decL, if_neg h]
      rw [show (45 :: acc : List Int) = [45] ++ acc from rfl, strOfNums_append]
      rfl
theorem spec_Dec_ev (n : Int) (h0 : -9223372036854775808 ≤ n) (h1 : n ≤ 9223372036854775807) : Ev (fun k => spec_Dec.f k n) (decB n) := by
  have hp : (10 : Int) ^ 20 = 100000000000000000000 := by decide
  unfold decB decP
  by_cases hz : n = 0
  · rw [if_pos hz]
    exact ev_some fun k => by unfold spec_Dec.f; rw [if_pos hz]; rfl
  · rw [if_neg hz]
    refine Ev.congr (fun k => by unfold spec_Dec.f; rw [if_neg hz]) ?_
    by_cases hn : n < 0
    · rw [if_pos hn, decide_eq_true hn]
      have h := spec_Dec_neg 20 (-n) [] (by omega) (by omega) (by rw [hp]; omega) (by simp)
      rw [Int.neg_neg] at h
      exact h
    · rw [if_neg hn, decide_eq_false hn]
      exact spec_Dec_pos 20 n [] (by omega) (by omega) (by rw [hp]; omega) (by simp)

end Go.Proofs.YtefnmlglpldgfaaDoor.Pure

namespace Go.Proofs.YtefnmlglpldgfaaDoor.Pure
set_option linter.unusedVariables false
set_option linter.unusedSimpArgs false
open Go.RowKit Go.Proofs.YtefnmlglpldgfaaDoor.QL Go.Proofs.YtefnmlglpldgfaaDoorW.PrintWords Go.Proofs.YtefnmlglpldgfaaDoorW.PrintLast Go.Proofs.YtefnmlglpldgfaaDoorW.PrintMore Go.Proofs.YtefnmlglpldgfaaDoor.Aux Go.Proofs.YtefnmlglpldgfaaDoor.Dom Go.Proofs.YtefnmlglpldgfaaDoor.Ext
theorem spec_l4Two_eq {n : Int} (h0 : 0 ≤ n) (h1 : n ≤ 99) : spec_l4Two.f n = some (strOfNums (twoL n)) := by
  unfold spec_l4Two.f twoL
  rw [Int.tdiv_eq_ediv_of_nonneg h0, wrap_id (x := n / 10) (by omega) (by omega), Int.tmod_eq_emod_of_nonneg (by omega), Int.tmod_eq_emod_of_nonneg h0, wrap_id (by omega) (by omega), wrap_id (by omega) (by omega), Int.emod_eq_of_lt (a := 48 + n / 10 % 10) (by omega) (by omega), Int.emod_eq_of_lt (a := 48 + n % 10) (by omega) (by omega)]
/-- The days of a year's first day, and of a month's. -/
theorem daysP_year {y : Int} (h : 1970 ≤ y) (h2 : y ≤ 2037) : daysP y 1 1 = yearsD (y - 1970).toNat 1970 := by
  have hb := monthD_bd y 1
  unfold daysP
  rw [if_pos ⟨⟨h, h2⟩, by omega, by omega⟩]
  simp [monthsD]
theorem daysP_month {y m : Int} (h : 1970 ≤ y) (h2 : y ≤ 2037) (h3 : 1 ≤ m) (h4 : m ≤ 12) : daysP y m 1 = yearsD (y - 1970).toNat 1970 + monthsD y (m - 1).toNat 1 := by
  have hb := monthD_bd y m
  unfold daysP
  rw [if_pos ⟨⟨h, h2⟩, ⟨h3, h4⟩, by omega⟩]
  omega
theorem spec_ShowDate_j3 (sec y m : Int) (hs0 : 0 ≤ sec) (hs1 : sec ≤ 2000000000) (hy : 1970 ≤ y) (hy2 : y ≤ 2037) (hm : 1 ≤ m) (hm2 : m ≤ 12) (hd : daysP y m 1 ≤ sec / 86400) (hd2 : sec / 86400 < daysP y m 1 + monthD y m) :
    Ev (fun k => spec_ShowDate.j3 k sec (sec / 86400) y m) (strOfNums (weekL (sec / 86400 % 7) ++ [44, 32] ++ twoL (sec / 86400 - daysP y m 1 + 1) ++ [32] ++ monL m ++ [32] ++ decP y ++ [32] ++ twoL (sec / 3600 % 24) ++ [58] ++ twoL (sec / 60 % 60) ++ [58] ++ twoL (sec % 60) ++ [32, 71, 77, 84])) := by
  have hb := monthD_bd y m
  have hdp := daysP_month hy hy2 hm hm2
  have hyb := yearsD_bd (y - 1970).toNat 1970
  have hmb := monthsD_bd y (m - 1).toNat 1
  have w2 : wrap64 (m - 1) = m - 1 := wrap_id (by omega) (by omega)
  have w1 : wrap64 (wrap64 (sec / 86400 - daysP y m 1) + 1) = sec / 86400 - daysP y m 1 + 1 := by rw [wrap_id (x := sec / 86400 - daysP y m 1) (by omega) (by omega), wrap_id (by omega) (by omega)]
  have w3 : Int.tmod (wrap64 (Int.tdiv sec 3600)) 24 = sec / 3600 % 24 := by rw [Int.tdiv_eq_ediv_of_nonneg hs0, wrap_id (by omega) (by omega), Int.tmod_eq_emod_of_nonneg (by omega)]
  have w4 : Int.tmod (wrap64 (Int.tdiv sec 60)) 60 = sec / 60 % 60 := by rw [Int.tdiv_eq_ediv_of_nonneg hs0, wrap_id (by omega) (by omega), Int.tmod_eq_emod_of_nonneg (by omega)]
  have w5 : Int.tmod sec 60 = sec % 60 := Int.tmod_eq_emod_of_nonneg hs0
  have w6 : Int.tmod (sec / 86400) 7 = sec / 86400 % 7 := Int.tmod_eq_emod_of_nonneg (by omega)
  have s1 : (strOfNums (weekL (sec / 86400 % 7))).size = 3 := by rw [strOfNums_size, weekL_length]
  have s2 : ∀ n, (strOfNums (twoL n)).size = 2 := fun n => by rw [strOfNums_size]; rfl
  have s3 : (strOfNums (monL m)).size = 3 := by rw [strOfNums_size, monL_length]
  have s4 : (decB y).size = 4 := by unfold decB; rw [decP_year (by omega) (by omega), strOfNums_size]; rfl
  have z1 : (⟨#[44, 32]⟩ : ByteArray).size = 2 := rfl
  have z2 : (⟨#[32]⟩ : ByteArray).size = 1 := rfl
  have z3 : (⟨#[58]⟩ : ByteArray).size = 1 := rfl
  refine Ev.step (fun k => by simp only [spec_ShowDate.j3]; rfl) (ev_bind (spec_DaysOf_ev y m 1) ?_)
  refine Ev.congr (fun k => by
    simp only [Option.bind_some]
    rw [w6, if_pos (c := 0 ≤ sec / 86400 % 7) (by omega), if_pos (c := sec / 86400 % 7 < _) (by simp; omega), w2, if_pos (c := 0 ≤ m - 1) (by omega), if_pos (c := m - 1 < _) (by simp; omega), week_rd (by omega) (by omega), months_rd hm hm2, if_pos (by rw [s1]; decide), w1, spec_l4Two_eq (n := sec / 86400 - daysP y m 1 + 1) (by omega) (by omega), Option.bind_some]) ?_
  refine Ev.congr (fun k => by
    simp only [ByteArray.size_append, s1, s2, s3, z1, z2, Nat.reduceAdd, Nat.reduceLeDiff, if_true]
    rfl) ?_
  refine ev_bind (spec_Dec_ev y (by omega) (by omega)) ?_
  refine ev_some fun k => ?_
  rw [w3, w4, w5, spec_l4Two_eq (n := sec / 3600 % 24) (by omega) (by omega), spec_l4Two_eq (n := sec / 60 % 60) (by omega) (by omega), spec_l4Two_eq (n := sec % 60) (by omega) (by omega)]
  simp only [Option.bind_some, ByteArray.size_append, s1, s2, s3, s4, z1, z2, z3, Nat.reduceAdd, Nat.reduceLeDiff, if_true]
  congr 1
  simp only [strOfNums_append, decB]
  rfl
theorem spec_ShowDate_l1 (sec y : Int) (hs0 : 0 ≤ sec) (hs1 : sec ≤ 2000000000) (hy : 1970 ≤ y) (hy2 : y ≤ 2037) : ∀ (f : Nat) (m d : Int), 1 ≤ m → m + f = 13 → 0 ≤ d → d < monthsD y f m → daysP y m 1 + d = sec / 86400 →
    Ev (fun k => spec_ShowDate.l1 k sec (sec / 86400) y m) (strOfNums (weekL (sec / 86400 % 7) ++ [44, 32] ++ twoL ((mdL y f m d).2 + 1) ++ [32] ++ monL (mdL y f m d).1 ++ [32] ++ decP y ++ [32] ++ twoL (sec / 3600 % 24) ++ [58] ++ twoL (sec / 60 % 60) ++ [58] ++ twoL (sec % 60) ++ [32, 71, 77, 84]))
  | 0, m, d, h1, hf, h0, hd, he => by simp [monthsD] at hd; omega
  | f + 1, m, d, h1, hf, h0, hd, he => by
    have hb := monthD_bd y m
    rw [monthsD] at hd
    rw [mdL]
    have e3 : d = sec / 86400 - daysP y m 1 := by omega
    by_cases h12 : m < 12
    · have hn : daysP y (m + 1) 1 = daysP y m 1 + monthD y m := by
        rw [daysP_month hy hy2 (by omega) (by omega), daysP_month hy hy2 h1 (by omega), show (m + 1 - 1).toNat = (m - 1).toNat + 1 by omega, monthsD_succ, show 1 + (((m - 1).toNat : Nat) : Int) = m by omega]
        omega
      refine Ev.step (fun k => by simp only [spec_ShowDate.l1]; rw [if_pos h12, wrap_id (x := m + 1) (by omega) (by omega)]) (ev_bind (spec_DaysOf_ev y (m + 1) 1) ?_)
      by_cases h : monthD y m ≤ d
      · rw [if_pos h]
        exact ev_if_pos (by omega) (spec_ShowDate_l1 sec y hs0 hs1 hy hy2 f (m + 1) (d - monthD y m) (by omega) (by omega) (by omega) (by omega) (by omega))
      · rw [if_neg h]
        refine ev_if_neg (by omega) ?_
        have := spec_ShowDate_j3 sec y m hs0 hs1 hy hy2 h1 (by omega) (by omega) (by omega)
        rw [← e3] at this
        exact this
    · refine Ev.step (f := fun k => spec_ShowDate.j3 k sec (sec / 86400) y m) (fun k => by simp only [spec_ShowDate.l1]; rw [if_neg h12]) ?_
      have hf0 : f = 0 := by omega
      subst hf0
      simp only [monthsD] at hd
      rw [if_neg (by omega)]
      have := spec_ShowDate_j3 sec y m hs0 hs1 hy hy2 h1 (by omega) (by omega) (by omega)
      rw [← e3] at this
      exact this
theorem spec_ShowDate_l0 (sec : Int) (hs0 : 0 ≤ sec) (hs1 : sec ≤ 2000000000) : ∀ (f : Nat) (y d : Int), 1970 ≤ y → y + f = 2037 → 0 ≤ d → d < 365 * f → daysP y 1 1 + d = sec / 86400 →
    Ev (fun k => spec_ShowDate.l0 k sec (sec / 86400) y 1) (strOfNums (weekL (sec / 86400 % 7) ++ [44, 32] ++ twoL ((mdL (ydL f y d).1 12 1 (ydL f y d).2).2 + 1) ++ [32] ++ monL (mdL (ydL f y d).1 12 1 (ydL f y d).2).1 ++ [32] ++ decP (ydL f y d).1 ++ [32] ++ twoL (sec / 3600 % 24) ++ [58] ++ twoL (sec / 60 % 60) ++ [58] ++ twoL (sec % 60) ++ [32, 71, 77, 84]))
  | 0, y, d, h1, hf, h0, hd, he => by omega
  | f + 1, y, d, h1, hf, h0, hd, he => by
    have hb := yearD_bd y
    rw [ydL]
    have hn : daysP (y + 1) 1 1 = daysP y 1 1 + yearD y := by
      rw [daysP_year (by omega) (by omega), daysP_year h1 (by omega), show (y + 1 - 1970).toNat = (y - 1970).toNat + 1 by omega, yearsD_succ, show 1970 + (((y - 1970).toNat : Nat) : Int) = y by omega]
    refine Ev.step (fun k => by simp only [spec_ShowDate.l0]; rw [if_pos (by omega), wrap_id (x := y + 1) (by omega) (by omega)]) (ev_bind (spec_DaysOf_ev (y + 1) 1 1) ?_)
    by_cases h : yearD y ≤ d
    · rw [if_pos h]
      exact ev_if_pos (by omega) (spec_ShowDate_l0 sec hs0 hs1 f (y + 1) (d - yearD y) (by omega) (by omega) (by omega) (by omega) (by omega))
    · rw [if_neg h]
      have hw := yearW_eq y
      unfold yearW at hw
      refine ev_if_neg (by omega) (Ev.step (f := fun k => spec_ShowDate.l1 k sec (sec / 86400) y 1) (fun k => by simp only [spec_ShowDate.j1]) ?_)
      exact spec_ShowDate_l1 sec y hs0 hs1 h1 (by omega) 12 1 d (by omega) (by omega) h0 (by omega) he
theorem spec_ShowDate_ev (sec : Int) (h0 : -9223372036854775808 ≤ sec) (h1 : sec ≤ 9223372036854775807) : Ev (fun k => spec_ShowDate.f k sec) (dateB sec) := by
  refine Ev.congr (fun k => by unfold spec_ShowDate.f; rw [spec_l1In_eq, Option.bind_some]) ?_
  unfold dateB
  by_cases h : 0 ≤ sec ∧ sec ≤ 2000000000
  · rw [if_pos h]
    refine ev_if_pos (by simpa using h) ?_
    have w1 : wrap64 (Int.tdiv sec 86400) = sec / 86400 := by rw [Int.tdiv_eq_ediv_of_nonneg h.1, wrap_id (by omega) (by omega)]
    refine Ev.congr (fun k => by rw [w1]) ?_
    have hy0 : daysP 1970 1 1 = 0 := by rw [daysP_year (by omega) (by omega)]; rfl
    refine ev_eq (spec_ShowDate_l0 sec h.1 h.2 67 1970 (sec / 86400) (by omega) (by omega) (by omega) (by omega) (by omega)) ?_
    unfold dateL ymd
    rw [show (70 : Nat) = 67 + 3 from rfl, ydL_more 67 3 1970 (sec / 86400) (by omega) (by omega)]
  · rw [if_neg h]
    exact ev_if_neg (by simpa using h) (Ev.now _)

end Go.Proofs.YtefnmlglpldgfaaDoor.Pure

namespace Go.Proofs.YtefnmlglpldgfaaDoor.Pure
set_option linter.unusedVariables false
set_option linter.unusedSimpArgs false
open Go.RowKit Go.Proofs.YtefnmlglpldgfaaDoor.QL Go.Proofs.YtefnmlglpldgfaaDoorW.PrintWords Go.Proofs.YtefnmlglpldgfaaDoorW.PrintLast Go.Proofs.YtefnmlglpldgfaaDoorW.PrintMore Go.Proofs.YtefnmlglpldgfaaDoor.Aux Go.Proofs.YtefnmlglpldgfaaDoor.Dom Go.Proofs.YtefnmlglpldgfaaDoor.Ext
theorem impl_in_eq (a b c : Int) : impl_in.f a b c = some (decide (b ≤ a ∧ a ≤ c)) := by
  unfold impl_in.f
  by_cases h : a ≥ b
  · rw [if_pos h]; simp [show b ≤ a from h]
  · rw [if_neg h]; simp [show ¬ b ≤ a from h]

end Go.Proofs.YtefnmlglpldgfaaDoor.Pure

namespace Go.Proofs.YtefnmlglpldgfaaDoor.Pure
set_option linter.unusedVariables false
set_option linter.unusedSimpArgs false
open Go.RowKit Go.Proofs.YtefnmlglpldgfaaDoor.QL Go.Proofs.YtefnmlglpldgfaaDoorW.PrintWords Go.Proofs.YtefnmlglpldgfaaDoorW.PrintLast Go.Proofs.YtefnmlglpldgfaaDoorW.PrintMore Go.Proofs.YtefnmlglpldgfaaDoor.Aux Go.Proofs.YtefnmlglpldgfaaDoor.Dom Go.Proofs.YtefnmlglpldgfaaDoor.Ext
theorem impl_IsLeap_eq {y : Int} (h : 0 ≤ y) : impl_IsLeap.f y = some (leapB y) := by
  unfold impl_IsLeap.f leapB
  rw [Int.tmod_eq_emod_of_nonneg h, Int.tmod_eq_emod_of_nonneg h, Int.tmod_eq_emod_of_nonneg h]
  by_cases h4 : y % 4 = 0
  · rw [if_pos h4]
    by_cases h100 : y % 100 = 0
    · rw [if_pos h100]
      congr 1
      rw [Bool.eq_iff_iff]; simp; omega
    · rw [if_neg h100, decide_eq_true (Or.inl ⟨h4, h100⟩)]
  · rw [if_neg h4]
    congr 1
    rw [Bool.eq_iff_iff]; simp; omega

end Go.Proofs.YtefnmlglpldgfaaDoor.Pure

namespace Go.Proofs.YtefnmlglpldgfaaDoor.Pure
set_option linter.unusedVariables false
set_option linter.unusedSimpArgs false
open Go.RowKit Go.Proofs.YtefnmlglpldgfaaDoor.QL Go.Proofs.YtefnmlglpldgfaaDoorW.PrintWords Go.Proofs.YtefnmlglpldgfaaDoorW.PrintLast Go.Proofs.YtefnmlglpldgfaaDoorW.PrintMore Go.Proofs.YtefnmlglpldgfaaDoor.Aux Go.Proofs.YtefnmlglpldgfaaDoor.Dom Go.Proofs.YtefnmlglpldgfaaDoor.Ext
theorem impl_monthDays_eq {y m : Int} (hy : 0 ≤ y) (h1 : 1 ≤ m) (h2 : m ≤ 12) : impl_monthDays.f y m = some (monthD y m) := by
  unfold impl_monthDays.f
  rw [impl_IsLeap_eq hy]
  have hm : m = 1 ∨ m = 2 ∨ m = 3 ∨ m = 4 ∨ m = 5 ∨ m = 6 ∨ m = 7 ∨ m = 8 ∨ m = 9 ∨ m = 10 ∨ m = 11 ∨ m = 12 := by omega
  cases hl : leapB y with
  | true => rcases hm with rfl | rfl | rfl | rfl | rfl | rfl | rfl | rfl | rfl | rfl | rfl | rfl <;> simp [monthD, hl, rd, wrap64]
  | false => rcases hm with rfl | rfl | rfl | rfl | rfl | rfl | rfl | rfl | rfl | rfl | rfl | rfl <;> simp [monthD, hl, rd, wrap64]
theorem impl_yearDays_eq {y : Int} (hy : 0 ≤ y) : impl_yearDays.f y = some (yearD y) := by
  unfold impl_yearDays.f yearD
  rw [impl_IsLeap_eq hy, Option.bind_some]
  cases leapB y <;> rfl
theorem impl_DaysOf_l1 (y m : Int) (hy : 0 ≤ y) (hm : m ≤ 13) : ∀ (d : Nat) (n i : Int), 1 ≤ i → m - i = d → 0 ≤ n → n + 31 * d ≤ 100000 → Ev (fun k => impl_DaysOf.l1 k y m n i) (n + monthsD y d i)
  | 0, n, i, h1, hd, n0, n1 => by
    refine ev_last fun k => ?_
    simp only [impl_DaysOf.l1]
    rw [if_neg (by omega)]
    simp [monthsD]
  | d + 1, n, i, h1, hd, n0, n1 => by
    have hb := monthD_bd y i
    refine Ev.step (f := fun k => impl_DaysOf.l1 k y m (n + monthD y i) (i + 1)) (fun k => ?_) (ev_eq (impl_DaysOf_l1 y m hy hm d _ (i + 1) (by omega) (by omega) (by omega) (by omega)) (by rw [monthsD]; omega))
    simp only [impl_DaysOf.l1]
    rw [if_pos (by omega), impl_monthDays_eq hy h1 (by omega), Option.bind_some, wrap_id (by omega) (by omega), wrap_id (by omega) (by omega)]
theorem impl_DaysOf_l0 (y m : Int) (hy : y ≤ 2037) (h1970 : 1970 ≤ y) (hm1 : 1 ≤ m) (hm : m ≤ 12) : ∀ (d : Nat) (n i : Int), 1970 ≤ i → y - i = d → 0 ≤ n → n + 366 * d ≤ 50000 → Ev (fun k => impl_DaysOf.l0 k y m n i) (n + yearsD d i + monthsD y (m - 1).toNat 1)
  | 0, n, i, h1, hd, n0, n1 => by
    refine Ev.step (f := fun k => impl_DaysOf.l1 k y m n 1) (fun k => ?_) (ev_eq (impl_DaysOf_l1 y m (by omega) (by omega) (m - 1).toNat n 1 (by omega) (by omega) n0 (by omega)) (by simp [yearsD]))
    simp only [impl_DaysOf.l0]
    rw [if_neg (by omega)]
  | d + 1, n, i, h1, hd, n0, n1 => by
    have hb := yearD_bd i
    refine Ev.step (f := fun k => impl_DaysOf.l0 k y m (n + yearD i) (i + 1)) (fun k => ?_) (ev_eq (impl_DaysOf_l0 y m hy h1970 hm1 hm d _ (i + 1) (by omega) (by omega) (by omega) (by omega)) (by rw [yearsD]; omega))
    simp only [impl_DaysOf.l0]
    rw [if_pos (by omega), impl_yearDays_eq (by omega), Option.bind_some, wrap_id (by omega) (by omega), wrap_id (by omega) (by omega)]
theorem impl_DaysOf_ev (y m d : Int) : Ev (fun k => impl_DaysOf.f k y m d) (daysP y m d) := by
  have hbad : ∀ k, impl_DaysOf.j0 (k + 1) y m d true = some (-1) := fun k => by simp only [impl_DaysOf.j0]; rw [if_pos trivial]
  refine Ev.congr (fun k => by unfold impl_DaysOf.f; rw [impl_in_eq, Option.bind_some]) ?_
  unfold daysP
  by_cases h1 : 1970 ≤ y ∧ y ≤ 2037
  · refine ev_if_pos (by simpa using h1) ?_
    refine Ev.congr (fun k => by rw [impl_in_eq, Option.bind_some]) ?_
    by_cases h2 : 1 ≤ m ∧ m ≤ 12
    · refine ev_if_pos (by simpa using h2) ?_
      refine Ev.congr (fun k => by rw [impl_monthDays_eq (by omega) h2.1 h2.2, Option.bind_some, impl_in_eq, Option.bind_some]) ?_
      have hb := monthD_bd y m
      by_cases h3 : 1 ≤ d ∧ d ≤ monthD y m
      · rw [decide_eq_true h3, if_pos ⟨h1, h2, h3⟩]
        refine Ev.step (f := fun k => impl_DaysOf.l0 k y m (d - 1) 1970) (fun k => ?_) (ev_eq (impl_DaysOf_l0 y m h1.2 h1.1 h2.1 h2.2 (y - 1970).toNat (d - 1) 1970 (by omega) (by omega) (by omega) (by omega)) (by omega))
        simp only [impl_DaysOf.j0]
        rw [if_neg (by decide), wrap_id (by omega) (by omega)]
      · rw [decide_eq_false h3, if_neg (fun h => h3 h.2.2)]
        exact ev_last hbad
    · rw [if_neg (fun h => h2 h.2.1)]
      exact ev_if_neg (by simpa using h2) (ev_last hbad)
  · rw [if_neg (fun h => h1 h.1)]
    exact ev_if_neg (by simpa using h1) (ev_last hbad)

end Go.Proofs.YtefnmlglpldgfaaDoor.Pure

namespace Go.Proofs.YtefnmlglpldgfaaDoor.Pure
set_option linter.unusedVariables false
set_option linter.unusedSimpArgs false
open Go.RowKit Go.Proofs.YtefnmlglpldgfaaDoor.QL Go.Proofs.YtefnmlglpldgfaaDoorW.PrintWords Go.Proofs.YtefnmlglpldgfaaDoorW.PrintLast Go.Proofs.YtefnmlglpldgfaaDoorW.PrintMore Go.Proofs.YtefnmlglpldgfaaDoor.Aux Go.Proofs.YtefnmlglpldgfaaDoor.Dom Go.Proofs.YtefnmlglpldgfaaDoor.Ext
theorem impl_two_eq {n : Int} (h0 : 0 ≤ n) (h1 : n ≤ 99) : impl_two.f n = some (strOfNums (twoL n)) := by
  unfold impl_two.f strconv_Itoa.f
  rw [wrap_id (by omega) (by omega), if_pos ⟨by omega, by omega⟩, Option.bind_some]
  have e : decB (100 + n) = strOfNums (49 :: twoL n) := by unfold decB; rw [decP_100 h0 h1]
  rw [e, if_pos (by rw [strOfNums_size]; simp [twoL])]
  congr 1
theorem impl_ShowDate_fin (k : Nat) (d rest y m wd : Int) (hy : 1970 ≤ y) (hy2 : y ≤ 2037) (hm : 1 ≤ m) (hm2 : m ≤ 12) (hd : 0 ≤ d) (hd2 : d < monthD y m) (hr0 : 0 ≤ rest) (hr1 : rest < 86400) :
    impl_ShowDate.l1 (k + 1) d rest (strOfNums (weekL wd)) y m = some (strOfNums (weekL wd ++ [44, 32] ++ twoL (d + 1) ++ [32] ++ monL m ++ [32] ++ decP y ++ [32] ++ twoL (rest / 3600) ++ [58] ++ twoL (rest / 60 % 60) ++ [58] ++ twoL (rest % 60) ++ [32, 71, 77, 84])) := by
  have hb := monthD_bd y m
  have w1 : wrap64 (d + 1) = d + 1 := wrap_id (by omega) (by omega)
  have w2 : wrap64 (m - 1) = m - 1 := wrap_id (by omega) (by omega)
  have w3 : wrap64 (Int.tdiv rest 3600) = rest / 3600 := by rw [Int.tdiv_eq_ediv_of_nonneg hr0, wrap_id (by omega) (by omega)]
  have w4 : Int.tmod (wrap64 (Int.tdiv rest 60)) 60 = rest / 60 % 60 := by rw [Int.tdiv_eq_ediv_of_nonneg hr0, wrap_id (by omega) (by omega), Int.tmod_eq_emod_of_nonneg (by omega)]
  have w5 : Int.tmod rest 60 = rest % 60 := Int.tmod_eq_emod_of_nonneg hr0
  have s1 : (strOfNums (weekL wd)).size = 3 := by rw [strOfNums_size, weekL_length]
  have s2 : ∀ n, (strOfNums (twoL n)).size = 2 := fun n => by rw [strOfNums_size]; rfl
  have s3 : (strOfNums (monL m)).size = 3 := by rw [strOfNums_size, monL_length]
  have s4 : (decB y).size = 4 := by unfold decB; rw [decP_year (by omega) (by omega), strOfNums_size]; rfl
  have z1 : (⟨#[44, 32]⟩ : ByteArray).size = 2 := rfl
  have z2 : (⟨#[32]⟩ : ByteArray).size = 1 := rfl
  have z3 : (⟨#[58]⟩ : ByteArray).size = 1 := rfl
  have i1 : strconv_Itoa.f y = some (decB y) := by unfold strconv_Itoa.f; rw [if_pos ⟨by omega, by omega⟩]
  simp only [impl_ShowDate.l1, impl_monthDays_eq (y := y) (m := m) (by omega) hm hm2, Option.bind_some]
  rw [if_neg (by omega), w1, w2, w3, w4, w5, impl_two_eq (n := d + 1) (by omega) (by omega), impl_two_eq (n := rest / 3600) (by omega) (by omega), impl_two_eq (n := rest / 60 % 60) (by omega) (by omega), impl_two_eq (n := rest % 60) (by omega) (by omega), i1]
  simp only [impl_months.f, Option.bind_some]
  rw [if_pos (c := 0 ≤ m - 1) (by omega), if_pos (c := m - 1 < _) (by simp; omega)]
  simp only [months_rd hm hm2, ByteArray.size_append, s1, s2, s3, s4, z1, z2, z3, Nat.reduceAdd, Nat.reduceLeDiff, if_true]
  congr 1
  simp only [strOfNums_append, decB]
  rfl
theorem impl_ShowDate_l1 (rest y wd : Int) (hy : 1970 ≤ y) (hy2 : y ≤ 2037) (hr0 : 0 ≤ rest) (hr1 : rest < 86400) : ∀ (f : Nat) (m d : Int), 1 ≤ m → m + f = 13 → 0 ≤ d → d < monthsD y f m →
    Ev (fun k => impl_ShowDate.l1 k d rest (strOfNums (weekL wd)) y m) (strOfNums (weekL wd ++ [44, 32] ++ twoL ((mdL y f m d).2 + 1) ++ [32] ++ monL (mdL y f m d).1 ++ [32] ++ decP y ++ [32] ++ twoL (rest / 3600) ++ [58] ++ twoL (rest / 60 % 60) ++ [58] ++ twoL (rest % 60) ++ [32, 71, 77, 84]))
  | 0, m, d, h1, hf, h0, hd => by simp [monthsD] at hd; omega
  | f + 1, m, d, h1, hf, h0, hd => by
    have hb := monthD_bd y m
    have hb2 := monthsD_bd y f (m + 1)
    rw [monthsD] at hd
    rw [mdL]
    by_cases h : monthD y m ≤ d
    · rw [if_pos h]
      refine Ev.step (f := fun k => impl_ShowDate.l1 k (d - monthD y m) rest (strOfNums (weekL wd)) y (m + 1)) (fun k => ?_) (impl_ShowDate_l1 rest y wd hy hy2 hr0 hr1 f (m + 1) (d - monthD y m) (by omega) (by omega) (by omega) (by omega))
      simp only [impl_ShowDate.l1, impl_monthDays_eq (y := y) (m := m) (by omega) h1 (by omega), Option.bind_some]
      rw [if_pos h, wrap_id (x := d - monthD y m) (by omega) (by omega), wrap_id (x := m + 1) (by omega) (by omega)]
    · rw [if_neg h]
      exact ev_last fun k => impl_ShowDate_fin k d rest y m wd hy hy2 h1 (by omega) h0 (by omega) hr0 hr1
theorem impl_ShowDate_l0 (rest wd : Int) (hr0 : 0 ≤ rest) (hr1 : rest < 86400) : ∀ (f : Nat) (y d : Int), 1970 ≤ y → y + f = 2038 → 0 ≤ d → d < 365 * f →
    Ev (fun k => impl_ShowDate.l0 k d rest (strOfNums (weekL wd)) y 1) (strOfNums (weekL wd ++ [44, 32] ++ twoL ((mdL (ydL f y d).1 12 1 (ydL f y d).2).2 + 1) ++ [32] ++ monL (mdL (ydL f y d).1 12 1 (ydL f y d).2).1 ++ [32] ++ decP (ydL f y d).1 ++ [32] ++ twoL (rest / 3600) ++ [58] ++ twoL (rest / 60 % 60) ++ [58] ++ twoL (rest % 60) ++ [32, 71, 77, 84]))
  | 0, y, d, h1, hf, h0, hd => by omega
  | f + 1, y, d, h1, hf, h0, hd => by
    have hb := yearD_bd y
    rw [ydL]
    by_cases h : yearD y ≤ d
    · rw [if_pos h]
      refine Ev.step (f := fun k => impl_ShowDate.l0 k (d - yearD y) rest (strOfNums (weekL wd)) (y + 1) 1) (fun k => ?_) (impl_ShowDate_l0 rest wd hr0 hr1 f (y + 1) (d - yearD y) (by omega) (by omega) (by omega) (by omega))
      simp only [impl_ShowDate.l0, impl_yearDays_eq (y := y) (by omega), Option.bind_some]
      rw [if_pos h, wrap_id (x := d - yearD y) (by omega) (by omega), wrap_id (x := y + 1) (by omega) (by omega)]
    · rw [if_neg h]
      have hw := yearW_eq y
      unfold yearW at hw
      refine Ev.step (f := fun k => impl_ShowDate.l1 k d rest (strOfNums (weekL wd)) y 1) (fun k => ?_) (impl_ShowDate_l1 rest y wd h1 (by omega) hr0 hr1 12 1 d (by omega) (by omega) h0 (by omega))
      simp only [impl_ShowDate.l0, impl_yearDays_eq (y := y) (by omega), Option.bind_some]
      rw [if_neg (by omega)]
theorem impl_ShowDate_ev (sec : Int) (h0 : -9223372036854775808 ≤ sec) (h1 : sec ≤ 9223372036854775807) : Ev (fun k => impl_ShowDate.f k sec) (dateB sec) := by
  refine Ev.congr (fun k => by unfold impl_ShowDate.f; rw [impl_in_eq, Option.bind_some]) ?_
  unfold dateB
  by_cases h : 0 ≤ sec ∧ sec ≤ 2000000000
  · rw [if_pos h]
    refine ev_if_pos (by simpa using h) ?_
    have w1 : wrap64 (Int.tdiv sec 86400) = sec / 86400 := by rw [Int.tdiv_eq_ediv_of_nonneg h.1, wrap_id (by omega) (by omega)]
    have w2 : Int.tmod (sec / 86400) 7 = sec / 86400 % 7 := Int.tmod_eq_emod_of_nonneg (by omega)
    have w3 : Int.tmod sec 86400 = sec % 86400 := Int.tmod_eq_emod_of_nonneg h.1
    refine Ev.congr (fun k => by rw [w1, w2, w3, Option.bind_some, if_pos (by omega), if_pos (by simp; omega), week_rd (by omega) (by omega)]) ?_
    refine ev_eq (impl_ShowDate_l0 (sec % 86400) (sec / 86400 % 7) (by omega) (by omega) 68 1970 (sec / 86400) (by omega) (by omega) (by omega) (by omega)) ?_
    unfold dateL ymd
    rw [show (70 : Nat) = 68 + 2 from rfl, ydL_more 68 2 1970 (sec / 86400) (by omega) (by omega), show sec % 86400 / 3600 = sec / 3600 % 24 by omega, show sec % 86400 / 60 % 60 = sec / 60 % 60 by omega, show sec % 86400 % 60 = sec % 60 by omega]
  · rw [if_neg h]
    exact ev_if_neg (by simpa using h) (Ev.now _)

end Go.Proofs.YtefnmlglpldgfaaDoor.Pure

namespace Go.Proofs.YtefnmlglpldgfaaDoor.Pure
set_option linter.unusedVariables false
set_option linter.unusedSimpArgs false
open Go.RowKit Go.Proofs.YtefnmlglpldgfaaDoor.QL Go.Proofs.YtefnmlglpldgfaaDoorW.PrintWords Go.Proofs.YtefnmlglpldgfaaDoorW.PrintLast Go.Proofs.YtefnmlglpldgfaaDoorW.PrintMore Go.Proofs.YtefnmlglpldgfaaDoor.Aux Go.Proofs.YtefnmlglpldgfaaDoor.Dom Go.Proofs.YtefnmlglpldgfaaDoor.Ext

theorem FnExactShowDate : laws_FnExactShowDate.Pure := by
  intro n hn
  have hb := wf_i64 hn
  refine Ev.rounds (Ev.congr (fun k => by unfold laws_FnExactShowDate.f; rfl) ?_)
  exact ev_bind (spec_ShowDate_ev n hb.1 hb.2) (ev_bind (impl_ShowDate_ev n hb.1 hb.2) (ev_if_pos rfl (Ev.now _)))

end Go.Proofs.YtefnmlglpldgfaaDoor.Pure
