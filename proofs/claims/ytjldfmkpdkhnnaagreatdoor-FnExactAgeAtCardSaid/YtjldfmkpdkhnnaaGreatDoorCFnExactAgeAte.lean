/- The program's AgeAt returns what the reference's returns, for all answers and numbers (answers that hold more than 2^20 fields and bytes are let by). -/
import Derived.Deep.Slices
import Derived.Deep.Fields
import Derived.ChangeSame
import Derived.Lib.SmallJoins
import Derived.HandedShaped
import Derived.Handed
import Derived.SizedLaws
import Derived.ChangeSlices
import Derived.Test.YtjldfmkpdkhnnaaGreatDoorCFnExactAgeAtd
namespace Go.Proofs.YtjldfmkpdkhnnaaGreatDoor.Pure
set_option linter.unusedVariables false
set_option linter.unusedSimpArgs false
open Go.RowKit Go.Proofs.YtjldfmkpdkhnnaaGreatDoor.QL Go.Proofs.YtjldfmkpdkhnnaaGreatDoorW.PrintWords Go.Proofs.YtjldfmkpdkhnnaaGreatDoorW.PrintLast Go.Proofs.YtjldfmkpdkhnnaaGreatDoorW.PrintMore Go.Proofs.YtjldfmkpdkhnnaaGreatDoor.Aux Go.Proofs.YtjldfmkpdkhnnaaGreatDoor.Dom Go.Proofs.YtjldfmkpdkhnnaaGreatDoor.Ext
theorem spec_l4Two_eq {n : Int} (h0 : 0 ≤ n) (h1 : n ≤ 99) : spec_l4Two.f n = some (strOfNums (twoL n)) := by
  unfold spec_l4Two.f twoL
  rw [Int.tdiv_eq_ediv_of_nonneg h0, wrap_id (x := n / 10) (by omega) (by omega), Int.tmod_eq_emod_of_nonneg (by omega), Int.tmod_eq_emod_of_nonneg h0, wrap_id (by omega) (by omega), wrap_id (by omega) (by omega), Int.emod_eq_of_lt (a := 48 + n / 10 % 10) (by omega) (by omega), Int.emod_eq_of_lt (a := 48 + n % 10) (by omega) (by omega)]
theorem daysP_year {y : Int} (h : 1970 ≤ y) (h2 : y ≤ 2037) : daysP y 1 1 = yearsD (y - 1970).toNat 1970 := by
  have hb := monthD_bd y 1
  unfold daysP
  rw [if_pos ⟨⟨h, h2⟩, by omega, by omega⟩]
  simp [monthsD]
theorem daysP_month {y m : Int} (h : 1970 ≤ y) (h2 : y ≤ 2037) (h3 : 1 ≤ m) (h4 : m ≤ 12) : daysP y m 1 = yearsD (y - 1970).toNat 1970 + monthsD y (m - 1).toNat 1 := by
  have hb := monthD_bd y m
  unfold daysP
  rw [if_pos ⟨⟨h, h2⟩, ⟨h3, h4⟩, by omega⟩]
  omega
theorem spec_ShowDate_j3 (sec y m : Int) (hs0 : 0 ≤ sec) (hs1 : sec ≤ 2000000000) (hy : 1970 ≤ y) (hy2 : y ≤ 2037) (hm : 1 ≤ m) (hm2 : m ≤ 12) (hd : daysP y m 1 ≤ sec / 86400) (hd2 : sec / 86400 < daysP y m 1 + monthD y m) :
    Ev (fun k => spec_ShowDate.j3 k sec (sec / 86400) y m) (strOfNums (weekL (sec / 86400 % 7) ++ [44, 32] ++ twoL (sec / 86400 - daysP y m 1 + 1) ++ [32] ++ monL m ++ [32] ++ decP y ++ [32] ++ twoL (sec / 3600 % 24) ++ [58] ++ twoL (sec / 60 % 60) ++ [58] ++ twoL (sec % 60) ++ [32, 71, 77, 84])) := by
  have hb := monthD_bd y m
  have hdp := daysP_month hy hy2 hm hm2
  have hyb := yearsD_bd (y - 1970).toNat 1970
  have hmb := monthsD_bd y (m - 1).toNat 1
  have w2 : wrap64 (m - 1) = m - 1 := wrap_id (by omega) (by omega)
  have w1 : wrap64 (wrap64 (sec / 86400 - daysP y m 1) + 1) = sec / 86400 - daysP y m 1 + 1 := by rw [wrap_id (x := sec / 86400 - daysP y m 1) (by omega) (by omega), wrap_id (by omega) (by omega)]
  have w3 : Int.tmod (wrap64 (Int.tdiv sec 3600)) 24 = sec / 3600 % 24 := by rw [Int.tdiv_eq_ediv_of_nonneg hs0, wrap_id (by omega) (by omega), Int.tmod_eq_emod_of_nonneg (by omega)]
  have w4 : Int.tmod (wrap64 (Int.tdiv sec 60)) 60 = sec / 60 % 60 := by rw [Int.tdiv_eq_ediv_of_nonneg hs0, wrap_id (by omega) (by omega), Int.tmod_eq_emod_of_nonneg (by omega)]
  have w5 : Int.tmod sec 60 = sec % 60 := Int.tmod_eq_emod_of_nonneg hs0
  have w6 : Int.tmod (sec / 86400) 7 = sec / 86400 % 7 := Int.tmod_eq_emod_of_nonneg (by omega)
  have s1 : (strOfNums (weekL (sec / 86400 % 7))).size = 3 := by rw [strOfNums_size, weekL_length]
  have s2 : ∀ n, (strOfNums (twoL n)).size = 2 := fun n => by rw [strOfNums_size]; rfl
  have s3 : (strOfNums (monL m)).size = 3 := by rw [strOfNums_size, monL_length]
  have s4 : (decB y).size = 4 := by unfold decB; rw [decP_year (by omega) (by omega), strOfNums_size]; rfl
  have z1 : (⟨#[44, 32]⟩ : ByteArray).size = 2 := rfl
  have z2 : (⟨#[32]⟩ : ByteArray).size = 1 := rfl
  have z3 : (⟨#[58]⟩ : ByteArray).size = 1 := rfl
  refine Ev.step (fun k => by simp only [spec_ShowDate.j3]; rfl) (ev_bind (spec_DaysOf_ev y m 1) ?_)
  refine Ev.congr (fun k => by
    simp only [Option.bind_some]
    rw [w6, if_pos (c := 0 ≤ sec / 86400 % 7) (by omega), if_pos (c := sec / 86400 % 7 < _) (by simp; omega), w2, if_pos (c := 0 ≤ m - 1) (by omega), if_pos (c := m - 1 < _) (by simp; omega), week_rd (by omega) (by omega), months_rd hm hm2, if_pos (by rw [s1]; decide), w1, spec_l4Two_eq (n := sec / 86400 - daysP y m 1 + 1) (by omega) (by omega), Option.bind_some]) ?_
  refine Ev.congr (fun k => by
    simp only [ByteArray.size_append, s1, s2, s3, z1, z2, Nat.reduceAdd, Nat.reduceLeDiff, if_true]
    rfl) ?_
  refine ev_bind (spec_Dec_ev y (by omega) (by omega)) ?_
  refine ev_some fun k => ?_
  rw [w3, w4, w5, spec_l4Two_eq (n := sec / 3600 % 24) (by omega) (by omega), spec_l4Two_eq (n := sec / 60 % 60) (by omega) (by omega), spec_l4Two_eq (n := sec % 60) (by omega) (by omega)]
  simp only [Option.bind_some, ByteArray.size_append, s1, s2, s3, s4, z1, z2, z3, Nat.reduceAdd, Nat.reduceLeDiff, if_true]
  congr 1
  simp only [strOfNums_append, decB]
  rfl
theorem spec_ShowDate_l1 (sec y : Int) (hs0 : 0 ≤ sec) (hs1 : sec ≤ 2000000000) (hy : 1970 ≤ y) (hy2 : y ≤ 2037) : ∀ (f : Nat) (m d : Int), 1 ≤ m → m + f = 13 → 0 ≤ d → d < monthsD y f m → daysP y m 1 + d = sec / 86400 →
    Ev (fun k => spec_ShowDate.l1 k sec (sec / 86400) y m) (strOfNums (weekL (sec / 86400 % 7) ++ [44, 32] ++ twoL ((mdL y f m d).2 + 1) ++ [32] ++ monL (mdL y f m d).1 ++ [32] ++ decP y ++ [32] ++ twoL (sec / 3600 % 24) ++ [58] ++ twoL (sec / 60 % 60) ++ [58] ++ twoL (sec % 60) ++ [32, 71, 77, 84]))
  | 0, m, d, h1, hf, h0, hd, he => by simp [monthsD] at hd; omega
  | f + 1, m, d, h1, hf, h0, hd, he => by
    have hb := monthD_bd y m
    rw [monthsD] at hd
    rw [mdL]
    have e3 : d = sec / 86400 - daysP y m 1 := by omega
    by_cases h12 : m < 12
    · have hn : daysP y (m + 1) 1 = daysP y m 1 + monthD y m := by
        rw [daysP_month hy hy2 (by omega) (by omega), daysP_month hy hy2 h1 (by omega), show (m + 1 - 1).toNat = (m - 1).toNat + 1 by omega, monthsD_succ, show 1 + (((m - 1).toNat : Nat) : Int) = m by omega]
        omega
      refine Ev.step (fun k => by simp only [spec_ShowDate.l1]; rw [if_pos h12, wrap_id (x := m + 1) (by omega) (by omega)]) (ev_bind (spec_DaysOf_ev y (m + 1) 1) ?_)
      by_cases h : monthD y m ≤ d
      · rw [if_pos h]
        exact ev_if_pos (by omega) (spec_ShowDate_l1 sec y hs0 hs1 hy hy2 f (m + 1) (d - monthD y m) (by omega) (by omega) (by omega) (by omega) (by omega))
      · rw [if_neg h]
        refine ev_if_neg (by omega) ?_
        have := spec_ShowDate_j3 sec y m hs0 hs1 hy hy2 h1 (by omega) (by omega) (by omega)
        rw [← e3] at this
        exact this
    · refine Ev.step (f := fun k => spec_ShowDate.j3 k sec (sec / 86400) y m) (fun k => by simp only [spec_ShowDate.l1]; rw [if_neg h12]) ?_
      have hf0 : f = 0 := by omega
      subst hf0
      simp only [monthsD] at hd
      rw [if_neg (by omega)]
      have := spec_ShowDate_j3 sec y m hs0 hs1 hy hy2 h1 (by omega) (by omega) (by omega)
      rw [← e3] at this
      exact this
theorem spec_ShowDate_l0 (sec : Int) (hs0 : 0 ≤ sec) (hs1 : sec ≤ 2000000000) : ∀ (f : Nat) (y d : Int), 1970 ≤ y → y + f = 2037 → 0 ≤ d → d < 365 * f → daysP y 1 1 + d = sec / 86400 →
    Ev (fun k => spec_ShowDate.l0 k sec (sec / 86400) y 1) (strOfNums (weekL (sec / 86400 % 7) ++ [44, 32] ++ twoL ((mdL (ydL f y d).1 12 1 (ydL f y d).2).2 + 1) ++ [32] ++ monL (mdL (ydL f y d).1 12 1 (ydL f y d).2).1 ++ [32] ++ decP (ydL f y d).1 ++ [32] ++ twoL (sec / 3600 % 24) ++ [58] ++ twoL (sec / 60 % 60) ++ [58] ++ twoL (sec % 60) ++ [32, 71, 77, 84]))
  | 0, y, d, h1, hf, h0, hd, he => by omega
  | f + 1, y, d, h1, hf, h0, hd, he => by
    have hb := yearD_bd y
    rw [ydL]
    have hn : daysP (y + 1) 1 1 = daysP y 1 1 + yearD y := by
      rw [daysP_year (by omega) (by omega), daysP_year h1 (by omega), show (y + 1 - 1970).toNat = (y - 1970).toNat + 1 by omega, yearsD_succ, show 1970 + (((y - 1970).toNat : Nat) : Int) = y by omega]
    refine Ev.step (fun k => by simp only [spec_ShowDate.l0]; rw [if_pos (by omega), wrap_id (x := y + 1) (by omega) (by omega)]) (ev_bind (spec_DaysOf_ev (y + 1) 1 1) ?_)
    by_cases h : yearD y ≤ d
    · rw [if_pos h]
      exact ev_if_pos (by omega) (spec_ShowDate_l0 sec hs0 hs1 f (y + 1) (d - yearD y) (by omega) (by omega) (by omega) (by omega) (by omega))
    · rw [if_neg h]
      have hw := yearW_eq y
      unfold yearW at hw
      refine ev_if_neg (by omega) (Ev.step (f := fun k => spec_ShowDate.l1 k sec (sec / 86400) y 1) (fun k => by simp only [spec_ShowDate.j1]) ?_)
      exact spec_ShowDate_l1 sec y hs0 hs1 h1 (by omega) 12 1 d (by omega) (by omega) h0 (by omega) he
theorem spec_ShowDate_ev (sec : Int) (h0 : -9223372036854775808 ≤ sec) (h1 : sec ≤ 9223372036854775807) : Ev (fun k => spec_ShowDate.f k sec) (dateB sec) := by
  refine Ev.congr (fun k => by unfold spec_ShowDate.f; rw [spec_l1In_eq, Option.bind_some]) ?_
  unfold dateB
  by_cases h : 0 ≤ sec ∧ sec ≤ 2000000000
  · rw [if_pos h]
    refine ev_if_pos (by simpa using h) ?_
    have w1 : wrap64 (Int.tdiv sec 86400) = sec / 86400 := by rw [Int.tdiv_eq_ediv_of_nonneg h.1, wrap_id (by omega) (by omega)]
    refine Ev.congr (fun k => by rw [w1]) ?_
    have hy0 : daysP 1970 1 1 = 0 := by rw [daysP_year (by omega) (by omega)]; rfl
    refine ev_eq (spec_ShowDate_l0 sec h.1 h.2 67 1970 (sec / 86400) (by omega) (by omega) (by omega) (by omega) (by omega)) ?_
    unfold dateL ymd
    rw [show (70 : Nat) = 67 + 3 from rfl, ydL_more 67 3 1970 (sec / 86400) (by omega) (by omega)]
  · rw [if_neg h]
    exact ev_if_neg (by simpa using h) (Ev.now _)

end Go.Proofs.YtjldfmkpdkhnnaaGreatDoor.Pure

namespace Go.Proofs.YtjldfmkpdkhnnaaGreatDoor.Pure
set_option linter.unusedVariables false
set_option linter.unusedSimpArgs false
open Go.RowKit Go.Proofs.YtjldfmkpdkhnnaaGreatDoor.QL Go.Proofs.YtjldfmkpdkhnnaaGreatDoorW.PrintWords Go.Proofs.YtjldfmkpdkhnnaaGreatDoorW.PrintLast Go.Proofs.YtjldfmkpdkhnnaaGreatDoorW.PrintMore Go.Proofs.YtjldfmkpdkhnnaaGreatDoor.Aux Go.Proofs.YtjldfmkpdkhnnaaGreatDoor.Dom Go.Proofs.YtjldfmkpdkhnnaaGreatDoor.Ext
theorem take_cons_drop (s : ByteArray) (i : Int) (n : Nat) (h0 : 0 ≤ i) (h1 : i < (s.size : Int)) : ((bytesOf s).drop i.toNat).take (n + 1) = bt s i :: ((bytesOf s).drop (i + 1).toNat).take n := by
  rw [drop_bt h0 h1, List.take_succ_cons]
theorem spec_l4Num_l0 (s : ByteArray) (a n : Int) (hs : s.size ≤ 8388608) (ha : 0 ≤ a) (hn : n ≤ 9) (hb : a + n ≤ s.size) : ∀ (d : Nat) (x i : Int) (j : Nat), a ≤ i → a + n - i = d → 0 ≤ x → x < 10 ^ j → (j : Int) = i - a →
    Ev (fun k => spec_l4Num.l0 k s a n x i) (if (((bytesOf s).drop i.toNat).take d).all digC = true then valL x (((bytesOf s).drop i.toNat).take d) else -1)
  | 0, x, i, j, h0, hd, x0, x1, hj => by
    refine ev_last fun k => ?_
    simp only [spec_l4Num.l0]
    rw [wrap_id (x := a + n) (by omega) (by omega), if_neg (by omega), List.take_zero]
    rfl
  | d + 1, x, i, j, h0, hd, x0, x1, hj => by
    have hlt : i < (s.size : Int) := by omega
    have hp : (10 : Int) ^ 9 = 1000000000 := by decide
    have hle : (10 : Int) ^ j ≤ 10 ^ 9 := pow_le 10 (by decide) (by omega)
    rw [take_cons_drop s i d (by omega) hlt, List.all_cons]
    by_cases h1 : digC (bt s i) = true
    · have h2 := digC_iff.1 h1
      refine Ev.step (f := fun k => spec_l4Num.l0 k s a n (x * 10 + (bt s i - 48)) (i + 1)) (fun k => ?_) (ev_eq (spec_l4Num_l0 s a n hs ha hn hb d _ (i + 1) (j + 1) (by omega) (by omega) (by omega) (by rw [Int.pow_succ]; omega) (by omega)) (by rw [h1, Bool.true_and, valL]))
      simp only [spec_l4Num.l0]
      rw [wrap_id (x := a + n) (by omega) (by omega), if_pos (by omega), if_pos (by omega), if_pos hlt, if_neg (by omega), if_neg (by omega), Int.emod_eq_of_lt (a := bt s i - 48) (by omega) (by omega), wrap_id (x := x * 10) (by omega) (by omega), wrap_id (x := x * 10 + (bt s i - 48)) (by omega) (by omega), wrap_id (x := i + 1) (by omega) (by omega)]
    · rw [Bool.eq_false_iff.2 h1, Bool.false_and, if_neg (by decide)]
      rw [digC_iff] at h1
      refine ev_last fun k => ?_
      simp only [spec_l4Num.l0]
      rw [wrap_id (x := a + n) (by omega) (by omega), if_pos (by omega), if_pos (by omega), if_pos hlt]
      by_cases h3 : bt s i < 48
      · rw [if_pos h3]
      · rw [if_neg h3, if_pos (by omega)]
theorem spec_l4Num_ev (s : ByteArray) (a n : Nat) (hs : s.size ≤ 8388608) (hn : n ≤ 9) (hb : a + n ≤ s.size) : Ev (fun k => spec_l4Num.f k s a n) (numP (sub (bytesOf s) a n)) := by
  have h := spec_l4Num_l0 s a n hs (by omega) (by omega) (by omega) n 0 a 0 (by omega) (by omega) (by omega) (by decide) (by omega)
  rw [Int.toNat_natCast] at h
  exact h
theorem spec_ReadDate_j1 (s : ByteArray) (hs : s.size = 29) (days h m x : Int) (hd : days = daysI (bytesOf s)) (hh : h = numP (sub (bytesOf s) 17 2)) (hm : m = numP (sub (bytesOf s) 20 2)) (hx : x = numP (sub (bytesOf s) 23 2)) (b : Bool) (hb : b = decide (days < 0 ∨ h < 0 ∨ m < 0 ∨ x < 0)) :
    Ev (fun k => spec_ReadDate.j1 k s days h m x b) (readDateP s) := by
  have hl := bytesOf_length s
  have b1 : -1 ≤ days ∧ days ≤ 30000 := by rw [hd]; exact daysP_bd _ _ _
  have e2 : (10 : Int) ^ 2 = 100 := by decide
  have b2 := numP_bd (sub (bytesOf s) 17 2) 2 (by unfold sub; rw [List.length_take]; omega)
  have b3 := numP_bd (sub (bytesOf s) 20 2) 2 (by unfold sub; rw [List.length_take]; omega)
  have b4 := numP_bd (sub (bytesOf s) 23 2) 2 (by unfold sub; rw [List.length_take]; omega)
  rw [← hh] at b2
  rw [← hm] at b3
  rw [← hx] at b4
  cases b with
  | true =>
    have hneg := of_decide_eq_true hb.symm
    rw [readDateP_none (fun sec _ e => by
      obtain ⟨q0, q1, q2, _⟩ := dateB_some hs e
      obtain ⟨f1, f2, f3, f4⟩ := date_facts q0 q1
      rw [← q2] at f1 f2 f3 f4
      rw [← hd] at f1
      rw [← hh] at f2
      rw [← hm] at f3
      rw [← hx] at f4
      omega)]
    exact ev_last fun k => by simp only [spec_ReadDate.j1]; rw [if_pos (by trivial)]
  | false =>
    have hnn := of_decide_eq_false hb.symm
    have hr : readL (bytesOf s) = days * 86400 + h * 3600 + m * 60 + x := by unfold readL; rw [← hd, ← hh, ← hm, ← hx]
    refine Ev.step (fun k => by simp only [spec_ReadDate.j1]; rw [if_neg (by decide), wrap_id (x := days * 86400) (by omega) (by omega), wrap_id (x := h * 3600) (by omega) (by omega), wrap_id (x := days * 86400 + h * 3600) (by omega) (by omega), wrap_id (x := m * 60) (by omega) (by omega), wrap_id (x := days * 86400 + h * 3600 + m * 60) (by omega) (by omega), wrap_id (x := days * 86400 + h * 3600 + m * 60 + x) (by omega) (by omega)]) (ev_bind (spec_ShowDate_ev (days * 86400 + h * 3600 + m * 60 + x) (by omega) (by omega)) ?_)
    rw [← hr]
    by_cases he : dateB (readL (bytesOf s)) = s
    · refine ev_if_pos (by rw [he]) (ev_eq (Ev.now _) ?_)
      rw [readDateP_some hs he]
    · refine ev_if_neg (by rw [toList_eq_iff]; exact he) (ev_eq (Ev.now _) ?_)
      unfold readDateP
      rw [if_neg (fun h => he h.2)]
theorem spec_ReadDate_l0 (s : ByteArray) (hs : s.size = 29) : ∀ (d : Nat) (mon m : Int), 1 ≤ m → m + d = 13 → monF (sub (bytesOf s) 8 3) d m mon = monI (sub (bytesOf s) 8 3) → Ev (fun k => spec_ReadDate.l0 k s mon m) (readDateP s)
  | 0, mon, m, h1, hd, he => by
    have hmon : mon = monI (sub (bytesOf s) 8 3) := he
    have w1 : Ev (fun k => spec_l4Num.f k s 12 4) (numP (sub (bytesOf s) 12 4)) := spec_l4Num_ev s 12 4 (by omega) (by omega) (by omega)
    have w2 : Ev (fun k => spec_l4Num.f k s 5 2) (numP (sub (bytesOf s) 5 2)) := spec_l4Num_ev s 5 2 (by omega) (by omega) (by omega)
    have w3 : Ev (fun k => spec_l4Num.f k s 17 2) (numP (sub (bytesOf s) 17 2)) := spec_l4Num_ev s 17 2 (by omega) (by omega) (by omega)
    have w4 : Ev (fun k => spec_l4Num.f k s 20 2) (numP (sub (bytesOf s) 20 2)) := spec_l4Num_ev s 20 2 (by omega) (by omega) (by omega)
    have w5 : Ev (fun k => spec_l4Num.f k s 23 2) (numP (sub (bytesOf s) 23 2)) := spec_l4Num_ev s 23 2 (by omega) (by omega) (by omega)
    refine Ev.step (fun k => by simp only [spec_ReadDate.l0]; rw [if_neg (by omega)]) (ev_bind w1 (ev_bind w2 (ev_bind (spec_DaysOf_ev _ mon _) (ev_bind w3 (ev_bind w4 (ev_bind w5 ?_))))))
    have hj := spec_ReadDate_j1 s hs (daysI (bytesOf s)) _ _ _ rfl rfl rfl rfl
    have ed : daysP (numP (sub (bytesOf s) 12 4)) mon (numP (sub (bytesOf s) 5 2)) = daysI (bytesOf s) := by rw [hmon]; rfl
    simp only [ed]
    by_cases c1 : daysI (bytesOf s) < 0
    · exact ev_if_pos c1 (hj true (decide_eq_true (.inl c1)).symm)
    · refine ev_if_neg c1 ?_
      by_cases c2 : numP (sub (bytesOf s) 17 2) < 0
      · exact ev_if_pos c2 (hj true (decide_eq_true (.inr (.inl c2))).symm)
      · refine ev_if_neg c2 ?_
        by_cases c3 : numP (sub (bytesOf s) 20 2) < 0
        · exact ev_if_pos c3 (hj true (decide_eq_true (.inr (.inr (.inl c3)))).symm)
        · refine ev_if_neg c3 (hj _ ?_)
          rw [decide_eq_decide]
          exact ⟨fun h => .inr (.inr (.inr h)), fun h => by omega⟩
  | d + 1, mon, m, h1, hd, he => by
    rw [monF] at he
    have hw : bytesOf (s.extract 8 11) = sub (bytesOf s) 8 3 := by
      rw [bytesOf_extract, sub, List.drop_take]
    have hmm : (s.extract 8 11 = strOfNums (monL m)) ↔ sub (bytesOf s) 8 3 = monL m := by
      rw [← hw]
      have hr := bytesOf_strOfNums (xs := monL m) (fun c hc => by have := monL_ge m c hc; omega)
      exact ⟨fun h => by rw [h, hr], fun h => bytesOf_inj (by rw [h, hr])⟩
    by_cases h : sub (bytesOf s) 8 3 = monL m
    · rw [if_pos h] at he
      refine Ev.step (f := fun k => spec_ReadDate.l0 k s m (m + 1)) (fun k => ?_) (spec_ReadDate_l0 s hs d m (m + 1) (by omega) (by omega) he)
      simp only [spec_ReadDate.l0]
      rw [if_pos (by omega), if_pos (by decide), if_pos (by omega), Option.bind_some, wrap_id (x := m - 1) (by omega) (by omega), if_pos (by omega), if_pos (by simp; omega), months_rd h1 (by omega), if_pos (by rw [hmm.2 h]), wrap_id (x := m + 1) (by omega) (by omega)]
    · rw [if_neg h] at he
      refine Ev.step (f := fun k => spec_ReadDate.l0 k s mon (m + 1)) (fun k => ?_) (spec_ReadDate_l0 s hs d mon (m + 1) (by omega) (by omega) he)
      simp only [spec_ReadDate.l0]
      rw [if_pos (by omega), if_pos (by decide), if_pos (by omega), Option.bind_some, wrap_id (x := m - 1) (by omega) (by omega), if_pos (by omega), if_pos (by simp; omega), months_rd h1 (by omega), if_neg (by rw [toList_eq_iff]; exact fun hh => h (hmm.1 hh)), wrap_id (x := m + 1) (by omega) (by omega)]
theorem spec_ReadDate_ev (s : ByteArray) (hs : s.size ≤ 8388608) : Ev (fun k => spec_ReadDate.f k s) (readDateP s) := by
  by_cases h : (s.size : Int) = 29
  · exact Ev.congr (fun k => by unfold spec_ReadDate.f; rw [if_pos h]) (spec_ReadDate_l0 s (by omega) 12 0 1 (by omega) (by omega) rfl)
  · rw [readDateP_none (fun sec e1 e2 => h (by omega))]
    exact Ev.congr (fun k => by unfold spec_ReadDate.f; rw [if_neg h]) (Ev.now _)

end Go.Proofs.YtjldfmkpdkhnnaaGreatDoor.Pure

namespace Go.Proofs.YtjldfmkpdkhnnaaGreatDoor.Pure
set_option linter.unusedVariables false
set_option linter.unusedSimpArgs false
open Go.RowKit Go.Proofs.YtjldfmkpdkhnnaaGreatDoor.QL Go.Proofs.YtjldfmkpdkhnnaaGreatDoorW.PrintWords Go.Proofs.YtjldfmkpdkhnnaaGreatDoorW.PrintLast Go.Proofs.YtjldfmkpdkhnnaaGreatDoorW.PrintMore Go.Proofs.YtjldfmkpdkhnnaaGreatDoor.Aux Go.Proofs.YtjldfmkpdkhnnaaGreatDoor.Dom Go.Proofs.YtjldfmkpdkhnnaaGreatDoor.Ext
theorem spec_DateOf_ev (l : List S99) (nm : ByteArray) (hl : l.length ≤ 1048576) (hz : ¬ szF 1048576 (l.map fun x => (x.f0, x.f1)) < 0) : Ev (fun k => spec_DateOf.f k l nm) (dateOfP (l.map fun x => (x.f0, x.f1)) nm) := by
  have q1 := szF_sum nm (by omega) hz
  have j1 := joinG_size nm _ (by omega) hz
  have rdt := spec_ReadDate_ev (joinG nm (l.map fun x => (x.f0, x.f1))) (by omega)
  refine Ev.congr (fun k => by unfold spec_DateOf.f; rfl) (ev_bind (spec_FieldGet_ev l nm hl (by omega)) ?_)
  unfold dateOfP
  exact ev_ite (fun h1 => ev_bind rdt (Ev.now _)) (fun h1 => Ev.now _)

end Go.Proofs.YtjldfmkpdkhnnaaGreatDoor.Pure

namespace Go.Proofs.YtjldfmkpdkhnnaaGreatDoor.Pure
set_option linter.unusedVariables false
set_option linter.unusedSimpArgs false
open Go.RowKit Go.Proofs.YtjldfmkpdkhnnaaGreatDoor.QL Go.Proofs.YtjldfmkpdkhnnaaGreatDoorW.PrintWords Go.Proofs.YtjldfmkpdkhnnaaGreatDoorW.PrintLast Go.Proofs.YtjldfmkpdkhnnaaGreatDoorW.PrintMore Go.Proofs.YtjldfmkpdkhnnaaGreatDoor.Aux Go.Proofs.YtjldfmkpdkhnnaaGreatDoor.Dom Go.Proofs.YtjldfmkpdkhnnaaGreatDoor.Ext
theorem spec_Seconds_l0 (s : ByteArray) (hs : s.size ≤ 8388608) : ∀ (d : Nat) (n i : Int), 0 ≤ i → (s.size : Int) - i = d → 0 ≤ n → n ≤ 2147483648 →
    Ev (fun k => spec_Seconds.l0 k s n i) (if ((bytesOf s).drop i.toNat).all digC = true then (satV n ((bytesOf s).drop i.toNat), decide (0 < s.size)) else (0, false))
  | 0, n, i, h0, hd, hn, hm => by
    refine ev_last fun k => ?_
    simp only [spec_Seconds.l0]
    rw [if_neg (by omega), drop_end (by omega), if_pos (show ([] : List Int).all digC = true from rfl), satV]
    congr 2
    rw [decide_eq_decide]
    omega
  | d + 1, n, i, h0, hd, hn, hm => by
    have hlt : i < (s.size : Int) := by omega
    rw [drop_bt h0 hlt, List.all_cons]
    by_cases h1 : bt s i < 48
    · refine ev_last fun k => ?_
      simp only [spec_Seconds.l0]
      have e : digC (bt s i) = false := by rw [Bool.eq_false_iff, Ne, digC_iff]; omega
      rw [if_pos hlt, if_pos h0, if_pos h1, e]
      rfl
    · by_cases h2 : bt s i > 57
      · refine ev_last fun k => ?_
        simp only [spec_Seconds.l0]
        have e : digC (bt s i) = false := by rw [Bool.eq_false_iff, Ne, digC_iff]; omega
        rw [if_pos hlt, if_pos h0, if_neg h1, if_pos h2, e]
        rfl
      · have e : digC (bt s i) = true := digC_iff.2 (by omega)
        have w1 : wrap64 (n * 10) = n * 10 := wrap_id (by omega) (by omega)
        have w2 : (bt s i - 48) % 256 = bt s i - 48 := Int.emod_eq_of_lt (by omega) (by omega)
        have w3 : wrap64 (n * 10 + (bt s i - 48)) = n * 10 + (bt s i - 48) := wrap_id (by omega) (by omega)
        have hmn : 0 ≤ mn (n * 10 + (bt s i - 48)) 2147483648 ∧ mn (n * 10 + (bt s i - 48)) 2147483648 ≤ 2147483648 := by unfold mn; split <;> omega
        refine Ev.step (f := fun k => spec_Seconds.l0 k s (mn (n * 10 + (bt s i - 48)) 2147483648) (i + 1)) (fun k => ?_) (ev_eq (spec_Seconds_l0 s hs d _ (i + 1) (by omega) (by omega) hmn.1 hmn.2) (by rw [e, Bool.true_and, satV]))
        simp only [spec_Seconds.l0]
        rw [if_pos hlt, if_pos h0, if_neg h1, if_neg h2, w1, w2, w3, wrap_id (by omega) (by omega)]
theorem spec_Seconds_ev (s : ByteArray) (hs : s.size ≤ 8388608) : Ev (fun k => spec_Seconds.f k s) (secP (bytesOf s)) := by
  have h := spec_Seconds_l0 s hs s.size 0 0 (by omega) (by omega) (by omega) (by omega)
  unfold secP
  rw [bytesOf_length]
  exact h

end Go.Proofs.YtjldfmkpdkhnnaaGreatDoor.Pure

namespace Go.Proofs.YtjldfmkpdkhnnaaGreatDoor.Pure
set_option linter.unusedVariables false
set_option linter.unusedSimpArgs false
open Go.RowKit Go.Proofs.YtjldfmkpdkhnnaaGreatDoor.QL Go.Proofs.YtjldfmkpdkhnnaaGreatDoorW.PrintWords Go.Proofs.YtjldfmkpdkhnnaaGreatDoorW.PrintLast Go.Proofs.YtjldfmkpdkhnnaaGreatDoorW.PrintMore Go.Proofs.YtjldfmkpdkhnnaaGreatDoor.Aux Go.Proofs.YtjldfmkpdkhnnaaGreatDoor.Dom Go.Proofs.YtjldfmkpdkhnnaaGreatDoor.Ext
theorem spec_SatAdd_eq (a b : Int) : spec_SatAdd.f a b = some (satP a b) := rfl

end Go.Proofs.YtjldfmkpdkhnnaaGreatDoor.Pure

namespace Go.Proofs.YtjldfmkpdkhnnaaGreatDoor.Pure
set_option linter.unusedVariables false
set_option linter.unusedSimpArgs false
open Go.RowKit Go.Proofs.YtjldfmkpdkhnnaaGreatDoor.QL Go.Proofs.YtjldfmkpdkhnnaaGreatDoorW.PrintWords Go.Proofs.YtjldfmkpdkhnnaaGreatDoorW.PrintLast Go.Proofs.YtjldfmkpdkhnnaaGreatDoorW.PrintMore Go.Proofs.YtjldfmkpdkhnnaaGreatDoor.Aux Go.Proofs.YtjldfmkpdkhnnaaGreatDoor.Dom Go.Proofs.YtjldfmkpdkhnnaaGreatDoor.Ext
theorem spec_FirstAge_j0 (asked came told date : Int) (ha : -9223372036854775808 ≤ asked) (hc : came ≤ 9223372036854775807) (b : Bool) (hb : b = true → came > date ∧ 0 ≤ date) :
    Ev (fun k => spec_FirstAge.j0 k asked came told date 0 b) (mx (if b = true then mn (came - date) 2147483648 else 0) (satP told (laterP came asked))) := by
  have key : ∀ ap : Int, (if came > asked then (if asked ≥ 0 then (some (mx ap (satP told (came - asked)))) else some (mx ap (satP told 0))) else some (mx ap (satP told 0))) = some (mx ap (satP told (laterP came asked))) := by
    intro ap
    unfold laterP
    by_cases h1 : came > asked
    · rw [if_pos h1]
      by_cases h2 : asked ≥ 0
      · rw [if_pos h2, if_neg (by omega), if_neg (by omega)]
      · rw [if_neg h2, if_pos (by omega)]
    · rw [if_neg h1]
      by_cases h2 : asked < 0
      · rw [if_pos h2]
      · rw [if_neg h2, if_pos (by omega)]
  cases b with
  | true =>
    obtain ⟨h1, h2⟩ := hb rfl
    refine ev_last fun k => ?_
    rw [if_pos rfl, ← key]
    simp only [spec_FirstAge.j0]
    rw [if_pos (by trivial), wrap_id (x := came - date) (by omega) (by omega)]
    by_cases c1 : came > asked
    · rw [if_pos c1, if_pos c1]
      by_cases c2 : asked ≥ 0
      · rw [if_pos c2, if_pos c2, wrap_id (x := came - asked) (by omega) (by omega), spec_SatAdd_eq, Option.bind_some]
      · rw [if_neg c2, if_neg c2, spec_SatAdd_eq, Option.bind_some]
    · rw [if_neg c1, if_neg c1, spec_SatAdd_eq, Option.bind_some]
  | false =>
    refine ev_last fun k => ?_
    rw [if_neg (by decide), ← key]
    simp only [spec_FirstAge.j0]
    rw [if_neg (by decide)]
    by_cases c1 : came > asked
    · rw [if_pos c1, if_pos c1]
      by_cases c2 : asked ≥ 0
      · rw [if_pos c2, if_pos c2, wrap_id (x := came - asked) (by omega) (by omega), spec_SatAdd_eq, Option.bind_some]
      · rw [if_neg c2, if_neg c2, spec_SatAdd_eq, Option.bind_some]
    · rw [if_neg c1, if_neg c1, spec_SatAdd_eq, Option.bind_some]
theorem spec_FirstAge_ev (st : Int) (l : List S99) (b : ByteArray) (asked came : Int) (hl : l.length ≤ 1048576) (hz : ¬ szF 1048576 (l.map fun x => (x.f0, x.f1)) < 0) (ha : -9223372036854775808 ≤ asked) (hc : came ≤ 9223372036854775807) : Ev (fun k => spec_FirstAge.f k st l b asked came) (firstAgeP (l.map fun x => (x.f0, x.f1)) asked came) := by
  have q1 := szF_sum nmAge (by omega) hz
  have j1 := joinG_size nmAge _ (by omega) hz
  have sc := spec_Seconds_ev (joinG nmAge (l.map fun x => (x.f0, x.f1))) (by omega)
  refine Ev.congr (fun k => by unfold spec_FirstAge.f; rfl) (ev_bind (spec_FieldGet_ev l nmAge hl (by omega)) (ev_bind sc (ev_bind (spec_DateOf_ev l nmDate hl hz) ?_)))
  have hd := dateOfP_bd (l.map fun x => (x.f0, x.f1)) nmDate
  unfold firstAgeP appP
  generalize dateOfP (l.map fun x => (x.f0, x.f1)) nmDate = q at hd
  by_cases h : q.2 = true
  · rw [if_pos h]
    refine ev_if_pos h (ev_eq (spec_FirstAge_j0 asked came _ q.1 ha hc (decide (came > q.1)) (fun e => ⟨of_decide_eq_true e, hd.1⟩)) ?_)
    congr 1
    unfold laterP withinP
    by_cases c : came > q.1
    · rw [if_pos (decide_eq_true c), if_neg (by omega), if_neg (by omega)]
      unfold mx mn
      (repeat' split) <;> omega
    · rw [if_neg (by rw [decide_eq_false c]; decide), if_neg (by omega), if_pos (by omega)]
      rfl
  · rw [if_neg h]
    exact ev_if_neg h (spec_FirstAge_j0 asked came _ q.1 ha hc false (fun e => by cases e))

end Go.Proofs.YtjldfmkpdkhnnaaGreatDoor.Pure

namespace Go.Proofs.YtjldfmkpdkhnnaaGreatDoor.Pure
set_option linter.unusedVariables false
set_option linter.unusedSimpArgs false
open Go.RowKit Go.Proofs.YtjldfmkpdkhnnaaGreatDoor.QL Go.Proofs.YtjldfmkpdkhnnaaGreatDoorW.PrintWords Go.Proofs.YtjldfmkpdkhnnaaGreatDoorW.PrintLast Go.Proofs.YtjldfmkpdkhnnaaGreatDoorW.PrintMore Go.Proofs.YtjldfmkpdkhnnaaGreatDoor.Aux Go.Proofs.YtjldfmkpdkhnnaaGreatDoor.Dom Go.Proofs.YtjldfmkpdkhnnaaGreatDoor.Ext
theorem spec_AgeAt_ev (st : Int) (l : List S99) (b : ByteArray) (asked came now : Int) (hl : l.length ≤ 1048576) (hz : ¬ szF 1048576 (l.map fun x => (x.f0, x.f1)) < 0) (ha : -9223372036854775808 ≤ asked) (hc0 : -9223372036854775808 ≤ came) (hc : came ≤ 9223372036854775807) (hn : now ≤ 9223372036854775807) : Ev (fun k => spec_AgeAt.f k st l b asked came now) (ageAtP (l.map fun x => (x.f0, x.f1)) asked came now) := by
  have fa := spec_FirstAge_ev st l b asked came hl hz ha hc
  unfold ageAtP
  have hj : ∀ x : Bool, (x = true → now > came ∧ came ≥ 0) → (x = false → laterP now came = 0) → Ev (fun k => spec_AgeAt.j0 k asked came now 0 x st l b) (satP (firstAgeP (l.map fun x => (x.f0, x.f1)) asked came) (laterP now came)) := by
    intro x h1 h2
    cases x with
    | true =>
      obtain ⟨c1, c2⟩ := h1 rfl
      refine Ev.step (fun k => by simp only [spec_AgeAt.j0]; rw [if_pos (by trivial)]) (ev_bind fa ?_)
      exact ev_some fun k => by rw [wrap_id (by omega) (by omega), spec_SatAdd_eq, Option.bind_some, show laterP now came = now - came by unfold laterP; rw [if_neg (by omega), if_neg (by omega)]]
    | false =>
      refine Ev.step (fun k => by simp only [spec_AgeAt.j0]; rw [if_neg (by decide)]) (ev_bind fa ?_)
      exact ev_some fun k => by rw [spec_SatAdd_eq, Option.bind_some, h2 rfl]
  by_cases c1 : now > came
  · refine Ev.congr (fun k => by unfold spec_AgeAt.f; rw [if_pos c1]) (hj _ (fun e => ⟨c1, of_decide_eq_true e⟩) (fun e => ?_))
    have := of_decide_eq_false e
    unfold laterP
    rw [if_pos (by omega)]
  · refine Ev.congr (fun k => by unfold spec_AgeAt.f; rw [if_neg c1]) (hj false (fun e => by cases e) (fun _ => ?_))
    unfold laterP
    split
    · rfl
    · rw [if_pos (by omega)]

end Go.Proofs.YtjldfmkpdkhnnaaGreatDoor.Pure

namespace Go.Proofs.YtjldfmkpdkhnnaaGreatDoor.Pure
set_option linter.unusedVariables false
set_option linter.unusedSimpArgs false
open Go.RowKit Go.Proofs.YtjldfmkpdkhnnaaGreatDoor.QL Go.Proofs.YtjldfmkpdkhnnaaGreatDoorW.PrintWords Go.Proofs.YtjldfmkpdkhnnaaGreatDoorW.PrintLast Go.Proofs.YtjldfmkpdkhnnaaGreatDoorW.PrintMore Go.Proofs.YtjldfmkpdkhnnaaGreatDoor.Aux Go.Proofs.YtjldfmkpdkhnnaaGreatDoor.Dom Go.Proofs.YtjldfmkpdkhnnaaGreatDoor.Ext
theorem impl_FieldGet_l0 (l : List S99) (nm : ByteArray) (hl : l.length ≤ 1048576) (V : List ByteArray) (hV : (V.map fun v => v.size + 2).sum ≤ 8388608) (hW : V.length ≤ 1048576) : ∀ (d : Nat) (acc : List ByteArray) (i : Int), 0 ≤ i → (l.length : Int) - i = d → acc ++ getL nm ((l.drop i.toNat).map fun x => (x.f0, x.f1)) = V →
    Ev (fun k => impl_FieldGet.l0 k nm acc l (l.length : Int) i) (joinB ⟨#[44, 32]⟩ V, !V.isEmpty)
  | 0, acc, i, h0, hd, ha => by
    refine ev_last fun k => ?_
    simp only [impl_FieldGet.l0]
    rw [drop_nil (by omega)] at ha
    simp only [List.map_nil, getL, List.append_nil] at ha
    subst ha
    have hs : (joinB ⟨#[44, 32]⟩ acc).size ≤ (acc.map fun v => v.size + 2).sum := joinB_size ⟨#[44, 32]⟩ acc
    rw [if_neg (by omega), strings_Join.f, if_pos ⟨by omega, by omega⟩, Option.bind_some]
    cases acc <;> simp
  | d + 1, acc, i, h0, hd, ha => by
    have hlt : i < (l.length : Int) := by omega
    have hdrop : l.drop i.toNat = rd_T99 l i :: l.drop (i + 1).toNat := drop_rdOf (d := z99) h0 hlt
    rw [hdrop] at ha
    simp only [List.map_cons, getL] at ha
    by_cases h : (rd_T99 l i).f0 = nm
    · rw [if_pos h] at ha
      have hlen : acc.length < 8796093022208 := by
        have := congrArg List.length ha
        simp at this
        omega
      refine Ev.step (f := fun k => impl_FieldGet.l0 k nm (acc ++ [(rd_T99 l i).f1]) l (l.length : Int) (i + 1)) (fun k => ?_) (impl_FieldGet_l0 l nm hl V hV hW d (acc ++ [(rd_T99 l i).f1]) (i + 1) (by omega) (by omega) (by rw [← ha]; simp))
      simp only [impl_FieldGet.l0]
      rw [if_pos hlt, if_pos h0, if_pos hlt, if_pos (by rw [h]), if_pos hlen, wrap_id (by omega) (by omega)]
    · rw [if_neg h] at ha
      refine Ev.step (f := fun k => impl_FieldGet.l0 k nm acc l (l.length : Int) (i + 1)) (fun k => ?_) (impl_FieldGet_l0 l nm hl V hV hW d acc (i + 1) (by omega) (by omega) ha)
      simp only [impl_FieldGet.l0]
      rw [if_pos hlt, if_pos h0, if_pos hlt, if_neg (by rw [toList_eq_iff]; exact h), wrap_id (by omega) (by omega)]
theorem impl_FieldGet_ev (l : List S99) (nm : ByteArray) (hl : l.length ≤ 1048576) (hV : ((getL nm (l.map fun x => (x.f0, x.f1))).map fun v => v.size + 2).sum ≤ 8388608) : Ev (fun k => impl_FieldGet.f k l nm) (joinB ⟨#[44, 32]⟩ (getL nm (l.map fun x => (x.f0, x.f1))), !(getL nm (l.map fun x => (x.f0, x.f1))).isEmpty) := by
  have hW := getL_length nm (l.map fun x => (x.f0, x.f1))
  rw [List.length_map] at hW
  have h := impl_FieldGet_l0 l nm hl _ hV (by omega) l.length [] 0 (by omega) (by omega) (by simp)
  simpa [impl_FieldGet.f] using h

end Go.Proofs.YtjldfmkpdkhnnaaGreatDoor.Pure

namespace Go.Proofs.YtjldfmkpdkhnnaaGreatDoor.Pure
set_option linter.unusedVariables false
set_option linter.unusedSimpArgs false
open Go.RowKit Go.Proofs.YtjldfmkpdkhnnaaGreatDoor.QL Go.Proofs.YtjldfmkpdkhnnaaGreatDoorW.PrintWords Go.Proofs.YtjldfmkpdkhnnaaGreatDoorW.PrintLast Go.Proofs.YtjldfmkpdkhnnaaGreatDoorW.PrintMore Go.Proofs.YtjldfmkpdkhnnaaGreatDoor.Aux Go.Proofs.YtjldfmkpdkhnnaaGreatDoor.Dom Go.Proofs.YtjldfmkpdkhnnaaGreatDoor.Ext
theorem strconv_Atoi_short (s : ByteArray) (n : Int) (hs : s.size ≤ 18) (h : Lib.atoi s.data.toList = some n) : strconv_Atoi.f s = some (n, none) := by
  unfold strconv_Atoi.f
  rw [if_pos (by omega), Lib.atoiAll_short _ (by rw [← Lib.size_eq]; exact hs), h]
  rfl
theorem atoi_dig (ds : List Int) (hd : ds.all digC = true) (hne : ds ≠ []) : Lib.atoi (strOfNums ds).data.toList = some (valL 0 ds) := by
  have hr : bytesOf (strOfNums ds) = ds := bytesOf_strOfNums fun c hc => by
    have := digC_iff.1 (List.all_eq_true.1 hd c hc)
    omega
  have hm : ((strOfNums ds).data.toList.map fun b : UInt8 => (b.toNat : Int)) = ds := hr
  obtain ⟨m, h1, h2⟩ := decFrom_val (strOfNums ds).data.toList 0 (by rw [hm]; exact hd)
  rw [hm] at h2
  cases hl : (strOfNums ds).data.toList with
  | nil => rw [hl] at hm; exact absurd hm.symm hne
  | cons b r =>
    rw [hl] at hm h1
    have hb : digC (b.toNat : Int) = true := by
      rw [← hm] at hd
      rw [List.map_cons, List.all_cons, Bool.and_eq_true] at hd
      exact hd.1
    rw [digC_iff] at hb
    have n45 : (b == 45) = false := beq_eq_false_iff_ne.mpr fun e => by subst e; simp at hb
    have n43 : (b == 43) = false := beq_eq_false_iff_ne.mpr fun e => by subst e; simp at hb
    rw [Lib.atoi, if_neg (by rw [n45]; decide), if_neg (by rw [n43]; decide), Lib.decNat, if_neg (by simp), h1, Option.map_some, h2]
    rfl
theorem strconv_Atoi_dig (ds : List Int) (hd : ds.all digC = true) (hne : ds ≠ []) (hl : ds.length ≤ 18) : strconv_Atoi.f (strOfNums ds) = some (valL 0 ds, none) :=
  strconv_Atoi_short _ _ (by rw [strOfNums_size]; exact hl) (atoi_dig ds hd hne)
theorem strconv_Atoi_dec (ds : List Int) (hd : ds.all digC = true) (hl : ds.length ≤ 10) : strconv_Atoi.f ((⟨#[48]⟩ : ByteArray) ++ strOfNums ds) = some (valL 0 ds, none) := by
  have e : (⟨#[48]⟩ : ByteArray) ++ strOfNums ds = strOfNums (48 :: ds) := by
    rw [show (48 :: ds : List Int) = [48] ++ ds from rfl, strOfNums_append]
    rfl
  rw [e, strconv_Atoi_dig (48 :: ds) (by rw [List.all_cons, hd]; rfl) (by simp) (by simp; omega)]
  rfl
end Go.Proofs.YtjldfmkpdkhnnaaGreatDoor.Pure

namespace Go.Proofs.YtjldfmkpdkhnnaaGreatDoor.Pure
set_option linter.unusedVariables false
set_option linter.unusedSimpArgs false
open Go.RowKit Go.Proofs.YtjldfmkpdkhnnaaGreatDoor.QL Go.Proofs.YtjldfmkpdkhnnaaGreatDoorW.PrintWords Go.Proofs.YtjldfmkpdkhnnaaGreatDoorW.PrintLast Go.Proofs.YtjldfmkpdkhnnaaGreatDoorW.PrintMore Go.Proofs.YtjldfmkpdkhnnaaGreatDoor.Aux Go.Proofs.YtjldfmkpdkhnnaaGreatDoor.Dom Go.Proofs.YtjldfmkpdkhnnaaGreatDoor.Ext
def numA (s : ByteArray) : Int := if (bytesOf s).all digC = true then (match Lib.atoiAll s.data.toList with
  | .ok v => v
  | .range => Lib.atoiSat s.data.toList
  | _ => 0) else -1
theorem numA_short {s : ByteArray} (h : s.size ≤ 18) : numA s = numP (bytesOf s) := by
  unfold numA numP
  by_cases ha : (bytesOf s).all digC = true
  · rw [if_pos ha, if_pos ha]
    by_cases hn : bytesOf s = []
    · have hs : s = ⟨#[]⟩ := bytesOf_inj (hn.trans rfl)
      subst hs
      rfl
    · have h1 := atoi_dig (bytesOf s) ha hn
      rw [strOfNums_bytesOf] at h1
      rw [Lib.atoiAll_short _ (by rw [← Lib.size_eq]; exact h), h1]
      rfl
  · rw [if_neg ha, if_neg ha]
theorem strconv_Atoi_num (s : ByteArray) (hs : s.size ≤ 8388608) (ha : (bytesOf s).all digC = true) : ∃ e, strconv_Atoi.f s = some (numA s, e) := by
  unfold strconv_Atoi.f numA
  rw [if_pos hs, if_pos ha]
  cases hc : Lib.atoiAll s.data.toList with
  | ok v => exact ⟨none, rfl⟩
  | range => exact ⟨some 0, rfl⟩
  | _ => exact ⟨some 0, rfl⟩
theorem impl_number_l0 (s : ByteArray) (hs : s.size ≤ 8388608) : ∀ (d : Nat) (i : Int), 0 ≤ i → (s.size : Int) - i = d → ((bytesOf s).take i.toNat).all digC = true →
    Ev (fun k => impl_number.l0 k s (s.size : Int) i) (numA s)
  | 0, i, h0, hd, ht => by
    have hl := bytesOf_length s
    have hall : (bytesOf s).all digC = true := by rw [List.take_of_length_le (by omega)] at ht; exact ht
    obtain ⟨e, he⟩ := strconv_Atoi_num s hs hall
    refine ev_last fun k => ?_
    simp only [impl_number.l0]
    rw [if_neg (by omega), he, Option.bind_some]
  | d + 1, i, h0, hd, ht => by
    have hlt : i < (s.size : Int) := by omega
    have hl := bytesOf_length s
    have hmem : bt s i ∈ bytesOf s := List.mem_of_mem_drop (i := i.toNat) (by rw [drop_bt h0 hlt]; exact List.mem_cons_self)
    by_cases h1 : digC (bt s i) = true
    · have h2 := digC_iff.1 h1
      refine Ev.step (f := fun k => impl_number.l0 k s (s.size : Int) (i + 1)) (fun k => ?_) (impl_number_l0 s hs d (i + 1) (by omega) (by omega) ?_)
      · simp only [impl_number.l0]
        rw [if_pos hlt, if_pos h0, if_pos hlt, if_neg (by omega), if_neg (by omega), wrap_id (by omega) (by omega)]
      · have e : (bytesOf s).take (i + 1).toNat = (bytesOf s).take i.toNat ++ [bt s i] := by
          have h3 := List.take_append_drop i.toNat ((bytesOf s).take (i + 1).toNat)
          rw [List.take_take, Nat.min_eq_left (by omega), List.drop_take, drop_bt h0 hlt, show (i + 1).toNat - i.toNat = 1 by omega] at h3
          rw [← h3]
          rfl
        rw [e, List.all_append, ht, List.all_cons, h1]
        rfl
    · have hn : ¬ (bytesOf s).all digC = true := fun h => h1 (List.all_eq_true.1 h _ hmem)
      unfold numA
      rw [if_neg hn]
      rw [digC_iff] at h1
      refine ev_last fun k => ?_
      simp only [impl_number.l0]
      rw [if_pos hlt, if_pos h0, if_pos hlt]
      by_cases h3 : bt s i < 48
      · rw [if_pos h3]
      · rw [if_neg h3, if_pos (by omega)]
theorem impl_number_ev (s : ByteArray) (hs : s.size ≤ 8388608) : Ev (fun k => impl_number.f k s) (numA s) :=
  impl_number_l0 s hs s.size 0 (by omega) (by omega) (by simp)

end Go.Proofs.YtjldfmkpdkhnnaaGreatDoor.Pure

namespace Go.Proofs.YtjldfmkpdkhnnaaGreatDoor.Pure
set_option linter.unusedVariables false
set_option linter.unusedSimpArgs false
open Go.RowKit Go.Proofs.YtjldfmkpdkhnnaaGreatDoor.QL Go.Proofs.YtjldfmkpdkhnnaaGreatDoorW.PrintWords Go.Proofs.YtjldfmkpdkhnnaaGreatDoorW.PrintLast Go.Proofs.YtjldfmkpdkhnnaaGreatDoorW.PrintMore Go.Proofs.YtjldfmkpdkhnnaaGreatDoor.Aux Go.Proofs.YtjldfmkpdkhnnaaGreatDoor.Dom Go.Proofs.YtjldfmkpdkhnnaaGreatDoor.Ext
theorem slices_Index_l0 (L : List ByteArray) (w : ByteArray) (hL : L.length ≤ 1000000) : ∀ (d : Nat) (i : Int), 0 ≤ i → (L.length : Int) - i = d →
    Ev (fun k => slices_Index_string_string.l0 k L w (L.length : Int) i) (if idxT w (L.drop i.toNat) = -1 then -1 else idxT w (L.drop i.toNat) + i)
  | 0, i, h0, hd => by
    refine ev_last fun k => ?_
    simp only [slices_Index_string_string.l0]
    rw [if_neg (by omega), drop_nil (by omega)]
    rfl
  | d + 1, i, h0, hd => by
    have hlt : i < (L.length : Int) := by omega
    have hdrop : L.drop i.toNat = rdOf ByteArray.empty L i :: L.drop (i + 1).toNat := drop_rdOf (d := ByteArray.empty) h0 hlt
    rw [hdrop, idxT]
    by_cases h : w = rdOf ByteArray.empty L i
    · rw [if_pos h, if_neg (by decide)]
      refine ev_last fun k => ?_
      simp only [slices_Index_string_string.l0]
      rw [if_pos hlt, if_pos h0, if_pos hlt, if_pos (by rw [← h]), Int.zero_add]
    · rw [if_neg h]
      refine Ev.step (f := fun k => slices_Index_string_string.l0 k L w (L.length : Int) (i + 1)) (fun k => ?_) (ev_eq (slices_Index_l0 L w hL d (i + 1) (by omega) (by omega)) ?_)
      · simp only [slices_Index_string_string.l0]
        rw [if_pos hlt, if_pos h0, if_pos hlt, if_neg (by rw [toList_eq_iff]; exact h), wrap_id (by omega) (by omega)]
      · have hb := idxT_bd w (L.drop (i + 1).toNat)
        by_cases h2 : idxT w (L.drop (i + 1).toNat) = -1
        · rw [if_pos h2, if_pos h2, if_pos rfl]
        · rw [if_neg h2, if_neg h2, if_neg (by omega)]
          omega
theorem slices_Index_ev (L : List ByteArray) (w : ByteArray) (hL : L.length ≤ 1000000) : Ev (fun k => slices_Index_string_string.f k L w) (idxT w L) := by
  refine ev_eq (slices_Index_l0 L w hL L.length 0 (by omega) (by omega)) ?_
  simp only [Int.toNat_zero, List.drop_zero, Int.add_zero]
  split
  · rename_i h; exact h.symm
  · rfl

end Go.Proofs.YtjldfmkpdkhnnaaGreatDoor.Pure

namespace Go.Proofs.YtjldfmkpdkhnnaaGreatDoor.Pure
set_option linter.unusedVariables false
set_option linter.unusedSimpArgs false
open Go.RowKit Go.Proofs.YtjldfmkpdkhnnaaGreatDoor.QL Go.Proofs.YtjldfmkpdkhnnaaGreatDoorW.PrintWords Go.Proofs.YtjldfmkpdkhnnaaGreatDoorW.PrintLast Go.Proofs.YtjldfmkpdkhnnaaGreatDoorW.PrintMore Go.Proofs.YtjldfmkpdkhnnaaGreatDoor.Aux Go.Proofs.YtjldfmkpdkhnnaaGreatDoor.Dom Go.Proofs.YtjldfmkpdkhnnaaGreatDoor.Ext
theorem impl_in_eq (a b c : Int) : impl_in.f a b c = some (decide (b ≤ a ∧ a ≤ c)) := by
  unfold impl_in.f
  by_cases h : a ≥ b
  · rw [if_pos h]; simp [show b ≤ a from h]
  · rw [if_neg h]; simp [show ¬ b ≤ a from h]

end Go.Proofs.YtjldfmkpdkhnnaaGreatDoor.Pure

namespace Go.Proofs.YtjldfmkpdkhnnaaGreatDoor.Pure
set_option linter.unusedVariables false
set_option linter.unusedSimpArgs false
open Go.RowKit Go.Proofs.YtjldfmkpdkhnnaaGreatDoor.QL Go.Proofs.YtjldfmkpdkhnnaaGreatDoorW.PrintWords Go.Proofs.YtjldfmkpdkhnnaaGreatDoorW.PrintLast Go.Proofs.YtjldfmkpdkhnnaaGreatDoorW.PrintMore Go.Proofs.YtjldfmkpdkhnnaaGreatDoor.Aux Go.Proofs.YtjldfmkpdkhnnaaGreatDoor.Dom Go.Proofs.YtjldfmkpdkhnnaaGreatDoor.Ext
theorem impl_IsLeap_eq {y : Int} (h : 0 ≤ y) : impl_IsLeap.f y = some (leapB y) := by
  unfold impl_IsLeap.f leapB
  rw [Int.tmod_eq_emod_of_nonneg h, Int.tmod_eq_emod_of_nonneg h, Int.tmod_eq_emod_of_nonneg h]
  by_cases h4 : y % 4 = 0
  · rw [if_pos h4]
    by_cases h100 : y % 100 = 0
    · rw [if_pos h100]
      congr 1
      rw [Bool.eq_iff_iff]; simp; omega
    · rw [if_neg h100, decide_eq_true (Or.inl ⟨h4, h100⟩)]
  · rw [if_neg h4]
    congr 1
    rw [Bool.eq_iff_iff]; simp; omega

end Go.Proofs.YtjldfmkpdkhnnaaGreatDoor.Pure

namespace Go.Proofs.YtjldfmkpdkhnnaaGreatDoor.Pure
set_option linter.unusedVariables false
set_option linter.unusedSimpArgs false
open Go.RowKit Go.Proofs.YtjldfmkpdkhnnaaGreatDoor.QL Go.Proofs.YtjldfmkpdkhnnaaGreatDoorW.PrintWords Go.Proofs.YtjldfmkpdkhnnaaGreatDoorW.PrintLast Go.Proofs.YtjldfmkpdkhnnaaGreatDoorW.PrintMore Go.Proofs.YtjldfmkpdkhnnaaGreatDoor.Aux Go.Proofs.YtjldfmkpdkhnnaaGreatDoor.Dom Go.Proofs.YtjldfmkpdkhnnaaGreatDoor.Ext
theorem impl_monthDays_eq {y m : Int} (hy : 0 ≤ y) (h1 : 1 ≤ m) (h2 : m ≤ 12) : impl_monthDays.f y m = some (monthD y m) := by
  unfold impl_monthDays.f
  rw [impl_IsLeap_eq hy]
  have hm : m = 1 ∨ m = 2 ∨ m = 3 ∨ m = 4 ∨ m = 5 ∨ m = 6 ∨ m = 7 ∨ m = 8 ∨ m = 9 ∨ m = 10 ∨ m = 11 ∨ m = 12 := by omega
  cases hl : leapB y with
  | true => rcases hm with rfl | rfl | rfl | rfl | rfl | rfl | rfl | rfl | rfl | rfl | rfl | rfl <;> simp [monthD, hl, rd, wrap64]
  | false => rcases hm with rfl | rfl | rfl | rfl | rfl | rfl | rfl | rfl | rfl | rfl | rfl | rfl <;> simp [monthD, hl, rd, wrap64]
theorem impl_yearDays_eq {y : Int} (hy : 0 ≤ y) : impl_yearDays.f y = some (yearD y) := by
  unfold impl_yearDays.f yearD
  rw [impl_IsLeap_eq hy, Option.bind_some]
  cases leapB y <;> rfl
theorem impl_DaysOf_l1 (y m : Int) (hy : 0 ≤ y) (hm : m ≤ 13) : ∀ (d : Nat) (n i : Int), 1 ≤ i → m - i = d → 0 ≤ n → n + 31 * d ≤ 100000 → Ev (fun k => impl_DaysOf.l1 k y m n i) (n + monthsD y d i)
  | 0, n, i, h1, hd, n0, n1 => by
    refine ev_last fun k => ?_
    simp only [impl_DaysOf.l1]
    rw [if_neg (by omega)]
    simp [monthsD]
  | d + 1, n, i, h1, hd, n0, n1 => by
    have hb := monthD_bd y i
    refine Ev.step (f := fun k => impl_DaysOf.l1 k y m (n + monthD y i) (i + 1)) (fun k => ?_) (ev_eq (impl_DaysOf_l1 y m hy hm d _ (i + 1) (by omega) (by omega) (by omega) (by omega)) (by rw [monthsD]; omega))
    simp only [impl_DaysOf.l1]
    rw [if_pos (by omega), impl_monthDays_eq hy h1 (by omega), Option.bind_some, wrap_id (by omega) (by omega), wrap_id (by omega) (by omega)]
theorem impl_DaysOf_l0 (y m : Int) (hy : y ≤ 2037) (h1970 : 1970 ≤ y) (hm1 : 1 ≤ m) (hm : m ≤ 12) : ∀ (d : Nat) (n i : Int), 1970 ≤ i → y - i = d → 0 ≤ n → n + 366 * d ≤ 50000 → Ev (fun k => impl_DaysOf.l0 k y m n i) (n + yearsD d i + monthsD y (m - 1).toNat 1)
  | 0, n, i, h1, hd, n0, n1 => by
    refine Ev.step (f := fun k => impl_DaysOf.l1 k y m n 1) (fun k => ?_) (ev_eq (impl_DaysOf_l1 y m (by omega) (by omega) (m - 1).toNat n 1 (by omega) (by omega) n0 (by omega)) (by simp [yearsD]))
    simp only [impl_DaysOf.l0]
    rw [if_neg (by omega)]
  | d + 1, n, i, h1, hd, n0, n1 => by
    have hb := yearD_bd i
    refine Ev.step (f := fun k => impl_DaysOf.l0 k y m (n + yearD i) (i + 1)) (fun k => ?_) (ev_eq (impl_DaysOf_l0 y m hy h1970 hm1 hm d _ (i + 1) (by omega) (by omega) (by omega) (by omega)) (by rw [yearsD]; omega))
    simp only [impl_DaysOf.l0]
    rw [if_pos (by omega), impl_yearDays_eq (by omega), Option.bind_some, wrap_id (by omega) (by omega), wrap_id (by omega) (by omega)]
theorem impl_DaysOf_ev (y m d : Int) : Ev (fun k => impl_DaysOf.f k y m d) (daysP y m d) := by
  have hbad : ∀ k, impl_DaysOf.j0 (k + 1) y m d true = some (-1) := fun k => by simp only [impl_DaysOf.j0]; rw [if_pos trivial]
  refine Ev.congr (fun k => by unfold impl_DaysOf.f; rw [impl_in_eq, Option.bind_some]) ?_
  unfold daysP
  by_cases h1 : 1970 ≤ y ∧ y ≤ 2037
  · refine ev_if_pos (by simpa using h1) ?_
    refine Ev.congr (fun k => by rw [impl_in_eq, Option.bind_some]) ?_
    by_cases h2 : 1 ≤ m ∧ m ≤ 12
    · refine ev_if_pos (by simpa using h2) ?_
      refine Ev.congr (fun k => by rw [impl_monthDays_eq (by omega) h2.1 h2.2, Option.bind_some, impl_in_eq, Option.bind_some]) ?_
      have hb := monthD_bd y m
      by_cases h3 : 1 ≤ d ∧ d ≤ monthD y m
      · rw [decide_eq_true h3, if_pos ⟨h1, h2, h3⟩]
        refine Ev.step (f := fun k => impl_DaysOf.l0 k y m (d - 1) 1970) (fun k => ?_) (ev_eq (impl_DaysOf_l0 y m h1.2 h1.1 h2.1 h2.2 (y - 1970).toNat (d - 1) 1970 (by omega) (by omega) (by omega) (by omega)) (by omega))
        simp only [impl_DaysOf.j0]
        rw [if_neg (by decide), wrap_id (by omega) (by omega)]
      · rw [decide_eq_false h3, if_neg (fun h => h3 h.2.2)]
        exact ev_last hbad
    · rw [if_neg (fun h => h2 h.2.1)]
      exact ev_if_neg (by simpa using h2) (ev_last hbad)
  · rw [if_neg (fun h => h1 h.1)]
    exact ev_if_neg (by simpa using h1) (ev_last hbad)

end Go.Proofs.YtjldfmkpdkhnnaaGreatDoor.Pure

namespace Go.Proofs.YtjldfmkpdkhnnaaGreatDoor.Pure
set_option linter.unusedVariables false
set_option linter.unusedSimpArgs false
open Go.RowKit Go.Proofs.YtjldfmkpdkhnnaaGreatDoor.QL Go.Proofs.YtjldfmkpdkhnnaaGreatDoorW.PrintWords Go.Proofs.YtjldfmkpdkhnnaaGreatDoorW.PrintLast Go.Proofs.YtjldfmkpdkhnnaaGreatDoorW.PrintMore Go.Proofs.YtjldfmkpdkhnnaaGreatDoor.Aux Go.Proofs.YtjldfmkpdkhnnaaGreatDoor.Dom Go.Proofs.YtjldfmkpdkhnnaaGreatDoor.Ext
theorem impl_two_eq {n : Int} (h0 : 0 ≤ n) (h1 : n ≤ 99) : impl_two.f n = some (strOfNums (twoL n)) := by
  unfold impl_two.f strconv_Itoa.f
  rw [wrap_id (by omega) (by omega), if_pos ⟨by omega, by omega⟩, Option.bind_some]
  have e : decB (100 + n) = strOfNums (49 :: twoL n) := by unfold decB; rw [decP_100 h0 h1]
  rw [e, if_pos (by rw [strOfNums_size]; simp [twoL])]
  congr 1
theorem impl_ShowDate_fin (k : Nat) (d rest y m wd : Int) (hy : 1970 ≤ y) (hy2 : y ≤ 2037) (hm : 1 ≤ m) (hm2 : m ≤ 12) (hd : 0 ≤ d) (hd2 : d < monthD y m) (hr0 : 0 ≤ rest) (hr1 : rest < 86400) :
    impl_ShowDate.l1 (k + 1) d rest (strOfNums (weekL wd)) y m = some (strOfNums (weekL wd ++ [44, 32] ++ twoL (d + 1) ++ [32] ++ monL m ++ [32] ++ decP y ++ [32] ++ twoL (rest / 3600) ++ [58] ++ twoL (rest / 60 % 60) ++ [58] ++ twoL (rest % 60) ++ [32, 71, 77, 84])) := by
  have hb := monthD_bd y m
  have w1 : wrap64 (d + 1) = d + 1 := wrap_id (by omega) (by omega)
  have w2 : wrap64 (m - 1) = m - 1 := wrap_id (by omega) (by omega)
  have w3 : wrap64 (Int.tdiv rest 3600) = rest / 3600 := by rw [Int.tdiv_eq_ediv_of_nonneg hr0, wrap_id (by omega) (by omega)]
  have w4 : Int.tmod (wrap64 (Int.tdiv rest 60)) 60 = rest / 60 % 60 := by rw [Int.tdiv_eq_ediv_of_nonneg hr0, wrap_id (by omega) (by omega), Int.tmod_eq_emod_of_nonneg (by omega)]
  have w5 : Int.tmod rest 60 = rest % 60 := Int.tmod_eq_emod_of_nonneg hr0
  have s1 : (strOfNums (weekL wd)).size = 3 := by rw [strOfNums_size, weekL_length]
  have s2 : ∀ n, (strOfNums (twoL n)).size = 2 := fun n => by rw [strOfNums_size]; rfl
  have s3 : (strOfNums (monL m)).size = 3 := by rw [strOfNums_size, monL_length]
  have s4 : (decB y).size = 4 := by unfold decB; rw [decP_year (by omega) (by omega), strOfNums_size]; rfl
  have z1 : (⟨#[44, 32]⟩ : ByteArray).size = 2 := rfl
  have z2 : (⟨#[32]⟩ : ByteArray).size = 1 := rfl
  have z3 : (⟨#[58]⟩ : ByteArray).size = 1 := rfl
  have i1 : strconv_Itoa.f y = some (decB y) := by unfold strconv_Itoa.f; rw [if_pos ⟨by omega, by omega⟩]
  simp only [impl_ShowDate.l1, impl_monthDays_eq (y := y) (m := m) (by omega) hm hm2, Option.bind_some]
  rw [if_neg (by omega), w1, w2, w3, w4, w5, impl_two_eq (n := d + 1) (by omega) (by omega), impl_two_eq (n := rest / 3600) (by omega) (by omega), impl_two_eq (n := rest / 60 % 60) (by omega) (by omega), impl_two_eq (n := rest % 60) (by omega) (by omega), i1]
  simp only [impl_months.f, Option.bind_some]
  rw [if_pos (c := 0 ≤ m - 1) (by omega), if_pos (c := m - 1 < _) (by simp; omega)]
  simp only [months_rd hm hm2, ByteArray.size_append, s1, s2, s3, s4, z1, z2, z3, Nat.reduceAdd, Nat.reduceLeDiff, if_true]
  congr 1
  simp only [strOfNums_append, decB]
  rfl
theorem impl_ShowDate_l1 (rest y wd : Int) (hy : 1970 ≤ y) (hy2 : y ≤ 2037) (hr0 : 0 ≤ rest) (hr1 : rest < 86400) : ∀ (f : Nat) (m d : Int), 1 ≤ m → m + f = 13 → 0 ≤ d → d < monthsD y f m →
    Ev (fun k => impl_ShowDate.l1 k d rest (strOfNums (weekL wd)) y m) (strOfNums (weekL wd ++ [44, 32] ++ twoL ((mdL y f m d).2 + 1) ++ [32] ++ monL (mdL y f m d).1 ++ [32] ++ decP y ++ [32] ++ twoL (rest / 3600) ++ [58] ++ twoL (rest / 60 % 60) ++ [58] ++ twoL (rest % 60) ++ [32, 71, 77, 84]))
  | 0, m, d, h1, hf, h0, hd => by simp [monthsD] at hd; omega
  | f + 1, m, d, h1, hf, h0, hd => by
    have hb := monthD_bd y m
    have hb2 := monthsD_bd y f (m + 1)
    rw [monthsD] at hd
    rw [mdL]
    by_cases h : monthD y m ≤ d
    · rw [if_pos h]
      refine Ev.step (f := fun k => impl_ShowDate.l1 k (d - monthD y m) rest (strOfNums (weekL wd)) y (m + 1)) (fun k => ?_) (impl_ShowDate_l1 rest y wd hy hy2 hr0 hr1 f (m + 1) (d - monthD y m) (by omega) (by omega) (by omega) (by omega))
      simp only [impl_ShowDate.l1, impl_monthDays_eq (y := y) (m := m) (by omega) h1 (by omega), Option.bind_some]
      rw [if_pos h, wrap_id (x := d - monthD y m) (by omega) (by omega), wrap_id (x := m + 1) (by omega) (by omega)]
    · rw [if_neg h]
      exact ev_last fun k => impl_ShowDate_fin k d rest y m wd hy hy2 h1 (by omega) h0 (by omega) hr0 hr1
theorem impl_ShowDate_l0 (rest wd : Int) (hr0 : 0 ≤ rest) (hr1 : rest < 86400) : ∀ (f : Nat) (y d : Int), 1970 ≤ y → y + f = 2038 → 0 ≤ d → d < 365 * f →
    Ev (fun k => impl_ShowDate.l0 k d rest (strOfNums (weekL wd)) y 1) (strOfNums (weekL wd ++ [44, 32] ++ twoL ((mdL (ydL f y d).1 12 1 (ydL f y d).2).2 + 1) ++ [32] ++ monL (mdL (ydL f y d).1 12 1 (ydL f y d).2).1 ++ [32] ++ decP (ydL f y d).1 ++ [32] ++ twoL (rest / 3600) ++ [58] ++ twoL (rest / 60 % 60) ++ [58] ++ twoL (rest % 60) ++ [32, 71, 77, 84]))
  | 0, y, d, h1, hf, h0, hd => by omega
  | f + 1, y, d, h1, hf, h0, hd => by
    have hb := yearD_bd y
    rw [ydL]
    by_cases h : yearD y ≤ d
    · rw [if_pos h]
      refine Ev.step (f := fun k => impl_ShowDate.l0 k (d - yearD y) rest (strOfNums (weekL wd)) (y + 1) 1) (fun k => ?_) (impl_ShowDate_l0 rest wd hr0 hr1 f (y + 1) (d - yearD y) (by omega) (by omega) (by omega) (by omega))
      simp only [impl_ShowDate.l0, impl_yearDays_eq (y := y) (by omega), Option.bind_some]
      rw [if_pos h, wrap_id (x := d - yearD y) (by omega) (by omega), wrap_id (x := y + 1) (by omega) (by omega)]
    · rw [if_neg h]
      have hw := yearW_eq y
      unfold yearW at hw
      refine Ev.step (f := fun k => impl_ShowDate.l1 k d rest (strOfNums (weekL wd)) y 1) (fun k => ?_) (impl_ShowDate_l1 rest y wd h1 (by omega) hr0 hr1 12 1 d (by omega) (by omega) h0 (by omega))
      simp only [impl_ShowDate.l0, impl_yearDays_eq (y := y) (by omega), Option.bind_some]
      rw [if_neg (by omega)]
theorem impl_ShowDate_ev (sec : Int) (h0 : -9223372036854775808 ≤ sec) (h1 : sec ≤ 9223372036854775807) : Ev (fun k => impl_ShowDate.f k sec) (dateB sec) := by
  refine Ev.congr (fun k => by unfold impl_ShowDate.f; rw [impl_in_eq, Option.bind_some]) ?_
  unfold dateB
  by_cases h : 0 ≤ sec ∧ sec ≤ 2000000000
  · rw [if_pos h]
    refine ev_if_pos (by simpa using h) ?_
    have w1 : wrap64 (Int.tdiv sec 86400) = sec / 86400 := by rw [Int.tdiv_eq_ediv_of_nonneg h.1, wrap_id (by omega) (by omega)]
    have w2 : Int.tmod (sec / 86400) 7 = sec / 86400 % 7 := Int.tmod_eq_emod_of_nonneg (by omega)
    have w3 : Int.tmod sec 86400 = sec % 86400 := Int.tmod_eq_emod_of_nonneg h.1
    refine Ev.congr (fun k => by rw [w1, w2, w3, Option.bind_some, if_pos (by omega), if_pos (by simp; omega), week_rd (by omega) (by omega)]) ?_
    refine ev_eq (impl_ShowDate_l0 (sec % 86400) (sec / 86400 % 7) (by omega) (by omega) 68 1970 (sec / 86400) (by omega) (by omega) (by omega) (by omega)) ?_
    unfold dateL ymd
    rw [show (70 : Nat) = 68 + 2 from rfl, ydL_more 68 2 1970 (sec / 86400) (by omega) (by omega), show sec % 86400 / 3600 = sec / 3600 % 24 by omega, show sec % 86400 / 60 % 60 = sec / 60 % 60 by omega, show sec % 86400 % 60 = sec % 60 by omega]
  · rw [if_neg h]
    exact ev_if_neg (by simpa using h) (Ev.now _)

end Go.Proofs.YtjldfmkpdkhnnaaGreatDoor.Pure

namespace Go.Proofs.YtjldfmkpdkhnnaaGreatDoor.Pure
set_option linter.unusedVariables false
set_option linter.unusedSimpArgs false
open Go.RowKit Go.Proofs.YtjldfmkpdkhnnaaGreatDoor.QL Go.Proofs.YtjldfmkpdkhnnaaGreatDoorW.PrintWords Go.Proofs.YtjldfmkpdkhnnaaGreatDoorW.PrintLast Go.Proofs.YtjldfmkpdkhnnaaGreatDoorW.PrintMore Go.Proofs.YtjldfmkpdkhnnaaGreatDoor.Aux Go.Proofs.YtjldfmkpdkhnnaaGreatDoor.Dom Go.Proofs.YtjldfmkpdkhnnaaGreatDoor.Ext
theorem impl_ReadDate_ev (s : ByteArray) (hs : s.size ≤ 8388608) : Ev (fun k => impl_ReadDate.f k s) (readDateP s) := by
  have hsp : strings_Split.f s (⟨#[32]⟩ : ByteArray) = some ((splC 32 (bytesOf s)).map strOfNums) := by unfold strings_Split.f; rw [if_pos ⟨hs, rfl⟩]
  have hbad : ∀ L, Ev (fun k => impl_ReadDate.j0 k s L true) ((0 : Int), false) := fun L => ev_last fun k => by simp only [impl_ReadDate.j0]; rw [if_pos (by trivial)]
  -- what a date's parts are
  have hok : ∀ sec, s.size = 29 → dateB sec = s → 0 ≤ sec ∧ sec ≤ 2000000000 ∧ splC 32 (bytesOf s) = [weekL (sec / 86400 % 7) ++ [44], twoL (ymd (sec / 86400)).2.2, monL (ymd (sec / 86400)).2.1, decP (ymd (sec / 86400)).1, twoL (sec / 3600 % 24) ++ [58] ++ twoL (sec / 60 % 60) ++ [58] ++ twoL (sec % 60), [71, 77, 84]] := by
    intro sec h1 h2
    obtain ⟨a, b, c, _⟩ := dateB_some h1 h2
    exact ⟨a, b, by rw [c]; exact splC_date a b⟩
  refine Ev.congr (fun k => by unfold impl_ReadDate.f; rw [hsp, Option.bind_some]) ?_
  generalize hP : (splC 32 (bytesOf s)).map strOfNums = L
  have hPl : ∀ p ∈ L, p.size ≤ s.size := by
    intro p hp
    rw [← hP] at hp
    obtain ⟨q, hq, rfl⟩ := List.mem_map.1 hp
    rw [strOfNums_size]
    have := splC_mem (bytesOf s) 32 q hq
    rw [bytesOf_length] at this
    exact this
  by_cases h6 : (L.length : Int) = 6
  · refine ev_if_pos h6 ?_
    by_cases h29 : (s.size : Int) = 29
    · refine ev_if_pos h29 (ev_if_pos (by omega) ?_)
      by_cases h8 : ((rdOf ByteArray.empty L 4).size : Int) = 8
      · refine ev_if_pos h8 (ev_if_pos (by omega) ?_)
        by_cases h4 : ((rdOf ByteArray.empty L 3).size : Int) = 4
        · have hin : ∀ i : Int, 0 ≤ i → i < 6 → (rdOf ByteArray.empty L i).size ≤ s.size := by
            intro i i0 i1
            refine hPl _ (List.mem_of_mem_drop (i := i.toNat) ?_)
            rw [drop_rdOf (d := ByteArray.empty) i0 (by omega)]
            exact List.mem_cons_self
          have hc : (rdOf ByteArray.empty L 4).size = 8 := by omega
          have x1 : ((rdOf ByteArray.empty L 4).extract 0 2).size = 2 := by rw [ByteArray.size_extract]; omega
          have x2 : ((rdOf ByteArray.empty L 4).extract 3 5).size = 2 := by rw [ByteArray.size_extract]; omega
          have x3 : ((rdOf ByteArray.empty L 4).extract 6 (rdOf ByteArray.empty L 4).size).size = 2 := by rw [ByteArray.size_extract]; omega
          have n3 := impl_number_ev (rdOf ByteArray.empty L 3) (by omega)
          have n1 := impl_number_ev (rdOf ByteArray.empty L 1) (by have := hin 1 (by omega) (by omega); omega)
          have c1 := impl_number_ev ((rdOf ByteArray.empty L 4).extract 0 2) (by omega)
          have c2 := impl_number_ev ((rdOf ByteArray.empty L 4).extract 3 5) (by omega)
          have c3 := impl_number_ev ((rdOf ByteArray.empty L 4).extract 6 (rdOf ByteArray.empty L 4).size) (by omega)
          rw [numA_short (s := (rdOf ByteArray.empty L 4).extract 0 2) (by omega)] at c1
          rw [numA_short (s := (rdOf ByteArray.empty L 4).extract 3 5) (by omega)] at c2
          rw [numA_short (s := (rdOf ByteArray.empty L 4).extract 6 (rdOf ByteArray.empty L 4).size) (by omega)] at c3
          rw [numA_short (s := rdOf ByteArray.empty L 3) (by omega)] at n3
          have e2 : (10 : Int) ^ 2 = 100 := by decide
          have b1 := numP_bd (bytesOf ((rdOf ByteArray.empty L 4).extract 0 2)) 2 (by rw [bytesOf_length]; omega)
          have b2 := numP_bd (bytesOf ((rdOf ByteArray.empty L 4).extract 3 5)) 2 (by rw [bytesOf_length]; omega)
          have b3 := numP_bd (bytesOf ((rdOf ByteArray.empty L 4).extract 6 (rdOf ByteArray.empty L 4).size)) 2 (by rw [bytesOf_length]; omega)
          have ix := slices_Index_ev monthsB (rdOf ByteArray.empty L 2) (by decide)
          have ib := idxT_bd (rdOf ByteArray.empty L 2) monthsB
          have ibl : (monthsB.length : Int) = 12 := rfl
          have hmo : impl_months.f = some monthsB := rfl
          have key : ∀ sec, dateB sec = s → sec = daysP (numP (bytesOf (rdOf ByteArray.empty L 3))) (idxT (rdOf ByteArray.empty L 2) monthsB + 1) (numA (rdOf ByteArray.empty L 1)) * 86400 + 3600 * numP (bytesOf ((rdOf ByteArray.empty L 4).extract 0 2)) + 60 * numP (bytesOf ((rdOf ByteArray.empty L 4).extract 3 5)) + numP (bytesOf ((rdOf ByteArray.empty L 4).extract 6 (rdOf ByteArray.empty L 4).size)) ∧ 0 ≤ daysP (numP (bytesOf (rdOf ByteArray.empty L 3))) (idxT (rdOf ByteArray.empty L 2) monthsB + 1) (numA (rdOf ByteArray.empty L 1)) := by
            intro sec e
            obtain ⟨q0, q1, q2⟩ := hok sec (by omega) e
            obtain ⟨a1, a2, a3, a4, a5, a6, _⟩ := ymd_spec (days := sec / 86400) (by omega) (by omega)
            have hmb := monthD_bd (ymd (sec / 86400)).1 (ymd (sec / 86400)).2.1
            rw [q2] at hP
            subst hP
            have rT : ∀ n : Int, 0 ≤ n → n ≤ 99 → bytesOf (strOfNums (twoL n)) = twoL n := fun n h0 h1 => bytesOf_strOfNums (fun c hc => by simp [twoL] at hc; omega)
            have rY : bytesOf (strOfNums (decP (ymd (sec / 86400)).1)) = decP (ymd (sec / 86400)).1 := bytesOf_strOfNums (fun c hc => by rw [decP_year (by omega) (by omega)] at hc; simp at hc; omega)
            have rC : bytesOf (strOfNums (twoL (sec / 3600 % 24) ++ [58] ++ twoL (sec / 60 % 60) ++ [58] ++ twoL (sec % 60))) = twoL (sec / 3600 % 24) ++ [58] ++ twoL (sec / 60 % 60) ++ [58] ++ twoL (sec % 60) := bytesOf_strOfNums (fun c hc => by simp [twoL] at hc; omega)
            have sC : (strOfNums (twoL (sec / 3600 % 24) ++ [58] ++ twoL (sec / 60 % 60) ++ [58] ++ twoL (sec % 60))).size = 8 := by rw [strOfNums_size]; rfl
            show sec = daysP (numP (bytesOf (strOfNums (decP (ymd (sec / 86400)).1)))) (idxT (strOfNums (monL (ymd (sec / 86400)).2.1)) monthsB + 1) (numA (strOfNums (twoL (ymd (sec / 86400)).2.2))) * 86400 + 3600 * numP (bytesOf ((strOfNums (twoL (sec / 3600 % 24) ++ [58] ++ twoL (sec / 60 % 60) ++ [58] ++ twoL (sec % 60))).extract 0 2)) + 60 * numP (bytesOf ((strOfNums (twoL (sec / 3600 % 24) ++ [58] ++ twoL (sec / 60 % 60) ++ [58] ++ twoL (sec % 60))).extract 3 5)) + numP (bytesOf ((strOfNums (twoL (sec / 3600 % 24) ++ [58] ++ twoL (sec / 60 % 60) ++ [58] ++ twoL (sec % 60))).extract 6 (strOfNums (twoL (sec / 3600 % 24) ++ [58] ++ twoL (sec / 60 % 60) ++ [58] ++ twoL (sec % 60))).size)) ∧ 0 ≤ daysP (numP (bytesOf (strOfNums (decP (ymd (sec / 86400)).1)))) (idxT (strOfNums (monL (ymd (sec / 86400)).2.1)) monthsB + 1) (numA (strOfNums (twoL (ymd (sec / 86400)).2.2)))
            rw [sC, bytesOf_extract, bytesOf_extract, bytesOf_extract, rC, rY, idxT_month a3 a4, numA_short (s := strOfNums (twoL (ymd (sec / 86400)).2.2)) (by rw [strOfNums_size]; show 2 ≤ 18; omega), rT _ (by omega) (by omega), numP_year (by omega) (by omega), numP_two (n := (ymd (sec / 86400)).2.2) (by omega) (by omega), show (ymd (sec / 86400)).2.1 - 1 + 1 = (ymd (sec / 86400)).2.1 by omega, daysP_ymd (by omega) (by omega)]
            have p1 : numP (((twoL (sec / 3600 % 24) ++ [58] ++ twoL (sec / 60 % 60) ++ [58] ++ twoL (sec % 60)).take 2).drop 0) = sec / 3600 % 24 := numP_two (by omega) (by omega)
            have p2 : numP (((twoL (sec / 3600 % 24) ++ [58] ++ twoL (sec / 60 % 60) ++ [58] ++ twoL (sec % 60)).take 5).drop 3) = sec / 60 % 60 := numP_two (by omega) (by omega)
            have p3 : numP (((twoL (sec / 3600 % 24) ++ [58] ++ twoL (sec / 60 % 60) ++ [58] ++ twoL (sec % 60)).take 8).drop 6) = sec % 60 := numP_two (by omega) (by omega)
            rw [p1, p2, p3]
            omega
          have db := daysP_bd (numP (bytesOf (rdOf ByteArray.empty L 3))) (idxT (rdOf ByteArray.empty L 2) monthsB + 1) (numA (rdOf ByteArray.empty L 1))
          refine Ev.congr (fun k => by rw [show (((rdOf ByteArray.empty L 3).size : Int) != 4) = false from bne_eq_false_iff_eq.2 h4]) ?_
          refine Ev.step (fun k => by simp only [impl_ReadDate.j0]; rw [if_neg (by decide), if_pos (by omega), if_pos (by omega), hmo]) ?_
          refine ev_bind n3 (Ev.congr (fun k => by rw [Option.bind_some, if_pos (by omega)]) (ev_bind ix ?_))
          refine ev_if_pos (show (1 : Int) < (L.length : Int) by omega) (ev_bind n1 ?_)
          refine Ev.congr (fun k => by rw [wrap_id (x := idxT (rdOf ByteArray.empty L 2) monthsB + 1) (by omega) (by omega)]) (ev_bind (impl_DaysOf_ev _ _ _) ?_)
          generalize daysP (numP (bytesOf (rdOf ByteArray.empty L 3))) (idxT (rdOf ByteArray.empty L 2) monthsB + 1) (numA (rdOf ByteArray.empty L 1)) = days at key db
          by_cases hd : days < 0
          · rw [readDateP_none (fun sec _ e => by have := (key sec e).2; omega)]
            exact ev_if_pos hd (Ev.now _)
          · refine ev_if_neg hd ?_
            refine ev_if_pos (show (0 : Nat) ≤ 2 by decide) ?_
            refine ev_if_pos (show (2 : Int) ≤ ((rdOf ByteArray.empty L 4).size : Int) by omega) (ev_bind c1 ?_)
            refine ev_if_pos (show (3 : Nat) ≤ 5 by decide) ?_
            refine ev_if_pos (show (5 : Int) ≤ ((rdOf ByteArray.empty L 4).size : Int) by omega) (ev_bind c2 ?_)
            refine ev_if_pos (show (6 : Int) ≤ ((rdOf ByteArray.empty L 4).size : Int) by omega) (ev_bind c3 ?_)
            generalize numP (bytesOf ((rdOf ByteArray.empty L 4).extract 0 2)) = v1 at key b1
            generalize numP (bytesOf ((rdOf ByteArray.empty L 4).extract 3 5)) = v2 at key b2
            generalize numP (bytesOf ((rdOf ByteArray.empty L 4).extract 6 (rdOf ByteArray.empty L 4).size)) = v3 at key b3
            refine Ev.congr (fun k => by rw [wrap_id (x := days * 86400) (by omega) (by omega), wrap_id (x := 3600 * v1) (by omega) (by omega), wrap_id (x := days * 86400 + 3600 * v1) (by omega) (by omega), wrap_id (x := 60 * v2) (by omega) (by omega), wrap_id (x := days * 86400 + 3600 * v1 + 60 * v2) (by omega) (by omega), wrap_id (x := days * 86400 + 3600 * v1 + 60 * v2 + v3) (by omega) (by omega)]) (ev_bind (impl_ShowDate_ev (days * 86400 + 3600 * v1 + 60 * v2 + v3) (by omega) (by omega)) ?_)
            by_cases he : dateB (days * 86400 + 3600 * v1 + 60 * v2 + v3) = s
            · exact ev_if_pos (by rw [he]) (ev_eq (Ev.now _) (readDateP_some (by omega) he).symm)
            · rw [readDateP_none (fun sec _ e => he (by rw [← (key sec e).1]; exact e))]
              exact ev_if_neg (by rw [toList_eq_iff]; exact he) (Ev.now _)
        · rw [readDateP_none (fun sec e1 e2 => by
            obtain ⟨a, b, c⟩ := hok sec e1 e2
            rw [c] at hP
            subst hP
            exact h4 (by
              obtain ⟨a1, a2, _⟩ := ymd_spec (days := sec / 86400) (by omega) (by omega)
              show ((strOfNums (decP _)).size : Int) = 4
              rw [decP_year (by omega) (by omega), strOfNums_size]
              rfl))]
          refine Ev.congr (fun k => by rw [show (((rdOf ByteArray.empty L 3).size : Int) != 4) = true from bne_iff_ne.2 h4]) (hbad L)
      · rw [readDateP_none (fun sec e1 e2 => by
          obtain ⟨a, b, c⟩ := hok sec e1 e2
          rw [c] at hP
          subst hP
          exact h8 (by
            show ((strOfNums (twoL _ ++ [58] ++ twoL _ ++ [58] ++ twoL _)).size : Int) = 8
            rw [strOfNums_size]
            rfl))]
        exact ev_if_neg h8 (hbad L)
    · rw [readDateP_none (fun sec e1 e2 => h29 (by omega))]
      exact ev_if_neg h29 (hbad L)
  · rw [readDateP_none (fun sec e1 e2 => by
      obtain ⟨a, b, c⟩ := hok sec e1 e2
      rw [c] at hP
      subst hP
      exact h6 rfl)]
    exact ev_if_neg h6 (hbad L)

end Go.Proofs.YtjldfmkpdkhnnaaGreatDoor.Pure

namespace Go.Proofs.YtjldfmkpdkhnnaaGreatDoor.Pure
set_option linter.unusedVariables false
set_option linter.unusedSimpArgs false
open Go.RowKit Go.Proofs.YtjldfmkpdkhnnaaGreatDoor.QL Go.Proofs.YtjldfmkpdkhnnaaGreatDoorW.PrintWords Go.Proofs.YtjldfmkpdkhnnaaGreatDoorW.PrintLast Go.Proofs.YtjldfmkpdkhnnaaGreatDoorW.PrintMore Go.Proofs.YtjldfmkpdkhnnaaGreatDoor.Aux Go.Proofs.YtjldfmkpdkhnnaaGreatDoor.Dom Go.Proofs.YtjldfmkpdkhnnaaGreatDoor.Ext
theorem impl_DateOf_ev (l : List S99) (nm : ByteArray) (hl : l.length ≤ 1048576) (hz : ¬ szF 1048576 (l.map fun x => (x.f0, x.f1)) < 0) : Ev (fun k => impl_DateOf.f k l nm) (dateOfP (l.map fun x => (x.f0, x.f1)) nm) := by
  have q1 := szF_sum nm (by omega) hz
  have j1 := joinG_size nm _ (by omega) hz
  have rdt := impl_ReadDate_ev (joinG nm (l.map fun x => (x.f0, x.f1))) (by omega)
  refine Ev.congr (fun k => by unfold impl_DateOf.f; rfl) (ev_bind (impl_FieldGet_ev l nm hl (by omega)) ?_)
  unfold dateOfP
  exact ev_ite (fun h1 => ev_bind rdt (Ev.now _)) (fun h1 => Ev.now _)

end Go.Proofs.YtjldfmkpdkhnnaaGreatDoor.Pure

namespace Go.Proofs.YtjldfmkpdkhnnaaGreatDoor.Pure
set_option linter.unusedVariables false
set_option linter.unusedSimpArgs false
open Go.RowKit Go.Proofs.YtjldfmkpdkhnnaaGreatDoor.QL Go.Proofs.YtjldfmkpdkhnnaaGreatDoorW.PrintWords Go.Proofs.YtjldfmkpdkhnnaaGreatDoorW.PrintLast Go.Proofs.YtjldfmkpdkhnnaaGreatDoorW.PrintMore Go.Proofs.YtjldfmkpdkhnnaaGreatDoor.Aux Go.Proofs.YtjldfmkpdkhnnaaGreatDoor.Dom Go.Proofs.YtjldfmkpdkhnnaaGreatDoor.Ext
theorem impl_Seconds_l0 (s : ByteArray) (hs : s.size ≤ 8388608) (hA : (bytesOf s).all digC = true ∨ True) : ∀ (d : Nat) (i : Int), 0 ≤ i → (s.size : Int) - i = d → ((bytesOf s).take i.toNat).all digC = true →
    Ev (fun k => impl_Seconds.l0 k s (s.size : Int) i) (secP (bytesOf s))
  | 0, i, h0, hd, ht => by
    have hl := bytesOf_length s
    have hall : (bytesOf s).all digC = true := by rw [List.take_of_length_le (by omega)] at ht; exact ht
    refine Ev.step (fun k => by simp only [impl_Seconds.l0]; rw [if_neg (by omega)]) ?_
    unfold secP
    rw [if_pos hall, satV_eq _ 0 (by omega) (by omega) hall, ← valL_cut]
    by_cases he : s.toList = ([] : List UInt8)
    · have hb : bytesOf s = [] := by have := (toList_lit _ _).1 he; simpa using this
      refine ev_if_pos he (ev_eq (Ev.now _) ?_)
      rw [hb]
      rfl
    · have hne : 0 < (bytesOf s).length := by
        rcases Nat.eq_zero_or_pos (bytesOf s).length with h | h
        · exact absurd ((toList_lit _ _).2 (by rw [List.eq_nil_of_length_eq_zero h]; rfl)) he
        · exact h
      rw [decide_eq_true hne]
      have htl : strings_TrimLeft.f s (⟨#[48]⟩ : ByteArray) = some (strOfNums (cutC 48 (bytesOf s))) := by unfold strings_TrimLeft.f; rw [if_pos rfl]
      refine ev_if_neg he (ev_bind (ev_some fun _ => htl) ?_)
      have hca := cutC_all hall
      by_cases h10 : 10 < (cutC 48 (bytesOf s)).length
      · refine ev_if_pos (by rw [strOfNums_size]; omega) (ev_eq (Ev.now _) ?_)
        rw [mn_ge (cutC_big hall h10)]
      · refine ev_if_neg (by rw [strOfNums_size]; omega) (ev_if_pos (by rw [strOfNums_size]; omega) ?_)
        exact ev_bind (ev_some fun _ => strconv_Atoi_dec _ hca (by omega)) (Ev.now _)
  | d + 1, i, h0, hd, ht => by
    have hlt : i < (s.size : Int) := by omega
    have hl := bytesOf_length s
    have hmem : bt s i ∈ bytesOf s := List.mem_of_mem_drop (i := i.toNat) (by rw [drop_bt h0 hlt]; exact List.mem_cons_self)
    by_cases h1 : digC (bt s i) = true
    · have h2 := digC_iff.1 h1
      refine Ev.step (f := fun k => impl_Seconds.l0 k s (s.size : Int) (i + 1)) (fun k => ?_) (impl_Seconds_l0 s hs hA d (i + 1) (by omega) (by omega) ?_)
      · simp only [impl_Seconds.l0]
        rw [if_pos hlt, if_pos h0, if_pos hlt, if_neg (by omega), if_neg (by omega), wrap_id (by omega) (by omega)]
      · have e : (bytesOf s).take (i + 1).toNat = (bytesOf s).take i.toNat ++ [bt s i] := by
          have h3 := List.take_append_drop i.toNat ((bytesOf s).take (i + 1).toNat)
          rw [List.take_take, Nat.min_eq_left (by omega), List.drop_take, drop_bt h0 hlt, show (i + 1).toNat - i.toNat = 1 by omega] at h3
          rw [← h3]
          rfl
        rw [e, List.all_append, ht, List.all_cons, h1]
        rfl
    · have hn : ¬ (bytesOf s).all digC = true := fun h => h1 (List.all_eq_true.1 h _ hmem)
      unfold secP
      rw [if_neg hn]
      rw [digC_iff] at h1
      refine ev_last fun k => ?_
      simp only [impl_Seconds.l0]
      rw [if_pos hlt, if_pos h0, if_pos hlt]
      by_cases h3 : bt s i < 48
      · rw [if_pos h3]
      · rw [if_neg h3, if_pos (by omega)]
theorem impl_Seconds_ev (s : ByteArray) (hs : s.size ≤ 8388608) : Ev (fun k => impl_Seconds.f k s) (secP (bytesOf s)) :=
  impl_Seconds_l0 s hs (.inr trivial) s.size 0 (by omega) (by omega) (by simp)

end Go.Proofs.YtjldfmkpdkhnnaaGreatDoor.Pure

namespace Go.Proofs.YtjldfmkpdkhnnaaGreatDoor.Pure
set_option linter.unusedVariables false
set_option linter.unusedSimpArgs false
open Go.RowKit Go.Proofs.YtjldfmkpdkhnnaaGreatDoor.QL Go.Proofs.YtjldfmkpdkhnnaaGreatDoorW.PrintWords Go.Proofs.YtjldfmkpdkhnnaaGreatDoorW.PrintLast Go.Proofs.YtjldfmkpdkhnnaaGreatDoorW.PrintMore Go.Proofs.YtjldfmkpdkhnnaaGreatDoor.Aux Go.Proofs.YtjldfmkpdkhnnaaGreatDoor.Dom Go.Proofs.YtjldfmkpdkhnnaaGreatDoor.Ext
theorem impl_within_eq (a : Int) : impl_within.f a = some (withinP a) := rfl
theorem impl_later_eq {a b : Int} (h : a ≤ 9223372036854775807) : impl_later.f a b = some (laterP a b) := by
  unfold impl_later.f laterP
  split
  · rfl
  · split
    · rfl
    · rw [wrap_id (by omega) (by omega)]
theorem impl_SatAdd_eq (a b : Int) : impl_SatAdd.f a b = some (satP a b) := by
  have h1 := withinP_bd a
  have h2 := withinP_bd b
  unfold impl_SatAdd.f satP
  rw [impl_within_eq, impl_within_eq, Option.bind_some, Option.bind_some, wrap_id (by omega) (by omega)]

end Go.Proofs.YtjldfmkpdkhnnaaGreatDoor.Pure

namespace Go.Proofs.YtjldfmkpdkhnnaaGreatDoor.Pure
set_option linter.unusedVariables false
set_option linter.unusedSimpArgs false
open Go.RowKit Go.Proofs.YtjldfmkpdkhnnaaGreatDoor.QL Go.Proofs.YtjldfmkpdkhnnaaGreatDoorW.PrintWords Go.Proofs.YtjldfmkpdkhnnaaGreatDoorW.PrintLast Go.Proofs.YtjldfmkpdkhnnaaGreatDoorW.PrintMore Go.Proofs.YtjldfmkpdkhnnaaGreatDoor.Aux Go.Proofs.YtjldfmkpdkhnnaaGreatDoor.Dom Go.Proofs.YtjldfmkpdkhnnaaGreatDoor.Ext
theorem impl_FirstAge_ev (st : Int) (l : List S99) (b : ByteArray) (asked came : Int) (hl : l.length ≤ 1048576) (hz : ¬ szF 1048576 (l.map fun x => (x.f0, x.f1)) < 0) (hc : came ≤ 9223372036854775807) : Ev (fun k => impl_FirstAge.f k st l b asked came) (firstAgeP (l.map fun x => (x.f0, x.f1)) asked came) := by
  have q1 := szF_sum nmAge (by omega) hz
  have j1 := joinG_size nmAge _ (by omega) hz
  have sc := impl_Seconds_ev (joinG nmAge (l.map fun x => (x.f0, x.f1))) (by omega)
  have fin : ∀ ap : Int, Ev (fun k => impl_FirstAge.j0 k asked came ap st l b) (mx ap (satP (secP (bytesOf (joinG nmAge (l.map fun x => (x.f0, x.f1))))).1 (laterP came asked))) := by
    intro ap
    refine Ev.step (fun k => by simp only [impl_FirstAge.j0]; rfl) (ev_bind (impl_FieldGet_ev l nmAge hl (by omega)) (ev_bind sc ?_))
    exact ev_some fun k => by rw [impl_later_eq hc, Option.bind_some, impl_SatAdd_eq, Option.bind_some]
  refine Ev.congr (fun k => by unfold impl_FirstAge.f; rfl) (ev_bind (impl_DateOf_ev l nmDate hl hz) ?_)
  unfold firstAgeP appP
  by_cases h : (dateOfP (l.map fun x => (x.f0, x.f1)) nmDate).2 = true
  · rw [if_pos h]
    exact ev_if_pos h (Ev.congr (fun k => by rw [impl_later_eq hc, Option.bind_some, impl_within_eq, Option.bind_some]) (fin _))
  · rw [if_neg h]
    exact ev_if_neg h (fin 0)

end Go.Proofs.YtjldfmkpdkhnnaaGreatDoor.Pure

namespace Go.Proofs.YtjldfmkpdkhnnaaGreatDoor.Pure
set_option linter.unusedVariables false
set_option linter.unusedSimpArgs false
open Go.RowKit Go.Proofs.YtjldfmkpdkhnnaaGreatDoor.QL Go.Proofs.YtjldfmkpdkhnnaaGreatDoorW.PrintWords Go.Proofs.YtjldfmkpdkhnnaaGreatDoorW.PrintLast Go.Proofs.YtjldfmkpdkhnnaaGreatDoorW.PrintMore Go.Proofs.YtjldfmkpdkhnnaaGreatDoor.Aux Go.Proofs.YtjldfmkpdkhnnaaGreatDoor.Dom Go.Proofs.YtjldfmkpdkhnnaaGreatDoor.Ext
theorem impl_AgeAt_ev (st : Int) (l : List S99) (b : ByteArray) (asked came now : Int) (hl : l.length ≤ 1048576) (hz : ¬ szF 1048576 (l.map fun x => (x.f0, x.f1)) < 0) (hc : came ≤ 9223372036854775807) (hn : now ≤ 9223372036854775807) : Ev (fun k => impl_AgeAt.f k st l b asked came now) (ageAtP (l.map fun x => (x.f0, x.f1)) asked came now) := by
  refine Ev.congr (fun k => by unfold impl_AgeAt.f; rfl) (ev_bind (impl_FirstAge_ev st l b asked came hl hz hc) ?_)
  exact ev_some fun k => by rw [impl_later_eq hn, Option.bind_some, impl_SatAdd_eq, Option.bind_some]; rfl

end Go.Proofs.YtjldfmkpdkhnnaaGreatDoor.Pure

namespace Go.Proofs.YtjldfmkpdkhnnaaGreatDoor.Pure
set_option linter.unusedVariables false
set_option linter.unusedSimpArgs false
open Go.RowKit Go.Proofs.YtjldfmkpdkhnnaaGreatDoor.QL Go.Proofs.YtjldfmkpdkhnnaaGreatDoorW.PrintWords Go.Proofs.YtjldfmkpdkhnnaaGreatDoorW.PrintLast Go.Proofs.YtjldfmkpdkhnnaaGreatDoorW.PrintMore Go.Proofs.YtjldfmkpdkhnnaaGreatDoor.Aux Go.Proofs.YtjldfmkpdkhnnaaGreatDoor.Dom Go.Proofs.YtjldfmkpdkhnnaaGreatDoor.Ext

theorem FnExactAgeAt : laws_FnExactAgeAt.Pure := by
  intro st l b asked came now hst hl hlm hb hasked hcame hnow
  have wasked := wf_i64 hasked
  have wcame := wf_i64 hcame
  have wnow := wf_i64 hnow
  refine Ev.rounds (Ev.congr (fun k => by unfold laws_FnExactAgeAt.f; rfl) ?_)
  refine ev_bind (laws_szResponse_ev st l b 1048576 hl hlm hb (by omega) (by omega)) ?_
  by_cases h1 : szR 1048576 (l.map fun x => (x.f0, x.f1)) b < 0
  · exact ev_if_pos h1 (Ev.now _)
  refine ev_if_neg h1 ?_
  have q0 := szR_szF h1
  have q1 := szR_len h1
  rw [List.length_map] at q1
  have eX : ((l.map fun x => (⟨x.f0, x.f1⟩ : S99)).map fun x => (x.f0, x.f1)) = l.map fun x => (x.f0, x.f1) := by rw [List.map_map]; rfl
  have t1 := laws_toResponse_ev st l b (by omega)
  have sp := spec_AgeAt_ev st (l.map fun x => (⟨x.f0, x.f1⟩ : S99)) b asked came now (by rw [List.length_map]; omega) (by rw [eX]; exact q0.1) wasked.1 wcame.1 wcame.2 wnow.2
  have im := impl_AgeAt_ev st (l.map fun x => (⟨x.f0, x.f1⟩ : S99)) b asked came now (by rw [List.length_map]; omega) (by rw [eX]; exact q0.1) wcame.2 wnow.2
  have e1 := laws_eqResponse_ev st (l.map fun x => (⟨x.f0, x.f1⟩ : S99)) b (by rw [List.length_map]; omega)
  exact ev_bind t1 (ev_bind sp (ev_bind t1 (ev_bind im (ev_if_pos rfl (ev_bind t1 (ev_bind e1 (ev_if_pos rfl (Ev.now _))))))))

end Go.Proofs.YtjldfmkpdkhnnaaGreatDoor.Pure

namespace Go.Proofs.YtjldfmkpdkhnnaaGreatDoor.Open
set_option linter.unusedVariables false
set_option linter.unusedSimpArgs false
open Go.ChangeShapes Go.WideShapes Go.Deep
section
variable {H : Type} {enc : TypeId × Value → H} {P : Program} {w : World} {base : Nat} {spare : Nat → Bool} {held : Bool}
theorem open_slice_fields {t e : TypeId} {fs : Array Field} {fuel : Nat} {cs : List Value} {x : DataW H × List MemPlace} (ht : P.underlying t = some (.slice e)) (he : P.underlying e = some (.struct fs))
    (hone : oneCellFields P fs = true) (hC : P.cellsOf e = fs.size) (h : DataW.trod enc P w base spare held fuel t cs = some x) :
    (cs = [.slice none 0 0] ∧ x = (.nil, [])) ∨
    ∃ (a : Addr) (len cap m : Nat) (D : Nat → DataW H) (Pl : Nat → List MemPlace), cs = [.slice (some a) len cap] ∧ base ≤ a.block ∧ len ≤ cap ∧ cap ≤ maxLen ∧ m = (if spare a.block then cap else len) ∧
      x = (.slice ((List.range len).map D) ((List.range (m - len)).map fun j => D (len + j)), MemPlace.row a (m * fs.size) ++ (List.range m).flatMap Pl) ∧
      ∀ i, i < m → ∃ (ys : List (DataW H × List MemPlace)) (n : Nat), D i = .agg (ys.map (·.1)) ∧ Pl i = ys.flatMap (·.2) ∧ ys.length = fs.size ∧
        ∀ (j : Nat) (f : Field), fs[j]? = some f → ∃ (v : Value) (y : DataW H × List MemPlace), w.cell? (a.add (i * fs.size + j)) = some v ∧ ys[j]? = some y ∧ DataW.trod enc P w base spare held n f.type [v] = some y := by
  rcases open_slice ht h with h0 | ⟨a, len, cap, m, n, D, Pl, hcs, hb, hl, hm, hmm, hx, hi⟩
  · exact .inl h0
  · refine .inr ⟨a, len, cap, m, D, Pl, hcs, hb, hl, hm, hmm, by rw [hC] at hx; exact hx, fun i him => ?_⟩
    obtain ⟨cs', hc, ht'⟩ := hi i him
    rw [hC] at hc
    obtain ⟨ys, n', hn', hy, hlen, hyl, hf⟩ := DataW.trod_struct he ht'
    obtain ⟨_, hcl, hat⟩ := World.cells?_some hc
    simp only [Prod.mk.injEq] at hy
    refine ⟨ys, n', hy.1, hy.2, hyl, fun j f hj => ?_⟩
    obtain ⟨ho, hk⟩ := hone_of hone j f hj
    have hjl : j < fs.size := (Array.getElem?_eq_some_iff.1 hj).1
    have hcell := hat j hjl
    have hv : cs'[j]? = some (cs'[j]'(by omega)) := List.getElem?_eq_getElem (by omega)
    have h1 := hf j f hj
    rw [ho, hk] at h1
    have hone' : (cs'.drop j).take 1 = [cs'[j]'(by omega)] := by
      rw [List.drop_eq_getElem_cons (by omega)]
      rfl
    rw [hone'] at h1
    have hys : ys[j]? = some (ys[j]'(by omega)) := List.getElem?_eq_getElem (by omega)
    refine ⟨_, _, ?_, hys, h1.trans hys⟩
    rw [← Go.Deep.add_add, hcell, hv]
end

theorem list_of {α : Type} (Q : Nat → α → Prop) : ∀ n : Nat, (∀ i, i < n → ∃ p, Q i p) → ∃ l : List α, l.length = n ∧ ∀ (j : Nat) p, l[j]? = some p → Q j p
  | 0, _ => ⟨[], rfl, fun j p h => by simp at h⟩
  | n + 1, h => by
    obtain ⟨l, hl, hq⟩ := list_of Q n (fun i hi => h i (by omega))
    obtain ⟨p, hp⟩ := h n (by omega)
    refine ⟨l ++ [p], by simp [hl], fun j q hj => ?_⟩
    rcases Nat.lt_or_ge j l.length with hlt | hge
    · rw [List.getElem?_append_left hlt] at hj
      exact hq j q hj
    · have hjl : j < (l ++ [p]).length := (List.getElem?_eq_some_iff.1 hj).1
      rw [List.length_append, List.length_singleton] at hjl
      have : j = l.length := by omega
      subst this
      have : p = q := by simpa using hj
      subst this
      rw [hl]; exact hp

def PairsAt (w : World) (A : Option Addr) (l : List (ByteArray × ByteArray)) : Prop :=
  l.length ≤ maxLen ∧ (∀ p ∈ l, p.1.size ≤ maxLen ∧ p.2.size ≤ maxLen) ∧
  (0 < l.length → ∃ ad, A = some ad ∧ ∀ (j : Nat) p, l[j]? = some p → w.cell? (ad.add (j * 2 + 0)) = some (.string p.1) ∧ w.cell? (ad.add (j * 2 + 1)) = some (.string p.2))

section
variable {H : Type} {enc : TypeId × Value → H} {P : Program} {w : World} {base : Nat} {spare : Nat → Bool} {held : Bool}
theorem open_pairs {t e : TypeId} {f0 f1 : Field} {fuel : Nat} {v : Value} {x : DataW H × List MemPlace} (ht : P.underlying t = some (.slice e)) (he : P.underlying e = some (.struct #[f0, f1]))
    (hone : oneCellFields P #[f0, f1] = true) (hC : P.cellsOf e = 2) (h0 : P.underlying f0.type = some .string) (h1 : P.underlying f1.type = some .string) (h : DataW.trod enc P w base spare held fuel t [v] = some x) :
    ∃ (A : Option Addr) (cap : Nat) (l : List (ByteArray × ByteArray)), v = .slice A l.length cap ∧ l.length ≤ cap ∧ PairsAt w A l := by
  rcases open_slice_fields ht he hone hC h with ⟨hcs, _⟩ | ⟨a, len, cap, m, D, Pl, hcs, _, hl, hm, hmm, _, hi⟩
  · obtain rfl : v = .slice none 0 0 := by simpa using hcs
    exact ⟨none, 0, [], rfl, Nat.le_refl _, by simp [maxLen], fun p hp => (by cases hp), fun hp => absurd hp (by simp)⟩
  · obtain rfl : v = .slice (some a) len cap := by simpa using hcs
    have hlm : len ≤ m := by
      rw [hmm]
      split
      · exact hl
      · exact Nat.le_refl _
    obtain ⟨l, hll, hq⟩ := list_of (fun i (p : ByteArray × ByteArray) => (w.cell? (a.add (i * 2 + 0)) = some (.string p.1) ∧ w.cell? (a.add (i * 2 + 1)) = some (.string p.2)) ∧ p.1.size ≤ maxLen ∧ p.2.size ≤ maxLen) len (fun i him => by
      obtain ⟨ys, n, _, _, _, hf⟩ := hi i (by omega)
      obtain ⟨v0, y0, hc0, _, ht0⟩ := hf 0 f0 rfl
      obtain ⟨v1, y1, hc1, _, ht1⟩ := hf 1 f1 rfl
      obtain ⟨s0, e0, _, z0⟩ := DataW.trod_string h0 ht0
      obtain ⟨s1, e1, _, z1⟩ := DataW.trod_string h1 ht1
      obtain rfl : v0 = .string s0 := by simpa using e0
      obtain rfl : v1 = .string s1 := by simpa using e1
      exact ⟨(s0, s1), ⟨hc0, hc1⟩, z0, z1⟩)
    subst hll
    refine ⟨some a, cap, l, rfl, hl, by omega, fun p hp => ?_, fun _ => ⟨a, rfl, fun j p hj => (hq j p hj).1⟩⟩
    obtain ⟨j, hj⟩ := List.getElem?_of_mem hp
    exact (hq j p hj).2
end

theorem returnsInHanded_door {H : Type} {enc : TypeId × Value → H} {a : Assume} {C : Checked} {os : Os} {f : FuncId} {fn : Func} {s : ChangeSpec} {conds : List PathCond} {apart fresh handsOn again : Bool} {X : World → Array Value → Prop}
    (hX : ∀ (w w' : World) (args : Array Value), w.heap = w'.heap → X w args → X w' args)
    (own : ownKnob C.prog.godebug = none) (started : os.Started) (noInit : C.prog.inits.idxOf? f = none) (hfn : C.prog.funcs[f]? = some fn)
    (witness : ∃ (w : World) (tape : Tape) (i : Input), w.os = os ∧ (w.forCall tape i).Shaped C.prog ∧ i.vars = [] ∧ Input.okWide C.prog (w.forCall tape i) .any w.heap.size f i ∧
      ((s.pre enc C.prog fn conds apart (w.forCall tape i).memory i.args ∧ X (w.forCall tape i).memory i.args) ∧ sizedMet enc C.prog fn (OpenSpec.ofChange s) apart (w.forCall tape i).memory i.args) ∧ a.holds C.prog (lone (Frame.enter C.prog f i.args .normal) [] (w.forCall tape i)))
    (contract : ∀ (W : World) (base : Nat) (args : Array Value) (ds gs : List (DataW H)) (before : List MemPlace),
      (∀ (j : Nat) t v, fn.params[j]? = some t → args[j]? = some v → Value.okWide C.prog W .any base t v) →
      DataW.Whole enc C.prog fn.params.toList s.vars apart W args.toList ds gs before →
      conds.all (PathCond.test C.prog ⟨fn.params.toList, ds, s.plain.varTypes C.prog, gs⟩) = true →
      (DataW.weightsEach C.prog (fn.params.toList ++ s.plain.varTypes C.prog) (ds ++ gs)).all (· ≤ reachBytes) = true → X W args →
      W.ShapedOpen C.prog →
      a.holds C.prog (lone (Frame.enter C.prog f args .normal) [] W) →
      Calls C.prog f args W fun e W' => ∃ v, e = .returned v ∧ s.post enc C.prog fn apart fresh handsOn again W args v W') :
    ReturnsInHanded a C os f .any (fun w args => (s.pre enc C.prog fn conds apart w args ∧ X w args) ∧ sizedMet enc C.prog fn (OpenSpec.ofChange s) apart w args) (s.post enc C.prog fn apart fresh handsOn again) := by
  refine returnsInHanded_of_calls own started noInit witness ?_
  intro w tape i _ hsh _ hok hpre hholds
  obtain ⟨_, _, _, fn', hfn', _, _, _, _, hval⟩ := hok
  have e : fn' = fn := Option.some.inj (hfn'.symm.trans hfn)
  subst e
  obtain ⟨⟨⟨ds, gs, before, hw, hc⟩, hx⟩, hz⟩ := hpre
  have hw' := DataW.Whole.of_heap (w' := w.forCall tape i) (by rfl) hw
  refine (contract (w.forCall tape i) w.heap.size i.args ds gs before hval hw' hc (hz.weights hw) (hX _ _ _ (by rfl) hx) hsh hholds).mono fun e W' ⟨v, he, hp⟩ => ?_
  subst he
  exact ChangeSpec.post_blind hp

end Go.Proofs.YtjldfmkpdkhnnaaGreatDoor.Open

namespace Go.Proofs.YtjldfmkpdkhnnaaGreatDoorW.PrintWords
open Go.ChangeShapes Go.WideShapes
end Go.Proofs.YtjldfmkpdkhnnaaGreatDoorW.PrintWords

