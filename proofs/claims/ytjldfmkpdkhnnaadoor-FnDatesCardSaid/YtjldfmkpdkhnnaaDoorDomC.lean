/- Dom's third text: the reading of dates. No program in sight. -/
import Derived.Test.YtjldfmkpdkhnnaaDoorDomB
namespace Go.Proofs.YtjldfmkpdkhnnaaDoor.Dom
set_option linter.unusedVariables false
set_option linter.unusedSimpArgs false
open Go.RowKit Go.Proofs.YtjldfmkpdkhnnaaDoorW.PrintWords Go.Proofs.YtjldfmkpdkhnnaaDoorW.PrintLast Go.Proofs.YtjldfmkpdkhnnaaDoorW.PrintMore Go.Proofs.YtjldfmkpdkhnnaaDoor.Aux

/-- The number of digits; -1 of other texts. -/
def numP (l : List Int) : Int := if l.all digC = true then valL 0 l else -1
theorem valL_bd : ∀ (l : List Int) (n : Int) (j : Nat), l.all digC = true → 0 ≤ n → n < 10 ^ j → 0 ≤ valL n l ∧ valL n l < 10 ^ (j + l.length)
  | [], n, j, _, h0, h1 => ⟨h0, by simpa [valL] using h1⟩
  | c :: r, n, j, h, h0, h1 => by
    rw [List.all_cons, Bool.and_eq_true, digC_iff] at h
    have := valL_bd r (n * 10 + (c - 48)) (j + 1) h.2 (by omega) (by rw [Int.pow_succ]; omega)
    rw [valL, List.length_cons, show j + (r.length + 1) = j + 1 + r.length by omega]
    exact this
theorem numP_bd (l : List Int) (k : Nat) (hk : l.length ≤ k) : -1 ≤ numP l ∧ numP l < 10 ^ k := by
  have hp : (0 : Int) < 10 ^ k := Int.pow_pos (by decide)
  unfold numP
  split
  · rename_i h
    have h1 := valL_bd l 0 0 h (by omega) (by decide)
    have h2 : (10 : Int) ^ (0 + l.length) ≤ 10 ^ k := pow_le 10 (by decide) (by omega)
    omega
  · omega
theorem numP_two {n : Int} (h0 : 0 ≤ n) (h1 : n ≤ 99) : numP (twoL n) = n := by
  unfold numP twoL
  rw [if_pos (by simp only [List.all_cons, List.all_nil, Bool.and_true, Bool.and_eq_true, digC_iff]; omega)]
  simp only [valL]
  omega
theorem numP_year {y : Int} (h0 : 1000 ≤ y) (h1 : y ≤ 9999) : numP (decP y) = y := by
  rw [decP_year h0 h1]
  unfold numP
  rw [if_pos (by simp only [List.all_cons, List.all_nil, Bool.and_true, Bool.and_eq_true, digC_iff]; omega)]
  simp only [valL]
  omega
/-- The last month (from m on) whose name a text is; acc where it is none. -/
def monF (w : List Int) : Nat → Int → Int → Int
  | 0, _, acc => acc
  | d + 1, m, acc => monF w d (m + 1) (if w = monL m then m else acc)
def monI (w : List Int) : Int := monF w 12 1 0
theorem monI_monL {m : Int} (h1 : 1 ≤ m) (h2 : m ≤ 12) : monI (monL m) = m := by
  have hm : m = 1 ∨ m = 2 ∨ m = 3 ∨ m = 4 ∨ m = 5 ∨ m = 6 ∨ m = 7 ∨ m = 8 ∨ m = 9 ∨ m = 10 ∨ m = 11 ∨ m = 12 := by omega
  rcases hm with rfl | rfl | rfl | rfl | rfl | rfl | rfl | rfl | rfl | rfl | rfl | rfl <;> decide
/-- A piece of a text. -/
def sub (l : List Int) (a n : Nat) : List Int := (l.drop a).take n
def daysI (l : List Int) : Int := daysP (numP (sub l 12 4)) (monI (sub l 8 3)) (numP (sub l 5 2))
/-- The second that the pieces of a text of 29 bytes tell. -/
def readL (l : List Int) : Int := daysI l * 86400 + numP (sub l 17 2) * 3600 + numP (sub l 20 2) * 60 + numP (sub l 23 2)
def readDateP (s : ByteArray) : Int × Bool := if s.size = 29 ∧ dateB (readL (bytesOf s)) = s then (readL (bytesOf s), true) else (0, false)
/-- The date that fields tell. -/
def dateOfP (l : List (ByteArray × ByteArray)) (nm : ByteArray) : Int × Bool := if (!(getL nm l).isEmpty) = true then readDateP (joinG nm l) else (0, false)
theorem three {l : List Int} (h : l.length = 3) : ∃ a b c, l = [a, b, c] := by
  match l, h with
  | [a, b, c], _ => exact ⟨a, b, c, rfl⟩
theorem dateL_pieces {sec : Int} (h0 : 0 ≤ sec) (h1 : sec ≤ 2000000000) :
    sub (dateL sec) 12 4 = decP (ymd (sec / 86400)).1 ∧ sub (dateL sec) 8 3 = monL (ymd (sec / 86400)).2.1 ∧ sub (dateL sec) 5 2 = twoL (ymd (sec / 86400)).2.2 ∧
    sub (dateL sec) 17 2 = twoL (sec / 3600 % 24) ∧ sub (dateL sec) 20 2 = twoL (sec / 60 % 60) ∧ sub (dateL sec) 23 2 = twoL (sec % 60) := by
  obtain ⟨a1, a2, _⟩ := ymd_spec (days := sec / 86400) (by omega) (by omega)
  obtain ⟨w1, w2, w3, ew⟩ := three (weekL_length (sec / 86400 % 7))
  obtain ⟨m1, m2, m3, em⟩ := three (monL_length (ymd (sec / 86400)).2.1)
  unfold dateL sub
  rw [decP_year (by omega) (by omega), ew, em]
  exact ⟨rfl, rfl, rfl, rfl, rfl, rfl⟩
theorem date_facts {sec : Int} (h0 : 0 ≤ sec) (h1 : sec ≤ 2000000000) : daysI (dateL sec) = sec / 86400 ∧ numP (sub (dateL sec) 17 2) = sec / 3600 % 24 ∧ numP (sub (dateL sec) 20 2) = sec / 60 % 60 ∧ numP (sub (dateL sec) 23 2) = sec % 60 := by
  obtain ⟨e1, e2, e3, e4, e5, e6⟩ := dateL_pieces h0 h1
  obtain ⟨a1, a2, a3, a4, a5, a6, _⟩ := ymd_spec (days := sec / 86400) (by omega) (by omega)
  have hb := monthD_bd (ymd (sec / 86400)).1 (ymd (sec / 86400)).2.1
  unfold daysI
  rw [e1, e2, e3, e4, e5, e6, numP_year (by omega) (by omega), monI_monL a3 a4, numP_two (n := (ymd (sec / 86400)).2.2) (by omega) (by omega), daysP_ymd (by omega) (by omega)]
  exact ⟨rfl, numP_two (by omega) (by omega), numP_two (by omega) (by omega), numP_two (by omega) (by omega)⟩
theorem readL_dateL {sec : Int} (h0 : 0 ≤ sec) (h1 : sec ≤ 2000000000) : readL (dateL sec) = sec := by
  obtain ⟨e1, e2, e3, e4⟩ := date_facts h0 h1
  unfold readL
  rw [e1, e2, e3, e4]
  omega
theorem weekL_ge (d : Int) : ∀ c ∈ weekL d, 65 ≤ c ∧ c < 256 := by
  intro c hc
  unfold weekL at hc
  (repeat' split at hc) <;> simp at hc <;> omega
theorem monL_ge (d : Int) : ∀ c ∈ monL d, 65 ≤ c ∧ c < 256 := by
  intro c hc
  unfold monL at hc
  (repeat' split at hc) <;> simp at hc <;> omega
theorem dateL_range {sec : Int} (h0 : 0 ≤ sec) (h1 : sec ≤ 2000000000) : ∀ c ∈ dateL sec, 0 ≤ c ∧ c < 256 := by
  obtain ⟨a1, a2, _⟩ := ymd_spec (days := sec / 86400) (by omega) (by omega)
  have hw : ∀ d : Int, ∀ c ∈ weekL d, 0 ≤ c ∧ c < 256 := fun d c hc => by have := weekL_ge d c hc; omega
  have hm : ∀ d : Int, ∀ c ∈ monL d, 0 ≤ c ∧ c < 256 := fun d c hc => by have := monL_ge d c hc; omega
  have ht : ∀ n : Int, ∀ c ∈ twoL n, 0 ≤ c ∧ c < 256 := by
    intro n c hc
    simp [twoL] at hc
    omega
  intro c hc
  unfold dateL at hc
  rw [decP_year (by omega) (by omega)] at hc
  simp only [List.mem_append] at hc
  rcases hc with ((((((((((((hc | hc) | hc) | hc) | hc) | hc) | hc) | hc) | hc) | hc) | hc) | hc) | hc) | hc
  · exact hw _ c hc
  · simp at hc; omega
  · exact ht _ c hc
  · simp at hc; omega
  · exact hm _ c hc
  · simp at hc; omega
  · simp at hc; omega
  · simp at hc; omega
  · exact ht _ c hc
  · simp at hc; omega
  · exact ht _ c hc
  · simp at hc; omega
  · exact ht _ c hc
  · simp at hc; omega
/-- A text of 29 bytes that is some second's date. -/
theorem dateB_some {s : ByteArray} {sec : Int} (hs : s.size = 29) (h : dateB sec = s) : 0 ≤ sec ∧ sec ≤ 2000000000 ∧ bytesOf s = dateL sec ∧ readL (bytesOf s) = sec := by
  unfold dateB at h
  split at h
  · rename_i hr
    have e : bytesOf s = dateL sec := by rw [← h]; exact bytesOf_strOfNums (dateL_range hr.1 hr.2)
    exact ⟨hr.1, hr.2, e, by rw [e]; exact readL_dateL hr.1 hr.2⟩
  · subst h
    cases hs
theorem readDateP_some {s : ByteArray} {sec : Int} (hs : s.size = 29) (h : dateB sec = s) : readDateP s = (sec, true) := by
  obtain ⟨_, _, _, e⟩ := dateB_some hs h
  unfold readDateP
  rw [e, if_pos ⟨hs, h⟩]
theorem readDateP_none {s : ByteArray} (h : ∀ sec, s.size = 29 → dateB sec = s → False) : readDateP s = (0, false) := by
  unfold readDateP
  exact if_neg fun hh => h _ hh.1 hh.2
theorem daysP_bd (y m d : Int) : -1 ≤ daysP y m d ∧ daysP y m d ≤ 30000 := by
  unfold daysP
  split
  · rename_i h
    have h1 := yearsD_bd (y - 1970).toNat 1970
    have h2 := monthsD_bd y (m - 1).toNat 1
    have h3 := monthD_bd y m
    omega
  · omega
theorem splC_date {sec : Int} (h0 : 0 ≤ sec) (h1 : sec ≤ 2000000000) : splC 32 (dateL sec) = [weekL (sec / 86400 % 7) ++ [44], twoL (ymd (sec / 86400)).2.2, monL (ymd (sec / 86400)).2.1, decP (ymd (sec / 86400)).1, twoL (sec / 3600 % 24) ++ [58] ++ twoL (sec / 60 % 60) ++ [58] ++ twoL (sec % 60), [71, 77, 84]] := by
  obtain ⟨a1, a2, a3, a4, a5, a6, _⟩ := ymd_spec (days := sec / 86400) (by omega) (by omega)
  have hb := monthD_bd (ymd (sec / 86400)).1 (ymd (sec / 86400)).2.1
  have hw : ∀ d : Int, (32 : Int) ∉ weekL d := fun d hc => by have := weekL_ge d 32 hc; omega
  have hm : ∀ d : Int, (32 : Int) ∉ monL d := fun d hc => by have := monL_ge d 32 hc; omega
  have ht : ∀ n : Int, (32 : Int) ∉ twoL n := by
    intro n hc
    simp [twoL] at hc
    omega
  have hy : (32 : Int) ∉ decP (ymd (sec / 86400)).1 := by
    rw [decP_year (by omega) (by omega)]
    intro hc
    simp at hc
    omega
  unfold dateL
  generalize decP (ymd (sec / 86400)).1 = Y at hy
  have hmm := hm (ymd (sec / 86400)).2.1
  generalize monL (ymd (sec / 86400)).2.1 = M at hmm
  have hww := hw (sec / 86400 % 7)
  generalize weekL (sec / 86400 % 7) = W at hww
  have hdd := ht (ymd (sec / 86400)).2.2
  generalize twoL (ymd (sec / 86400)).2.2 = D at hdd
  have hh := ht (sec / 3600 % 24)
  generalize twoL (sec / 3600 % 24) = H at hh
  have hi := ht (sec / 60 % 60)
  generalize twoL (sec / 60 % 60) = I at hi
  have hx := ht (sec % 60)
  generalize twoL (sec % 60) = X at hx
  have e : W ++ [44, 32] ++ D ++ [32] ++ M ++ [32] ++ Y ++ [32] ++ H ++ [58] ++ I ++ [58] ++ X ++ [32, 71, 77, 84] = (W ++ [44]) ++ 32 :: (D ++ 32 :: (M ++ 32 :: (Y ++ 32 :: ((H ++ [58] ++ I ++ [58] ++ X) ++ 32 :: [71, 77, 84])))) := by simp
  rw [e, splC_hit _ (by simp [hww]), splC_hit _ hdd, splC_hit _ hmm, splC_hit _ hy, splC_hit _ (by simp [hh, hi, hx]), splC_miss (by simp)]
/-- Where a text stands first in a list of texts; -1 where it does not. -/
def idxT (w : ByteArray) : List ByteArray → Int
  | [] => -1
  | x :: r => if w = x then 0 else if idxT w r = -1 then -1 else idxT w r + 1
theorem idxT_bd (w : ByteArray) : ∀ l, -1 ≤ idxT w l ∧ idxT w l < l.length
  | [] => by simp [idxT]
  | x :: r => by
    have := idxT_bd w r
    rw [idxT, List.length_cons]
    split
    · omega
    · split <;> omega
def monthsB : List ByteArray := [(⟨#[74, 97, 110]⟩ : ByteArray), (⟨#[70, 101, 98]⟩ : ByteArray), (⟨#[77, 97, 114]⟩ : ByteArray), (⟨#[65, 112, 114]⟩ : ByteArray), (⟨#[77, 97, 121]⟩ : ByteArray), (⟨#[74, 117, 110]⟩ : ByteArray), (⟨#[74, 117, 108]⟩ : ByteArray), (⟨#[65, 117, 103]⟩ : ByteArray), (⟨#[83, 101, 112]⟩ : ByteArray), (⟨#[79, 99, 116]⟩ : ByteArray), (⟨#[78, 111, 118]⟩ : ByteArray), (⟨#[68, 101, 99]⟩ : ByteArray)]
theorem idxT_month {m : Int} (h1 : 1 ≤ m) (h2 : m ≤ 12) : idxT (strOfNums (monL m)) monthsB = m - 1 := by
  have hm : m = 1 ∨ m = 2 ∨ m = 3 ∨ m = 4 ∨ m = 5 ∨ m = 6 ∨ m = 7 ∨ m = 8 ∨ m = 9 ∨ m = 10 ∨ m = 11 ∨ m = 12 := by omega
  rcases hm with rfl | rfl | rfl | rfl | rfl | rfl | rfl | rfl | rfl | rfl | rfl | rfl <;> decide
end Go.Proofs.YtjldfmkpdkhnnaaDoor.Dom
