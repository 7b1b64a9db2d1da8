/- Dom's second text: fields without a name, hex numerals, pieces, dates, directives. No program in sight. -/
import Derived.Test.YtngillbkfblpoaaDom
namespace Go.Proofs.Ytngillbkfblpoaa.Dom
set_option linter.unusedVariables false
set_option linter.unusedSimpArgs false
open Go.RowKit Go.Proofs.YtngillbkfblpoaaW.PrintWords Go.Proofs.YtngillbkfblpoaaW.PrintLast Go.Proofs.YtngillbkfblpoaaW.PrintMore Go.Proofs.Ytngillbkfblpoaa.Aux

/-- Fields without those of a name. -/
def dropL (nm : ByteArray) : List (ByteArray × ByteArray) → List (ByteArray × ByteArray)
  | [] => []
  | p :: r => if p.1 = nm then dropL nm r else p :: dropL nm r
theorem dropL_length (nm : ByteArray) : ∀ l, (dropL nm l).length ≤ l.length
  | [] => by simp [dropL]
  | p :: r => by
    have := dropL_length nm r
    rw [dropL]
    split
    · simp; omega
    · simp; omega
theorem dropL_none (nm : ByteArray) : ∀ {l}, getL nm l = [] → dropL nm l = l
  | [], _ => rfl
  | p :: r, h => by
    rw [getL] at h
    split at h
    · cases h
    · rename_i hp
      rw [dropL, if_neg hp, dropL_none nm h]
theorem hex_bt {c : Int} (h0 : 0 ≤ c) (h1 : c < 16) : bt (⟨#[48, 49, 50, 51, 52, 53, 54, 55, 56, 57, 97, 98, 99, 100, 101, 102]⟩ : ByteArray) c = hxn c := by
  have : c = 0 ∨ c = 1 ∨ c = 2 ∨ c = 3 ∨ c = 4 ∨ c = 5 ∨ c = 6 ∨ c = 7 ∨ c = 8 ∨ c = 9 ∨ c = 10 ∨ c = 11 ∨ c = 12 ∨ c = 13 ∨ c = 14 ∨ c = 15 := by omega
  rcases this with rfl | rfl | rfl | rfl | rfl | rfl | rfl | rfl | rfl | rfl | rfl | rfl | rfl | rfl | rfl | rfl <;> rfl
theorem hexNB_size (n : Int) : (hexNB n).size ≤ 16 := by
  unfold hexNB
  rw [strOfNums_size]
  have := hexA_length 16 n []
  simpa using this
/-- The lines of a body's pieces. -/
def chkL (sz : Nat) : Nat → ByteArray → ByteArray
  | 0, _ => ⟨#[]⟩
  | d + 1, s => if s.size = 0 then ⟨#[]⟩ else hexNB (min sz s.size : Nat) ++ ⟨#[13, 10]⟩ ++ s.extract 0 (min sz s.size) ++ ⟨#[13, 10]⟩ ++ chkL sz d (s.extract (min sz s.size) s.size)
/-- A body in pieces. -/
def chkB (s : ByteArray) (sz : Int) : ByteArray := if sz < 1 then ⟨#[]⟩ else chkL sz.toNat (s.size + 1) s ++ ⟨#[48, 13, 10, 13, 10]⟩
/-! ### Directives -/
/-- A value without quotes around it. -/
def unqB (s : ByteArray) : ByteArray := if 2 ≤ s.size ∧ bt s 0 = 34 ∧ bt s ((s.size : Int) - 1) = 34 then s.extract 1 (s.size - 1) else s
/-- The directive that a part tells; none where its name is no token. -/
def dirOf (p : ByteArray) : Option (ByteArray × ByteArray) := if tokB (cutL (bytesOf p) [61]).1 = true then some (lowB (strOfNums (cutL (bytesOf p) [61]).1), unqB (strOfNums (cutL (bytesOf p) [61]).2.1)) else none
def dirL : List ByteArray → List (ByteArray × ByteArray)
  | [] => []
  | p :: r => match dirOf p with
    | some d => d :: dirL r
    | none => dirL r
theorem dirL_length : ∀ l : List ByteArray, (dirL l).length ≤ l.length
  | [] => by simp [dirL]
  | p :: r => by
    have ih := dirL_length r
    rw [dirL]
    split
    · simp; omega
    · simp; omega
def nmCC : ByteArray := ⟨#[99, 97, 99, 104, 101, 45, 99, 111, 110, 116, 114, 111, 108]⟩
def ccB (l : List (ByteArray × ByteArray)) : ByteArray := joinB ⟨#[44, 32]⟩ (getL nmCC l)
/-- The directives of fields. -/
def dirsL (l : List (ByteArray × ByteArray)) : List (ByteArray × ByteArray) := dirL (splL (ccB l) 0 (comL (bytesOf (ccB l)) false false 0 ++ [((ccB l).size : Int)]))
theorem cutL_fst (l sep : List Int) : ∃ n : Nat, (cutL l sep).1 = l.take n := by
  unfold cutL
  split
  · exact ⟨_, rfl⟩
  · exact ⟨l.length, by simp⟩
theorem cutL_snd (l sep : List Int) : ∃ n : Nat, (cutL l sep).2.1 = l.drop n := by
  unfold cutL
  split
  · exact ⟨_, rfl⟩
  · exact ⟨l.length, by simp⟩
theorem take_range {s : ByteArray} (n : Nat) : bytesOf (strOfNums ((bytesOf s).take n)) = (bytesOf s).take n := bytesOf_strOfNums fun _ h => bytesOf_range (List.mem_of_mem_take h)
theorem drop_range {s : ByteArray} (n : Nat) : bytesOf (strOfNums ((bytesOf s).drop n)) = (bytesOf s).drop n := bytesOf_strOfNums fun _ h => bytesOf_range (List.mem_of_mem_drop h)
theorem cut_name (s : ByteArray) (sep : List Int) : bytesOf (strOfNums (cutL (bytesOf s) sep).1) = (cutL (bytesOf s) sep).1 ∧ (strOfNums (cutL (bytesOf s) sep).1).size ≤ s.size := by
  obtain ⟨n, e⟩ := cutL_fst (bytesOf s) sep
  rw [e, strOfNums_size, List.length_take, bytesOf_length]
  exact ⟨take_range n, by omega⟩
theorem cut_rest (s : ByteArray) (sep : List Int) : (strOfNums (cutL (bytesOf s) sep).2.1).size ≤ s.size := by
  obtain ⟨n, e⟩ := cutL_snd (bytesOf s) sep
  rw [e, strOfNums_size, List.length_drop, bytesOf_length]
  omega
theorem splL_size (s : ByteArray) : ∀ (l : List Int) (a : Int), ∀ p ∈ splL s a l, p.size ≤ s.size
  | [], a, p, hp => by simp [splL] at hp
  | b :: r, a, p, hp => by
    have hx : (trimB (s.extract a.toNat b.toNat)).size ≤ s.size := by
      have h1 := trim_range (s := s.extract a.toNat b.toNat)
      rw [ByteArray.size_extract] at h1
      omega
    rw [splL] at hp
    split at hp
    · exact splL_size s r _ p hp
    · rcases List.mem_cons.1 hp with rfl | hp
      · exact hx
      · exact splL_size s r _ p hp
theorem ccB_size (l : List (ByteArray × ByteArray)) {n : Int} (h0 : 0 ≤ n) (h : ¬ szF n l < 0) : ((ccB l).size : Int) ≤ 3 * n := by
  have h1 := szF_sum nmCC h0 h
  have h2 := joinB_size ⟨#[44, 32]⟩ (getL nmCC l)
  unfold ccB
  have e : ((getL nmCC l).map fun v => v.size + (⟨#[44, 32]⟩ : ByteArray).size) = (getL nmCC l).map fun v => v.size + 2 := rfl
  rw [e] at h2
  omega
/-! ### Bodies -/
/-- What FieldGet tells, as a text. -/
def joinG (nm : ByteArray) (l : List (ByteArray × ByteArray)) : ByteArray := joinB ⟨#[44, 32]⟩ (getL nm l)
theorem joinG_size (nm : ByteArray) (l : List (ByteArray × ByteArray)) {n : Int} (h0 : 0 ≤ n) (h : ¬ szF n l < 0) : ((joinG nm l).size : Int) ≤ 3 * n := by
  have h1 := szF_sum nm h0 h
  have h2 := joinB_size ⟨#[44, 32]⟩ (getL nm l)
  unfold joinG
  have e : ((getL nm l).map fun v => v.size + (⟨#[44, 32]⟩ : ByteArray).size) = (getL nm l).map fun v => v.size + 2 := rfl
  rw [e] at h2
  omega
def chunkedW : ByteArray := ⟨#[99, 104, 117, 110, 107, 101, 100]⟩
/-- What a length says of a body. -/
def lenP (q : Int × Bool) (s : ByteArray) : ByteArray × Int × Int := if q.2 = true ∧ q.1 ≤ 60 then (if (s.size : Int) < q.1 then (⟨#[]⟩, 0, 1) else (s.extract 0 q.1.toNat, q.1, 0)) else (⟨#[]⟩, 0, 2)
def bodyP (l : List (ByteArray × ByteArray)) (s : ByteArray) (c : Bool) : ByteArray × Int × Int :=
  if (!(getL nmTE l).isEmpty) = true then (if lowB (joinG nmTE l) = chunkedW then (if (!(getL nmCL l).isEmpty) = true then (⟨#[]⟩, 0, 2) else unchunkP (bytesOf s)) else (⟨#[]⟩, 0, 2))
  else if (!(getL nmCL l).isEmpty) = true then lenP (secP (bytesOf (joinG nmCL l))) s
  else if c = true then (if (s.size : Int) > 60 then (⟨#[]⟩, 0, 2) else (s, (s.size : Int), 0)) else (⟨#[]⟩, 0, 0)
theorem satV_bd : ∀ (l : List Int) (n : Int), 0 ≤ n → n ≤ 2147483648 → l.all digC = true → 0 ≤ satV n l ∧ satV n l ≤ 2147483648
  | [], n, h0, h1, _ => ⟨h0, h1⟩
  | c :: r, n, h0, h1, h => by
    rw [List.all_cons, Bool.and_eq_true, digC_iff] at h
    rw [satV]
    exact satV_bd r _ (by unfold mn; split <;> omega) (by unfold mn; split <;> omega) h.2
theorem secP_bd (l : List Int) : 0 ≤ (secP l).1 ∧ (secP l).1 ≤ 2147483648 := by
  unfold secP
  split
  · rename_i h
    exact satV_bd l 0 (by omega) (by omega) h
  · simp
theorem chunked_lit (b : ByteArray) : b.toList = ([99, 104, 117, 110, 107, 101, 100] : List UInt8) ↔ b = chunkedW := by
  rw [toList_lit]
  constructor
  · intro h
    exact bytesOf_inj (h.trans rfl)
  · rintro rfl
    rfl
theorem unqB_size (s : ByteArray) : (unqB s).size ≤ s.size := by
  unfold unqB
  split
  · rw [ByteArray.size_extract]; omega
  · exact Nat.le_refl _
theorem dirL_size (M : Nat) : ∀ (l : List ByteArray), (∀ p ∈ l, p.size ≤ M) → ∀ d ∈ dirL l, d.1.size ≤ M ∧ d.2.size ≤ M
  | [], _, d, hd => by simp [dirL] at hd
  | p :: r, h, d, hd => by
    have ih := dirL_size M r (fun q hq => h q (List.mem_cons_of_mem _ hq)) d
    rw [dirL] at hd
    have hp := h p List.mem_cons_self
    obtain ⟨_, n2⟩ := cut_name p [61]
    have n3 := cut_rest p [61]
    split at hd
    · rename_i x hx
      rcases List.mem_cons.1 hd with rfl | hd
      · unfold dirOf at hx
        split at hx
        · have hx := Option.some.inj hx
          subst hx
          have h3 := unqB_size (strOfNums (cutL (bytesOf p) [61]).2.1)
          have h4 := low_range (s := strOfNums (cutL (bytesOf p) [61]).1)
          simp only
          omega
        · cases hx
      · exact ih hd
    · exact ih hd
theorem dirsL_size (l : List (ByteArray × ByteArray)) {n : Int} (h0 : 0 ≤ n) (h : ¬ szF n l < 0) : ∀ d ∈ dirsL l, (d.1.size : Int) ≤ 3 * n ∧ (d.2.size : Int) ≤ 3 * n := by
  have h1 := ccB_size l h0 h
  intro d hd
  have := dirL_size (ccB l).size _ (splL_size (ccB l) _ 0) d hd
  omega
theorem dirsL_length (l : List (ByteArray × ByteArray)) {n : Int} (h0 : 0 ≤ n) (h : ¬ szF n l < 0) : ((dirsL l).length : Int) ≤ 3 * n + 1 := by
  have h1 := ccB_size l h0 h
  have h2 := dirL_length (splL (ccB l) 0 (comL (bytesOf (ccB l)) false false 0 ++ [((ccB l).size : Int)]))
  have h3 := splL_length (ccB l) (comL (bytesOf (ccB l)) false false 0 ++ [((ccB l).size : Int)]) 0
  have h4 := comL_length (bytesOf (ccB l)) false false 0
  rw [bytesOf_length] at h4
  rw [List.length_append, List.length_singleton] at h3
  unfold dirsL
  omega
/-- The seconds of the directives of a name. -/
def ccL (nm : ByteArray) : List (ByteArray × ByteArray) → List Int
  | [] => []
  | p :: r => if p.1 = nm then (secP (bytesOf p.2)).1 :: ccL nm r else ccL nm r
/-- The least of them, and whether there is any. -/
def finS : Int → Bool → List Int → Int × Bool
  | n, b, [] => if b = true then (n, true) else (0, false)
  | n, _, v :: r => finS (mn n v) true r
def finI : Int → Bool → List Int → Int × Bool
  | n, b, [] => (n, b)
  | n, b, v :: r => finI (if b = true then (if v < n then v else n) else v) true r
theorem finI_true : ∀ (V : List Int) (n : Int), finI n true V = finS n true V
  | [], n => by simp [finI, finS]
  | v :: r, n => by
    rw [finI, finS, if_pos rfl, finI_true r]
    have e : (if v < n then v else n) = mn n v := rfl
    rw [e]
theorem finI_eq (V : List Int) (h : ∀ v ∈ V, v ≤ 2147483648) : finI 0 false V = finS 2147483648 false V := by
  cases V with
  | nil => rfl
  | cons v r =>
    rw [finI, finS, if_neg (by decide), finI_true, mn_ge (h v List.mem_cons_self)]
theorem ccL_bd (nm : ByteArray) : ∀ (l : List (ByteArray × ByteArray)), ∀ v ∈ ccL nm l, 0 ≤ v ∧ v ≤ 2147483648
  | [], v, hv => by simp [ccL] at hv
  | p :: r, v, hv => by
    rw [ccL] at hv
    split at hv
    · rcases List.mem_cons.1 hv with rfl | hv
      · exact secP_bd _
      · exact ccL_bd nm r v hv
    · exact ccL_bd nm r v hv
/-- The least number of seconds that directives of a name tell. -/
def ccSec (l : List (ByteArray × ByteArray)) (nm : ByteArray) : Int × Bool := finS 2147483648 false (ccL nm (dirsL l))
/-! ### Dates -/
/-- The year, and what is left of the days. -/
def ydL : Nat → Int → Int → Int × Int
  | 0, y, d => (y, d)
  | f + 1, y, d => if yearD y ≤ d then ydL f (y + 1) (d - yearD y) else (y, d)
def mdL (y : Int) : Nat → Int → Int → Int × Int
  | 0, m, d => (m, d)
  | f + 1, m, d => if monthD y m ≤ d then mdL y f (m + 1) (d - monthD y m) else (m, d)
theorem ydL_spec : ∀ (f : Nat) (y d : Int), 0 ≤ d → d < 365 * f → ∃ j : Nat, ydL f y d = (y + j, d - yearsD j y) ∧ 0 ≤ d - yearsD j y ∧ d - yearsD j y < yearD (y + j) ∧ j < f
  | 0, y, d, h0, h => by omega
  | f + 1, y, d, h0, h => by
    have hb := yearD_bd y
    rw [ydL]
    by_cases hd : yearD y ≤ d
    · rw [if_pos hd]
      obtain ⟨j, e, a1, a2, a3⟩ := ydL_spec f (y + 1) (d - yearD y) (by omega) (by omega)
      refine ⟨j + 1, ?_, ?_, ?_, by omega⟩
      · rw [e, yearsD]
        refine Prod.ext ?_ ?_
        · simp; omega
        · simp; omega
      · rw [yearsD]; omega
      · rw [yearsD, show y + ((j + 1 : Nat) : Int) = y + 1 + j by omega]; omega
    · rw [if_neg hd]
      exact ⟨0, by simp [yearsD], by simp [yearsD]; omega, by simp [yearsD]; omega, by omega⟩
def yearW (y : Int) : Int := monthsD y 12 1
theorem yearW_eq (y : Int) : yearW y = yearD y := by
  unfold yearW yearD
  simp only [monthsD, monthD]
  cases leapB y <;> simp
theorem monthsD_succ (y : Int) : ∀ (d : Nat) (m : Int), monthsD y (d + 1) m = monthsD y d m + monthD y (m + d)
  | 0, m => by simp [monthsD]
  | d + 1, m => by
    rw [monthsD, monthsD_succ y d (m + 1), monthsD, show m + 1 + (d : Int) = m + ((d + 1 : Nat) : Int) by omega]
    omega
theorem yearsD_succ : ∀ (d : Nat) (y : Int), yearsD (d + 1) y = yearsD d y + yearD (y + d)
  | 0, y => by simp [yearsD]
  | d + 1, y => by
    rw [yearsD, yearsD_succ d (y + 1), yearsD, show y + 1 + (d : Int) = y + ((d + 1 : Nat) : Int) by omega]
    omega
theorem mdL_spec (y : Int) : ∀ (f : Nat) (m d : Int), 0 ≤ d → d < monthsD y f m → ∃ j : Nat, mdL y f m d = (m + j, d - monthsD y j m) ∧ 0 ≤ d - monthsD y j m ∧ d - monthsD y j m < monthD y (m + j) ∧ j < f
  | 0, m, d, h0, h => by simp [monthsD] at h; omega
  | f + 1, m, d, h0, h => by
    rw [monthsD] at h
    rw [mdL]
    by_cases hd : monthD y m ≤ d
    · rw [if_pos hd]
      obtain ⟨j, e, a1, a2, a3⟩ := mdL_spec y f (m + 1) (d - monthD y m) (by omega) (by omega)
      refine ⟨j + 1, ?_, ?_, ?_, by omega⟩
      · rw [e, monthsD]
        refine Prod.ext ?_ ?_
        · simp; omega
        · simp; omega
      · rw [monthsD]; omega
      · rw [monthsD, show m + ((j + 1 : Nat) : Int) = m + 1 + j by omega]; omega
    · rw [if_neg hd]
      exact ⟨0, by simp [monthsD], by simp [monthsD]; omega, by simp [monthsD]; omega, by omega⟩
/-- Two digits. -/
def twoL (n : Int) : List Int := [48 + n / 10 % 10, 48 + n % 10]
def weekL (d : Int) : List Int := if d = 0 then [84, 104, 117] else if d = 1 then [70, 114, 105] else if d = 2 then [83, 97, 116] else if d = 3 then [83, 117, 110] else if d = 4 then [77, 111, 110] else if d = 5 then [84, 117, 101] else [87, 101, 100]
def monL (m : Int) : List Int := if m = 1 then [74, 97, 110] else if m = 2 then [70, 101, 98] else if m = 3 then [77, 97, 114] else if m = 4 then [65, 112, 114] else if m = 5 then [77, 97, 121] else if m = 6 then [74, 117, 110] else if m = 7 then [74, 117, 108] else if m = 8 then [65, 117, 103] else if m = 9 then [83, 101, 112] else if m = 10 then [79, 99, 116] else if m = 11 then [78, 111, 118] else [68, 101, 99]
/-- The day of a second: year, month, day. -/
def ymd (days : Int) : Int × Int × Int := ((ydL 70 1970 days).1, (mdL (ydL 70 1970 days).1 12 1 (ydL 70 1970 days).2).1, (mdL (ydL 70 1970 days).1 12 1 (ydL 70 1970 days).2).2 + 1)
theorem ymd_spec {days : Int} (h0 : 0 ≤ days) (h1 : days ≤ 23148) : 1970 ≤ (ymd days).1 ∧ (ymd days).1 ≤ 2033 ∧ 1 ≤ (ymd days).2.1 ∧ (ymd days).2.1 ≤ 12 ∧ 1 ≤ (ymd days).2.2 ∧ (ymd days).2.2 ≤ monthD (ymd days).1 (ymd days).2.1 ∧
    days = (ymd days).2.2 - 1 + yearsD ((ymd days).1 - 1970).toNat 1970 + monthsD (ymd days).1 ((ymd days).2.1 - 1).toNat 1 := by
  obtain ⟨j, e, a1, a2, a3⟩ := ydL_spec 70 1970 days h0 (by omega)
  have hy := yearW_eq (1970 + j)
  unfold yearW at hy
  obtain ⟨i, e2, b1, b2, b3⟩ := mdL_spec (1970 + j) 12 1 (days - yearsD j 1970) a1 (by omega)
  have hj := yearsD_bd j 1970
  have ej : (1970 + (j : Int) - 1970).toNat = j := by omega
  have ei : (1 + (i : Int) - 1).toNat = i := by omega
  simp only [ymd, e, e2, ej, ei]
  omega
theorem daysP_ymd {days : Int} (h0 : 0 ≤ days) (h1 : days ≤ 23148) : daysP (ymd days).1 (ymd days).2.1 (ymd days).2.2 = days := by
  obtain ⟨a1, a2, a3, a4, a5, a6, a7⟩ := ymd_spec h0 h1
  unfold daysP
  rw [if_pos ⟨⟨a1, by omega⟩, ⟨a3, a4⟩, a5, a6⟩]
  exact a7.symm
/-- The text of a date's second. -/
def dateL (sec : Int) : List Int :=
  weekL (sec / 86400 % 7) ++ [44, 32] ++ twoL (ymd (sec / 86400)).2.2 ++ [32] ++ monL (ymd (sec / 86400)).2.1 ++ [32] ++ decP (ymd (sec / 86400)).1 ++ [32] ++ twoL (sec / 3600 % 24) ++ [58] ++ twoL (sec / 60 % 60) ++ [58] ++ twoL (sec % 60) ++ [32, 71, 77, 84]
def dateB (sec : Int) : ByteArray := if 0 ≤ sec ∧ sec ≤ 2000000000 then strOfNums (dateL sec) else ⟨#[]⟩
theorem decP_100 {n : Int} (h0 : 0 ≤ n) (h1 : n ≤ 99) : decP (100 + n) = 49 :: twoL n := by
  unfold decP twoL
  rw [if_neg (by omega), if_neg (by omega)]
  have e3 : (100 + n) / 10 / 10 / 10 = 0 := by omega
  have e2 : (100 + n) / 10 / 10 % 10 = 1 := by omega
  have e1 : (100 + n) / 10 % 10 = n / 10 % 10 := by omega
  have e0 : (100 + n) % 10 = n % 10 := by omega
  rw [show (20 : Nat) = 16 + 1 + 1 + 1 + 1 from rfl, decL, if_pos (by omega), decL, if_pos (by omega), decL, if_pos (by omega), decL, if_neg (by omega), e2, e1, e0]
  rfl
theorem decP_year {y : Int} (h0 : 1000 ≤ y) (h1 : y ≤ 9999) : decP y = [48 + y / 1000, 48 + y / 100 % 10, 48 + y / 10 % 10, 48 + y % 10] := by
  unfold decP
  rw [if_neg (by omega), if_neg (by omega)]
  have e3 : y / 10 / 10 / 10 % 10 = y / 1000 := by omega
  have e2 : y / 10 / 10 % 10 = y / 100 % 10 := by omega
  rw [show (20 : Nat) = 15 + 1 + 1 + 1 + 1 + 1 from rfl, decL, if_pos (by omega), decL, if_pos (by omega), decL, if_pos (by omega), decL, if_pos (by omega), decL, if_neg (by omega), e3, e2]
theorem weekL_length (d : Int) : (weekL d).length = 3 := by unfold weekL; (repeat' split) <;> rfl
theorem monL_length (m : Int) : (monL m).length = 3 := by unfold monL; (repeat' split) <;> rfl
theorem dateL_length {sec : Int} (h0 : 0 ≤ sec) (h1 : sec ≤ 2000000000) : (dateL sec).length = 29 := by
  obtain ⟨a1, a2, _⟩ := ymd_spec (days := sec / 86400) (by omega) (by omega)
  unfold dateL
  rw [decP_year (by omega) (by omega)]
  simp only [List.length_append, weekL_length, monL_length, twoL, List.length_cons, List.length_nil]
theorem months_rd {m : Int} (h1 : 1 ≤ m) (h2 : m ≤ 12) : rdOf ByteArray.empty ([(⟨#[74, 97, 110]⟩ : ByteArray), (⟨#[70, 101, 98]⟩ : ByteArray), (⟨#[77, 97, 114]⟩ : ByteArray), (⟨#[65, 112, 114]⟩ : ByteArray), (⟨#[77, 97, 121]⟩ : ByteArray), (⟨#[74, 117, 110]⟩ : ByteArray), (⟨#[74, 117, 108]⟩ : ByteArray), (⟨#[65, 117, 103]⟩ : ByteArray), (⟨#[83, 101, 112]⟩ : ByteArray), (⟨#[79, 99, 116]⟩ : ByteArray), (⟨#[78, 111, 118]⟩ : ByteArray), (⟨#[68, 101, 99]⟩ : ByteArray)] : List ByteArray) (m - 1) = strOfNums (monL m) := by
  have hm : m = 1 ∨ m = 2 ∨ m = 3 ∨ m = 4 ∨ m = 5 ∨ m = 6 ∨ m = 7 ∨ m = 8 ∨ m = 9 ∨ m = 10 ∨ m = 11 ∨ m = 12 := by omega
  rcases hm with rfl | rfl | rfl | rfl | rfl | rfl | rfl | rfl | rfl | rfl | rfl | rfl <;> rfl
theorem week_rd {d : Int} (h1 : 0 ≤ d) (h2 : d < 7) : rdOf ByteArray.empty ([(⟨#[84, 104, 117]⟩ : ByteArray), (⟨#[70, 114, 105]⟩ : ByteArray), (⟨#[83, 97, 116]⟩ : ByteArray), (⟨#[83, 117, 110]⟩ : ByteArray), (⟨#[77, 111, 110]⟩ : ByteArray), (⟨#[84, 117, 101]⟩ : ByteArray), (⟨#[87, 101, 100]⟩ : ByteArray)] : List ByteArray) d = strOfNums (weekL d) := by
  have hm : d = 0 ∨ d = 1 ∨ d = 2 ∨ d = 3 ∨ d = 4 ∨ d = 5 ∨ d = 6 := by omega
  rcases hm with rfl | rfl | rfl | rfl | rfl | rfl | rfl <;> rfl
theorem ydL_more : ∀ (f j : Nat) (y d : Int), 0 ≤ d → d < 365 * f → ydL (f + j) y d = ydL f y d
  | 0, j, y, d, h0, h => by omega
  | f + 1, j, y, d, h0, h => by
    have hb := yearD_bd y
    rw [show f + 1 + j = (f + j) + 1 by omega, ydL, ydL]
    split
    · exact ydL_more f j (y + 1) _ (by omega) (by omega)
    · rfl

end Go.Proofs.Ytngillbkfblpoaa.Dom
