/- What the program's functions compute, said over lists of numbers; plain lemmas about it. No program in sight. -/
import Derived.Test.YtngillbkfblpoaaBas
namespace Go.Proofs.Ytngillbkfblpoaa.Dom
set_option linter.unusedVariables false
set_option linter.unusedSimpArgs false
open Go.RowKit Go.Proofs.YtngillbkfblpoaaW.PrintWords Go.Proofs.YtngillbkfblpoaaW.PrintLast Go.Proofs.YtngillbkfblpoaaW.PrintMore Go.Proofs.Ytngillbkfblpoaa.Aux

/-- A hex digit. -/
def hxd (c : Int) : Int := bt (⟨#[48, 49, 50, 51, 52, 53, 54, 55, 56, 57, 97, 98, 99, 100, 101, 102]⟩ : ByteArray) c
/-- Two digits a byte. -/
def hexL : List Int → List Int
  | [] => []
  | c :: r => hxd (c / 16) :: hxd (c % 16) :: hexL r
/-- A right target. -/
def uriB (l : List Int) : Bool := l.all (fun c => decide (33 ≤ c ∧ c ≤ 126)) && (decide (1 ≤ (l.length : Int) ∧ (l.length : Int) ≤ 20) && (rd l 0 == 47))
/-- A number of the given bytes, the highest first. -/
def fixR (n : Int) : List Int → Int
  | [] => n
  | c :: r => fixR (n * 256 + c) r
theorem fixR_bound : ∀ (l : List Int) (n : Int) (j : Nat), (∀ c ∈ l, 0 ≤ c ∧ c < 256) → 0 ≤ n → n < 256 ^ j → 0 ≤ fixR n l ∧ fixR n l < 256 ^ (j + l.length)
  | [], n, j, _, h0, h1 => ⟨h0, by simpa [fixR] using h1⟩
  | c :: r, n, j, hl, h0, h1 => by
    have hc := hl c (by simp)
    have h2 : n * 256 + c < 256 ^ (j + 1) := by rw [Int.pow_succ]; omega
    have h := fixR_bound r (n * 256 + c) (j + 1) (fun x hx => hl x (by simp [hx])) (by omega) h2
    have e : j + 1 + r.length = j + (c :: r).length := by simp; omega
    rw [e] at h
    exact h
/-- n in w bytes, the highest first. -/
def fixL (n : Int) : Nat → List Int
  | 0 => []
  | w + 1 => fixL (n / 256) w ++ [n % 256]
/-- Seven bits to a byte, the lowest first. -/
def varL : Nat → Int → List Int
  | 0, n => [n]
  | f + 1, n => if n > 127 then (128 + n % 128) :: varL f (n / 128) else [n]
/-- Var's text. -/
def varT (n : Int) : List Int := if 0 ≤ n ∧ n ≤ 562949953421311 then varL 7 n else []
/-- Fixed's text. -/
def fixT (n w : Int) : List Int := if (1 ≤ w ∧ w ≤ 7) ∧ 0 ≤ n ∧ n < 256 ^ w.toNat then fixL n w.toNat else []

/-! ### ReadVar -/
/-- The number of seven bits a byte, the lowest first. -/
def lowV : List Int → Int
  | [] => 0
  | c :: r => c % 128 + 128 * lowV r
theorem lowV_nonneg : ∀ l : List Int, 0 ≤ lowV l
  | [] => by simp [lowV]
  | c :: r => by have := lowV_nonneg r; simp only [lowV]; omega
theorem lowV_lt : ∀ l : List Int, lowV l < 128 ^ l.length
  | [] => by simp [lowV]
  | c :: r => by
    have := lowV_lt r
    simp only [lowV, List.length_cons, Int.pow_succ]; omega
theorem lowV_snoc : ∀ (l : List Int) (c : Int), lowV (l ++ [c]) = lowV l + (c % 128) * 128 ^ l.length
  | [], c => by simp [lowV]
  | a :: r, c => by
    have := lowV_snoc r c
    simp only [List.cons_append, lowV, this, List.length_cons, Int.pow_succ, Int.mul_add]
    rw [show (128 : Int) * (c % 128 * 128 ^ r.length) = c % 128 * (128 ^ r.length * 128) by rw [Int.mul_left_comm, Int.mul_comm 128]]
    omega
/-- A text is a Var: all bytes but the last are 128 at least, the last is less, and is 0 only where it is alone. -/
def good0 : List Int → Bool
  | [] => false
  | [c] => decide (c < 128 ∧ c ≠ 0)
  | c :: r => decide (128 ≤ c) && good0 r
def goodV : List Int → Bool
  | [] => false
  | [c] => decide (c < 128)
  | c :: r => decide (128 ≤ c) && good0 r
theorem good0_pos : ∀ l : List Int, (∀ c ∈ l, 0 ≤ c ∧ c < 256) → good0 l = true → 0 < lowV l
  | [], _, h => by simp [good0] at h
  | [c], hl, h => by
    have := hl c (by simp)
    simp [good0] at h
    simp only [lowV]; omega
  | c :: d :: r, hl, h => by
    simp only [good0, Bool.and_eq_true] at h
    have := good0_pos (d :: r) (fun x hx => hl x (by simp [hx])) h.2
    rw [lowV]; omega
theorem good0_iff : ∀ l : List Int, (∀ c ∈ l, 0 ≤ c ∧ c < 256) → (good0 l = true ↔ goodV l = true ∧ 0 < lowV l)
  | [], _ => by simp [good0, goodV]
  | [c], hl => by
    have := hl c (by simp)
    simp [good0, goodV, lowV]; omega
  | c :: d :: r, hl => by
    constructor
    · intro h; exact ⟨by simpa [good0, goodV] using h, good0_pos _ hl h⟩
    · intro h; simpa [good0, goodV] using h.1
theorem varL_good : ∀ (f : Nat) (l : List Int), (∀ c ∈ l, 0 ≤ c ∧ c < 256) → l.length ≤ f + 1 → l ≠ [] → (varL f (lowV l) = l ↔ goodV l = true)
  | f, [], _, _, hn => absurd rfl hn
  | f, [c], hl, _, _ => by
    have hc := hl c (by simp)
    have e : lowV [c] = c % 128 := by simp [lowV]
    rw [e]
    cases f with
    | zero => simp [varL, goodV]; omega
    | succ f =>
      rw [varL, if_neg (by omega)]
      simp [goodV]; omega
  | 0, c :: d :: r, _, hlen, _ => by simp at hlen
  | f + 1, c :: d :: r, hl, hlen, _ => by
    have hc := hl c (by simp)
    have hl' : ∀ x ∈ d :: r, 0 ≤ x ∧ x < 256 := fun x hx => hl x (by simp [hx])
    have ih := varL_good f (d :: r) hl' (by simp at hlen ⊢; omega) (by simp)
    have hg := good0_iff (d :: r) hl'
    have hnn := lowV_nonneg (d :: r)
    have e : lowV (c :: d :: r) = c % 128 + 128 * lowV (d :: r) := rfl
    rw [e]
    by_cases h : 0 < lowV (d :: r)
    · rw [varL, if_pos (by omega)]
      have e1 : (c % 128 + 128 * lowV (d :: r)) % 128 = c % 128 := by omega
      have e2 : (c % 128 + 128 * lowV (d :: r)) / 128 = lowV (d :: r) := by omega
      rw [e1, e2, List.cons_eq_cons, ih]
      have : goodV (c :: d :: r) = (decide (128 ≤ c) && good0 (d :: r)) := rfl
      rw [this, Bool.and_eq_true, hg]
      simp only [decide_eq_true_eq]
      constructor
      · rintro ⟨h1, h2⟩; exact ⟨by omega, h2, h⟩
      · rintro ⟨h1, h2, _⟩; exact ⟨by omega, h2⟩
    · have h0 : lowV (d :: r) = 0 := by omega
      rw [varL, if_neg (by omega)]
      have : goodV (c :: d :: r) = (decide (128 ≤ c) && good0 (d :: r)) := rfl
      rw [this]
      have hf : good0 (d :: r) = false := by
        cases hgg : good0 (d :: r) with
        | false => rfl
        | true => exact absurd (hg.1 hgg).2 h
      simp [hf]
theorem bad_good : ∀ (j : Nat) (l : List Int), j + 1 < l.length → rd l j ≤ 127 → goodV l = false ∧ good0 l = false
  | 0, c :: d :: r, _, h => by
    have hc : c ≤ 127 := by simpa [rd] using h
    simp only [goodV, good0, decide_eq_false (show ¬ 128 ≤ c by omega), Bool.false_and, and_self]
  | j + 1, c :: d :: r, hl, h => by
    have ih := bad_good j (d :: r) (by simp at hl ⊢; omega) (by simpa [rd] using h)
    have e1 : goodV (c :: d :: r) = (decide (128 ≤ c) && good0 (d :: r)) := rfl
    have e2 : good0 (c :: d :: r) = (decide (128 ≤ c) && good0 (d :: r)) := rfl
    rw [e1, e2, ih.2]; simp
  | 0, [], hl, _ => by simp at hl
  | 0, [c], hl, _ => by simp at hl
  | j + 1, [], hl, _ => by simp at hl
  | j + 1, [c], hl, _ => by simp at hl
theorem bad_goodV (l : List Int) (i j : Nat) (hji : j + 1 < i) (hi : i ≤ l.length) (hx : rd l j ≤ 127) (hg : goodV (l.take i) = true) : False := by
  have h := bad_good j (l.take i) (by rw [List.length_take]; omega) (by
    simp only [rd, Int.toNat_natCast, List.getD_eq_getElem?_getD] at hx ⊢
    rw [List.getElem?_take_of_lt (by omega)]; exact hx)
  rw [h.1] at hg; cases hg
theorem varL_range : ∀ (f : Nat) (n : Int), 0 ≤ n → n < 128 ^ (f + 1) → ∀ c ∈ varL f n, 0 ≤ c ∧ c < 256
  | 0, n, h0, h1, c, hc => by
    simp only [varL, List.mem_singleton] at hc; subst hc; omega
  | f + 1, n, h0, h1, c, hc => by
    rw [varL] at hc
    by_cases h : n > 127
    · rw [if_pos h] at hc
      rcases List.mem_cons.1 hc with rfl | hc
      · omega
      · rw [Int.pow_succ] at h1
        exact varL_range f (n / 128) (by omega) (by omega) c hc
    · rw [if_neg h] at hc
      simp only [List.mem_singleton] at hc; subst hc; omega
theorem varT_range (n : Int) : ∀ c ∈ varT n, 0 ≤ c ∧ c < 256 := by
  unfold varT
  split
  · rename_i h; exact varL_range 7 n h.1 (by omega)
  · intro c hc; cases hc
/-- What ReadVar tells, looking at d more bytes from byte k on. -/
def rvP (l : List Int) : Nat → Nat → Int × Int
  | 0, _ => (0, 0)
  | d + 1, k => if (k : Int) < l.length then (if rd l k > 127 then rvP l d (k + 1) else if rd l k = 0 ∧ k > 0 then (0, 0) else (lowV (l.take (k + 1)), (k : Int) + 1)) else (0, 0)
def readVarP (l : List Int) : Int × Int := rvP l 7 0

/-! ### Fields -/
/-- What is left of a size behind fields' names and values; -1 where it runs out. -/
def szL : Int → List (ByteArray × ByteArray) → Int
  | n, [] => n
  | n, p :: r => if n - (p.1.size : Int) - (p.2.size : Int) < 0 then -1 else szL (n - (p.1.size : Int) - (p.2.size : Int)) r
def szF (n : Int) (l : List (ByteArray × ByteArray)) : Int := if n - (l.length : Int) < 0 then -1 else szL (n - l.length) l
theorem szL_le : ∀ (l : List (ByteArray × ByteArray)) (n : Int), 0 ≤ n → szL n l ≤ n
  | [], n, _ => by simp [szL]
  | p :: r, n, h => by
    rw [szL]
    split
    · omega
    · have := szL_le r (n - (p.1.size : Int) - (p.2.size : Int)) (by omega)
      omega
theorem szF_le (n : Int) (l : List (ByteArray × ByteArray)) (h : 0 ≤ n) : szF n l ≤ n := by
  unfold szF
  split
  · omega
  · have := szL_le l (n - l.length) (by omega)
    omega
theorem szF_len {n : Int} {l : List (ByteArray × ByteArray)} (h : ¬ szF n l < 0) : (l.length : Int) ≤ n := by
  unfold szF at h
  split at h
  · exact absurd (by omega) h
  · omega
theorem szL_mem : ∀ (l : List (ByteArray × ByteArray)) (n : Int), 0 ≤ n → ¬ szL n l < 0 → ∀ p ∈ l, (p.1.size : Int) + p.2.size ≤ n
  | [], _, _, _, p, hp => by cases hp
  | q :: r, n, h0, h, p, hp => by
    rw [szL] at h
    split at h
    · exact absurd (by omega) h
    · rename_i h1
      rcases List.mem_cons.1 hp with rfl | hp
      · omega
      · have := szL_mem r _ (by omega) h p hp
        omega
theorem szF_mem {n : Int} {l : List (ByteArray × ByteArray)} (h : ¬ szF n l < 0) : ∀ p ∈ l, (p.1.size : Int) + p.2.size ≤ n := by
  intro p hp
  unfold szF at h
  split at h
  · exact absurd (by omega) h
  · have := szL_mem l _ (by omega) h p hp
    omega
/-- The values of a name. -/
def getL (nm : ByteArray) : List (ByteArray × ByteArray) → List ByteArray
  | [] => []
  | p :: r => if p.1 = nm then p.2 :: getL nm r else getL nm r
theorem szL_sum (nm : ByteArray) : ∀ (l : List (ByteArray × ByteArray)) (n : Int), 0 ≤ n → ¬ szL n l < 0 → ((((getL nm l).map fun v => v.size + 2).sum : Nat) : Int) ≤ n + 2 * l.length
  | [], n, h0, _ => by simp [getL]; omega
  | q :: r, n, h0, h => by
    rw [szL] at h
    split at h
    · exact absurd (by omega) h
    · rename_i h1
      have ih := szL_sum nm r _ (by omega) h
      rw [getL]
      split
      · rw [List.map_cons, List.sum_cons, List.length_cons]
        omega
      · rw [List.length_cons]
        omega
theorem szF_sum (nm : ByteArray) {n : Int} {l : List (ByteArray × ByteArray)} (h0 : 0 ≤ n) (h : ¬ szF n l < 0) : ((((getL nm l).map fun v => v.size + 2).sum : Nat) : Int) ≤ 3 * n := by
  have h1 := szF_len h
  unfold szF at h
  split at h
  · exact absurd (by omega) h
  · have := szL_sum nm l _ (by omega) h
    omega
theorem getL_length (nm : ByteArray) : ∀ l : List (ByteArray × ByteArray), (getL nm l).length ≤ l.length
  | [] => by simp [getL]
  | q :: r => by
    have := getL_length nm r
    rw [getL]
    split <;> simp <;> omega
/-- What is left of a size behind an answer's fields and body. -/
def szR (n : Int) (l : List (ByteArray × ByteArray)) (b : ByteArray) : Int := if szF n l < 0 then -1 else if szF n l - (b.size : Int) < 0 then -1 else szF n l - b.size
theorem szR_le (n : Int) (l : List (ByteArray × ByteArray)) (b : ByteArray) (h : 0 ≤ n) : szR n l b ≤ n := by
  have := szF_le n l h
  unfold szR
  split
  · omega
  · split <;> omega
theorem szR_szF {n : Int} {l : List (ByteArray × ByteArray)} {b : ByteArray} (h : ¬ szR n l b < 0) : ¬ szF n l < 0 ∧ (b.size : Int) ≤ szF n l := by
  unfold szR at h
  split at h
  · exact absurd (by omega) h
  · split at h
    · exact absurd (by omega) h
    · omega
theorem szR_len {n : Int} {l : List (ByteArray × ByteArray)} {b : ByteArray} (h : ¬ szR n l b < 0) : (l.length : Int) ≤ n := szF_len (szR_szF h).1
/-- All alike, in order. -/
def sameL : List (ByteArray × ByteArray) → List (ByteArray × ByteArray) → Bool
  | p :: r, q :: t => if p.1 = q.1 ∧ p.2 = q.2 then sameL r t else false
  | _, _ => true
def sameF (a b : List (ByteArray × ByteArray)) : Bool := if a.length = b.length then sameL a b else false
theorem decL_length : ∀ (f : Nat) (n : Int) (acc : List Int), (decL f n acc).length ≤ f + acc.length
  | 0, _, acc => by simp [decL]
  | f + 1, n, acc => by
    rw [decL]
    split
    · have := decL_length f (n / 10) ((48 + n % 10) :: acc)
      simp at this; omega
    · omega
theorem decL_more (j : Nat) : ∀ (f : Nat) (n : Int) (acc : List Int), n < 10 ^ f → decL (f + j) n acc = decL f n acc
  | 0, n, acc, h => by
    have : ¬ n > 0 := by simp at h; omega
    cases j with
    | zero => rfl
    | succ j => simp only [Nat.zero_add, decL, if_neg this]
  | f + 1, n, acc, h => by
    rw [show f + 1 + j = (f + j) + 1 by omega, decL, decL]
    split
    · exact decL_more j f (n / 10) _ (by rw [Int.pow_succ] at h; omega)
    · rfl
/-- The text of a mark. -/
def markB (n : Int) : ByteArray := if n ≤ 0 then (⟨#[109, 48]⟩ : ByteArray) else (⟨#[109]⟩ : ByteArray) ++ strOfNums (decL 20 n [])
/-- Fields that bear marks from n on. -/
def markF : List (ByteArray × ByteArray) → Int → List (ByteArray × ByteArray)
  | [], _ => []
  | _ :: r, n => (markB n, markB (n + 1)) :: markF r (n + 2)
theorem markF_length : ∀ (l : List (ByteArray × ByteArray)) (n : Int), (markF l n).length = l.length
  | [], _ => rfl
  | _ :: r, n => by simp [markF, markF_length r]
/-- The first field of a name has the value, others of it are gone. -/
def setL (nm v : ByteArray) : Bool → List (ByteArray × ByteArray) → List (ByteArray × ByteArray)
  | d, [] => if d then [] else [(nm, v)]
  | d, p :: r => if p.1 = nm then (if d then setL nm v d r else (nm, v) :: setL nm v true r) else p :: setL nm v d r
theorem setL_length (nm v : ByteArray) : ∀ (l : List (ByteArray × ByteArray)) (d : Bool), (setL nm v d l).length ≤ l.length + 1
  | [], d => by cases d <;> simp [setL]
  | p :: r, d => by
    have h1 := setL_length nm v r d
    have h2 := setL_length nm v r true
    rw [setL]
    split
    · split
      · simp; omega
      · simp; omega
    · simp; omega

/-! ### Signs and digits -/
def tokB (l : List Int) : Bool := l.all tokC && !l.isEmpty
def hexDs : List Int := [48, 49, 50, 51, 52, 53, 54, 55, 56, 57, 97, 98, 99, 100, 101, 102]
/-- The text of two digits a byte. -/
def unhexL : List Int → Option (List Int)
  | [] => some []
  | [_] => none
  | a :: b :: r => if idxB hexDs a < 0 ∨ idxB hexDs b < 0 then none else (unhexL r).map fun l => (16 * idxB hexDs a + idxB hexDs b) :: l
def unhexR (xs : List Int) : Option (List Int) → ByteArray × Bool
  | some r => (strOfNums (xs ++ r), true)
  | none => (⟨#[]⟩, false)
def unhexP (l : List Int) : ByteArray × Bool := unhexR [] (unhexL l)
/-- A hex digit's value, small or great; -1 where it is none. -/
def hexV (c : Int) : Int := if 48 ≤ c ∧ c ≤ 57 then c - 48 else if 97 ≤ c ∧ c ≤ 102 then c - 87 else if 65 ≤ c ∧ c ≤ 70 then c - 55 else -1
def hexW : Int → List Int → Int
  | n, [] => n
  | n, c :: r => hexW (wrap64 (n * 16 + hexV c)) r
def readHexP (l : List Int) : Int × Bool := bif (l.all fun c => decide (0 ≤ hexV c)) && decide (1 ≤ (l.length : Int) ∧ (l.length : Int) ≤ 6) then (hexW 0 l, true) else (0, false)
theorem wrap_wrap (a b : Int) : wrap64 (wrap64 a + b) = wrap64 (a + b) := by unfold wrap64; omega
theorem or16 {x y : Int} (h0 : 0 ≤ x) (h1 : x < 16) (h2 : 0 ≤ y) (h3 : y < 16) : Go.bits .or .i64 (x * 16) y = 16 * x + y := by
  rw [bits_join .i64 63 (by decide) i64_pos 4 (x * 16) y (by omega) (by omega) (by omega) h2 (by omega) (by omega)]
  omega
/-! ### Days -/
def leapB (y : Int) : Bool := decide ((y % 4 = 0 ∧ y % 100 ≠ 0) ∨ y % 400 = 0)
def yearD (y : Int) : Int := if leapB y then 366 else 365
def monthD (y m : Int) : Int := if m = 2 then (if leapB y then 29 else 28) else if m = 4 ∨ m = 6 ∨ m = 9 ∨ m = 11 then 30 else 31
/-- The days of so many years from one on. -/
def yearsD : Nat → Int → Int
  | 0, _ => 0
  | d + 1, y => yearD y + yearsD d (y + 1)
def monthsD (y : Int) : Nat → Int → Int
  | 0, _ => 0
  | d + 1, m => monthD y m + monthsD y d (m + 1)
def daysP (y m d : Int) : Int := if (1970 ≤ y ∧ y ≤ 2037) ∧ (1 ≤ m ∧ m ≤ 12) ∧ (1 ≤ d ∧ d ≤ monthD y m) then d - 1 + yearsD (y - 1970).toNat 1970 + monthsD y (m - 1).toNat 1 else -1
theorem yearD_bd (y : Int) : 365 ≤ yearD y ∧ yearD y ≤ 366 := by unfold yearD; split <;> omega
theorem monthD_bd (y m : Int) : 28 ≤ monthD y m ∧ monthD y m ≤ 31 := by
  unfold monthD
  split
  · split <;> omega
  · split <;> omega
theorem yearsD_bd : ∀ (d : Nat) (y : Int), 365 * (d : Int) ≤ yearsD d y ∧ yearsD d y ≤ 366 * (d : Int)
  | 0, _ => by simp [yearsD]
  | d + 1, y => by
    have := yearsD_bd d (y + 1)
    have := yearD_bd y
    rw [yearsD]; omega
theorem monthsD_bd (y : Int) : ∀ (d : Nat) (m : Int), 28 * (d : Int) ≤ monthsD y d m ∧ monthsD y d m ≤ 31 * (d : Int)
  | 0, _ => by simp [monthsD]
  | d + 1, m => by
    have := monthsD_bd y d (m + 1)
    have := monthD_bd y m
    rw [monthsD]; omega

/-! ### Lines and pieces -/
theorem toList_lit (b : ByteArray) (xs : List UInt8) : b.toList = xs ↔ bytesOf b = xs.map fun c => (c.toNat : Int) := by
  rw [Lib.toList_data]
  unfold bytesOf
  constructor
  · intro h; rw [h]
  · intro h
    exact List.map_inj_right (f := fun b : UInt8 => (b.toNat : Int)) (fun x y hxy => UInt8.toNat_inj.1 (by exact_mod_cast hxy)) |>.1 h
theorem idxS_bound (sub : List Int) : ∀ l : List Int, idxS l sub = -1 ∨ (0 ≤ idxS l sub ∧ idxS l sub + sub.length ≤ l.length)
  | [] => by
    cases sub with
    | nil => right; simp [idxS]
    | cons a s => left; rfl
  | b :: l => by
    rw [idxS]
    by_cases h : sub.isPrefixOf (b :: l) = true
    · rw [if_pos h]
      right
      have := (List.isPrefixOf_iff_prefix.1 h).length_le
      exact ⟨by omega, by omega⟩
    · rw [if_neg h]
      rcases idxS_bound sub l with h1 | h1
      · left; rw [if_pos h1]
      · right
        rw [if_neg (by omega), List.length_cons]
        omega
theorem idxS_crlf (a b : Int) (r : List Int) : idxS (a :: b :: r) [13, 10] = if a = 13 ∧ b = 10 then 0 else if idxS (b :: r) [13, 10] = -1 then -1 else idxS (b :: r) [13, 10] + 1 := by
  rw [idxS]
  by_cases h : a = 13 ∧ b = 10
  · obtain ⟨rfl, rfl⟩ := h
    simp [List.isPrefixOf]
  · rw [if_neg h, if_neg]
    simp only [List.isPrefixOf, Bool.and_true, Bool.and_eq_true, beq_iff_eq]
    intro hh; exact h ⟨hh.1.symm, hh.2.symm⟩
theorem idxS_short {l : List Int} (h : l.length ≤ 1) : idxS l [13, 10] = -1 := by
  rcases idxS_bound [13, 10] l with h1 | h1
  · exact h1
  · simp at h1; omega
theorem hexW_bound : ∀ (l : List Int) (n : Int) (j : Nat), (l.all fun c => decide (0 ≤ hexV c)) = true → 0 ≤ n → n < 16 ^ j → j + l.length ≤ 6 → 0 ≤ hexW n l ∧ hexW n l < 16 ^ 6
  | [], n, j, _, h0, h1, hj => by
    have : (16 : Int) ^ j ≤ 16 ^ 6 := pow_le 16 (by decide) (by simp at hj; omega)
    exact ⟨by simpa [hexW] using h0, by simp only [hexW]; omega⟩
  | c :: r, n, j, hl, h0, h1, hj => by
    simp only [List.all_cons, Bool.and_eq_true, decide_eq_true_eq] at hl
    have hc : hexV c < 16 := by unfold hexV; split; omega; split; omega; split <;> omega
    have hle : (16 : Int) ^ j ≤ 16 ^ 5 := pow_le 16 (by decide) (by simp at hj; omega)
    rw [hexW, wrap_id (by omega) (by omega)]
    exact hexW_bound r _ (j + 1) hl.2 (by omega) (by rw [Int.pow_succ]; omega) (by simp at hj; omega)
theorem readHexP_bound {l : List Int} (h : (readHexP l).2 = true) : 0 ≤ (readHexP l).1 ∧ (readHexP l).1 < 16777216 := by
  unfold readHexP at h ⊢
  cases hc : ((l.all fun c => decide (0 ≤ hexV c)) && decide (1 ≤ (l.length : Int) ∧ (l.length : Int) ≤ 6)) with
  | false => rw [hc] at h; cases h
  | true =>
    simp only [Bool.and_eq_true, decide_eq_true_eq] at hc
    have := hexW_bound l 0 0 hc.1 (by omega) (by simp) (by omega)
    simp only [cond_true]
    omega
/-- A piece of a body behind so many bytes: its bytes, how many it has in all, and a code. -/
def pieceP (l : List Int) (ahead : Int) : ByteArray × Int × Int :=
  if idxS l [13, 10] < 0 then (if (l.length : Int) ≤ 8 then (⟨#[]⟩, 0, 1) else (⟨#[]⟩, 0, 2))
  else
    let line := l.take (idxS l [13, 10]).toNat
    let rest := l.drop ((idxS l [13, 10]).toNat + 2)
    let h := readHexP line
    if ¬ (h.2 = true ∧ ahead + h.1 ≤ 60) then (⟨#[]⟩, 0, 2)
    else if (rest.length : Int) < h.1 + 2 then (⟨#[]⟩, 0, 1)
    else if (rest.drop h.1.toNat).take 2 = [13, 10] then (strOfNums (rest.take h.1.toNat), idxS l [13, 10] + h.1 + 4, 0) else (⟨#[]⟩, 0, 2)
theorem pieceP_ok {l : List Int} {ahead : Int} (h : (pieceP l ahead).2.2 = 0) (h0 : 0 ≤ ahead) :
    0 ≤ idxS l [13, 10] ∧ (readHexP (l.take (idxS l [13, 10]).toNat)).2 = true ∧ ahead + (readHexP (l.take (idxS l [13, 10]).toNat)).1 ≤ 60 ∧ idxS l [13, 10] + (readHexP (l.take (idxS l [13, 10]).toNat)).1 + 4 ≤ l.length ∧
      pieceP l ahead = (strOfNums ((l.drop ((idxS l [13, 10]).toNat + 2)).take (readHexP (l.take (idxS l [13, 10]).toNat)).1.toNat), idxS l [13, 10] + (readHexP (l.take (idxS l [13, 10]).toNat)).1 + 4, 0) := by
  unfold pieceP at h ⊢
  by_cases h1 : idxS l [13, 10] < 0
  · rw [if_pos h1] at h
    split at h <;> cases h
  · rw [if_neg h1] at h ⊢
    simp only at h ⊢
    by_cases h2 : ¬ ((readHexP (l.take (idxS l [13, 10]).toNat)).2 = true ∧ ahead + (readHexP (l.take (idxS l [13, 10]).toNat)).1 ≤ 60)
    · rw [if_pos h2] at h; cases h
    · rw [if_neg h2] at h ⊢
      have h2' := Classical.not_not.1 h2
      have hb := readHexP_bound h2'.1
      by_cases h3 : ((l.drop ((idxS l [13, 10]).toNat + 2)).length : Int) < (readHexP (l.take (idxS l [13, 10]).toNat)).1 + 2
      · rw [if_pos h3] at h; cases h
      · rw [if_neg h3] at h ⊢
        have hx := idxS_bound [13, 10] l
        simp only [List.length_drop, List.length_cons, List.length_nil] at h3 hx
        by_cases h4 : ((l.drop ((idxS l [13, 10]).toNat + 2)).drop (readHexP (l.take (idxS l [13, 10]).toNat)).1.toNat).take 2 = [13, 10]
        · rw [if_pos h4]
          exact ⟨by omega, h2'.1, h2'.2, by omega, rfl⟩
        · rw [if_neg h4] at h; cases h
def unchP (l : List Int) : Nat → ByteArray → Int → ByteArray × Int × Int
  | 0, _, _ => (⟨#[]⟩, 0, 0)
  | d + 1, out, i =>
    if (pieceP (l.drop i.toNat) out.size).2.2 = 0 then
      (if (pieceP (l.drop i.toNat) out.size).1 = ⟨#[]⟩ then (out, i + (pieceP (l.drop i.toNat) out.size).2.1, 0)
        else unchP l d (out ++ (pieceP (l.drop i.toNat) out.size).1) (i + (pieceP (l.drop i.toNat) out.size).2.1))
    else (⟨#[]⟩, 0, (pieceP (l.drop i.toNat) out.size).2.2)
def unchunkP (l : List Int) : ByteArray × Int × Int := unchP l (l.length + 1) ⟨#[]⟩ 0
/-- A byte of a field's value. -/
def valC (c : Int) : Bool := decide (c = 9) || (decide (32 ≤ c) && decide (c ≠ 127))
/-- A field's value. -/
def valB (s : ByteArray) : Bool := (bytesOf s).all valC && decide (trimB s = s)
theorem toList_beq (a b : ByteArray) : (a.toList == b.toList) = decide (a = b) := by
  rw [Bool.eq_iff_iff, beq_iff_eq, decide_eq_true_eq, toList_eq_iff]
theorem bytesOf_last {s : ByteArray} {d : Nat} (h : s.size = d + 1) : bytesOf s = (bytesOf s).take d ++ [bt s (d : Int)] := by
  have hl := bytesOf_length s
  have hd : d < (bytesOf s).length := by omega
  rw [bt_get s d hd]
  conv => lhs; rw [← List.take_append_drop d (bytesOf s), List.drop_eq_getElem_cons hd, List.drop_of_length_le (by omega)]
theorem bytesOf_nil {s : ByteArray} (h : s.size = 0) : bytesOf s = [] := List.eq_nil_of_length_eq_zero (by rw [bytesOf_length]; exact h)
/-- A text with small letters. -/
def lowB (s : ByteArray) : ByteArray := strOfNums ((bytesOf s).map lowC)
/-- A right field. -/
def fieldB (p : ByteArray × ByteArray) : Bool := tokB (bytesOf p.1) && decide (p.1.size ≤ 24) && decide (lowB p.1 = p.1) && valB p.2 && decide (p.2.size ≤ 60)
/-- Right fields. -/
def fieldsB (l : List (ByteArray × ByteArray)) : Bool := l.all fieldB && decide (l.length ≤ 12)
/-- The marks that are laid into a list of so many texts. -/
def markS : Nat → Int → List ByteArray
  | 0, _ => []
  | d + 1, n => markB n :: markS d (n + 1)
theorem markS_length : ∀ (d : Nat) (n : Int), (markS d n).length = d
  | 0, _ => rfl
  | d + 1, n => by simp [markS, markS_length d]
/-- The places of the commas that stand in no quotes (what follows a backslash in quotes is passed over). -/
def comL : List Int → Bool → Bool → Int → List Int
  | [], _, _, _ => []
  | _ :: r, q, true, i => comL r q false (i + 1)
  | c :: r, q, false, i => if c = 34 then comL r (!q) false (i + 1) else if q = true ∧ c = 92 then comL r q true (i + 1) else if q = false ∧ c = 44 then i :: comL r q false (i + 1) else comL r q false (i + 1)
/-- A text's parts between places, trimmed; the empty ones are left out. -/
def splL (s : ByteArray) : Int → List Int → List ByteArray
  | _, [] => []
  | a, b :: r => if trimB (s.extract a.toNat b.toNat) = ⟨#[]⟩ then splL s (b + 1) r else trimB (s.extract a.toNat b.toNat) :: splL s (b + 1) r
/-- Places that go up. -/
def upL (n : Int) : Int → List Int → Prop
  | _, [] => True
  | a, b :: r => a ≤ b ∧ b ≤ n ∧ upL n (b + 1) r
theorem comL_up (n : Int) : ∀ (l : List Int) (q k : Bool) (a i : Int), a ≤ i → i + l.length = n → upL n a (comL l q k i ++ [n])
  | [], q, k, a, i, ha, hn => by
    simp only [comL, List.nil_append, upL, List.length_nil] at hn ⊢
    exact ⟨by omega, by omega, trivial⟩
  | c :: r, q, true, a, i, ha, hn => by
    rw [comL]
    exact comL_up n r q false a (i + 1) (by omega) (by simp at hn; omega)
  | c :: r, q, false, a, i, ha, hn => by
    simp only [List.length_cons] at hn
    rw [comL]
    split
    · exact comL_up n r _ false a (i + 1) (by omega) (by omega)
    · split
      · exact comL_up n r _ true a (i + 1) (by omega) (by omega)
      · split
        · rw [List.cons_append]
          exact ⟨ha, by omega, comL_up n r _ false (i + 1) (i + 1) (by omega) (by omega)⟩
        · exact comL_up n r _ false a (i + 1) (by omega) (by omega)
theorem comL_length : ∀ (l : List Int) (q k : Bool) (i : Int), (comL l q k i).length ≤ l.length
  | [], q, k, i => by simp [comL]
  | c :: r, q, true, i => by
    have := comL_length r q false (i + 1)
    rw [comL, List.length_cons]
    omega
  | c :: r, q, false, i => by
    have h1 := comL_length r (!q) false (i + 1)
    have h2 := comL_length r q true (i + 1)
    have h3 := comL_length r q false (i + 1)
    rw [comL, List.length_cons]
    split
    · omega
    · split
      · omega
      · split
        · rw [List.length_cons]; omega
        · omega
theorem splL_length (s : ByteArray) : ∀ (l : List Int) (a : Int), (splL s a l).length ≤ l.length
  | [], a => by simp [splL]
  | b :: r, a => by
    have := splL_length s r (b + 1)
    rw [splL, List.length_cons]
    split
    · omega
    · rw [List.length_cons]; omega
theorem trim_nil (b : ByteArray) : b.toList = ([] : List UInt8) ↔ b = ⟨#[]⟩ := by
  rw [toList_lit]
  constructor
  · intro h
    refine bytesOf_inj (h.trans ?_)
    rfl
  · rintro rfl
    rfl
/-- The lines of fields, and the empty line behind them. -/
def showR : List (ByteArray × ByteArray) → ByteArray
  | [] => ⟨#[13, 10]⟩
  | p :: r => p.1 ++ ⟨#[58, 32]⟩ ++ p.2 ++ ⟨#[13, 10]⟩ ++ showR r
/-- What is shown of fields. -/
def showB (l : List (ByteArray × ByteArray)) : ByteArray := if fieldsB l = true then showR l else ⟨#[]⟩
theorem size_colon : (⟨#[58, 32]⟩ : ByteArray).size = 2 := rfl
theorem size_crlf : (⟨#[13, 10]⟩ : ByteArray).size = 2 := rfl
/-- A field out of a line that has a colon at place c. -/
def lineF (line : List Int) (c : Int) : ByteArray × ByteArray := (lowB (strOfNums (line.take c.toNat)), trimB (strOfNums (line.drop (c.toNat + 1))))
/-- Fields read line by line, from place i on. -/
def rfP (l : List Int) : Nat → List (ByteArray × ByteArray) → Int → List (ByteArray × ByteArray) × Int × Bool
  | 0, _, _ => ([], 0, false)
  | d + 1, acc, i =>
    if idxS (l.drop i.toNat) [13, 10] < 0 then ([], 0, false)
    else if idxS (l.drop i.toNat) [13, 10] = 0 then (acc, i + 2, true)
    else if idxS ((l.drop i.toNat).take (idxS (l.drop i.toNat) [13, 10]).toNat) [58] < 0 then ([], 0, false)
    else if fieldB (lineF ((l.drop i.toNat).take (idxS (l.drop i.toNat) [13, 10]).toNat) (idxS ((l.drop i.toNat).take (idxS (l.drop i.toNat) [13, 10]).toNat) [58])) = true ∧ acc.length < 12 then rfP l d (acc ++ [lineF ((l.drop i.toNat).take (idxS (l.drop i.toNat) [13, 10]).toNat) (idxS ((l.drop i.toNat).take (idxS (l.drop i.toNat) [13, 10]).toNat) [58])]) (i + idxS (l.drop i.toNat) [13, 10] + 2)
    else ([], 0, false)
theorem rfP_length (l : List Int) : ∀ (d : Nat) (acc : List (ByteArray × ByteArray)) (i : Int), acc.length ≤ 12 → (rfP l d acc i).1.length ≤ 12
  | 0, acc, i, _ => by simp [rfP]
  | d + 1, acc, i, h => by
    rw [rfP]
    split
    · simp
    · split
      · exact h
      · split
        · simp
        · split
          · rename_i h4
            exact rfP_length l d _ _ (by simp; omega)
          · simp
theorem idxS_one (b c : Int) (r : List Int) : idxS (b :: r) [c] = if c = b then 0 else if idxS r [c] = -1 then -1 else idxS r [c] + 1 := by
  rw [idxS]
  by_cases h : c = b
  · subst h
    simp [List.isPrefixOf]
  · rw [if_neg h, if_neg (by simp [List.isPrefixOf, h])]
theorem trim_range {s : ByteArray} : (trimB s).size ≤ s.size := by
  unfold trimB
  rw [strOfNums_size]
  unfold trimC
  have h1 := (List.dropWhile_sublist blkC (l := ((bytesOf s).reverse.dropWhile blkC).reverse)).length_le
  have h2 := (List.dropWhile_sublist blkC (l := (bytesOf s).reverse)).length_le
  have h3 := bytesOf_length s
  simp only [List.length_reverse] at h1 h2
  omega
theorem nil_toList : (strOfNums []).toList = ([] : List UInt8) := (trim_nil _).2 rfl
theorem low_range {s : ByteArray} : (lowB s).size = s.size := by
  unfold lowB
  rw [strOfNums_size, List.length_map, bytesOf_length]
/-- A decimal digit. -/
def digC (c : Int) : Bool := decide (48 ≤ c) && decide (c ≤ 57)
/-- The number that digits spell, behind n. -/
def valL : Int → List Int → Int
  | n, [] => n
  | n, c :: r => valL (n * 10 + (c - 48)) r
/-- The same, held at 2^31. -/
def satV : Int → List Int → Int
  | n, [] => n
  | n, c :: r => satV (mn (n * 10 + (c - 48)) 2147483648) r
/-- Seconds that a text tells. -/
def secP (l : List Int) : Int × Bool := if l.all digC = true then (satV 0 l, decide (0 < l.length)) else (0, false)
theorem digC_iff {c : Int} : digC c = true ↔ 48 ≤ c ∧ c ≤ 57 := by unfold digC; rw [Bool.and_eq_true, decide_eq_true_eq, decide_eq_true_eq]
theorem mn_le {a b : Int} (h : a ≤ b) : mn a b = a := by unfold mn; split <;> omega
theorem mn_ge {a b : Int} (h : b ≤ a) : mn a b = b := by unfold mn; split <;> omega
theorem valL_pow : ∀ (l : List Int) (n : Int), 0 ≤ n → l.all digC = true → n * 10 ^ l.length ≤ valL n l
  | [], n, _, _ => by simp [valL]
  | c :: r, n, h0, h => by
    rw [List.all_cons, Bool.and_eq_true, digC_iff] at h
    have ih := valL_pow r (n * 10 + (c - 48)) (by omega) h.2
    rw [valL, List.length_cons, Int.pow_succ]
    refine Int.le_trans ?_ ih
    have hp : (0 : Int) ≤ 10 ^ r.length := Int.le_of_lt (Int.pow_pos (by decide))
    have h2 : 0 ≤ (c - 48) * 10 ^ r.length := Int.mul_nonneg (by omega) hp
    have e : (n * 10 + (c - 48)) * 10 ^ r.length = n * (10 ^ r.length * 10) + (c - 48) * 10 ^ r.length := by
      rw [Int.add_mul, Int.mul_assoc, Int.mul_comm 10]
    rw [e]
    omega
theorem valL_self (l : List Int) (n : Int) (h0 : 0 ≤ n) (h : l.all digC = true) : n ≤ valL n l := by
  have h1 := valL_pow l n h0 h
  have hp : (1 : Int) ≤ 10 ^ l.length := by have : (0 : Int) < 10 ^ l.length := Int.pow_pos (by decide); omega
  have h2 : n * 1 ≤ n * 10 ^ l.length := Int.mul_le_mul_of_nonneg_left hp h0
  omega
theorem satV_eq : ∀ (l : List Int) (n : Int), 0 ≤ n → n ≤ 2147483648 → l.all digC = true → satV n l = mn (valL n l) 2147483648
  | [], n, _, h1, _ => by rw [satV, valL, mn_le h1]
  | c :: r, n, h0, h1, h => by
    have hh := h
    rw [List.all_cons, Bool.and_eq_true, digC_iff] at hh
    rw [satV, valL]
    by_cases ha : n * 10 + (c - 48) ≤ 2147483648
    · rw [mn_le ha]
      exact satV_eq r _ (by omega) ha hh.2
    · rw [mn_ge (by omega), satV_eq r 2147483648 (by decide) (by decide) hh.2]
      have a1 := valL_self r 2147483648 (by decide) hh.2
      have a2 := valL_self r (n * 10 + (c - 48)) (by omega) hh.2
      rw [mn_ge a1, mn_ge (by omega)]
theorem valL_cut : ∀ l : List Int, valL 0 (cutC 48 l) = valL 0 l
  | [] => rfl
  | c :: r => by
    by_cases h : c = 48
    · subst h
      have e : cutC 48 (48 :: r) = cutC 48 r := List.dropWhile_cons_of_pos (by decide)
      rw [e, valL_cut r]
      rfl
    · have e : cutC 48 (c :: r) = c :: r := List.dropWhile_cons_of_neg (by simpa using h)
      rw [e]
theorem cutC_head : ∀ l : List Int, cutC 48 l = [] ∨ ∃ c r, cutC 48 l = c :: r ∧ c ≠ 48
  | [] => .inl rfl
  | c :: r => by
    by_cases h : c = 48
    · subst h
      have e : cutC 48 (48 :: r) = cutC 48 r := List.dropWhile_cons_of_pos (by decide)
      rw [e]
      exact cutC_head r
    · have e : cutC 48 (c :: r) = c :: r := List.dropWhile_cons_of_neg (by simpa using h)
      exact .inr ⟨c, r, e, h⟩
theorem cutC_all {l : List Int} (h : l.all digC = true) : (cutC 48 l).all digC = true := by
  rw [List.all_eq_true] at h ⊢
  exact fun x hx => h x (List.dropWhile_sublist _ |>.mem hx)
theorem cutC_big {l : List Int} (h : l.all digC = true) (hl : 10 < (cutC 48 l).length) : 2147483648 ≤ valL 0 (cutC 48 l) := by
  have ha := cutC_all h
  rcases cutC_head l with e | ⟨c, r, e, hc⟩
  · rw [e] at hl; simp at hl
  · rw [e] at hl ha ⊢
    rw [List.all_cons, Bool.and_eq_true, digC_iff] at ha
    rw [valL]
    have h1 := valL_pow r (0 * 10 + (c - 48)) (by omega) ha.2
    have hp : (10 : Int) ^ 10 ≤ 10 ^ r.length := pow_le 10 (by decide) (by simp at hl; omega)
    have h2 : 1 * (10 : Int) ^ r.length ≤ (0 * 10 + (c - 48)) * 10 ^ r.length := Int.mul_le_mul_of_nonneg_right (by omega) (by omega)
    have h3 : (10 : Int) ^ 10 = 10000000000 := by decide
    omega
theorem decFrom_val : ∀ (l : List UInt8) (n : Nat), (l.map fun b : UInt8 => (b.toNat : Int)).all digC = true → ∃ m : Nat, Lib.decFrom n l = some m ∧ (m : Int) = valL n (l.map fun b : UInt8 => (b.toNat : Int))
  | [], n, _ => ⟨n, rfl, rfl⟩
  | b :: r, n, h => by
    rw [List.map_cons, List.all_cons, Bool.and_eq_true, digC_iff] at h
    obtain ⟨m, h1, h2⟩ := decFrom_val r (n * 10 + (b.toNat - 48)) h.2
    refine ⟨m, ?_, ?_⟩
    · rw [Lib.decFrom, Lib.digitVal, if_pos (by omega)]
      exact h1
    · rw [h2, List.map_cons, valL]
      congr 1
      omega
def nmTE : ByteArray := ⟨#[116, 114, 97, 110, 115, 102, 101, 114, 45, 101, 110, 99, 111, 100, 105, 110, 103]⟩
def nmCL : ByteArray := ⟨#[99, 111, 110, 116, 101, 110, 116, 45, 108, 101, 110, 103, 116, 104]⟩
/-- Fields such as a message has: right, fewer than twelve, none that tells where a body ends. -/
def plainB (l : List (ByteArray × ByteArray)) : Bool := fieldsB l && decide (l.length < 12) && (getL nmTE l).isEmpty && (getL nmCL l).isEmpty
/-- A right answer. -/
def respB (a : Int) (l : List (ByteArray × ByteArray)) (b : ByteArray) : Bool := decide (200 ≤ a ∧ a ≤ 599) && plainB l && decide (b.size ≤ 60) && (decide (b = ⟨#[]⟩) || !decide (a = 204 ∨ a = 304))
/-- A right request. -/
def reqB (m u : ByteArray) (l : List (ByteArray × ByteArray)) (b : ByteArray) : Bool := tokB (bytesOf m) && decide (m.size ≤ 10) && uriB (bytesOf u) && plainB l && decide (b.size ≤ 60)
theorem nil_beq (b : ByteArray) : (b.toList == ([] : List UInt8)) = decide (b = ⟨#[]⟩) := by
  rw [Bool.eq_iff_iff, beq_iff_eq, decide_eq_true_eq, trim_nil]
theorem int_le_60 (n : Nat) : decide ((n : Int) ≤ 60) = decide (n ≤ 60) := by rw [decide_eq_decide]; omega
/-- What is left of n behind a request's texts and fields; -1 where too little. -/
def szQ (n : Int) (m u : ByteArray) (l : List (ByteArray × ByteArray)) (b : ByteArray) : Int := if n - (m.size : Int) < 0 then -1 else if n - (m.size : Int) - u.size < 0 then -1 else szR (n - (m.size : Int) - u.size) l b
theorem szQ_szR {n : Int} {m u : ByteArray} {l : List (ByteArray × ByteArray)} {b : ByteArray} (h : ¬ szQ n m u l b < 0) : (m.size : Int) + u.size ≤ n ∧ ¬ szR (n - (m.size : Int) - u.size) l b < 0 := by
  unfold szQ at h
  split at h
  · exact absurd (by omega) h
  · split at h
    · exact absurd (by omega) h
    · exact ⟨by omega, h⟩

end Go.Proofs.Ytngillbkfblpoaa.Dom
