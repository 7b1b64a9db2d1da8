/- The program's Lifetime returns what the reference's returns, for all answers (those that hold more than 2^20 fields and bytes are let by). -/
import Derived.Deep.Slices
import Derived.Deep.Fields
import Derived.ChangeSame
import Derived.Lib.SmallJoins
import Derived.HandedShaped
import Derived.Handed
import Derived.SizedLaws
import Derived.ChangeSlices
import Derived.Test.YtjldfmkpdkhnnaaGreatDoorCFnExactLifetimee
set_option linter.unusedVariables false
set_option linter.unusedSimpArgs false
namespace Go.Proofs.YtjldfmkpdkhnnaaGreatDoor.Dom
open Go.RowKit Go.Proofs.YtjldfmkpdkhnnaaGreatDoorW.PrintWords Go.Proofs.YtjldfmkpdkhnnaaGreatDoorW.PrintLast Go.Proofs.YtjldfmkpdkhnnaaGreatDoorW.PrintMore Go.Proofs.YtjldfmkpdkhnnaaGreatDoor.Aux

def szL : Int → List (ByteArray × ByteArray) → Int
  | n, [] => n
  | n, p :: r => if n - (p.1.size : Int) - (p.2.size : Int) < 0 then -1 else szL (n - (p.1.size : Int) - (p.2.size : Int)) r
def szF (n : Int) (l : List (ByteArray × ByteArray)) : Int := if n - (l.length : Int) < 0 then -1 else szL (n - l.length) l
theorem szL_le : ∀ (l : List (ByteArray × ByteArray)) (n : Int), 0 ≤ n → szL n l ≤ n
  | [], n, _ => by simp [szL]
  | p :: r, n, h => by
    rw [szL]
    split
    · omega
    · have := szL_le r (n - (p.1.size : Int) - (p.2.size : Int)) (by omega)
      omega
theorem szF_le (n : Int) (l : List (ByteArray × ByteArray)) (h : 0 ≤ n) : szF n l ≤ n := by
  unfold szF
  split
  · omega
  · have := szL_le l (n - l.length) (by omega)
    omega
theorem szF_len {n : Int} {l : List (ByteArray × ByteArray)} (h : ¬ szF n l < 0) : (l.length : Int) ≤ n := by
  unfold szF at h
  split at h
  · exact absurd (by omega) h
  · omega
def getL (nm : ByteArray) : List (ByteArray × ByteArray) → List ByteArray
  | [] => []
  | p :: r => if p.1 = nm then p.2 :: getL nm r else getL nm r
theorem szL_sum (nm : ByteArray) : ∀ (l : List (ByteArray × ByteArray)) (n : Int), 0 ≤ n → ¬ szL n l < 0 → ((((getL nm l).map fun v => v.size + 2).sum : Nat) : Int) ≤ n + 2 * l.length
  | [], n, h0, _ => by simp [getL]; omega
  | q :: r, n, h0, h => by
    rw [szL] at h
    split at h
    · exact absurd (by omega) h
    · rename_i h1
      have ih := szL_sum nm r _ (by omega) h
      rw [getL]
      split
      · rw [List.map_cons, List.sum_cons, List.length_cons]
        omega
      · rw [List.length_cons]
        omega
theorem szF_sum (nm : ByteArray) {n : Int} {l : List (ByteArray × ByteArray)} (h0 : 0 ≤ n) (h : ¬ szF n l < 0) : ((((getL nm l).map fun v => v.size + 2).sum : Nat) : Int) ≤ 3 * n := by
  have h1 := szF_len h
  unfold szF at h
  split at h
  · exact absurd (by omega) h
  · have := szL_sum nm l _ (by omega) h
    omega
theorem getL_length (nm : ByteArray) : ∀ l : List (ByteArray × ByteArray), (getL nm l).length ≤ l.length
  | [] => by simp [getL]
  | q :: r => by
    have := getL_length nm r
    rw [getL]
    split <;> simp <;> omega
def szR (n : Int) (l : List (ByteArray × ByteArray)) (b : ByteArray) : Int := if szF n l < 0 then -1 else if szF n l - (b.size : Int) < 0 then -1 else szF n l - b.size
theorem szR_szF {n : Int} {l : List (ByteArray × ByteArray)} {b : ByteArray} (h : ¬ szR n l b < 0) : ¬ szF n l < 0 ∧ (b.size : Int) ≤ szF n l := by
  unfold szR at h
  split at h
  · exact absurd (by omega) h
  · split at h
    · exact absurd (by omega) h
    · omega
theorem szR_len {n : Int} {l : List (ByteArray × ByteArray)} {b : ByteArray} (h : ¬ szR n l b < 0) : (l.length : Int) ≤ n := szF_len (szR_szF h).1
def tokB (l : List Int) : Bool := l.all tokC && !l.isEmpty
def leapB (y : Int) : Bool := decide ((y % 4 = 0 ∧ y % 100 ≠ 0) ∨ y % 400 = 0)
def yearD (y : Int) : Int := if leapB y then 366 else 365
def monthD (y m : Int) : Int := if m = 2 then (if leapB y then 29 else 28) else if m = 4 ∨ m = 6 ∨ m = 9 ∨ m = 11 then 30 else 31
def yearsD : Nat → Int → Int
  | 0, _ => 0
  | d + 1, y => yearD y + yearsD d (y + 1)
def monthsD (y : Int) : Nat → Int → Int
  | 0, _ => 0
  | d + 1, m => monthD y m + monthsD y d (m + 1)
def daysP (y m d : Int) : Int := if (1970 ≤ y ∧ y ≤ 2037) ∧ (1 ≤ m ∧ m ≤ 12) ∧ (1 ≤ d ∧ d ≤ monthD y m) then d - 1 + yearsD (y - 1970).toNat 1970 + monthsD y (m - 1).toNat 1 else -1
theorem yearD_bd (y : Int) : 365 ≤ yearD y ∧ yearD y ≤ 366 := by unfold yearD; split <;> omega
theorem monthD_bd (y m : Int) : 28 ≤ monthD y m ∧ monthD y m ≤ 31 := by
  unfold monthD
  split
  · split <;> omega
  · split <;> omega
theorem yearsD_bd : ∀ (d : Nat) (y : Int), 365 * (d : Int) ≤ yearsD d y ∧ yearsD d y ≤ 366 * (d : Int)
  | 0, _ => by simp [yearsD]
  | d + 1, y => by
    have := yearsD_bd d (y + 1)
    have := yearD_bd y
    rw [yearsD]; omega
theorem monthsD_bd (y : Int) : ∀ (d : Nat) (m : Int), 28 * (d : Int) ≤ monthsD y d m ∧ monthsD y d m ≤ 31 * (d : Int)
  | 0, _ => by simp [monthsD]
  | d + 1, m => by
    have := monthsD_bd y d (m + 1)
    have := monthD_bd y m
    rw [monthsD]; omega

theorem toList_lit (b : ByteArray) (xs : List UInt8) : b.toList = xs ↔ bytesOf b = xs.map fun c => (c.toNat : Int) := by
  rw [Lib.toList_data]
  unfold bytesOf
  constructor
  · intro h; rw [h]
  · intro h
    exact List.map_inj_right (f := fun b : UInt8 => (b.toNat : Int)) (fun x y hxy => UInt8.toNat_inj.1 (by exact_mod_cast hxy)) |>.1 h
theorem idxS_bound (sub : List Int) : ∀ l : List Int, idxS l sub = -1 ∨ (0 ≤ idxS l sub ∧ idxS l sub + sub.length ≤ l.length)
  | [] => by
    cases sub with
    | nil => right; simp [idxS]
    | cons a s => left; rfl
  | b :: l => by
    rw [idxS]
    by_cases h : sub.isPrefixOf (b :: l) = true
    · rw [if_pos h]
      right
      have := (List.isPrefixOf_iff_prefix.1 h).length_le
      exact ⟨by omega, by omega⟩
    · rw [if_neg h]
      rcases idxS_bound sub l with h1 | h1
      · left; rw [if_pos h1]
      · right
        rw [if_neg (by omega), List.length_cons]
        omega
theorem bytesOf_last {s : ByteArray} {d : Nat} (h : s.size = d + 1) : bytesOf s = (bytesOf s).take d ++ [bt s (d : Int)] := by
  have hl := bytesOf_length s
  have hd : d < (bytesOf s).length := by omega
  rw [bt_get s d hd]
  conv => lhs; rw [← List.take_append_drop d (bytesOf s), List.drop_eq_getElem_cons hd, List.drop_of_length_le (by omega)]
theorem bytesOf_nil {s : ByteArray} (h : s.size = 0) : bytesOf s = [] := List.eq_nil_of_length_eq_zero (by rw [bytesOf_length]; exact h)
def lowB (s : ByteArray) : ByteArray := strOfNums ((bytesOf s).map lowC)
def comL : List Int → Bool → Bool → Int → List Int
  | [], _, _, _ => []
  | _ :: r, q, true, i => comL r q false (i + 1)
  | c :: r, q, false, i => if c = 34 then comL r (!q) false (i + 1) else if q = true ∧ c = 92 then comL r q true (i + 1) else if q = false ∧ c = 44 then i :: comL r q false (i + 1) else comL r q false (i + 1)
def splL (s : ByteArray) : Int → List Int → List ByteArray
  | _, [] => []
  | a, b :: r => if trimB (s.extract a.toNat b.toNat) = ⟨#[]⟩ then splL s (b + 1) r else trimB (s.extract a.toNat b.toNat) :: splL s (b + 1) r
def upL (n : Int) : Int → List Int → Prop
  | _, [] => True
  | a, b :: r => a ≤ b ∧ b ≤ n ∧ upL n (b + 1) r
theorem comL_up (n : Int) : ∀ (l : List Int) (q k : Bool) (a i : Int), a ≤ i → i + l.length = n → upL n a (comL l q k i ++ [n])
  | [], q, k, a, i, ha, hn => by
    simp only [comL, List.nil_append, upL, List.length_nil] at hn ⊢
    exact ⟨by omega, by omega, trivial⟩
  | c :: r, q, true, a, i, ha, hn => by
    rw [comL]
    exact comL_up n r q false a (i + 1) (by omega) (by simp at hn; omega)
  | c :: r, q, false, a, i, ha, hn => by
    simp only [List.length_cons] at hn
    rw [comL]
    split
    · exact comL_up n r _ false a (i + 1) (by omega) (by omega)
    · split
      · exact comL_up n r _ true a (i + 1) (by omega) (by omega)
      · split
        · rw [List.cons_append]
          exact ⟨ha, by omega, comL_up n r _ false (i + 1) (i + 1) (by omega) (by omega)⟩
        · exact comL_up n r _ false a (i + 1) (by omega) (by omega)
theorem comL_length : ∀ (l : List Int) (q k : Bool) (i : Int), (comL l q k i).length ≤ l.length
  | [], q, k, i => by simp [comL]
  | c :: r, q, true, i => by
    have := comL_length r q false (i + 1)
    rw [comL, List.length_cons]
    omega
  | c :: r, q, false, i => by
    have h1 := comL_length r (!q) false (i + 1)
    have h2 := comL_length r q true (i + 1)
    have h3 := comL_length r q false (i + 1)
    rw [comL, List.length_cons]
    split
    · omega
    · split
      · omega
      · split
        · rw [List.length_cons]; omega
        · omega
theorem splL_length (s : ByteArray) : ∀ (l : List Int) (a : Int), (splL s a l).length ≤ l.length
  | [], a => by simp [splL]
  | b :: r, a => by
    have := splL_length s r (b + 1)
    rw [splL, List.length_cons]
    split
    · omega
    · rw [List.length_cons]; omega
theorem trim_nil (b : ByteArray) : b.toList = ([] : List UInt8) ↔ b = ⟨#[]⟩ := by
  rw [toList_lit]
  constructor
  · intro h
    refine bytesOf_inj (h.trans ?_)
    rfl
  · rintro rfl
    rfl
theorem idxS_one (b c : Int) (r : List Int) : idxS (b :: r) [c] = if c = b then 0 else if idxS r [c] = -1 then -1 else idxS r [c] + 1 := by
  rw [idxS]
  by_cases h : c = b
  · subst h
    simp [List.isPrefixOf]
  · rw [if_neg h, if_neg (by simp [List.isPrefixOf, h])]
theorem trim_range {s : ByteArray} : (trimB s).size ≤ s.size := by
  unfold trimB
  rw [strOfNums_size]
  unfold trimC
  have h1 := (List.dropWhile_sublist blkC (l := ((bytesOf s).reverse.dropWhile blkC).reverse)).length_le
  have h2 := (List.dropWhile_sublist blkC (l := (bytesOf s).reverse)).length_le
  have h3 := bytesOf_length s
  simp only [List.length_reverse] at h1 h2
  omega
theorem low_range {s : ByteArray} : (lowB s).size = s.size := by
  unfold lowB
  rw [strOfNums_size, List.length_map, bytesOf_length]
def digC (c : Int) : Bool := decide (48 ≤ c) && decide (c ≤ 57)
def valL : Int → List Int → Int
  | n, [] => n
  | n, c :: r => valL (n * 10 + (c - 48)) r
def satV : Int → List Int → Int
  | n, [] => n
  | n, c :: r => satV (mn (n * 10 + (c - 48)) 2147483648) r
def secP (l : List Int) : Int × Bool := if l.all digC = true then (satV 0 l, decide (0 < l.length)) else (0, false)
theorem digC_iff {c : Int} : digC c = true ↔ 48 ≤ c ∧ c ≤ 57 := by unfold digC; rw [Bool.and_eq_true, decide_eq_true_eq, decide_eq_true_eq]
theorem mn_le {a b : Int} (h : a ≤ b) : mn a b = a := by unfold mn; split <;> omega
theorem mn_ge {a b : Int} (h : b ≤ a) : mn a b = b := by unfold mn; split <;> omega
theorem valL_pow : ∀ (l : List Int) (n : Int), 0 ≤ n → l.all digC = true → n * 10 ^ l.length ≤ valL n l
  | [], n, _, _ => by simp [valL]
  | c :: r, n, h0, h => by
    rw [List.all_cons, Bool.and_eq_true, digC_iff] at h
    have ih := valL_pow r (n * 10 + (c - 48)) (by omega) h.2
    rw [valL, List.length_cons, Int.pow_succ]
    refine Int.le_trans ?_ ih
    have hp : (0 : Int) ≤ 10 ^ r.length := Int.le_of_lt (Int.pow_pos (by decide))
    have h2 : 0 ≤ (c - 48) * 10 ^ r.length := Int.mul_nonneg (by omega) hp
    have e : (n * 10 + (c - 48)) * 10 ^ r.length = n * (10 ^ r.length * 10) + (c - 48) * 10 ^ r.length := by
      rw [Int.add_mul, Int.mul_assoc, Int.mul_comm 10]
    rw [e]
    omega
theorem valL_self (l : List Int) (n : Int) (h0 : 0 ≤ n) (h : l.all digC = true) : n ≤ valL n l := by
  have h1 := valL_pow l n h0 h
  have hp : (1 : Int) ≤ 10 ^ l.length := by have : (0 : Int) < 10 ^ l.length := Int.pow_pos (by decide); omega
  have h2 : n * 1 ≤ n * 10 ^ l.length := Int.mul_le_mul_of_nonneg_left hp h0
  omega
theorem satV_eq : ∀ (l : List Int) (n : Int), 0 ≤ n → n ≤ 2147483648 → l.all digC = true → satV n l = mn (valL n l) 2147483648
  | [], n, _, h1, _ => by rw [satV, valL, mn_le h1]
  | c :: r, n, h0, h1, h => by
    have hh := h
    rw [List.all_cons, Bool.and_eq_true, digC_iff] at hh
    rw [satV, valL]
    by_cases ha : n * 10 + (c - 48) ≤ 2147483648
    · rw [mn_le ha]
      exact satV_eq r _ (by omega) ha hh.2
    · rw [mn_ge (by omega), satV_eq r 2147483648 (by decide) (by decide) hh.2]
      have a1 := valL_self r 2147483648 (by decide) hh.2
      have a2 := valL_self r (n * 10 + (c - 48)) (by omega) hh.2
      rw [mn_ge a1, mn_ge (by omega)]
theorem valL_cut : ∀ l : List Int, valL 0 (cutC 48 l) = valL 0 l
  | [] => rfl
  | c :: r => by
    by_cases h : c = 48
    · subst h
      have e : cutC 48 (48 :: r) = cutC 48 r := List.dropWhile_cons_of_pos (by decide)
      rw [e, valL_cut r]
      rfl
    · have e : cutC 48 (c :: r) = c :: r := List.dropWhile_cons_of_neg (by simpa using h)
      rw [e]
theorem cutC_head : ∀ l : List Int, cutC 48 l = [] ∨ ∃ c r, cutC 48 l = c :: r ∧ c ≠ 48
  | [] => .inl rfl
  | c :: r => by
    by_cases h : c = 48
    · subst h
      have e : cutC 48 (48 :: r) = cutC 48 r := List.dropWhile_cons_of_pos (by decide)
      rw [e]
      exact cutC_head r
    · have e : cutC 48 (c :: r) = c :: r := List.dropWhile_cons_of_neg (by simpa using h)
      exact .inr ⟨c, r, e, h⟩
theorem cutC_all {l : List Int} (h : l.all digC = true) : (cutC 48 l).all digC = true := by
  rw [List.all_eq_true] at h ⊢
  exact fun x hx => h x (List.dropWhile_sublist _ |>.mem hx)
theorem cutC_big {l : List Int} (h : l.all digC = true) (hl : 10 < (cutC 48 l).length) : 2147483648 ≤ valL 0 (cutC 48 l) := by
  have ha := cutC_all h
  rcases cutC_head l with e | ⟨c, r, e, hc⟩
  · rw [e] at hl; simp at hl
  · rw [e] at hl ha ⊢
    rw [List.all_cons, Bool.and_eq_true, digC_iff] at ha
    rw [valL]
    have h1 := valL_pow r (0 * 10 + (c - 48)) (by omega) ha.2
    have hp : (10 : Int) ^ 10 ≤ 10 ^ r.length := pow_le 10 (by decide) (by simp at hl; omega)
    have h2 : 1 * (10 : Int) ^ r.length ≤ (0 * 10 + (c - 48)) * 10 ^ r.length := Int.mul_le_mul_of_nonneg_right (by omega) (by omega)
    have h3 : (10 : Int) ^ 10 = 10000000000 := by decide
    omega
theorem decFrom_val : ∀ (l : List UInt8) (n : Nat), (l.map fun b : UInt8 => (b.toNat : Int)).all digC = true → ∃ m : Nat, Lib.decFrom n l = some m ∧ (m : Int) = valL n (l.map fun b : UInt8 => (b.toNat : Int))
  | [], n, _ => ⟨n, rfl, rfl⟩
  | b :: r, n, h => by
    rw [List.map_cons, List.all_cons, Bool.and_eq_true, digC_iff] at h
    obtain ⟨m, h1, h2⟩ := decFrom_val r (n * 10 + (b.toNat - 48)) h.2
    refine ⟨m, ?_, ?_⟩
    · rw [Lib.decFrom, Lib.digitVal, if_pos (by omega)]
      exact h1
    · rw [h2, List.map_cons, valL]
      congr 1
      omega
end Go.Proofs.YtjldfmkpdkhnnaaGreatDoor.Dom

namespace Go.Proofs.YtjldfmkpdkhnnaaGreatDoor.Dom
open Go.RowKit Go.Proofs.YtjldfmkpdkhnnaaGreatDoorW.PrintWords Go.Proofs.YtjldfmkpdkhnnaaGreatDoorW.PrintLast Go.Proofs.YtjldfmkpdkhnnaaGreatDoorW.PrintMore Go.Proofs.YtjldfmkpdkhnnaaGreatDoor.Aux

def unqB (s : ByteArray) : ByteArray := if 2 ≤ s.size ∧ bt s 0 = 34 ∧ bt s ((s.size : Int) - 1) = 34 then s.extract 1 (s.size - 1) else s
def dirOf (p : ByteArray) : Option (ByteArray × ByteArray) := if tokB (cutL (bytesOf p) [61]).1 = true then some (lowB (strOfNums (cutL (bytesOf p) [61]).1), unqB (strOfNums (cutL (bytesOf p) [61]).2.1)) else none
def dirL : List ByteArray → List (ByteArray × ByteArray)
  | [] => []
  | p :: r => match dirOf p with
    | some d => d :: dirL r
    | none => dirL r
theorem dirL_length : ∀ l : List ByteArray, (dirL l).length ≤ l.length
  | [] => by simp [dirL]
  | p :: r => by
    have ih := dirL_length r
    rw [dirL]
    split
    · simp; omega
    · simp; omega
def nmCC : ByteArray := ⟨#[99, 97, 99, 104, 101, 45, 99, 111, 110, 116, 114, 111, 108]⟩
def ccB (l : List (ByteArray × ByteArray)) : ByteArray := joinB ⟨#[44, 32]⟩ (getL nmCC l)
def dirsL (l : List (ByteArray × ByteArray)) : List (ByteArray × ByteArray) := dirL (splL (ccB l) 0 (comL (bytesOf (ccB l)) false false 0 ++ [((ccB l).size : Int)]))
theorem cutL_fst (l sep : List Int) : ∃ n : Nat, (cutL l sep).1 = l.take n := by
  unfold cutL
  split
  · exact ⟨_, rfl⟩
  · exact ⟨l.length, by simp⟩
theorem cutL_snd (l sep : List Int) : ∃ n : Nat, (cutL l sep).2.1 = l.drop n := by
  unfold cutL
  split
  · exact ⟨_, rfl⟩
  · exact ⟨l.length, by simp⟩
theorem take_range {s : ByteArray} (n : Nat) : bytesOf (strOfNums ((bytesOf s).take n)) = (bytesOf s).take n := bytesOf_strOfNums fun _ h => bytesOf_range (List.mem_of_mem_take h)
theorem drop_range {s : ByteArray} (n : Nat) : bytesOf (strOfNums ((bytesOf s).drop n)) = (bytesOf s).drop n := bytesOf_strOfNums fun _ h => bytesOf_range (List.mem_of_mem_drop h)
theorem cut_name (s : ByteArray) (sep : List Int) : bytesOf (strOfNums (cutL (bytesOf s) sep).1) = (cutL (bytesOf s) sep).1 ∧ (strOfNums (cutL (bytesOf s) sep).1).size ≤ s.size := by
  obtain ⟨n, e⟩ := cutL_fst (bytesOf s) sep
  rw [e, strOfNums_size, List.length_take, bytesOf_length]
  exact ⟨take_range n, by omega⟩
theorem cut_rest (s : ByteArray) (sep : List Int) : (strOfNums (cutL (bytesOf s) sep).2.1).size ≤ s.size := by
  obtain ⟨n, e⟩ := cutL_snd (bytesOf s) sep
  rw [e, strOfNums_size, List.length_drop, bytesOf_length]
  omega
theorem splL_size (s : ByteArray) : ∀ (l : List Int) (a : Int), ∀ p ∈ splL s a l, p.size ≤ s.size
  | [], a, p, hp => by simp [splL] at hp
  | b :: r, a, p, hp => by
    have hx : (trimB (s.extract a.toNat b.toNat)).size ≤ s.size := by
      have h1 := trim_range (s := s.extract a.toNat b.toNat)
      rw [ByteArray.size_extract] at h1
      omega
    rw [splL] at hp
    split at hp
    · exact splL_size s r _ p hp
    · rcases List.mem_cons.1 hp with rfl | hp
      · exact hx
      · exact splL_size s r _ p hp
theorem ccB_size (l : List (ByteArray × ByteArray)) {n : Int} (h0 : 0 ≤ n) (h : ¬ szF n l < 0) : ((ccB l).size : Int) ≤ 3 * n := by
  have h1 := szF_sum nmCC h0 h
  have h2 := joinB_size ⟨#[44, 32]⟩ (getL nmCC l)
  unfold ccB
  have e : ((getL nmCC l).map fun v => v.size + (⟨#[44, 32]⟩ : ByteArray).size) = (getL nmCC l).map fun v => v.size + 2 := rfl
  rw [e] at h2
  omega
def joinG (nm : ByteArray) (l : List (ByteArray × ByteArray)) : ByteArray := joinB ⟨#[44, 32]⟩ (getL nm l)
theorem joinG_size (nm : ByteArray) (l : List (ByteArray × ByteArray)) {n : Int} (h0 : 0 ≤ n) (h : ¬ szF n l < 0) : ((joinG nm l).size : Int) ≤ 3 * n := by
  have h1 := szF_sum nm h0 h
  have h2 := joinB_size ⟨#[44, 32]⟩ (getL nm l)
  unfold joinG
  have e : ((getL nm l).map fun v => v.size + (⟨#[44, 32]⟩ : ByteArray).size) = (getL nm l).map fun v => v.size + 2 := rfl
  rw [e] at h2
  omega
theorem satV_bd : ∀ (l : List Int) (n : Int), 0 ≤ n → n ≤ 2147483648 → l.all digC = true → 0 ≤ satV n l ∧ satV n l ≤ 2147483648
  | [], n, h0, h1, _ => ⟨h0, h1⟩
  | c :: r, n, h0, h1, h => by
    rw [List.all_cons, Bool.and_eq_true, digC_iff] at h
    rw [satV]
    exact satV_bd r _ (by unfold mn; split <;> omega) (by unfold mn; split <;> omega) h.2
theorem secP_bd (l : List Int) : 0 ≤ (secP l).1 ∧ (secP l).1 ≤ 2147483648 := by
  unfold secP
  split
  · rename_i h
    exact satV_bd l 0 (by omega) (by omega) h
  · simp
theorem unqB_size (s : ByteArray) : (unqB s).size ≤ s.size := by
  unfold unqB
  split
  · rw [ByteArray.size_extract]; omega
  · exact Nat.le_refl _
theorem dirL_size (M : Nat) : ∀ (l : List ByteArray), (∀ p ∈ l, p.size ≤ M) → ∀ d ∈ dirL l, d.1.size ≤ M ∧ d.2.size ≤ M
  | [], _, d, hd => by simp [dirL] at hd
  | p :: r, h, d, hd => by
    have ih := dirL_size M r (fun q hq => h q (List.mem_cons_of_mem _ hq)) d
    rw [dirL] at hd
    have hp := h p List.mem_cons_self
    obtain ⟨_, n2⟩ := cut_name p [61]
    have n3 := cut_rest p [61]
    split at hd
    · rename_i x hx
      rcases List.mem_cons.1 hd with rfl | hd
      · unfold dirOf at hx
        split at hx
        · have hx := Option.some.inj hx
          subst hx
          have h3 := unqB_size (strOfNums (cutL (bytesOf p) [61]).2.1)
          have h4 := low_range (s := strOfNums (cutL (bytesOf p) [61]).1)
          simp only
          omega
        · cases hx
      · exact ih hd
    · exact ih hd
theorem dirsL_size (l : List (ByteArray × ByteArray)) {n : Int} (h0 : 0 ≤ n) (h : ¬ szF n l < 0) : ∀ d ∈ dirsL l, (d.1.size : Int) ≤ 3 * n ∧ (d.2.size : Int) ≤ 3 * n := by
  have h1 := ccB_size l h0 h
  intro d hd
  have := dirL_size (ccB l).size _ (splL_size (ccB l) _ 0) d hd
  omega
theorem dirsL_length (l : List (ByteArray × ByteArray)) {n : Int} (h0 : 0 ≤ n) (h : ¬ szF n l < 0) : ((dirsL l).length : Int) ≤ 3 * n + 1 := by
  have h1 := ccB_size l h0 h
  have h2 := dirL_length (splL (ccB l) 0 (comL (bytesOf (ccB l)) false false 0 ++ [((ccB l).size : Int)]))
  have h3 := splL_length (ccB l) (comL (bytesOf (ccB l)) false false 0 ++ [((ccB l).size : Int)]) 0
  have h4 := comL_length (bytesOf (ccB l)) false false 0
  rw [bytesOf_length] at h4
  rw [List.length_append, List.length_singleton] at h3
  unfold dirsL
  omega
def ccL (nm : ByteArray) : List (ByteArray × ByteArray) → List Int
  | [] => []
  | p :: r => if p.1 = nm then (secP (bytesOf p.2)).1 :: ccL nm r else ccL nm r
def finS : Int → Bool → List Int → Int × Bool
  | n, b, [] => if b = true then (n, true) else (0, false)
  | n, _, v :: r => finS (mn n v) true r
def finI : Int → Bool → List Int → Int × Bool
  | n, b, [] => (n, b)
  | n, b, v :: r => finI (if b = true then (if v < n then v else n) else v) true r
theorem finI_true : ∀ (V : List Int) (n : Int), finI n true V = finS n true V
  | [], n => by simp [finI, finS]
  | v :: r, n => by
    rw [finI, finS, if_pos rfl, finI_true r]
    have e : (if v < n then v else n) = mn n v := rfl
    rw [e]
theorem finI_eq (V : List Int) (h : ∀ v ∈ V, v ≤ 2147483648) : finI 0 false V = finS 2147483648 false V := by
  cases V with
  | nil => rfl
  | cons v r =>
    rw [finI, finS, if_neg (by decide), finI_true, mn_ge (h v List.mem_cons_self)]
theorem ccL_bd (nm : ByteArray) : ∀ (l : List (ByteArray × ByteArray)), ∀ v ∈ ccL nm l, 0 ≤ v ∧ v ≤ 2147483648
  | [], v, hv => by simp [ccL] at hv
  | p :: r, v, hv => by
    rw [ccL] at hv
    split at hv
    · rcases List.mem_cons.1 hv with rfl | hv
      · exact secP_bd _
      · exact ccL_bd nm r v hv
    · exact ccL_bd nm r v hv
def ccSec (l : List (ByteArray × ByteArray)) (nm : ByteArray) : Int × Bool := finS 2147483648 false (ccL nm (dirsL l))
def ydL : Nat → Int → Int → Int × Int
  | 0, y, d => (y, d)
  | f + 1, y, d => if yearD y ≤ d then ydL f (y + 1) (d - yearD y) else (y, d)
def mdL (y : Int) : Nat → Int → Int → Int × Int
  | 0, m, d => (m, d)
  | f + 1, m, d => if monthD y m ≤ d then mdL y f (m + 1) (d - monthD y m) else (m, d)
theorem ydL_spec : ∀ (f : Nat) (y d : Int), 0 ≤ d → d < 365 * f → ∃ j : Nat, ydL f y d = (y + j, d - yearsD j y) ∧ 0 ≤ d - yearsD j y ∧ d - yearsD j y < yearD (y + j) ∧ j < f
  | 0, y, d, h0, h => by omega
  | f + 1, y, d, h0, h => by
    have hb := yearD_bd y
    rw [ydL]
    by_cases hd : yearD y ≤ d
    · rw [if_pos hd]
      obtain ⟨j, e, a1, a2, a3⟩ := ydL_spec f (y + 1) (d - yearD y) (by omega) (by omega)
      refine ⟨j + 1, ?_, ?_, ?_, by omega⟩
      · rw [e, yearsD]
        refine Prod.ext ?_ ?_
        · simp; omega
        · simp; omega
      · rw [yearsD]; omega
      · rw [yearsD, show y + ((j + 1 : Nat) : Int) = y + 1 + j by omega]; omega
    · rw [if_neg hd]
      exact ⟨0, by simp [yearsD], by simp [yearsD]; omega, by simp [yearsD]; omega, by omega⟩
def yearW (y : Int) : Int := monthsD y 12 1
theorem yearW_eq (y : Int) : yearW y = yearD y := by
  unfold yearW yearD
  simp only [monthsD, monthD]
  cases leapB y <;> simp
theorem monthsD_succ (y : Int) : ∀ (d : Nat) (m : Int), monthsD y (d + 1) m = monthsD y d m + monthD y (m + d)
  | 0, m => by simp [monthsD]
  | d + 1, m => by
    rw [monthsD, monthsD_succ y d (m + 1), monthsD, show m + 1 + (d : Int) = m + ((d + 1 : Nat) : Int) by omega]
    omega
theorem yearsD_succ : ∀ (d : Nat) (y : Int), yearsD (d + 1) y = yearsD d y + yearD (y + d)
  | 0, y => by simp [yearsD]
  | d + 1, y => by
    rw [yearsD, yearsD_succ d (y + 1), yearsD, show y + 1 + (d : Int) = y + ((d + 1 : Nat) : Int) by omega]
    omega
theorem mdL_spec (y : Int) : ∀ (f : Nat) (m d : Int), 0 ≤ d → d < monthsD y f m → ∃ j : Nat, mdL y f m d = (m + j, d - monthsD y j m) ∧ 0 ≤ d - monthsD y j m ∧ d - monthsD y j m < monthD y (m + j) ∧ j < f
  | 0, m, d, h0, h => by simp [monthsD] at h; omega
  | f + 1, m, d, h0, h => by
    rw [monthsD] at h
    rw [mdL]
    by_cases hd : monthD y m ≤ d
    · rw [if_pos hd]
      obtain ⟨j, e, a1, a2, a3⟩ := mdL_spec y f (m + 1) (d - monthD y m) (by omega) (by omega)
      refine ⟨j + 1, ?_, ?_, ?_, by omega⟩
      · rw [e, monthsD]
        refine Prod.ext ?_ ?_
        · simp; omega
        · simp; omega
      · rw [monthsD]; omega
      · rw [monthsD, show m + ((j + 1 : Nat) : Int) = m + 1 + j by omega]; omega
    · rw [if_neg hd]
      exact ⟨0, by simp [monthsD], by simp [monthsD]; omega, by simp [monthsD]; omega, by omega⟩
def twoL (n : Int) : List Int := [48 + n / 10 % 10, 48 + n % 10]
def weekL (d : Int) : List Int := if d = 0 then [84, 104, 117] else if d = 1 then [70, 114, 105] else if d = 2 then [83, 97, 116] else if d = 3 then [83, 117, 110] else if d = 4 then [77, 111, 110] else if d = 5 then [84, 117, 101] else [87, 101, 100]
def monL (m : Int) : List Int := if m = 1 then [74, 97, 110] else if m = 2 then [70, 101, 98] else if m = 3 then [77, 97, 114] else if m = 4 then [65, 112, 114] else if m = 5 then [77, 97, 121] else if m = 6 then [74, 117, 110] else if m = 7 then [74, 117, 108] else if m = 8 then [65, 117, 103] else if m = 9 then [83, 101, 112] else if m = 10 then [79, 99, 116] else if m = 11 then [78, 111, 118] else [68, 101, 99]
def ymd (days : Int) : Int × Int × Int := ((ydL 70 1970 days).1, (mdL (ydL 70 1970 days).1 12 1 (ydL 70 1970 days).2).1, (mdL (ydL 70 1970 days).1 12 1 (ydL 70 1970 days).2).2 + 1)
theorem ymd_spec {days : Int} (h0 : 0 ≤ days) (h1 : days ≤ 23148) : 1970 ≤ (ymd days).1 ∧ (ymd days).1 ≤ 2033 ∧ 1 ≤ (ymd days).2.1 ∧ (ymd days).2.1 ≤ 12 ∧ 1 ≤ (ymd days).2.2 ∧ (ymd days).2.2 ≤ monthD (ymd days).1 (ymd days).2.1 ∧
    days = (ymd days).2.2 - 1 + yearsD ((ymd days).1 - 1970).toNat 1970 + monthsD (ymd days).1 ((ymd days).2.1 - 1).toNat 1 := by
  obtain ⟨j, e, a1, a2, a3⟩ := ydL_spec 70 1970 days h0 (by omega)
  have hy := yearW_eq (1970 + j)
  unfold yearW at hy
  obtain ⟨i, e2, b1, b2, b3⟩ := mdL_spec (1970 + j) 12 1 (days - yearsD j 1970) a1 (by omega)
  have hj := yearsD_bd j 1970
  have ej : (1970 + (j : Int) - 1970).toNat = j := by omega
  have ei : (1 + (i : Int) - 1).toNat = i := by omega
  simp only [ymd, e, e2, ej, ei]
  omega
theorem daysP_ymd {days : Int} (h0 : 0 ≤ days) (h1 : days ≤ 23148) : daysP (ymd days).1 (ymd days).2.1 (ymd days).2.2 = days := by
  obtain ⟨a1, a2, a3, a4, a5, a6, a7⟩ := ymd_spec h0 h1
  unfold daysP
  rw [if_pos ⟨⟨a1, by omega⟩, ⟨a3, a4⟩, a5, a6⟩]
  exact a7.symm
def dateL (sec : Int) : List Int :=
  weekL (sec / 86400 % 7) ++ [44, 32] ++ twoL (ymd (sec / 86400)).2.2 ++ [32] ++ monL (ymd (sec / 86400)).2.1 ++ [32] ++ decP (ymd (sec / 86400)).1 ++ [32] ++ twoL (sec / 3600 % 24) ++ [58] ++ twoL (sec / 60 % 60) ++ [58] ++ twoL (sec % 60) ++ [32, 71, 77, 84]
def dateB (sec : Int) : ByteArray := if 0 ≤ sec ∧ sec ≤ 2000000000 then strOfNums (dateL sec) else ⟨#[]⟩
theorem decP_100 {n : Int} (h0 : 0 ≤ n) (h1 : n ≤ 99) : decP (100 + n) = 49 :: twoL n := by
  unfold decP twoL
  rw [if_neg (by omega), if_neg (by omega)]
  have e3 : (100 + n) / 10 / 10 / 10 = 0 := by omega
  have e2 : (100 + n) / 10 / 10 % 10 = 1 := by omega
  have e1 : (100 + n) / 10 % 10 = n / 10 % 10 := by omega
  have e0 : (100 + n) % 10 = n % 10 := by omega
  rw [show (20 : Nat) = 16 + 1 + 1 + 1 + 1 from rfl, decL, if_pos (by omega), decL, if_pos (by omega), decL, if_pos (by omega), decL, if_neg (by omega), e2, e1, e0]
  rfl
theorem decP_year {y : Int} (h0 : 1000 ≤ y) (h1 : y ≤ 9999) : decP y = [48 + y / 1000, 48 + y / 100 % 10, 48 + y / 10 % 10, 48 + y % 10] := by
  unfold decP
  rw [if_neg (by omega), if_neg (by omega)]
  have e3 : y / 10 / 10 / 10 % 10 = y / 1000 := by omega
  have e2 : y / 10 / 10 % 10 = y / 100 % 10 := by omega
  rw [show (20 : Nat) = 15 + 1 + 1 + 1 + 1 + 1 from rfl, decL, if_pos (by omega), decL, if_pos (by omega), decL, if_pos (by omega), decL, if_pos (by omega), decL, if_neg (by omega), e3, e2]
theorem weekL_length (d : Int) : (weekL d).length = 3 := by unfold weekL; (repeat' split) <;> rfl
theorem monL_length (m : Int) : (monL m).length = 3 := by unfold monL; (repeat' split) <;> rfl
theorem months_rd {m : Int} (h1 : 1 ≤ m) (h2 : m ≤ 12) : rdOf ByteArray.empty ([(⟨#[74, 97, 110]⟩ : ByteArray), (⟨#[70, 101, 98]⟩ : ByteArray), (⟨#[77, 97, 114]⟩ : ByteArray), (⟨#[65, 112, 114]⟩ : ByteArray), (⟨#[77, 97, 121]⟩ : ByteArray), (⟨#[74, 117, 110]⟩ : ByteArray), (⟨#[74, 117, 108]⟩ : ByteArray), (⟨#[65, 117, 103]⟩ : ByteArray), (⟨#[83, 101, 112]⟩ : ByteArray), (⟨#[79, 99, 116]⟩ : ByteArray), (⟨#[78, 111, 118]⟩ : ByteArray), (⟨#[68, 101, 99]⟩ : ByteArray)] : List ByteArray) (m - 1) = strOfNums (monL m) := by
  have hm : m = 1 ∨ m = 2 ∨ m = 3 ∨ m = 4 ∨ m = 5 ∨ m = 6 ∨ m = 7 ∨ m = 8 ∨ m = 9 ∨ m = 10 ∨ m = 11 ∨ m = 12 := by omega
  rcases hm with rfl | rfl | rfl | rfl | rfl | rfl | rfl | rfl | rfl | rfl | rfl | rfl <;> rfl
theorem week_rd {d : Int} (h1 : 0 ≤ d) (h2 : d < 7) : rdOf ByteArray.empty ([(⟨#[84, 104, 117]⟩ : ByteArray), (⟨#[70, 114, 105]⟩ : ByteArray), (⟨#[83, 97, 116]⟩ : ByteArray), (⟨#[83, 117, 110]⟩ : ByteArray), (⟨#[77, 111, 110]⟩ : ByteArray), (⟨#[84, 117, 101]⟩ : ByteArray), (⟨#[87, 101, 100]⟩ : ByteArray)] : List ByteArray) d = strOfNums (weekL d) := by
  have hm : d = 0 ∨ d = 1 ∨ d = 2 ∨ d = 3 ∨ d = 4 ∨ d = 5 ∨ d = 6 := by omega
  rcases hm with rfl | rfl | rfl | rfl | rfl | rfl | rfl <;> rfl
theorem ydL_more : ∀ (f j : Nat) (y d : Int), 0 ≤ d → d < 365 * f → ydL (f + j) y d = ydL f y d
  | 0, j, y, d, h0, h => by omega
  | f + 1, j, y, d, h0, h => by
    have hb := yearD_bd y
    rw [show f + 1 + j = (f + j) + 1 by omega, ydL, ydL]
    split
    · exact ydL_more f j (y + 1) _ (by omega) (by omega)
    · rfl

end Go.Proofs.YtjldfmkpdkhnnaaGreatDoor.Dom

namespace Go.Proofs.YtjldfmkpdkhnnaaGreatDoor.Dom
open Go.RowKit Go.Proofs.YtjldfmkpdkhnnaaGreatDoorW.PrintWords Go.Proofs.YtjldfmkpdkhnnaaGreatDoorW.PrintLast Go.Proofs.YtjldfmkpdkhnnaaGreatDoorW.PrintMore Go.Proofs.YtjldfmkpdkhnnaaGreatDoor.Aux

def numP (l : List Int) : Int := if l.all digC = true then valL 0 l else -1
theorem valL_bd : ∀ (l : List Int) (n : Int) (j : Nat), l.all digC = true → 0 ≤ n → n < 10 ^ j → 0 ≤ valL n l ∧ valL n l < 10 ^ (j + l.length)
  | [], n, j, _, h0, h1 => ⟨h0, by simpa [valL] using h1⟩
  | c :: r, n, j, h, h0, h1 => by
    rw [List.all_cons, Bool.and_eq_true, digC_iff] at h
    have := valL_bd r (n * 10 + (c - 48)) (j + 1) h.2 (by omega) (by rw [Int.pow_succ]; omega)
    rw [valL, List.length_cons, show j + (r.length + 1) = j + 1 + r.length by omega]
    exact this
theorem numP_bd (l : List Int) (k : Nat) (hk : l.length ≤ k) : -1 ≤ numP l ∧ numP l < 10 ^ k := by
  have hp : (0 : Int) < 10 ^ k := Int.pow_pos (by decide)
  unfold numP
  split
  · rename_i h
    have h1 := valL_bd l 0 0 h (by omega) (by decide)
    have h2 : (10 : Int) ^ (0 + l.length) ≤ 10 ^ k := pow_le 10 (by decide) (by omega)
    omega
  · omega
theorem numP_two {n : Int} (h0 : 0 ≤ n) (h1 : n ≤ 99) : numP (twoL n) = n := by
  unfold numP twoL
  rw [if_pos (by simp only [List.all_cons, List.all_nil, Bool.and_true, Bool.and_eq_true, digC_iff]; omega)]
  simp only [valL]
  omega
theorem numP_year {y : Int} (h0 : 1000 ≤ y) (h1 : y ≤ 9999) : numP (decP y) = y := by
  rw [decP_year h0 h1]
  unfold numP
  rw [if_pos (by simp only [List.all_cons, List.all_nil, Bool.and_true, Bool.and_eq_true, digC_iff]; omega)]
  simp only [valL]
  omega
def monF (w : List Int) : Nat → Int → Int → Int
  | 0, _, acc => acc
  | d + 1, m, acc => monF w d (m + 1) (if w = monL m then m else acc)
def monI (w : List Int) : Int := monF w 12 1 0
theorem monI_monL {m : Int} (h1 : 1 ≤ m) (h2 : m ≤ 12) : monI (monL m) = m := by
  have hm : m = 1 ∨ m = 2 ∨ m = 3 ∨ m = 4 ∨ m = 5 ∨ m = 6 ∨ m = 7 ∨ m = 8 ∨ m = 9 ∨ m = 10 ∨ m = 11 ∨ m = 12 := by omega
  rcases hm with rfl | rfl | rfl | rfl | rfl | rfl | rfl | rfl | rfl | rfl | rfl | rfl <;> decide
def sub (l : List Int) (a n : Nat) : List Int := (l.drop a).take n
def daysI (l : List Int) : Int := daysP (numP (sub l 12 4)) (monI (sub l 8 3)) (numP (sub l 5 2))
def readL (l : List Int) : Int := daysI l * 86400 + numP (sub l 17 2) * 3600 + numP (sub l 20 2) * 60 + numP (sub l 23 2)
def readDateP (s : ByteArray) : Int × Bool := if s.size = 29 ∧ dateB (readL (bytesOf s)) = s then (readL (bytesOf s), true) else (0, false)
def dateOfP (l : List (ByteArray × ByteArray)) (nm : ByteArray) : Int × Bool := if (!(getL nm l).isEmpty) = true then readDateP (joinG nm l) else (0, false)
theorem three {l : List Int} (h : l.length = 3) : ∃ a b c, l = [a, b, c] := by
  match l, h with
  | [a, b, c], _ => exact ⟨a, b, c, rfl⟩
theorem dateL_pieces {sec : Int} (h0 : 0 ≤ sec) (h1 : sec ≤ 2000000000) :
    sub (dateL sec) 12 4 = decP (ymd (sec / 86400)).1 ∧ sub (dateL sec) 8 3 = monL (ymd (sec / 86400)).2.1 ∧ sub (dateL sec) 5 2 = twoL (ymd (sec / 86400)).2.2 ∧
    sub (dateL sec) 17 2 = twoL (sec / 3600 % 24) ∧ sub (dateL sec) 20 2 = twoL (sec / 60 % 60) ∧ sub (dateL sec) 23 2 = twoL (sec % 60) := by
  obtain ⟨a1, a2, _⟩ := ymd_spec (days := sec / 86400) (by omega) (by omega)
  obtain ⟨w1, w2, w3, ew⟩ := three (weekL_length (sec / 86400 % 7))
  obtain ⟨m1, m2, m3, em⟩ := three (monL_length (ymd (sec / 86400)).2.1)
  unfold dateL sub
  rw [decP_year (by omega) (by omega), ew, em]
  exact ⟨rfl, rfl, rfl, rfl, rfl, rfl⟩
theorem date_facts {sec : Int} (h0 : 0 ≤ sec) (h1 : sec ≤ 2000000000) : daysI (dateL sec) = sec / 86400 ∧ numP (sub (dateL sec) 17 2) = sec / 3600 % 24 ∧ numP (sub (dateL sec) 20 2) = sec / 60 % 60 ∧ numP (sub (dateL sec) 23 2) = sec % 60 := by
  obtain ⟨e1, e2, e3, e4, e5, e6⟩ := dateL_pieces h0 h1
  obtain ⟨a1, a2, a3, a4, a5, a6, _⟩ := ymd_spec (days := sec / 86400) (by omega) (by omega)
  have hb := monthD_bd (ymd (sec / 86400)).1 (ymd (sec / 86400)).2.1
  unfold daysI
  rw [e1, e2, e3, e4, e5, e6, numP_year (by omega) (by omega), monI_monL a3 a4, numP_two (n := (ymd (sec / 86400)).2.2) (by omega) (by omega), daysP_ymd (by omega) (by omega)]
  exact ⟨rfl, numP_two (by omega) (by omega), numP_two (by omega) (by omega), numP_two (by omega) (by omega)⟩
theorem readL_dateL {sec : Int} (h0 : 0 ≤ sec) (h1 : sec ≤ 2000000000) : readL (dateL sec) = sec := by
  obtain ⟨e1, e2, e3, e4⟩ := date_facts h0 h1
  unfold readL
  rw [e1, e2, e3, e4]
  omega
theorem weekL_ge (d : Int) : ∀ c ∈ weekL d, 65 ≤ c ∧ c < 256 := by
  intro c hc
  unfold weekL at hc
  (repeat' split at hc) <;> simp at hc <;> omega
theorem monL_ge (d : Int) : ∀ c ∈ monL d, 65 ≤ c ∧ c < 256 := by
  intro c hc
  unfold monL at hc
  (repeat' split at hc) <;> simp at hc <;> omega
theorem dateL_range {sec : Int} (h0 : 0 ≤ sec) (h1 : sec ≤ 2000000000) : ∀ c ∈ dateL sec, 0 ≤ c ∧ c < 256 := by
  obtain ⟨a1, a2, _⟩ := ymd_spec (days := sec / 86400) (by omega) (by omega)
  have hw : ∀ d : Int, ∀ c ∈ weekL d, 0 ≤ c ∧ c < 256 := fun d c hc => by have := weekL_ge d c hc; omega
  have hm : ∀ d : Int, ∀ c ∈ monL d, 0 ≤ c ∧ c < 256 := fun d c hc => by have := monL_ge d c hc; omega
  have ht : ∀ n : Int, ∀ c ∈ twoL n, 0 ≤ c ∧ c < 256 := by
    intro n c hc
    simp [twoL] at hc
    omega
  intro c hc
  unfold dateL at hc
  rw [decP_year (by omega) (by omega)] at hc
  simp only [List.mem_append] at hc
  rcases hc with ((((((((((((hc | hc) | hc) | hc) | hc) | hc) | hc) | hc) | hc) | hc) | hc) | hc) | hc) | hc
  · exact hw _ c hc
  · simp at hc; omega
  · exact ht _ c hc
  · simp at hc; omega
  · exact hm _ c hc
  · simp at hc; omega
  · simp at hc; omega
  · simp at hc; omega
  · exact ht _ c hc
  · simp at hc; omega
  · exact ht _ c hc
  · simp at hc; omega
  · exact ht _ c hc
  · simp at hc; omega
theorem dateB_some {s : ByteArray} {sec : Int} (hs : s.size = 29) (h : dateB sec = s) : 0 ≤ sec ∧ sec ≤ 2000000000 ∧ bytesOf s = dateL sec ∧ readL (bytesOf s) = sec := by
  unfold dateB at h
  split at h
  · rename_i hr
    have e : bytesOf s = dateL sec := by rw [← h]; exact bytesOf_strOfNums (dateL_range hr.1 hr.2)
    exact ⟨hr.1, hr.2, e, by rw [e]; exact readL_dateL hr.1 hr.2⟩
  · subst h
    cases hs
theorem readDateP_some {s : ByteArray} {sec : Int} (hs : s.size = 29) (h : dateB sec = s) : readDateP s = (sec, true) := by
  obtain ⟨_, _, _, e⟩ := dateB_some hs h
  unfold readDateP
  rw [e, if_pos ⟨hs, h⟩]
theorem readDateP_none {s : ByteArray} (h : ∀ sec, s.size = 29 → dateB sec = s → False) : readDateP s = (0, false) := by
  unfold readDateP
  exact if_neg fun hh => h _ hh.1 hh.2
theorem daysP_bd (y m d : Int) : -1 ≤ daysP y m d ∧ daysP y m d ≤ 30000 := by
  unfold daysP
  split
  · rename_i h
    have h1 := yearsD_bd (y - 1970).toNat 1970
    have h2 := monthsD_bd y (m - 1).toNat 1
    have h3 := monthD_bd y m
    omega
  · omega
theorem splC_date {sec : Int} (h0 : 0 ≤ sec) (h1 : sec ≤ 2000000000) : splC 32 (dateL sec) = [weekL (sec / 86400 % 7) ++ [44], twoL (ymd (sec / 86400)).2.2, monL (ymd (sec / 86400)).2.1, decP (ymd (sec / 86400)).1, twoL (sec / 3600 % 24) ++ [58] ++ twoL (sec / 60 % 60) ++ [58] ++ twoL (sec % 60), [71, 77, 84]] := by
  obtain ⟨a1, a2, a3, a4, a5, a6, _⟩ := ymd_spec (days := sec / 86400) (by omega) (by omega)
  have hb := monthD_bd (ymd (sec / 86400)).1 (ymd (sec / 86400)).2.1
  have hw : ∀ d : Int, (32 : Int) ∉ weekL d := fun d hc => by have := weekL_ge d 32 hc; omega
  have hm : ∀ d : Int, (32 : Int) ∉ monL d := fun d hc => by have := monL_ge d 32 hc; omega
  have ht : ∀ n : Int, (32 : Int) ∉ twoL n := by
    intro n hc
    simp [twoL] at hc
    omega
  have hy : (32 : Int) ∉ decP (ymd (sec / 86400)).1 := by
    rw [decP_year (by omega) (by omega)]
    intro hc
    simp at hc
    omega
  unfold dateL
  generalize decP (ymd (sec / 86400)).1 = Y at hy
  have hmm := hm (ymd (sec / 86400)).2.1
  generalize monL (ymd (sec / 86400)).2.1 = M at hmm
  have hww := hw (sec / 86400 % 7)
  generalize weekL (sec / 86400 % 7) = W at hww
  have hdd := ht (ymd (sec / 86400)).2.2
  generalize twoL (ymd (sec / 86400)).2.2 = D at hdd
  have hh := ht (sec / 3600 % 24)
  generalize twoL (sec / 3600 % 24) = H at hh
  have hi := ht (sec / 60 % 60)
  generalize twoL (sec / 60 % 60) = I at hi
  have hx := ht (sec % 60)
  generalize twoL (sec % 60) = X at hx
  have e : W ++ [44, 32] ++ D ++ [32] ++ M ++ [32] ++ Y ++ [32] ++ H ++ [58] ++ I ++ [58] ++ X ++ [32, 71, 77, 84] = (W ++ [44]) ++ 32 :: (D ++ 32 :: (M ++ 32 :: (Y ++ 32 :: ((H ++ [58] ++ I ++ [58] ++ X) ++ 32 :: [71, 77, 84])))) := by simp
  rw [e, splC_hit _ (by simp [hww]), splC_hit _ hdd, splC_hit _ hmm, splC_hit _ hy, splC_hit _ (by simp [hh, hi, hx]), splC_miss (by simp)]
def idxT (w : ByteArray) : List ByteArray → Int
  | [] => -1
  | x :: r => if w = x then 0 else if idxT w r = -1 then -1 else idxT w r + 1
theorem idxT_bd (w : ByteArray) : ∀ l, -1 ≤ idxT w l ∧ idxT w l < l.length
  | [] => by simp [idxT]
  | x :: r => by
    have := idxT_bd w r
    rw [idxT, List.length_cons]
    split
    · omega
    · split <;> omega
def monthsB : List ByteArray := [(⟨#[74, 97, 110]⟩ : ByteArray), (⟨#[70, 101, 98]⟩ : ByteArray), (⟨#[77, 97, 114]⟩ : ByteArray), (⟨#[65, 112, 114]⟩ : ByteArray), (⟨#[77, 97, 121]⟩ : ByteArray), (⟨#[74, 117, 110]⟩ : ByteArray), (⟨#[74, 117, 108]⟩ : ByteArray), (⟨#[65, 117, 103]⟩ : ByteArray), (⟨#[83, 101, 112]⟩ : ByteArray), (⟨#[79, 99, 116]⟩ : ByteArray), (⟨#[78, 111, 118]⟩ : ByteArray), (⟨#[68, 101, 99]⟩ : ByteArray)]
theorem idxT_month {m : Int} (h1 : 1 ≤ m) (h2 : m ≤ 12) : idxT (strOfNums (monL m)) monthsB = m - 1 := by
  have hm : m = 1 ∨ m = 2 ∨ m = 3 ∨ m = 4 ∨ m = 5 ∨ m = 6 ∨ m = 7 ∨ m = 8 ∨ m = 9 ∨ m = 10 ∨ m = 11 ∨ m = 12 := by omega
  rcases hm with rfl | rfl | rfl | rfl | rfl | rfl | rfl | rfl | rfl | rfl | rfl | rfl <;> decide
end Go.Proofs.YtjldfmkpdkhnnaaGreatDoor.Dom

namespace Go.Proofs.YtjldfmkpdkhnnaaGreatDoor.Dom
open Go.RowKit Go.Proofs.YtjldfmkpdkhnnaaGreatDoorW.PrintWords Go.Proofs.YtjldfmkpdkhnnaaGreatDoorW.PrintLast Go.Proofs.YtjldfmkpdkhnnaaGreatDoorW.PrintMore Go.Proofs.YtjldfmkpdkhnnaaGreatDoor.Aux

def laterP (a b : Int) : Int := if b < 0 then 0 else if a ≤ b then 0 else a - b
theorem laterP_bd {a b : Int} (h : a ≤ 9223372036854775807) : 0 ≤ laterP a b ∧ laterP a b ≤ 9223372036854775807 := by
  unfold laterP
  split
  · omega
  · split <;> omega
theorem readDateP_bd (s : ByteArray) : 0 ≤ (readDateP s).1 ∧ (readDateP s).1 ≤ 2000000000 := by
  unfold readDateP
  split
  · rename_i h
    obtain ⟨a, b, _, _⟩ := dateB_some h.1 h.2
    exact ⟨a, b⟩
  · simp
theorem dateOfP_bd (l : List (ByteArray × ByteArray)) (nm : ByteArray) : 0 ≤ (dateOfP l nm).1 ∧ (dateOfP l nm).1 ≤ 2000000000 := by
  unfold dateOfP
  split
  · exact readDateP_bd _
  · simp
def nmDate : ByteArray := ⟨#[100, 97, 116, 101]⟩
def nmExp : ByteArray := ⟨#[101, 120, 112, 105, 114, 101, 115]⟩
def nmLast : ByteArray := ⟨#[108, 97, 115, 116, 45, 109, 111, 100, 105, 102, 105, 101, 100]⟩
def nmSM : ByteArray := ⟨#[115, 45, 109, 97, 120, 97, 103, 101]⟩
def nmMA : ByteArray := ⟨#[109, 97, 120, 45, 97, 103, 101]⟩
def lifeD (l : List (ByteArray × ByteArray)) : Int :=
  if (!(getL nmExp l).isEmpty) = true then (if (dateOfP l nmExp).2 = true then (if (dateOfP l nmDate).2 = true then laterP (dateOfP l nmExp).1 (dateOfP l nmDate).1 else 0) else 0)
  else if (dateOfP l nmLast).2 = true then (if (dateOfP l nmDate).2 = true then laterP (dateOfP l nmDate).1 (dateOfP l nmLast).1 / 10 else 0) else 0
def lifetimeP (l : List (ByteArray × ByteArray)) : Int := if (ccSec l nmSM).2 = true then (ccSec l nmSM).1 else if (ccSec l nmMA).2 = true then (ccSec l nmMA).1 else lifeD l
end Go.Proofs.YtjldfmkpdkhnnaaGreatDoor.Dom

namespace Go.Proofs.YtjldfmkpdkhnnaaGreatDoor.Pure
open Go.RowKit Go.Proofs.YtjldfmkpdkhnnaaGreatDoor.QL Go.Proofs.YtjldfmkpdkhnnaaGreatDoorW.PrintWords Go.Proofs.YtjldfmkpdkhnnaaGreatDoorW.PrintLast Go.Proofs.YtjldfmkpdkhnnaaGreatDoorW.PrintMore Go.Proofs.YtjldfmkpdkhnnaaGreatDoor.Aux Go.Proofs.YtjldfmkpdkhnnaaGreatDoor.Dom Go.Proofs.YtjldfmkpdkhnnaaGreatDoor.Ext
theorem laws_szField_eq (a b : ByteArray) (n : Int) (ha : a.size ≤ maxLen) (hb : b.size ≤ maxLen) (h0 : 0 ≤ n) (h1 : n ≤ 9223372036854775807) :
    laws_szField.f a b n = some (if n - a.size - b.size < 0 then -1 else n - a.size - b.size) := by
  unfold maxLen at ha hb
  unfold laws_szField.f
  by_cases h : n - a.size < 0
  · rw [wrap_id (by omega) (by omega), if_pos h, if_pos (by omega)]
  · rw [wrap_id (x := n - a.size) (by omega) (by omega), if_neg h, wrap_id (by omega) (by omega)]
    by_cases h2 : n - a.size - b.size < 0
    · rw [if_pos h2, if_pos h2]
    · rw [if_neg h2, if_neg h2]

end Go.Proofs.YtjldfmkpdkhnnaaGreatDoor.Pure

namespace Go.Proofs.YtjldfmkpdkhnnaaGreatDoor.Pure
open Go.RowKit Go.Proofs.YtjldfmkpdkhnnaaGreatDoor.QL Go.Proofs.YtjldfmkpdkhnnaaGreatDoorW.PrintWords Go.Proofs.YtjldfmkpdkhnnaaGreatDoorW.PrintLast Go.Proofs.YtjldfmkpdkhnnaaGreatDoorW.PrintMore Go.Proofs.YtjldfmkpdkhnnaaGreatDoor.Aux Go.Proofs.YtjldfmkpdkhnnaaGreatDoor.Dom Go.Proofs.YtjldfmkpdkhnnaaGreatDoor.Ext
theorem laws_szFieldS_l0 (l : List S107) (hl : l.length ≤ maxLen) (hm : ∀ x ∈ l, x.f0.size ≤ maxLen ∧ x.f1.size ≤ maxLen) : ∀ (d : Nat) (n i : Int), 0 ≤ i → (l.length : Int) - i = d → 0 ≤ n → n ≤ 1048576 →
    Ev (fun k => laws_szFieldS.l0 k l n i) (szL n ((l.drop i.toNat).map fun x => (x.f0, x.f1)))
  | 0, n, i, h0, hd, n0, n1 => by
    refine ev_last fun k => ?_
    simp only [laws_szFieldS.l0]
    rw [if_neg (by omega), drop_nil (by omega)]
    rfl
  | d + 1, n, i, h0, hd, n0, n1 => by
    have hlt : i < (l.length : Int) := by omega
    have hx : (rd_T107 l i) ∈ l := by
      unfold rd_T107
      rw [List.getD_eq_getElem?_getD, List.getElem?_eq_getElem (by omega)]
      exact List.getElem_mem _
    have e := laws_szField_eq (rd_T107 l i).f0 (rd_T107 l i).f1 n (hm _ hx).1 (hm _ hx).2 n0 (by omega)
    have hdrop : l.drop i.toNat = rd_T107 l i :: l.drop (i + 1).toNat := drop_rdOf (d := z107) h0 hlt
    rw [hdrop]
    simp only [List.map_cons, szL]
    by_cases h : n - ((rd_T107 l i).f0.size : Int) - ((rd_T107 l i).f1.size : Int) < 0
    · refine ev_last fun k => ?_
      simp only [laws_szFieldS.l0]
      rw [if_pos hlt, if_pos h0, e, if_pos h, Option.bind_some, if_pos (by omega), if_pos h]
    · refine Ev.step (f := fun k => laws_szFieldS.l0 k l (n - ((rd_T107 l i).f0.size : Int) - ((rd_T107 l i).f1.size : Int)) (i + 1)) (fun k => ?_) (ev_eq (laws_szFieldS_l0 l hl hm d _ (i + 1) (by omega) (by omega) (by omega) (by omega)) ?_)
      · simp only [laws_szFieldS.l0]
        rw [if_pos hlt, if_pos h0, e, if_neg h, Option.bind_some, if_neg h, wrap_id (by omega) (by unfold maxLen at hl; omega)]
      · rw [if_neg h]
theorem laws_szFieldS_ev (l : List S107) (n : Int) (hl : l.length ≤ maxLen) (hm : ∀ x ∈ l, x.f0.size ≤ maxLen ∧ x.f1.size ≤ maxLen) (n0 : 0 ≤ n) (n1 : n ≤ 1048576) :
    Ev (fun k => laws_szFieldS.f k l n) (szF n (l.map fun x => (x.f0, x.f1))) := by
  unfold szF
  rw [List.length_map]
  by_cases h : n - (l.length : Int) < 0
  · rw [if_pos h]
    refine ev_some fun k => ?_
    unfold laws_szFieldS.f
    rw [wrap_id (by unfold maxLen at hl; omega) (by omega), if_pos h]
  · rw [if_neg h]
    refine Ev.congr (fun k => by unfold laws_szFieldS.f; rw [wrap_id (by unfold maxLen at hl; omega) (by omega), if_neg h]) ?_
    have e := laws_szFieldS_l0 l hl hm l.length (n - l.length) 0 (by omega) (by omega) (by omega) (by omega)
    simpa using e

end Go.Proofs.YtjldfmkpdkhnnaaGreatDoor.Pure

namespace Go.Proofs.YtjldfmkpdkhnnaaGreatDoor.Pure
open Go.RowKit Go.Proofs.YtjldfmkpdkhnnaaGreatDoor.QL Go.Proofs.YtjldfmkpdkhnnaaGreatDoorW.PrintWords Go.Proofs.YtjldfmkpdkhnnaaGreatDoorW.PrintLast Go.Proofs.YtjldfmkpdkhnnaaGreatDoorW.PrintMore Go.Proofs.YtjldfmkpdkhnnaaGreatDoor.Aux Go.Proofs.YtjldfmkpdkhnnaaGreatDoor.Dom Go.Proofs.YtjldfmkpdkhnnaaGreatDoor.Ext
theorem laws_toFieldS_l0 (l : List S107) (hl : l.length ≤ 1048576) : ∀ (d : Nat) (ys : List S99) (i : Int), 0 ≤ i → (l.length : Int) - i = d → (ys.length : Int) = i →
    Ev (fun k => laws_toFieldS.l0 k l (ys ++ List.replicate d z99) i) (ys ++ (l.drop i.toNat).map fun x => (⟨x.f0, x.f1⟩ : S99))
  | 0, ys, i, h0, hd, hy => by
    refine ev_last fun k => ?_
    simp only [laws_toFieldS.l0]
    rw [if_neg (by omega), drop_nil (by omega)]
    simp
  | d + 1, ys, i, h0, hd, hy => by
    have hlt : i < (l.length : Int) := by omega
    have hdrop : l.drop i.toNat = rd_T107 l i :: l.drop (i + 1).toNat := drop_rdOf (d := z107) h0 hlt
    refine Ev.step (f := fun k => laws_toFieldS.l0 k l ((ys ++ [(⟨(rd_T107 l i).f0, (rd_T107 l i).f1⟩ : S99)]) ++ List.replicate d z99) (i + 1)) (fun k => ?_) (ev_eq (laws_toFieldS_l0 l hl d _ (i + 1) (by omega) (by omega) (by simp; omega)) ?_)
    · simp only [laws_toFieldS.l0, laws_toField.f, Option.bind_some]
      have e : (ys ++ List.replicate (d + 1) z99).set i.toNat (⟨(rd_T107 l i).f0, (rd_T107 l i).f1⟩ : S99) = (ys ++ [(⟨(rd_T107 l i).f0, (rd_T107 l i).f1⟩ : S99)]) ++ List.replicate d z99 := by
        rw [List.set_append_right _ _ (by omega), show i.toNat - ys.length = 0 by omega, List.replicate_succ]
        simp
      rw [if_pos hlt, if_pos h0, if_pos (by simp; omega), e, wrap_id (by omega) (by omega)]
    · rw [hdrop]; simp
theorem laws_toFieldS_ev (l : List S107) (hl : l.length ≤ 1048576) : Ev (fun k => laws_toFieldS.f k l) (l.map fun x => (⟨x.f0, x.f1⟩ : S99)) := by
  refine Ev.congr (fun k => by unfold laws_toFieldS.f; rw [if_pos (by omega), if_pos (by omega)]) ?_
  have e := laws_toFieldS_l0 l hl l.length [] 0 (by omega) (by omega) (by simp)
  simpa using e

end Go.Proofs.YtjldfmkpdkhnnaaGreatDoor.Pure

namespace Go.Proofs.YtjldfmkpdkhnnaaGreatDoor.Pure
open Go.RowKit Go.Proofs.YtjldfmkpdkhnnaaGreatDoor.QL Go.Proofs.YtjldfmkpdkhnnaaGreatDoorW.PrintWords Go.Proofs.YtjldfmkpdkhnnaaGreatDoorW.PrintLast Go.Proofs.YtjldfmkpdkhnnaaGreatDoorW.PrintMore Go.Proofs.YtjldfmkpdkhnnaaGreatDoor.Aux Go.Proofs.YtjldfmkpdkhnnaaGreatDoor.Dom Go.Proofs.YtjldfmkpdkhnnaaGreatDoor.Ext
theorem laws_eqFieldS_l0 (l : List S99) (hl : l.length ≤ 9223372036854775806) : ∀ (d : Nat) (i : Int), 0 ≤ i → (l.length : Int) - i = d → Ev (fun k => laws_eqFieldS.l0 k l l i) true
  | 0, i, h0, hd => by
    refine ev_last fun k => ?_
    simp only [laws_eqFieldS.l0]
    rw [if_neg (by omega)]
  | d + 1, i, h0, hd => by
    have hlt : i < (l.length : Int) := by omega
    refine Ev.step (f := fun k => laws_eqFieldS.l0 k l l (i + 1)) (fun k => ?_) (laws_eqFieldS_l0 l hl d (i + 1) (by omega) (by omega))
    simp only [laws_eqFieldS.l0, laws_eqField.f]
    rw [if_pos hlt, if_pos h0, if_pos hlt]
    simp only [if_true, Option.bind_some]
    rw [wrap_id (by omega) (by omega)]
theorem laws_eqFieldS_ev (l : List S99) (hl : l.length ≤ 9223372036854775806) : Ev (fun k => laws_eqFieldS.f k l l) true := by
  refine Ev.congr (fun k => by unfold laws_eqFieldS.f; rw [if_pos rfl]) ?_
  exact laws_eqFieldS_l0 l hl l.length 0 (by omega) (by omega)

end Go.Proofs.YtjldfmkpdkhnnaaGreatDoor.Pure

namespace Go.Proofs.YtjldfmkpdkhnnaaGreatDoor.Pure
open Go.RowKit Go.Proofs.YtjldfmkpdkhnnaaGreatDoor.QL Go.Proofs.YtjldfmkpdkhnnaaGreatDoorW.PrintWords Go.Proofs.YtjldfmkpdkhnnaaGreatDoorW.PrintLast Go.Proofs.YtjldfmkpdkhnnaaGreatDoorW.PrintMore Go.Proofs.YtjldfmkpdkhnnaaGreatDoor.Aux Go.Proofs.YtjldfmkpdkhnnaaGreatDoor.Dom Go.Proofs.YtjldfmkpdkhnnaaGreatDoor.Ext
theorem laws_szResponse_ev (a : Int) (l : List S107) (b : ByteArray) (n : Int) (hl : l.length ≤ maxLen) (hm : ∀ x ∈ l, x.f0.size ≤ maxLen ∧ x.f1.size ≤ maxLen) (hb : b.size ≤ maxLen) (n0 : 0 ≤ n) (n1 : n ≤ 1048576) :
    Ev (fun k => laws_szResponse.f k a l b n) (szR n (l.map fun x => (x.f0, x.f1)) b) := by
  have q := szF_le n (l.map fun x => (x.f0, x.f1)) n0
  unfold maxLen at hb
  refine Ev.congr (fun k => by unfold laws_szResponse.f; rfl) (ev_bind (laws_szFieldS_ev l n hl hm n0 n1) ?_)
  unfold szR
  refine ev_ite (fun h => Ev.now _) (fun h => ?_)
  rw [wrap_id (by omega) (by omega)]
  exact ev_ite (fun h => Ev.now _) (fun h => Ev.now _)
theorem laws_toResponse_ev (a : Int) (l : List S107) (b : ByteArray) (hl : l.length ≤ 1048576) : Ev (fun k => laws_toResponse.f k a l b) (a, l.map (fun x => (⟨x.f0, x.f1⟩ : S99)), b) :=
  Ev.congr (fun k => by unfold laws_toResponse.f; rfl) (ev_bind (laws_toFieldS_ev l hl) (Ev.now _))
theorem laws_eqResponse_ev (a : Int) (l : List S99) (b : ByteArray) (hl : l.length ≤ 9223372036854775806) : Ev (fun k => laws_eqResponse.f k a l b a l b) true :=
  Ev.congr (fun k => by unfold laws_eqResponse.f; rw [if_pos rfl]) (ev_bind (laws_eqFieldS_ev l hl) (ev_if_pos rfl (ev_if_pos rfl (Ev.now _))))

end Go.Proofs.YtjldfmkpdkhnnaaGreatDoor.Pure

namespace Go.Proofs.YtjldfmkpdkhnnaaGreatDoor.Pure
open Go.RowKit Go.Proofs.YtjldfmkpdkhnnaaGreatDoor.QL Go.Proofs.YtjldfmkpdkhnnaaGreatDoorW.PrintWords Go.Proofs.YtjldfmkpdkhnnaaGreatDoorW.PrintLast Go.Proofs.YtjldfmkpdkhnnaaGreatDoorW.PrintMore Go.Proofs.YtjldfmkpdkhnnaaGreatDoor.Aux Go.Proofs.YtjldfmkpdkhnnaaGreatDoor.Dom Go.Proofs.YtjldfmkpdkhnnaaGreatDoor.Ext
theorem spec_FieldGet_l0 (l : List S99) (nm : ByteArray) (hl : l.length ≤ 1048576) (V : List ByteArray) (hV : (V.map fun v => v.size + 2).sum ≤ 8388608) : ∀ (d : Nat) (acc : List ByteArray) (i : Int), 0 ≤ i → (l.length : Int) - i = d → acc ++ getL nm ((l.drop i.toNat).map fun x => (x.f0, x.f1)) = V →
    Ev (fun k => spec_FieldGet.l0 k l nm (joinB ⟨#[44, 32]⟩ acc) (!acc.isEmpty) i) (joinB ⟨#[44, 32]⟩ V, !V.isEmpty)
  | 0, acc, i, h0, hd, ha => by
    refine ev_last fun k => ?_
    simp only [spec_FieldGet.l0]
    rw [drop_nil (by omega)] at ha
    simp only [List.map_nil, getL, List.append_nil] at ha
    rw [if_neg (by omega), ha]
  | d + 1, acc, i, h0, hd, ha => by
    have hlt : i < (l.length : Int) := by omega
    have hdrop : l.drop i.toNat = rd_T99 l i :: l.drop (i + 1).toNat := drop_rdOf (d := z99) h0 hlt
    rw [hdrop] at ha
    simp only [List.map_cons, getL] at ha
    by_cases h : (rd_T99 l i).f0 = nm
    · rw [if_pos h] at ha
      have hs := joinB_size ⟨#[44, 32]⟩ acc
      have hb : (acc.map fun v => v.size + 2).sum + ((rd_T99 l i).f1.size + 2) ≤ 8388608 := by
        rw [← ha] at hV
        simp only [List.map_append, List.sum_append, List.map_cons, List.sum_cons] at hV
        omega
      have hs2 : (joinB ⟨#[44, 32]⟩ acc).size ≤ (acc.map fun v => v.size + 2).sum := hs
      cases acc with
      | nil =>
        refine Ev.step (f := fun k => spec_FieldGet.l0 k l nm (joinB ⟨#[44, 32]⟩ [(rd_T99 l i).f1]) true (i + 1)) (fun k => ?_) (spec_FieldGet_l0 l nm hl V hV d [(rd_T99 l i).f1] (i + 1) (by omega) (by omega) ha)
        simp only [spec_FieldGet.l0]
        have e0 : (joinB ⟨#[44, 32]⟩ [] ++ (rd_T99 l i).f1) = (rd_T99 l i).f1 := ByteArray.empty_append
        have e1 : (joinB ⟨#[44, 32]⟩ []).size = 0 := rfl
        rw [if_pos hlt, if_pos h0, if_pos (by rw [h]), if_neg (by decide), if_pos (by omega), wrap_id (by omega) (by omega), e0]
        rfl
      | cons a acc =>
        refine Ev.step (f := fun k => spec_FieldGet.l0 k l nm (joinB ⟨#[44, 32]⟩ ((a :: acc) ++ [(rd_T99 l i).f1])) true (i + 1)) (fun k => ?_) (spec_FieldGet_l0 l nm hl V hV d ((a :: acc) ++ [(rd_T99 l i).f1]) (i + 1) (by omega) (by omega) (by rw [← ha]; simp))
        simp only [spec_FieldGet.l0]
        rw [if_pos hlt, if_pos h0, if_pos (by rw [h]), if_pos (show (!(a :: acc).isEmpty) = true from rfl), if_pos (by omega), if_pos (by rw [ByteArray.size_append]; have : (⟨#[44, 32]⟩ : ByteArray).size = 2 := rfl; omega), wrap_id (by omega) (by omega), joinB_snoc _ _ _ (by simp)]
    · rw [if_neg h] at ha
      refine Ev.step (f := fun k => spec_FieldGet.l0 k l nm (joinB ⟨#[44, 32]⟩ acc) (!acc.isEmpty) (i + 1)) (fun k => ?_) (spec_FieldGet_l0 l nm hl V hV d acc (i + 1) (by omega) (by omega) ha)
      simp only [spec_FieldGet.l0]
      rw [if_pos hlt, if_pos h0, if_neg (by rw [toList_eq_iff]; exact h), wrap_id (by omega) (by omega)]
theorem spec_FieldGet_ev (l : List S99) (nm : ByteArray) (hl : l.length ≤ 1048576) (hV : ((getL nm (l.map fun x => (x.f0, x.f1))).map fun v => v.size + 2).sum ≤ 8388608) : Ev (fun k => spec_FieldGet.f k l nm) (joinB ⟨#[44, 32]⟩ (getL nm (l.map fun x => (x.f0, x.f1))), !(getL nm (l.map fun x => (x.f0, x.f1))).isEmpty) := by
  have h := spec_FieldGet_l0 l nm hl _ hV l.length [] 0 (by omega) (by omega) (by simp)
  simpa [spec_FieldGet.f, joinB] using h

end Go.Proofs.YtjldfmkpdkhnnaaGreatDoor.Pure

namespace Go.Proofs.YtjldfmkpdkhnnaaGreatDoor.Pure
open Go.RowKit Go.Proofs.YtjldfmkpdkhnnaaGreatDoor.QL Go.Proofs.YtjldfmkpdkhnnaaGreatDoorW.PrintWords Go.Proofs.YtjldfmkpdkhnnaaGreatDoorW.PrintLast Go.Proofs.YtjldfmkpdkhnnaaGreatDoorW.PrintMore Go.Proofs.YtjldfmkpdkhnnaaGreatDoor.Aux Go.Proofs.YtjldfmkpdkhnnaaGreatDoor.Dom Go.Proofs.YtjldfmkpdkhnnaaGreatDoor.Ext
theorem spec_l2Blank_eq (c : Int) : spec_l2Blank.f c = some (blkC c) := by
  unfold spec_l2Blank.f blkC
  by_cases h : c = 32
  · rw [if_pos h, decide_eq_true h, Bool.true_or]
  · rw [if_neg h, decide_eq_false h, Bool.false_or]
    congr 1
theorem spec_Trim_l1 : ∀ (d : Nat) (s : ByteArray), s.size = d → d ≤ 8388608 → Ev (fun k => spec_Trim.l1 k s) (strOfNums ((bytesOf s).reverse.dropWhile blkC).reverse)
  | 0, s, h, _ => by
    refine ev_last fun k => ?_
    simp only [spec_Trim.l1]
    rw [if_neg (by omega), bytesOf_nil h]
    congr 1
    rw [← strOfNums_bytesOf s, bytesOf_nil h]
    rfl
  | d + 1, s, h, hd => by
    have hb := bytesOf_last h
    have hw : wrap64 ((s.size : Int) - 1) = (d : Int) := by rw [wrap_id (by omega) (by omega)]; omega
    have er : (bytesOf s).reverse = bt s (d : Int) :: ((bytesOf s).take d).reverse := by
      conv => lhs; rw [hb]
      rw [List.reverse_append, List.reverse_singleton, List.singleton_append]
    by_cases hk : blkC (bt s (d : Int)) = true
    · have hx : bytesOf (s.extract 0 d) = (bytesOf s).take d := by rw [bytesOf_extract, List.drop_zero]
      have ih := spec_Trim_l1 d (s.extract 0 d) (by rw [ByteArray.size_extract]; omega) (by omega)
      rw [hx] at ih
      refine Ev.step (f := fun k => spec_Trim.l1 k (s.extract 0 d)) (fun k => ?_) (ev_eq ih (by rw [er, List.dropWhile_cons_of_pos hk]))
      simp only [spec_Trim.l1, hw]
      rw [if_pos (by omega), if_pos (by omega), if_pos (by omega), spec_l2Blank_eq, hk, Option.bind_some, if_pos rfl, if_pos (by omega), Int.toNat_natCast]
    · refine ev_last fun k => ?_
      simp only [spec_Trim.l1, hw]
      have hk' : blkC (bt s (d : Int)) = false := by simpa using hk
      rw [if_pos (by omega), if_pos (by omega), if_pos (by omega), spec_l2Blank_eq, hk', Option.bind_some, if_neg (by decide), er, List.dropWhile_cons_of_neg hk, ← er, List.reverse_reverse, strOfNums_bytesOf]
theorem spec_Trim_l0 : ∀ (d : Nat) (s : ByteArray), s.size = d → d ≤ 8388608 → Ev (fun k => spec_Trim.l0 k s) (strOfNums (((bytesOf s).dropWhile blkC).reverse.dropWhile blkC).reverse)
  | 0, s, h, hd => by
    refine Ev.step (f := fun k => spec_Trim.j1 k s) (fun k => ?_) (Ev.step (f := fun k => spec_Trim.l1 k s) (fun k => by simp only [spec_Trim.j1]) (ev_eq (spec_Trim_l1 0 s h hd) (by rw [bytesOf_nil h]; rfl)))
    simp only [spec_Trim.l0]
    rw [if_neg (by omega)]
  | d + 1, s, h, hd => by
    have er : bytesOf s = bt s 0 :: (bytesOf s).drop 1 := drop_bt (s := s) (i := 0) (by omega) (by omega)
    by_cases hk : blkC (bt s 0) = true
    · have hx : bytesOf (s.extract 1 s.size) = (bytesOf s).drop 1 := by rw [bytesOf_extract, List.take_of_length_le (by rw [bytesOf_length]; omega)]
      have ih := spec_Trim_l0 d (s.extract 1 s.size) (by rw [ByteArray.size_extract]; omega) (by omega)
      rw [hx] at ih
      refine Ev.step (f := fun k => spec_Trim.l0 k (s.extract 1 s.size)) (fun k => ?_) (ev_eq ih (by conv => rhs; rw [er, List.dropWhile_cons_of_pos hk]))
      simp only [spec_Trim.l0]
      rw [if_pos (by omega), if_pos (by omega), spec_l2Blank_eq, hk, Option.bind_some, if_pos rfl, if_pos (by omega)]
    · have hk' : blkC (bt s 0) = false := by simpa using hk
      refine Ev.step (f := fun k => spec_Trim.j1 k s) (fun k => ?_) (Ev.step (f := fun k => spec_Trim.l1 k s) (fun k => by simp only [spec_Trim.j1]) (ev_eq (spec_Trim_l1 (d + 1) s h hd) (by conv => rhs; rw [er, List.dropWhile_cons_of_neg hk, ← er])))
      simp only [spec_Trim.l0]
      rw [if_pos (by omega), if_pos (by omega), spec_l2Blank_eq, hk', Option.bind_some, if_neg (by decide)]
theorem spec_Trim_ev (s : ByteArray) (hs : s.size ≤ 8388608) : Ev (fun k => spec_Trim.f k s) (trimB s) := by
  have h := spec_Trim_l0 s.size s rfl hs
  rw [← dropWhile_ends] at h
  exact h

end Go.Proofs.YtjldfmkpdkhnnaaGreatDoor.Pure

namespace Go.Proofs.YtjldfmkpdkhnnaaGreatDoor.Pure
open Go.RowKit Go.Proofs.YtjldfmkpdkhnnaaGreatDoor.QL Go.Proofs.YtjldfmkpdkhnnaaGreatDoorW.PrintWords Go.Proofs.YtjldfmkpdkhnnaaGreatDoorW.PrintLast Go.Proofs.YtjldfmkpdkhnnaaGreatDoorW.PrintMore Go.Proofs.YtjldfmkpdkhnnaaGreatDoor.Aux Go.Proofs.YtjldfmkpdkhnnaaGreatDoor.Dom Go.Proofs.YtjldfmkpdkhnnaaGreatDoor.Ext
theorem spec_SplitList_over (s : ByteArray) (hs : s.size ≤ 8388608) (acc : List ByteArray) (a : Int) (h0 : 0 ≤ a) (ha : a < (s.size : Int)) (hacc : (acc.length : Int) ≤ s.size) :
    Ev (fun k => spec_SplitList.l0 k s acc a true ((s.size : Int) + 1)) (acc ++ splL s a [(s.size : Int)]) := by
  have ht := spec_Trim_ev (s.extract a.toNat s.size) (by rw [ByteArray.size_extract]; omega)
  refine Ev.step (f := fun k => spec_SplitList.j5 k s acc a true) (fun k => ?_) (Ev.step (f := fun k => (spec_Trim.f k (s.extract a.toNat s.size)).bind fun t => if t.toList = ([] : List UInt8) then some acc else if acc.length < 8796093022208 then some (acc ++ [t]) else none) (fun k => ?_) (ev_bind ht ?_))
  · simp only [spec_SplitList.l0]
    rw [if_neg (by omega), if_pos ha]
  · simp only [spec_SplitList.j5]
    rw [if_pos trivial, if_pos h0, if_pos (by omega)]
  · simp only [splL, Int.toNat_natCast]
    by_cases he : trimB (s.extract a.toNat s.size) = ⟨#[]⟩
    · rw [if_pos he]
      exact ev_if_pos ((trim_nil _).2 he) (ev_eq (Ev.now _) (by simp))
    · rw [if_neg he]
      exact ev_if_neg (fun h => he ((trim_nil _).1 h)) (ev_if_pos (by omega) (Ev.now _))
theorem spec_SplitList_take (s : ByteArray) (hs : s.size ≤ 8388608) (acc : List ByteArray) (a i : Int) (q : Bool) (h0 : 0 ≤ a) (ha : a ≤ i) (hi : i ≤ (s.size : Int)) (hacc : (acc.length : Int) ≤ i) (R : List Int)
    (h : ∀ acc' : List ByteArray, (acc'.length : Int) ≤ i + 1 → Ev (fun k => spec_SplitList.l0 k s acc' (i + 1) q (i + 1)) (acc' ++ splL s (i + 1) R)) :
    Ev (fun k => spec_SplitList.j4 k s acc a q i true) (acc ++ splL s a (i :: R)) := by
  have ht := spec_Trim_ev (s.extract a.toNat i.toNat) (by rw [ByteArray.size_extract]; omega)
  have w1 : wrap64 (i + 1) = i + 1 := wrap_id (by omega) (by omega)
  have hm : mn i (s.size : Int) = i := by unfold mn; split <;> omega
  refine Ev.step (f := fun k => (spec_Trim.f k (s.extract a.toNat i.toNat)).bind fun t => if t.toList = ([] : List UInt8) then spec_SplitList.l0 k s acc (i + 1) q (i + 1) else if acc.length < 8796093022208 then spec_SplitList.l0 k s (acc ++ [t]) (i + 1) q (i + 1) else none) (fun k => ?_) (ev_bind ht ?_)
  · simp only [spec_SplitList.j4, hm, w1]
    rw [if_pos (by trivial), if_pos h0, if_pos ha, if_pos hi]
  · rw [splL]
    by_cases he : trimB (s.extract a.toNat i.toNat) = ⟨#[]⟩
    · rw [if_pos he]
      exact ev_if_pos ((trim_nil _).2 he) (h acc (by omega))
    · rw [if_neg he]
      exact ev_if_neg (fun h => he ((trim_nil _).1 h)) (ev_if_pos (by omega) (ev_eq (h (acc ++ [trimB (s.extract a.toNat i.toNat)]) (by simp; omega)) (by simp)))
theorem spec_SplitList_l0 (s : ByteArray) (hs : s.size ≤ 8388608) : ∀ (d : Nat) (acc : List ByteArray) (a : Int) (q : Bool) (i : Int), 0 ≤ a → a ≤ i → (s.size : Int) - i ≤ d → (acc.length : Int) ≤ i → i ≤ (s.size : Int) →
    Ev (fun k => spec_SplitList.l0 k s acc a q i) (acc ++ splL s a (comL ((bytesOf s).drop i.toNat) q false i ++ [(s.size : Int)])) := by
  intro d
  induction d with
  | zero =>
    intro acc a q i h0 ha hd hacc hi
    have hie : i = (s.size : Int) := by omega
    subst hie
    rw [drop_end (by omega)]
    simp only [comL, List.nil_append]
    refine Ev.step (f := fun k => spec_SplitList.j1 k s acc a q (s.size : Int) false) (fun k => ?_) (Ev.step (f := fun k => spec_SplitList.j2 k s acc a q (s.size : Int)) (fun k => ?_) (Ev.step (f := fun k => spec_SplitList.j3 k s acc a q (s.size : Int) false) (fun k => ?_) (Ev.step (f := fun k => spec_SplitList.j4 k s acc a q (s.size : Int) true) (fun k => ?_) (spec_SplitList_take s hs acc a (s.size : Int) q h0 ha (by omega) hacc [] ?_))))
    · simp only [spec_SplitList.l0]
      rw [if_pos (by omega), if_neg (by omega)]
    · simp only [spec_SplitList.j1]
      rw [if_neg (by decide)]
    · simp only [spec_SplitList.j2]
      rw [if_neg (by omega)]
    · simp only [spec_SplitList.j3]
      rw [if_neg (by decide), if_pos (by omega)]
    · intro acc' _
      refine Ev.step (f := fun k => spec_SplitList.j5 k s acc' ((s.size : Int) + 1) false) (fun k => ?_) (ev_last fun k => ?_)
      · simp only [spec_SplitList.l0]
        rw [if_neg (by omega), if_neg (by omega)]
      · simp only [spec_SplitList.j5]
        rw [if_neg (by decide)]
        simp [splL]
  | succ d ih =>
    intro acc a q i h0 ha hd hacc hi
    by_cases hlt : i < (s.size : Int)
    · rw [drop_bt (by omega) hlt]
      have hi0 : 0 ≤ i := by omega
      have w1 : wrap64 (i + 1) = i + 1 := wrap_id (by omega) (by omega)
      have w2 : wrap64 (i + 1 + 1) = i + 2 := by rw [wrap_id (by omega) (by omega)]; omega
      -- the quotes
      have hq1 : ∀ r, Ev (fun k => spec_SplitList.j2 k s acc a (if bt s i = 34 then !q else q) i) r → Ev (fun k => spec_SplitList.l0 k s acc a q i) r := by
        intro r hr
        by_cases h34 : bt s i = 34
        · rw [if_pos h34] at hr
          refine Ev.step (f := fun k => spec_SplitList.j1 k s acc a q i true) (fun k => ?_) (Ev.step (f := fun k => spec_SplitList.j2 k s acc a (!q) i) (fun k => ?_) hr)
          · simp only [spec_SplitList.l0]
            rw [if_pos hi, if_pos hlt, if_pos hi0, h34]
            rfl
          · simp only [spec_SplitList.j1]
            rw [if_pos (by trivial)]
        · rw [if_neg h34] at hr
          have e : (bt s i == 34) = false := by rw [beq_eq_false_iff_ne]; exact h34
          refine Ev.step (f := fun k => spec_SplitList.j1 k s acc a q i false) (fun k => ?_) (Ev.step (f := fun k => spec_SplitList.j2 k s acc a q i) (fun k => ?_) hr)
          · simp only [spec_SplitList.l0]
            rw [if_pos hi, if_pos hlt, if_pos hi0, e]
          · simp only [spec_SplitList.j1]
            rw [if_neg (by decide)]
      -- no escape
      have hj3 : ∀ (q' : Bool) r, ¬(q' = true ∧ bt s i = 92) → Ev (fun k => spec_SplitList.j3 k s acc a q' i false) r → Ev (fun k => spec_SplitList.j2 k s acc a q' i) r := by
        intro q' r hn hr
        refine Ev.step (f := fun k => spec_SplitList.j3 k s acc a q' i false) (fun k => ?_) hr
        simp only [spec_SplitList.j2]
        rw [if_pos hlt]
        by_cases hq : q' = true
        · have e : (bt s i == 92) = false := by rw [beq_eq_false_iff_ne]; exact fun h => hn ⟨hq, h⟩
          rw [if_pos hq, if_pos hi0, e]
        · rw [if_neg hq]
      have hgo : ∀ (q' : Bool), bt s i ≠ 44 ∨ q' = true → Ev (fun k => spec_SplitList.j3 k s acc a q' i false) (acc ++ splL s a (comL ((bytesOf s).drop (i + 1).toNat) q' false (i + 1) ++ [(s.size : Int)])) := by
        intro q' hn
        refine Ev.step (f := fun k => spec_SplitList.j4 k s acc a q' i false) (fun k => ?_) (Ev.step (f := fun k => spec_SplitList.l0 k s acc a q' (i + 1)) (fun k => ?_) (ih acc a q' (i + 1) h0 (by omega) (by omega) (by omega) (by omega)))
        · simp only [spec_SplitList.j3]
          rw [if_neg (by decide), if_neg (by omega), if_pos hi0, if_pos hlt]
          by_cases h44 : bt s i = 44
          · rw [if_pos h44]
            rcases hn with hn | hn
            · exact absurd h44 hn
            · rw [hn]; rfl
          · rw [if_neg h44]
        · simp only [spec_SplitList.j4]
          rw [if_neg (by decide), w1]
      refine hq1 _ ?_
      rw [comL]
      by_cases h34 : bt s i = 34
      · rw [if_pos h34, if_pos h34]
        exact hj3 _ _ (fun h => by have := h.2; omega) (hgo _ (.inl (by omega)))
      · rw [if_neg h34, if_neg h34]
        by_cases hesc : q = true ∧ bt s i = 92
        · rw [if_pos hesc]
          obtain ⟨rfl, h92⟩ := hesc
          refine Ev.step (f := fun k => spec_SplitList.j3 k s acc a true i true) (fun k => ?_) (Ev.step (f := fun k => spec_SplitList.l0 k s acc a true (i + 2)) (fun k => ?_) ?_)
          · simp only [spec_SplitList.j2]
            rw [if_pos hlt, if_pos (by trivial), if_pos hi0, h92]
            rfl
          · simp only [spec_SplitList.j3]
            rw [if_pos (by trivial), w1, w2]
          · by_cases h2 : i + 1 < (s.size : Int)
            · rw [drop_bt (by omega) h2, comL, show i + 1 + 1 = i + 2 by omega]
              exact ih acc a true (i + 2) h0 (by omega) (by omega) (by omega) (by omega)
            · rw [drop_end (by omega)]
              simp only [comL, List.nil_append]
              have e : i + 2 = (s.size : Int) + 1 := by omega
              rw [e]
              exact spec_SplitList_over s hs acc a h0 (by omega) (by omega)
        · rw [if_neg hesc]
          refine hj3 _ _ hesc ?_
          by_cases hc : q = false ∧ bt s i = 44
          · rw [if_pos hc]
            obtain ⟨rfl, h44⟩ := hc
            rw [List.cons_append]
            refine Ev.step (f := fun k => spec_SplitList.j4 k s acc a false i true) (fun k => ?_) (spec_SplitList_take s hs acc a i false h0 ha hi hacc _ fun acc' hacc' => ih acc' (i + 1) false (i + 1) (by omega) (by omega) (by omega) (by omega) (by omega))
            simp only [spec_SplitList.j3]
            rw [if_neg (by decide), if_neg (by omega), if_pos hi0, if_pos hlt, if_pos h44]
            rfl
          · rw [if_neg hc]
            refine hgo q ?_
            cases q with
            | true => exact .inr rfl
            | false => exact .inl fun h => hc ⟨rfl, h⟩
    · exact ih acc a q i h0 ha (by omega) hacc hi
theorem spec_SplitList_ev (s : ByteArray) (hs : s.size ≤ 8388608) : Ev (fun k => spec_SplitList.f k s) (splL s 0 (comL (bytesOf s) false false 0 ++ [(s.size : Int)])) := by
  have h := spec_SplitList_l0 s hs s.size [] 0 false 0 (by omega) (by omega) (by omega) (by simp) (by omega)
  simpa [spec_SplitList.f] using h

end Go.Proofs.YtjldfmkpdkhnnaaGreatDoor.Pure

namespace Go.Proofs.YtjldfmkpdkhnnaaGreatDoor.Pure
open Go.RowKit Go.Proofs.YtjldfmkpdkhnnaaGreatDoor.QL Go.Proofs.YtjldfmkpdkhnnaaGreatDoorW.PrintWords Go.Proofs.YtjldfmkpdkhnnaaGreatDoorW.PrintLast Go.Proofs.YtjldfmkpdkhnnaaGreatDoorW.PrintMore Go.Proofs.YtjldfmkpdkhnnaaGreatDoor.Aux Go.Proofs.YtjldfmkpdkhnnaaGreatDoor.Dom Go.Proofs.YtjldfmkpdkhnnaaGreatDoor.Ext
theorem spec_l2Token_eq {c : Int} (h0 : 0 ≤ c) (h1 : c < 256) : spec_l2Token.f c = some (tokC c) := by unfold spec_l2Token.f; rw [if_pos ⟨h0, h1⟩]
theorem spec_IsTokenText_l0 (s : ByteArray) (hs : s.size ≤ 8388608) : ∀ (d : Nat) (i : Int), 0 ≤ i → (s.size : Int) - i = d →
    Ev (fun k => spec_IsTokenText.l0 k s i) (((bytesOf s).drop i.toNat).all tokC && !(bytesOf s).isEmpty)
  | 0, i, h0, hd => by
    refine ev_last fun k => ?_
    simp only [spec_IsTokenText.l0]
    rw [if_neg (by omega), drop_end (by omega)]
    have hl := bytesOf_length s
    cases hb : bytesOf s with
    | nil => rw [hb] at hl; simp at hl; simp [← hl]
    | cons a r => rw [hb] at hl; simp at hl; simp; omega
  | d + 1, i, h0, hd => by
    have hb := bt_bound s i
    have hlt : i < (s.size : Int) := by omega
    have e := spec_l2Token_eq hb.1 hb.2
    rw [drop_bt h0 hlt, List.all_cons]
    cases ht : tokC (bt s i) with
    | true =>
      refine Ev.step (f := fun k => spec_IsTokenText.l0 k s (i + 1)) (fun k => ?_) (ev_eq (spec_IsTokenText_l0 s hs d (i + 1) (by omega) (by omega)) (by rw [Bool.true_and]))
      simp only [spec_IsTokenText.l0]
      rw [if_pos hlt, if_pos h0, e, ht, Option.bind_some, if_pos rfl, wrap_id (by omega) (by omega)]
    | false =>
      refine ev_last fun k => ?_
      simp only [spec_IsTokenText.l0]
      rw [if_pos hlt, if_pos h0, e, ht, Option.bind_some, if_neg (by decide)]
      rfl
theorem spec_IsTokenText_ev (s : ByteArray) (hs : s.size ≤ 8388608) : Ev (fun k => spec_IsTokenText.f k s) (tokB (bytesOf s)) := by
  have h := spec_IsTokenText_l0 s hs s.size 0 (by omega) (by omega)
  simpa [spec_IsTokenText.f, tokB] using h

end Go.Proofs.YtjldfmkpdkhnnaaGreatDoor.Pure

namespace Go.Proofs.YtjldfmkpdkhnnaaGreatDoor.Pure
open Go.RowKit Go.Proofs.YtjldfmkpdkhnnaaGreatDoor.QL Go.Proofs.YtjldfmkpdkhnnaaGreatDoorW.PrintWords Go.Proofs.YtjldfmkpdkhnnaaGreatDoorW.PrintLast Go.Proofs.YtjldfmkpdkhnnaaGreatDoorW.PrintMore Go.Proofs.YtjldfmkpdkhnnaaGreatDoor.Aux Go.Proofs.YtjldfmkpdkhnnaaGreatDoor.Dom Go.Proofs.YtjldfmkpdkhnnaaGreatDoor.Ext
theorem spec_Lower_eq (s : ByteArray) (hs : s.size ≤ 8388608) : spec_Lower.f s = some (strOfNums ((bytesOf s).map lowC)) := by unfold spec_Lower.f; rw [if_pos hs]

end Go.Proofs.YtjldfmkpdkhnnaaGreatDoor.Pure

namespace Go.Proofs.YtjldfmkpdkhnnaaGreatDoor.Pure
open Go.RowKit Go.Proofs.YtjldfmkpdkhnnaaGreatDoor.QL Go.Proofs.YtjldfmkpdkhnnaaGreatDoorW.PrintWords Go.Proofs.YtjldfmkpdkhnnaaGreatDoorW.PrintLast Go.Proofs.YtjldfmkpdkhnnaaGreatDoorW.PrintMore Go.Proofs.YtjldfmkpdkhnnaaGreatDoor.Aux Go.Proofs.YtjldfmkpdkhnnaaGreatDoor.Dom Go.Proofs.YtjldfmkpdkhnnaaGreatDoor.Ext
theorem spec_l7Unquote_eq (R : ByteArray) (hR : R.size ≤ 8388608) : spec_l7Unquote.f R = some (unqB R) := by
  have w1 : wrap64 ((R.size : Int) - 1) = (R.size : Int) - 1 := wrap_id (by omega) (by omega)
  unfold spec_l7Unquote.f
  by_cases h2 : (R.size : Int) ≥ 2
  · rw [if_pos h2, if_pos (by omega)]
    by_cases hq : bt R 0 = 34
    · rw [if_pos hq, w1, if_pos (by omega), if_pos (by omega)]
      by_cases hr : bt R ((R.size : Int) - 1) = 34
      · rw [if_pos hr, if_pos (by omega), if_pos (by omega), show unqB R = R.extract 1 (R.size - 1) from if_pos ⟨by omega, hq, hr⟩, show ((R.size : Int) - 1).toNat = R.size - 1 by omega]
      · rw [if_neg hr, show unqB R = R from if_neg (fun h => hr h.2.2)]
    · rw [if_neg hq, show unqB R = R from if_neg (fun h => hq h.2.1)]
  · rw [if_neg h2, show unqB R = R from if_neg (fun h => h2 (by have := h.1; omega))]

end Go.Proofs.YtjldfmkpdkhnnaaGreatDoor.Pure

namespace Go.Proofs.YtjldfmkpdkhnnaaGreatDoor.Pure
open Go.RowKit Go.Proofs.YtjldfmkpdkhnnaaGreatDoor.QL Go.Proofs.YtjldfmkpdkhnnaaGreatDoorW.PrintWords Go.Proofs.YtjldfmkpdkhnnaaGreatDoorW.PrintLast Go.Proofs.YtjldfmkpdkhnnaaGreatDoorW.PrintMore Go.Proofs.YtjldfmkpdkhnnaaGreatDoor.Aux Go.Proofs.YtjldfmkpdkhnnaaGreatDoor.Dom Go.Proofs.YtjldfmkpdkhnnaaGreatDoor.Ext
theorem spec_Dir_l1 (p : ByteArray) (hs : p.size ≤ 8388608) (acc : List S46) (L : List ByteArray) (j : Int) (r : List S46) : ∀ (d : Nat) (i : Int), 0 ≤ i → (p.size : Int) - i = d →
    Ev (fun k => spec_Directives.j2 k acc L j p (if 0 ≤ idxS ((bytesOf p).drop i.toNat) [61] then idxS ((bytesOf p).drop i.toNat) [61] + i else (p.size : Int))) r → Ev (fun k => spec_Directives.l1 k acc L j p i) r
  | 0, i, h0, hd, h => by
    rw [drop_end (by omega)] at h
    rw [show (p.size : Int) = i by omega] at h
    refine Ev.step (fun k => by simp only [spec_Directives.l1]; rw [if_neg (by omega)]) ?_
    exact h
  | d + 1, i, h0, hd, h => by
    have hlt : i < (p.size : Int) := by omega
    rw [drop_bt h0 hlt, idxS_one] at h
    by_cases he : bt p i = 61
    · rw [if_pos (c := (61 : Int) = bt p i) he.symm, if_pos (by decide), Int.zero_add] at h
      exact Ev.step (fun k => by simp only [spec_Directives.l1]; rw [if_pos hlt, if_pos h0, if_pos he]) h
    · rw [if_neg (c := (61 : Int) = bt p i) (fun e => he e.symm)] at h
      refine Ev.step (fun k => by simp only [spec_Directives.l1]; rw [if_pos hlt, if_pos h0, if_neg he, wrap_id (x := i + 1) (by omega) (by omega)]) (spec_Dir_l1 p hs acc L j r d (i + 1) (by omega) (by omega) ?_)
      have hb := idxS_bound [61] ((bytesOf p).drop (i + 1).toNat)
      by_cases h1 : idxS ((bytesOf p).drop (i + 1).toNat) [61] = -1
      · rw [if_pos h1, if_neg (by decide)] at h
        rw [h1, if_neg (by decide)]
        exact h
      · rw [if_neg h1, if_pos (by omega)] at h
        rw [if_pos (by omega), show idxS ((bytesOf p).drop (i + 1).toNat) [61] + (i + 1) = idxS ((bytesOf p).drop (i + 1).toNat) [61] + 1 + i by omega]
        exact h
theorem strOfNums_take (p : ByteArray) (n : Nat) : p.extract 0 n = strOfNums ((bytesOf p).take n) := bytesOf_inj (by rw [bytesOf_extract, take_range, List.drop_zero])
theorem strOfNums_drop (p : ByteArray) (n : Nat) : p.extract n p.size = strOfNums ((bytesOf p).drop n) := bytesOf_inj (by rw [bytesOf_extract, drop_range, List.take_of_length_le (by rw [bytesOf_length]; exact Nat.le_refl _)])
theorem spec_Directives_l0 (L : List ByteArray) (hL : L.length ≤ 16777216) (hm : ∀ p ∈ L, p.size ≤ 8388608) : ∀ (d : Nat) (acc : List S46) (i : Int), 0 ≤ i → (L.length : Int) - i = d → (acc.length : Int) ≤ i →
    Ev (fun k => spec_Directives.l0 k acc L i) (acc ++ (dirL (L.drop i.toNat)).map fun p => (⟨p.1, p.2⟩ : S46))
  | 0, acc, i, h0, hd, ha => by
    refine ev_last fun k => ?_
    simp only [spec_Directives.l0]
    rw [if_neg (by omega), drop_nil (by omega)]
    simp [dirL]
  | d + 1, acc, i, h0, hd, ha => by
    have hlt : i < (L.length : Int) := by omega
    have hdrop : L.drop i.toNat = rdOf ByteArray.empty L i :: L.drop (i + 1).toNat := drop_rdOf (d := ByteArray.empty) h0 hlt
    have hmem : rdOf ByteArray.empty L i ∈ L := List.mem_of_mem_drop (i := i.toNat) (by rw [hdrop]; exact List.mem_cons_self)
    have hsz := hm _ hmem
    have hw : wrap64 (i + 1) = i + 1 := wrap_id (by omega) (by omega)
    rw [hdrop]
    simp only [dirL]
    refine Ev.step (fun k => by simp only [spec_Directives.l0]; rw [if_pos hlt, if_pos h0]) ?_
    generalize rdOf ByteArray.empty L i = p at hsz
    refine spec_Dir_l1 p hsz acc L i _ p.size 0 (by omega) (by omega) ?_
    simp only [Int.toNat_zero, List.drop_zero, Int.add_zero]
    have hl := bytesOf_length p
    have ib := idxS_bound [61] (bytesOf p)
    obtain ⟨n1, n2⟩ := cut_name p [61]
    have n3 := cut_rest p [61]
    have ih := fun acc' ha' => spec_Directives_l0 L hL hm d acc' (i + 1) (by omega) (by omega) ha'
    unfold dirOf
    by_cases h1 : 0 ≤ idxS (bytesOf p) [61]
    · have hc : cutL (bytesOf p) [61] = ((bytesOf p).take (idxS (bytesOf p) [61]).toNat, (bytesOf p).drop ((idxS (bytesOf p) [61]).toNat + 1), true) := by unfold cutL; rw [if_pos h1]; rfl
      rw [hc] at n1 n2 n3 ⊢
      rw [if_pos h1]
      simp only at n1 n2 n3 ⊢
      rcases ib with ib | ib
      · omega
      simp only [List.length_cons, List.length_nil] at ib
      have e1 : p.extract 0 (idxS (bytesOf p) [61]).toNat = strOfNums ((bytesOf p).take (idxS (bytesOf p) [61]).toNat) := strOfNums_take p _
      have e2 : p.extract (idxS (bytesOf p) [61] + 1).toNat p.size = strOfNums ((bytesOf p).drop ((idxS (bytesOf p) [61]).toNat + 1)) := by
        rw [show (idxS (bytesOf p) [61] + 1).toNat = (idxS (bytesOf p) [61]).toNat + 1 by omega]
        exact strOfNums_drop p _
      generalize strOfNums ((bytesOf p).drop ((idxS (bytesOf p) [61]).toNat + 1)) = R at n3 e2
      have tk := spec_IsTokenText_ev (strOfNums ((bytesOf p).take (idxS (bytesOf p) [61]).toNat)) (by omega)
      rw [n1] at tk
      refine Ev.step (fun k => by simp only [spec_Directives.j2]; rw [if_pos h1, if_pos (by omega), e1]) (ev_bind tk ?_)
      by_cases hT : tokB ((bytesOf p).take (idxS (bytesOf p) [61]).toNat) = true
      · rw [if_pos hT]
        refine ev_if_pos hT (ev_bind (ev_some fun _ => spec_Lower_eq _ (by omega)) ?_)
        refine Ev.congr (fun k => by rw [if_pos (by omega), wrap_id (x := idxS (bytesOf p) [61] + 1) (by omega) (by omega), if_pos (by omega), if_pos (by omega), e2, spec_l7Unquote_eq R (by omega), Option.bind_some, if_pos (by omega), hw]) ?_
        refine ev_eq (ih _ (by simp; omega)) ?_
        simp [lowB]
      · rw [if_neg hT]
        exact ev_if_neg hT (Ev.congr (fun k => by rw [hw]) (ih acc (by omega)))
    · have hc : cutL (bytesOf p) [61] = (bytesOf p, [], false) := by unfold cutL; rw [if_neg h1]
      rw [hc] at n1 n2 n3 ⊢
      rw [if_neg h1]
      simp only at n1 n2 n3 ⊢
      have e1 : p.extract 0 (p.size : Int).toNat = strOfNums (bytesOf p) := by rw [Int.toNat_natCast, strOfNums_take, List.take_of_length_le (by omega)]
      have tk := spec_IsTokenText_ev (strOfNums (bytesOf p)) (by omega)
      rw [n1] at tk
      refine Ev.step (fun k => by simp only [spec_Directives.j2]; rw [if_pos (by omega), if_pos (by omega), e1]) (ev_bind tk ?_)
      by_cases hT : tokB (bytesOf p) = true
      · rw [if_pos hT]
        refine ev_if_pos hT (ev_bind (ev_some fun _ => spec_Lower_eq _ (by omega)) ?_)
        refine Ev.congr (fun k => by rw [if_neg (by omega), if_pos (by omega), hw]) ?_
        refine ev_eq (ih _ (by simp; omega)) ?_
        have hu : unqB (strOfNums []) = ⟨#[]⟩ := by unfold unqB; rw [if_neg (fun h => by have := h.1; rw [strOfNums_size] at this; simp at this)]; rfl
        simp [lowB, hu]
      · rw [if_neg hT]
        exact ev_if_neg hT (Ev.congr (fun k => by rw [hw]) (ih acc (by omega)))
theorem spec_Directives_ev (l : List S99) (hl : l.length ≤ 1048576) (hz : ¬ szF 1048576 (l.map fun x => (x.f0, x.f1)) < 0) : Ev (fun k => spec_Directives.f k l) ((dirsL (l.map fun x => (x.f0, x.f1))).map fun p => (⟨p.1, p.2⟩ : S46)) := by
  have hs := ccB_size _ (by omega) hz
  have hq := szF_sum nmCC (by omega) hz
  have hc := comL_length (bytesOf (ccB (l.map fun x => (x.f0, x.f1)))) false false 0
  rw [bytesOf_length] at hc
  have hp := splL_length (ccB (l.map fun x => (x.f0, x.f1))) (comL (bytesOf (ccB (l.map fun x => (x.f0, x.f1)))) false false 0 ++ [((ccB (l.map fun x => (x.f0, x.f1))).size : Int)]) 0
  rw [List.length_append, List.length_singleton] at hp
  refine Ev.congr (fun k => by unfold spec_Directives.f; rfl) (ev_bind (spec_FieldGet_ev l nmCC hl (by omega)) (ev_bind (spec_SplitList_ev (ccB (l.map fun x => (x.f0, x.f1))) (by omega)) ?_))
  have h := spec_Directives_l0 (splL (ccB (l.map fun x => (x.f0, x.f1))) 0 (comL (bytesOf (ccB (l.map fun x => (x.f0, x.f1)))) false false 0 ++ [((ccB (l.map fun x => (x.f0, x.f1))).size : Int)])) (by omega) (fun p hp => Nat.le_trans (splL_size _ _ _ p hp) (by omega)) (splL (ccB (l.map fun x => (x.f0, x.f1))) 0 (comL (bytesOf (ccB (l.map fun x => (x.f0, x.f1)))) false false 0 ++ [((ccB (l.map fun x => (x.f0, x.f1))).size : Int)])).length [] 0 (by omega) (by omega) (by simp)
  exact h

end Go.Proofs.YtjldfmkpdkhnnaaGreatDoor.Pure

namespace Go.Proofs.YtjldfmkpdkhnnaaGreatDoor.Pure
open Go.RowKit Go.Proofs.YtjldfmkpdkhnnaaGreatDoor.QL Go.Proofs.YtjldfmkpdkhnnaaGreatDoorW.PrintWords Go.Proofs.YtjldfmkpdkhnnaaGreatDoorW.PrintLast Go.Proofs.YtjldfmkpdkhnnaaGreatDoorW.PrintMore Go.Proofs.YtjldfmkpdkhnnaaGreatDoor.Aux Go.Proofs.YtjldfmkpdkhnnaaGreatDoor.Dom Go.Proofs.YtjldfmkpdkhnnaaGreatDoor.Ext
theorem spec_Seconds_l0 (s : ByteArray) (hs : s.size ≤ 8388608) : ∀ (d : Nat) (n i : Int), 0 ≤ i → (s.size : Int) - i = d → 0 ≤ n → n ≤ 2147483648 →
    Ev (fun k => spec_Seconds.l0 k s n i) (if ((bytesOf s).drop i.toNat).all digC = true then (satV n ((bytesOf s).drop i.toNat), decide (0 < s.size)) else (0, false))
  | 0, n, i, h0, hd, hn, hm => by
    refine ev_last fun k => ?_
    simp only [spec_Seconds.l0]
    rw [if_neg (by omega), drop_end (by omega), if_pos (show ([] : List Int).all digC = true from rfl), satV]
    congr 2
    rw [decide_eq_decide]
    omega
  | d + 1, n, i, h0, hd, hn, hm => by
    have hlt : i < (s.size : Int) := by omega
    rw [drop_bt h0 hlt, List.all_cons]
    by_cases h1 : bt s i < 48
    · refine ev_last fun k => ?_
      simp only [spec_Seconds.l0]
      have e : digC (bt s i) = false := by rw [Bool.eq_false_iff, Ne, digC_iff]; omega
      rw [if_pos hlt, if_pos h0, if_pos h1, e]
      rfl
    · by_cases h2 : bt s i > 57
      · refine ev_last fun k => ?_
        simp only [spec_Seconds.l0]
        have e : digC (bt s i) = false := by rw [Bool.eq_false_iff, Ne, digC_iff]; omega
        rw [if_pos hlt, if_pos h0, if_neg h1, if_pos h2, e]
        rfl
      · have e : digC (bt s i) = true := digC_iff.2 (by omega)
        have w1 : wrap64 (n * 10) = n * 10 := wrap_id (by omega) (by omega)
        have w2 : (bt s i - 48) % 256 = bt s i - 48 := Int.emod_eq_of_lt (by omega) (by omega)
        have w3 : wrap64 (n * 10 + (bt s i - 48)) = n * 10 + (bt s i - 48) := wrap_id (by omega) (by omega)
        have hmn : 0 ≤ mn (n * 10 + (bt s i - 48)) 2147483648 ∧ mn (n * 10 + (bt s i - 48)) 2147483648 ≤ 2147483648 := by unfold mn; split <;> omega
        refine Ev.step (f := fun k => spec_Seconds.l0 k s (mn (n * 10 + (bt s i - 48)) 2147483648) (i + 1)) (fun k => ?_) (ev_eq (spec_Seconds_l0 s hs d _ (i + 1) (by omega) (by omega) hmn.1 hmn.2) (by rw [e, Bool.true_and, satV]))
        simp only [spec_Seconds.l0]
        rw [if_pos hlt, if_pos h0, if_neg h1, if_neg h2, w1, w2, w3, wrap_id (by omega) (by omega)]
theorem spec_Seconds_ev (s : ByteArray) (hs : s.size ≤ 8388608) : Ev (fun k => spec_Seconds.f k s) (secP (bytesOf s)) := by
  have h := spec_Seconds_l0 s hs s.size 0 0 (by omega) (by omega) (by omega) (by omega)
  unfold secP
  rw [bytesOf_length]
  exact h

end Go.Proofs.YtjldfmkpdkhnnaaGreatDoor.Pure

namespace Go.Proofs.YtjldfmkpdkhnnaaGreatDoor.Pure
open Go.RowKit Go.Proofs.YtjldfmkpdkhnnaaGreatDoor.QL Go.Proofs.YtjldfmkpdkhnnaaGreatDoorW.PrintWords Go.Proofs.YtjldfmkpdkhnnaaGreatDoorW.PrintLast Go.Proofs.YtjldfmkpdkhnnaaGreatDoorW.PrintMore Go.Proofs.YtjldfmkpdkhnnaaGreatDoor.Aux Go.Proofs.YtjldfmkpdkhnnaaGreatDoor.Dom Go.Proofs.YtjldfmkpdkhnnaaGreatDoor.Ext
theorem spec_CcSeconds_l0 (D : List S46) (nm : ByteArray) (hl : D.length ≤ 16777216) (hm : ∀ x ∈ D, x.f1.size ≤ 8388608) : ∀ (d : Nat) (n : Int) (b : Bool) (i : Int), 0 ≤ i → (D.length : Int) - i = d →
    Ev (fun k => spec_CcSeconds.l0 k nm D n b i) (finS n b (ccL nm ((D.drop i.toNat).map fun x => (x.f0, x.f1))))
  | 0, n, b, i, h0, hd => by
    refine ev_last fun k => ?_
    simp only [spec_CcSeconds.l0]
    rw [if_neg (by omega), drop_nil (by omega)]
    cases b <;> rfl
  | d + 1, n, b, i, h0, hd => by
    have hlt : i < (D.length : Int) := by omega
    have hdrop : D.drop i.toNat = rd_T46 D i :: D.drop (i + 1).toNat := drop_rdOf (d := z46) h0 hlt
    have hmem : rd_T46 D i ∈ D := List.mem_of_mem_drop (i := i.toNat) (by rw [hdrop]; exact List.mem_cons_self)
    have hsz := hm _ hmem
    have hw : wrap64 (i + 1) = i + 1 := wrap_id (by omega) (by omega)
    rw [hdrop]
    simp only [List.map_cons, ccL]
    by_cases h : (rd_T46 D i).f0 = nm
    · rw [if_pos h, finS]
      refine Ev.step (fun k => by simp only [spec_CcSeconds.l0]; rw [if_pos hlt, if_pos h0, if_pos (by rw [h])]) (ev_bind (spec_Seconds_ev _ hsz) ?_)
      exact Ev.congr (fun k => by rw [hw]) (spec_CcSeconds_l0 D nm hl hm d _ true (i + 1) (by omega) (by omega))
    · rw [if_neg h]
      exact Ev.step (fun k => by simp only [spec_CcSeconds.l0]; rw [if_pos hlt, if_pos h0, if_neg (by rw [toList_eq_iff]; exact h), hw]) (spec_CcSeconds_l0 D nm hl hm d n b (i + 1) (by omega) (by omega))
theorem spec_CcSeconds_ev (l : List S99) (nm : ByteArray) (hl : l.length ≤ 1048576) (hz : ¬ szF 1048576 (l.map fun x => (x.f0, x.f1)) < 0) : Ev (fun k => spec_CcSeconds.f k l nm) (ccSec (l.map fun x => (x.f0, x.f1)) nm) := by
  have q1 := dirsL_length _ (by omega) hz
  have q2 := dirsL_size _ (by omega) hz
  refine Ev.congr (fun k => by unfold spec_CcSeconds.f; rfl) (ev_bind (spec_Directives_ev l hl hz) ?_)
  refine ev_eq (spec_CcSeconds_l0 ((dirsL (l.map fun x => (x.f0, x.f1))).map fun p => (⟨p.1, p.2⟩ : S46)) nm (by rw [List.length_map]; omega) (fun x hx => ?_) ((dirsL (l.map fun x => (x.f0, x.f1))).map fun p => (⟨p.1, p.2⟩ : S46)).length 2147483648 false 0 (by omega) (by omega)) ?_
  · obtain ⟨p, hp, rfl⟩ := List.mem_map.1 hx
    have := q2 p hp
    simp only
    omega
  · simp only [Int.toNat_zero, List.drop_zero, List.map_map]
    rw [show ((fun x : S46 => (x.f0, x.f1)) ∘ fun p : ByteArray × ByteArray => (⟨p.1, p.2⟩ : S46)) = id from rfl, List.map_id]
    rfl

end Go.Proofs.YtjldfmkpdkhnnaaGreatDoor.Pure

namespace Go.Proofs.YtjldfmkpdkhnnaaGreatDoor.Pure
open Go.RowKit Go.Proofs.YtjldfmkpdkhnnaaGreatDoor.QL Go.Proofs.YtjldfmkpdkhnnaaGreatDoorW.PrintWords Go.Proofs.YtjldfmkpdkhnnaaGreatDoorW.PrintLast Go.Proofs.YtjldfmkpdkhnnaaGreatDoorW.PrintMore Go.Proofs.YtjldfmkpdkhnnaaGreatDoor.Aux Go.Proofs.YtjldfmkpdkhnnaaGreatDoor.Dom Go.Proofs.YtjldfmkpdkhnnaaGreatDoor.Ext
theorem spec_l1In_eq (a b c : Int) : spec_l1In.f a b c = some (decide (b ≤ a ∧ a ≤ c)) := by
  unfold spec_l1In.f
  by_cases h : a ≥ b
  · rw [if_pos h]; simp [show b ≤ a from h]
  · rw [if_neg h]; simp [show ¬ b ≤ a from h]

end Go.Proofs.YtjldfmkpdkhnnaaGreatDoor.Pure

namespace Go.Proofs.YtjldfmkpdkhnnaaGreatDoor.Pure
open Go.RowKit Go.Proofs.YtjldfmkpdkhnnaaGreatDoor.QL Go.Proofs.YtjldfmkpdkhnnaaGreatDoorW.PrintWords Go.Proofs.YtjldfmkpdkhnnaaGreatDoorW.PrintLast Go.Proofs.YtjldfmkpdkhnnaaGreatDoorW.PrintMore Go.Proofs.YtjldfmkpdkhnnaaGreatDoor.Aux Go.Proofs.YtjldfmkpdkhnnaaGreatDoor.Dom Go.Proofs.YtjldfmkpdkhnnaaGreatDoor.Ext
theorem spec_IsLeap_eq {y : Int} (h : 0 ≤ y) : spec_IsLeap.f y = some (leapB y) := by
  unfold spec_IsLeap.f leapB
  rw [Int.tmod_eq_emod_of_nonneg h, Int.tmod_eq_emod_of_nonneg h, Int.tmod_eq_emod_of_nonneg h]
  by_cases h4 : y % 4 = 0
  · rw [if_pos h4]
    by_cases h100 : y % 100 = 0
    · rw [if_pos h100]
      congr 1
      rw [Bool.eq_iff_iff]; simp; omega
    · rw [if_neg h100, decide_eq_true (Or.inl ⟨h4, h100⟩)]
  · rw [if_neg h4, decide_eq_false (by omega)]

end Go.Proofs.YtjldfmkpdkhnnaaGreatDoor.Pure

namespace Go.Proofs.YtjldfmkpdkhnnaaGreatDoor.Pure
open Go.RowKit Go.Proofs.YtjldfmkpdkhnnaaGreatDoor.QL Go.Proofs.YtjldfmkpdkhnnaaGreatDoorW.PrintWords Go.Proofs.YtjldfmkpdkhnnaaGreatDoorW.PrintLast Go.Proofs.YtjldfmkpdkhnnaaGreatDoorW.PrintMore Go.Proofs.YtjldfmkpdkhnnaaGreatDoor.Aux Go.Proofs.YtjldfmkpdkhnnaaGreatDoor.Dom Go.Proofs.YtjldfmkpdkhnnaaGreatDoor.Ext
theorem spec_l4Months_eq {y : Int} (h : 0 ≤ y) : ∃ l, spec_l4Months.f y = some l ∧ l.length = 12 ∧ ∀ m : Int, 1 ≤ m → m ≤ 12 → rd l (m - 1) = monthD y m := by
  unfold spec_l4Months.f
  rw [spec_IsLeap_eq h, Option.bind_some]
  have hm : ∀ m : Int, 1 ≤ m → m ≤ 12 → m = 1 ∨ m = 2 ∨ m = 3 ∨ m = 4 ∨ m = 5 ∨ m = 6 ∨ m = 7 ∨ m = 8 ∨ m = 9 ∨ m = 10 ∨ m = 11 ∨ m = 12 := fun m h1 h2 => by omega
  cases hl : leapB y with
  | true =>
    refine ⟨_, if_pos rfl, rfl, fun m h1 h2 => ?_⟩
    rcases hm m h1 h2 with rfl | rfl | rfl | rfl | rfl | rfl | rfl | rfl | rfl | rfl | rfl | rfl <;> simp [monthD, hl, rd]
  | false =>
    refine ⟨_, if_neg (by decide), rfl, fun m h1 h2 => ?_⟩
    rcases hm m h1 h2 with rfl | rfl | rfl | rfl | rfl | rfl | rfl | rfl | rfl | rfl | rfl | rfl <;> simp [monthD, hl, rd]
theorem spec_DaysOf_l1 (y m : Int) (hy : 0 ≤ y) (hm : m ≤ 13) : ∀ (d : Nat) (n i : Int), 1 ≤ i → m - i = d → 0 ≤ n → n + 31 * d ≤ 100000 → Ev (fun k => spec_DaysOf.l1 k y m n i) (n + monthsD y d i)
  | 0, n, i, h1, hd, n0, n1 => by
    refine ev_last fun k => ?_
    simp only [spec_DaysOf.l1]
    rw [if_neg (by omega)]
    simp [monthsD]
  | d + 1, n, i, h1, hd, n0, n1 => by
    obtain ⟨l, e, hl, hr⟩ := spec_l4Months_eq hy
    have hb := monthD_bd y i
    refine Ev.step (f := fun k => spec_DaysOf.l1 k y m (n + monthD y i) (i + 1)) (fun k => ?_) (ev_eq (spec_DaysOf_l1 y m hy hm d _ (i + 1) (by omega) (by omega) (by omega) (by omega)) (by rw [monthsD]; omega))
    simp only [spec_DaysOf.l1]
    rw [if_pos (by omega), e, Option.bind_some, wrap_id (x := i - 1) (by omega) (by omega), if_pos (by omega), if_pos (by omega), hr i h1 (by omega), wrap_id (by omega) (by omega), wrap_id (by omega) (by omega)]
theorem spec_DaysOf_l0 (y m : Int) (hy : y ≤ 2037) (h1970 : 1970 ≤ y) (hm1 : 1 ≤ m) (hm : m ≤ 12) : ∀ (d : Nat) (n i : Int), 1970 ≤ i → y - i = d → 0 ≤ n → n + 366 * d ≤ 50000 → Ev (fun k => spec_DaysOf.l0 k y m n i) (n + yearsD d i + monthsD y (m - 1).toNat 1)
  | 0, n, i, h1, hd, n0, n1 => by
    refine Ev.step (f := fun k => spec_DaysOf.l1 k y m n 1) (fun k => ?_) (ev_eq (spec_DaysOf_l1 y m (by omega) (by omega) (m - 1).toNat n 1 (by omega) (by omega) n0 (by omega)) (by simp [yearsD]))
    simp only [spec_DaysOf.l0]
    rw [if_neg (by omega)]
  | d + 1, n, i, h1, hd, n0, n1 => by
    have hb := yearD_bd i
    refine Ev.step (f := fun k => spec_DaysOf.l0 k y m (n + yearD i) (i + 1)) (fun k => ?_) (ev_eq (spec_DaysOf_l0 y m hy h1970 hm1 hm d _ (i + 1) (by omega) (by omega) (by omega) (by omega)) (by rw [yearsD]; omega))
    simp only [spec_DaysOf.l0]
    rw [if_pos (by omega), spec_IsLeap_eq (by omega), Option.bind_some, wrap_id (x := n + 365) (by omega) (by omega), wrap_id (x := i + 1) (by omega) (by omega), wrap_id (x := n + 365 + 1) (by omega) (by omega)]
    unfold yearD
    cases leapB i with
    | true => rw [if_pos rfl, if_pos rfl, show n + 365 + 1 = n + 366 by omega]
    | false => rw [if_neg (by decide), if_neg (by decide)]
theorem spec_DaysOf_ev (y m d : Int) : Ev (fun k => spec_DaysOf.f k y m d) (daysP y m d) := by
  have hbad : ∀ k, spec_DaysOf.j0 (k + 1) y m d true = some (-1) := fun k => by simp only [spec_DaysOf.j0]; rw [if_pos trivial]
  refine Ev.congr (fun k => by unfold spec_DaysOf.f; rw [spec_l1In_eq, Option.bind_some]) ?_
  unfold daysP
  by_cases h1 : 1970 ≤ y ∧ y ≤ 2037
  · refine ev_if_pos (by simpa using h1) ?_
    refine Ev.congr (fun k => by rw [spec_l1In_eq, Option.bind_some]) ?_
    by_cases h2 : 1 ≤ m ∧ m ≤ 12
    · refine ev_if_pos (by simpa using h2) ?_
      obtain ⟨l, e, hl, hr⟩ := spec_l4Months_eq (y := y) (by omega)
      refine Ev.congr (fun k => by rw [e, Option.bind_some, wrap_id (x := m - 1) (by omega) (by omega), if_pos (by omega), if_pos (by omega), hr m h2.1 h2.2, spec_l1In_eq, Option.bind_some]) ?_
      have hb := monthD_bd y m
      by_cases h3 : 1 ≤ d ∧ d ≤ monthD y m
      · rw [decide_eq_true h3, if_pos ⟨h1, h2, h3⟩]
        refine Ev.step (f := fun k => spec_DaysOf.l0 k y m (d - 1) 1970) (fun k => ?_) (ev_eq (spec_DaysOf_l0 y m h1.2 h1.1 h2.1 h2.2 (y - 1970).toNat (d - 1) 1970 (by omega) (by omega) (by omega) (by omega)) (by omega))
        simp only [spec_DaysOf.j0]
        rw [if_neg (by decide), wrap_id (by omega) (by omega)]
      · rw [decide_eq_false h3, if_neg (fun h => h3 h.2.2)]
        exact ev_last hbad
    · rw [if_neg (fun h => h2 h.2.1)]
      exact ev_if_neg (by simpa using h2) (ev_last hbad)
  · rw [if_neg (fun h => h1 h.1)]
    exact ev_if_neg (by simpa using h1) (ev_last hbad)

end Go.Proofs.YtjldfmkpdkhnnaaGreatDoor.Pure

namespace Go.Proofs.YtjldfmkpdkhnnaaGreatDoor.Pure
open Go.RowKit Go.Proofs.YtjldfmkpdkhnnaaGreatDoor.QL Go.Proofs.YtjldfmkpdkhnnaaGreatDoorW.PrintWords Go.Proofs.YtjldfmkpdkhnnaaGreatDoorW.PrintLast Go.Proofs.YtjldfmkpdkhnnaaGreatDoorW.PrintMore Go.Proofs.YtjldfmkpdkhnnaaGreatDoor.Aux Go.Proofs.YtjldfmkpdkhnnaaGreatDoor.Dom Go.Proofs.YtjldfmkpdkhnnaaGreatDoor.Ext
theorem spec_Dec_pos : ∀ (d : Nat) (n : Int) (acc : List Int), 0 ≤ n → n ≤ 9223372036854775807 → n < 10 ^ d → acc.length + d ≤ 100 → Ev (fun k => spec_Dec.l0 k n (strOfNums acc) false) (strOfNums (decL d n acc))
  | 0, n, acc, h0, h1, hn, ha => by
    refine ev_last fun k => ?_
    simp only [spec_Dec.l0]
    rw [if_pos (by simp at hn; omega), if_neg (by decide)]
    rfl
  | d + 1, n, acc, h0, h1, hn, ha => by
    by_cases h : n > 0
    · refine Ev.step (f := fun k => spec_Dec.l0 k (n / 10) (strOfNums ((48 + n % 10) :: acc)) false) (fun k => ?_) (ev_eq (spec_Dec_pos d (n / 10) _ (by omega) (by omega) (by rw [Int.pow_succ] at hn; omega) (by simp; omega)) (by rw [decL, if_pos h]))
      simp only [spec_Dec.l0, Option.bind_some]
      rw [if_neg (by omega), Int.tmod_eq_emod_of_nonneg (by omega), Int.tdiv_eq_ediv_of_nonneg (by omega), if_neg (by omega), if_pos (by rw [strOfNums_size, strOfNums_size]; simp; omega), wrap_id (x := 48 + n % 10) (by omega) (by omega), wrap_id (by omega) (by omega), Int.emod_eq_of_lt (a := 48 + n % 10) (by omega) (by omega), ← strOfNums_append]
      rfl
    · refine ev_last fun k => ?_
      simp only [spec_Dec.l0]
      rw [if_pos (by omega), if_neg (by decide), decL, if_neg h]
theorem spec_Dec_neg : ∀ (d : Nat) (n : Int) (acc : List Int), 0 ≤ n → n ≤ 9223372036854775808 → n < 10 ^ d → acc.length + d ≤ 100 → Ev (fun k => spec_Dec.l0 k (-n) (strOfNums acc) true) (strOfNums (45 :: decL d n acc))
  | 0, n, acc, h0, h1, hn, ha => by
    refine ev_last fun k => ?_
    simp only [spec_Dec.l0]
    rw [if_pos (by simp at hn; omega), if_pos (by trivial), if_pos (by rw [strOfNums_size]; omega)]
    rw [show (45 :: decL 0 n acc : List Int) = [45] ++ acc from rfl, strOfNums_append]
    rfl
  | d + 1, n, acc, h0, h1, hn, ha => by
    by_cases h : n > 0
    · refine Ev.step (f := fun k => spec_Dec.l0 k (-(n / 10)) (strOfNums ((48 + n % 10) :: acc)) true) (fun k => ?_) (ev_eq (spec_Dec_neg d (n / 10) _ (by omega) (by omega) (by rw [Int.pow_succ] at hn; omega) (by simp; omega)) (by rw [decL, if_pos h]))
      simp only [spec_Dec.l0, Option.bind_some]
      rw [if_neg (by omega), Int.neg_tmod, Int.neg_tdiv, Int.tmod_eq_emod_of_nonneg (by omega), Int.tdiv_eq_ediv_of_nonneg (by omega)]
      by_cases hr : -(n % 10) < 0
      · rw [if_pos hr, if_pos (by rw [strOfNums_size, strOfNums_size]; simp; omega), Int.neg_neg, wrap_id (x := n % 10) (by omega) (by omega), wrap_id (x := 48 + n % 10) (by omega) (by omega), wrap_id (by omega) (by omega), Int.emod_eq_of_lt (a := 48 + n % 10) (by omega) (by omega), ← strOfNums_append]
        rfl
      · have hr0 : n % 10 = 0 := by omega
        rw [if_neg hr, if_pos (by rw [strOfNums_size, strOfNums_size]; simp; omega), hr0, wrap_id (x := -(n / 10)) (by omega) (by omega), ← strOfNums_append, show (wrap64 (48 + -0) % 256 : Int) = 48 + 0 by rw [wrap_id (by omega) (by omega)]; omega]
        rfl
    · refine ev_last fun k => ?_
      simp only [spec_Dec.l0]
      rw [if_pos (by omega), if_pos (by trivial), if_pos (by rw [strOfNums_size]; omega), decL, if_neg h]
      rw [show (45 :: acc : List Int) = [45] ++ acc from rfl, strOfNums_append]
      rfl
theorem spec_Dec_ev (n : Int) (h0 : -9223372036854775808 ≤ n) (h1 : n ≤ 9223372036854775807) : Ev (fun k => spec_Dec.f k n) (decB n) := by
  have hp : (10 : Int) ^ 20 = 100000000000000000000 := by decide
  unfold decB decP
  by_cases hz : n = 0
  · rw [if_pos hz]
    exact ev_some fun k => by unfold spec_Dec.f; rw [if_pos hz]; rfl
  · rw [if_neg hz]
    refine Ev.congr (fun k => by unfold spec_Dec.f; rw [if_neg hz]) ?_
    by_cases hn : n < 0
    · rw [if_pos hn, decide_eq_true hn]
      have h := spec_Dec_neg 20 (-n) [] (by omega) (by omega) (by rw [hp]; omega) (by simp)
      rw [Int.neg_neg] at h
      exact h
    · rw [if_neg hn, decide_eq_false hn]
      exact spec_Dec_pos 20 n [] (by omega) (by omega) (by rw [hp]; omega) (by simp)

end Go.Proofs.YtjldfmkpdkhnnaaGreatDoor.Pure

namespace Go.Proofs.YtjldfmkpdkhnnaaGreatDoor.Pure
open Go.RowKit Go.Proofs.YtjldfmkpdkhnnaaGreatDoor.QL Go.Proofs.YtjldfmkpdkhnnaaGreatDoorW.PrintWords Go.Proofs.YtjldfmkpdkhnnaaGreatDoorW.PrintLast Go.Proofs.YtjldfmkpdkhnnaaGreatDoorW.PrintMore Go.Proofs.YtjldfmkpdkhnnaaGreatDoor.Aux Go.Proofs.YtjldfmkpdkhnnaaGreatDoor.Dom Go.Proofs.YtjldfmkpdkhnnaaGreatDoor.Ext
theorem spec_l4Two_eq {n : Int} (h0 : 0 ≤ n) (h1 : n ≤ 99) : spec_l4Two.f n = some (strOfNums (twoL n)) := by
  unfold spec_l4Two.f twoL
  rw [Int.tdiv_eq_ediv_of_nonneg h0, wrap_id (x := n / 10) (by omega) (by omega), Int.tmod_eq_emod_of_nonneg (by omega), Int.tmod_eq_emod_of_nonneg h0, wrap_id (by omega) (by omega), wrap_id (by omega) (by omega), Int.emod_eq_of_lt (a := 48 + n / 10 % 10) (by omega) (by omega), Int.emod_eq_of_lt (a := 48 + n % 10) (by omega) (by omega)]
theorem daysP_year {y : Int} (h : 1970 ≤ y) (h2 : y ≤ 2037) : daysP y 1 1 = yearsD (y - 1970).toNat 1970 := by
  have hb := monthD_bd y 1
  unfold daysP
  rw [if_pos ⟨⟨h, h2⟩, by omega, by omega⟩]
  simp [monthsD]
theorem daysP_month {y m : Int} (h : 1970 ≤ y) (h2 : y ≤ 2037) (h3 : 1 ≤ m) (h4 : m ≤ 12) : daysP y m 1 = yearsD (y - 1970).toNat 1970 + monthsD y (m - 1).toNat 1 := by
  have hb := monthD_bd y m
  unfold daysP
  rw [if_pos ⟨⟨h, h2⟩, ⟨h3, h4⟩, by omega⟩]
  omega
theorem spec_ShowDate_j3 (sec y m : Int) (hs0 : 0 ≤ sec) (hs1 : sec ≤ 2000000000) (hy : 1970 ≤ y) (hy2 : y ≤ 2037) (hm : 1 ≤ m) (hm2 : m ≤ 12) (hd : daysP y m 1 ≤ sec / 86400) (hd2 : sec / 86400 < daysP y m 1 + monthD y m) :
    Ev (fun k => spec_ShowDate.j3 k sec (sec / 86400) y m) (strOfNums (weekL (sec / 86400 % 7) ++ [44, 32] ++ twoL (sec / 86400 - daysP y m 1 + 1) ++ [32] ++ monL m ++ [32] ++ decP y ++ [32] ++ twoL (sec / 3600 % 24) ++ [58] ++ twoL (sec / 60 % 60) ++ [58] ++ twoL (sec % 60) ++ [32, 71, 77, 84])) := by
  have hb := monthD_bd y m
  have hdp := daysP_month hy hy2 hm hm2
  have hyb := yearsD_bd (y - 1970).toNat 1970
  have hmb := monthsD_bd y (m - 1).toNat 1
  have w2 : wrap64 (m - 1) = m - 1 := wrap_id (by omega) (by omega)
  have w1 : wrap64 (wrap64 (sec / 86400 - daysP y m 1) + 1) = sec / 86400 - daysP y m 1 + 1 := by rw [wrap_id (x := sec / 86400 - daysP y m 1) (by omega) (by omega), wrap_id (by omega) (by omega)]
  have w3 : Int.tmod (wrap64 (Int.tdiv sec 3600)) 24 = sec / 3600 % 24 := by rw [Int.tdiv_eq_ediv_of_nonneg hs0, wrap_id (by omega) (by omega), Int.tmod_eq_emod_of_nonneg (by omega)]
  have w4 : Int.tmod (wrap64 (Int.tdiv sec 60)) 60 = sec / 60 % 60 := by rw [Int.tdiv_eq_ediv_of_nonneg hs0, wrap_id (by omega) (by omega), Int.tmod_eq_emod_of_nonneg (by omega)]
  have w5 : Int.tmod sec 60 = sec % 60 := Int.tmod_eq_emod_of_nonneg hs0
  have w6 : Int.tmod (sec / 86400) 7 = sec / 86400 % 7 := Int.tmod_eq_emod_of_nonneg (by omega)
  have s1 : (strOfNums (weekL (sec / 86400 % 7))).size = 3 := by rw [strOfNums_size, weekL_length]
  have s2 : ∀ n, (strOfNums (twoL n)).size = 2 := fun n => by rw [strOfNums_size]; rfl
  have s3 : (strOfNums (monL m)).size = 3 := by rw [strOfNums_size, monL_length]
  have s4 : (decB y).size = 4 := by unfold decB; rw [decP_year (by omega) (by omega), strOfNums_size]; rfl
  have z1 : (⟨#[44, 32]⟩ : ByteArray).size = 2 := rfl
  have z2 : (⟨#[32]⟩ : ByteArray).size = 1 := rfl
  have z3 : (⟨#[58]⟩ : ByteArray).size = 1 := rfl
  refine Ev.step (fun k => by simp only [spec_ShowDate.j3]; rfl) (ev_bind (spec_DaysOf_ev y m 1) ?_)
  refine Ev.congr (fun k => by
    simp only [Option.bind_some]
    rw [w6, if_pos (c := 0 ≤ sec / 86400 % 7) (by omega), if_pos (c := sec / 86400 % 7 < _) (by simp; omega), w2, if_pos (c := 0 ≤ m - 1) (by omega), if_pos (c := m - 1 < _) (by simp; omega), week_rd (by omega) (by omega), months_rd hm hm2, if_pos (by rw [s1]; decide), w1, spec_l4Two_eq (n := sec / 86400 - daysP y m 1 + 1) (by omega) (by omega), Option.bind_some]) ?_
  refine Ev.congr (fun k => by
    simp only [ByteArray.size_append, s1, s2, s3, z1, z2, Nat.reduceAdd, Nat.reduceLeDiff, if_true]
    rfl) ?_
  refine ev_bind (spec_Dec_ev y (by omega) (by omega)) ?_
  refine ev_some fun k => ?_
  rw [w3, w4, w5, spec_l4Two_eq (n := sec / 3600 % 24) (by omega) (by omega), spec_l4Two_eq (n := sec / 60 % 60) (by omega) (by omega), spec_l4Two_eq (n := sec % 60) (by omega) (by omega)]
  simp only [Option.bind_some, ByteArray.size_append, s1, s2, s3, s4, z1, z2, z3, Nat.reduceAdd, Nat.reduceLeDiff, if_true]
  congr 1
  simp only [strOfNums_append, decB]
  rfl
theorem spec_ShowDate_l1 (sec y : Int) (hs0 : 0 ≤ sec) (hs1 : sec ≤ 2000000000) (hy : 1970 ≤ y) (hy2 : y ≤ 2037) : ∀ (f : Nat) (m d : Int), 1 ≤ m → m + f = 13 → 0 ≤ d → d < monthsD y f m → daysP y m 1 + d = sec / 86400 →
    Ev (fun k => spec_ShowDate.l1 k sec (sec / 86400) y m) (strOfNums (weekL (sec / 86400 % 7) ++ [44, 32] ++ twoL ((mdL y f m d).2 + 1) ++ [32] ++ monL (mdL y f m d).1 ++ [32] ++ decP y ++ [32] ++ twoL (sec / 3600 % 24) ++ [58] ++ twoL (sec / 60 % 60) ++ [58] ++ twoL (sec % 60) ++ [32, 71, 77, 84]))
  | 0, m, d, h1, hf, h0, hd, he => by simp [monthsD] at hd; omega
  | f + 1, m, d, h1, hf, h0, hd, he => by
    have hb := monthD_bd y m
    rw [monthsD] at hd
    rw [mdL]
    have e3 : d = sec / 86400 - daysP y m 1 := by omega
    by_cases h12 : m < 12
    · have hn : daysP y (m + 1) 1 = daysP y m 1 + monthD y m := by
        rw [daysP_month hy hy2 (by omega) (by omega), daysP_month hy hy2 h1 (by omega), show (m + 1 - 1).toNat = (m - 1).toNat + 1 by omega, monthsD_succ, show 1 + (((m - 1).toNat : Nat) : Int) = m by omega]
        omega
      refine Ev.step (fun k => by simp only [spec_ShowDate.l1]; rw [if_pos h12, wrap_id (x := m + 1) (by omega) (by omega)]) (ev_bind (spec_DaysOf_ev y (m + 1) 1) ?_)
      by_cases h : monthD y m ≤ d
      · rw [if_pos h]
        exact ev_if_pos (by omega) (spec_ShowDate_l1 sec y hs0 hs1 hy hy2 f (m + 1) (d - monthD y m) (by omega) (by omega) (by omega) (by omega) (by omega))
      · rw [if_neg h]
        refine ev_if_neg (by omega) ?_
        have := spec_ShowDate_j3 sec y m hs0 hs1 hy hy2 h1 (by omega) (by omega) (by omega)
        rw [← e3] at this
        exact this
    · refine Ev.step (f := fun k => spec_ShowDate.j3 k sec (sec / 86400) y m) (fun k => by simp only [spec_ShowDate.l1]; rw [if_neg h12]) ?_
      have hf0 : f = 0 := by omega
      subst hf0
      simp only [monthsD] at hd
      rw [if_neg (by omega)]
      have := spec_ShowDate_j3 sec y m hs0 hs1 hy hy2 h1 (by omega) (by omega) (by omega)
      rw [← e3] at this
      exact this
theorem spec_ShowDate_l0 (sec : Int) (hs0 : 0 ≤ sec) (hs1 : sec ≤ 2000000000) : ∀ (f : Nat) (y d : Int), 1970 ≤ y → y + f = 2037 → 0 ≤ d → d < 365 * f → daysP y 1 1 + d = sec / 86400 →
    Ev (fun k => spec_ShowDate.l0 k sec (sec / 86400) y 1) (strOfNums (weekL (sec / 86400 % 7) ++ [44, 32] ++ twoL ((mdL (ydL f y d).1 12 1 (ydL f y d).2).2 + 1) ++ [32] ++ monL (mdL (ydL f y d).1 12 1 (ydL f y d).2).1 ++ [32] ++ decP (ydL f y d).1 ++ [32] ++ twoL (sec / 3600 % 24) ++ [58] ++ twoL (sec / 60 % 60) ++ [58] ++ twoL (sec % 60) ++ [32, 71, 77, 84]))
  | 0, y, d, h1, hf, h0, hd, he => by omega
  | f + 1, y, d, h1, hf, h0, hd, he => by
    have hb := yearD_bd y
    rw [ydL]
    have hn : daysP (y + 1) 1 1 = daysP y 1 1 + yearD y := by
      rw [daysP_year (by omega) (by omega), daysP_year h1 (by omega), show (y + 1 - 1970).toNat = (y - 1970).toNat + 1 by omega, yearsD_succ, show 1970 + (((y - 1970).toNat : Nat) : Int) = y by omega]
    refine Ev.step (fun k => by simp only [spec_ShowDate.l0]; rw [if_pos (by omega), wrap_id (x := y + 1) (by omega) (by omega)]) (ev_bind (spec_DaysOf_ev (y + 1) 1 1) ?_)
    by_cases h : yearD y ≤ d
    · rw [if_pos h]
      exact ev_if_pos (by omega) (spec_ShowDate_l0 sec hs0 hs1 f (y + 1) (d - yearD y) (by omega) (by omega) (by omega) (by omega) (by omega))
    · rw [if_neg h]
      have hw := yearW_eq y
      unfold yearW at hw
      refine ev_if_neg (by omega) (Ev.step (f := fun k => spec_ShowDate.l1 k sec (sec / 86400) y 1) (fun k => by simp only [spec_ShowDate.j1]) ?_)
      exact spec_ShowDate_l1 sec y hs0 hs1 h1 (by omega) 12 1 d (by omega) (by omega) h0 (by omega) he
theorem spec_ShowDate_ev (sec : Int) (h0 : -9223372036854775808 ≤ sec) (h1 : sec ≤ 9223372036854775807) : Ev (fun k => spec_ShowDate.f k sec) (dateB sec) := by
  refine Ev.congr (fun k => by unfold spec_ShowDate.f; rw [spec_l1In_eq, Option.bind_some]) ?_
  unfold dateB
  by_cases h : 0 ≤ sec ∧ sec ≤ 2000000000
  · rw [if_pos h]
    refine ev_if_pos (by simpa using h) ?_
    have w1 : wrap64 (Int.tdiv sec 86400) = sec / 86400 := by rw [Int.tdiv_eq_ediv_of_nonneg h.1, wrap_id (by omega) (by omega)]
    refine Ev.congr (fun k => by rw [w1]) ?_
    have hy0 : daysP 1970 1 1 = 0 := by rw [daysP_year (by omega) (by omega)]; rfl
    refine ev_eq (spec_ShowDate_l0 sec h.1 h.2 67 1970 (sec / 86400) (by omega) (by omega) (by omega) (by omega) (by omega)) ?_
    unfold dateL ymd
    rw [show (70 : Nat) = 67 + 3 from rfl, ydL_more 67 3 1970 (sec / 86400) (by omega) (by omega)]
  · rw [if_neg h]
    exact ev_if_neg (by simpa using h) (Ev.now _)

end Go.Proofs.YtjldfmkpdkhnnaaGreatDoor.Pure

namespace Go.Proofs.YtjldfmkpdkhnnaaGreatDoor.Pure
open Go.RowKit Go.Proofs.YtjldfmkpdkhnnaaGreatDoor.QL Go.Proofs.YtjldfmkpdkhnnaaGreatDoorW.PrintWords Go.Proofs.YtjldfmkpdkhnnaaGreatDoorW.PrintLast Go.Proofs.YtjldfmkpdkhnnaaGreatDoorW.PrintMore Go.Proofs.YtjldfmkpdkhnnaaGreatDoor.Aux Go.Proofs.YtjldfmkpdkhnnaaGreatDoor.Dom Go.Proofs.YtjldfmkpdkhnnaaGreatDoor.Ext
theorem take_cons_drop (s : ByteArray) (i : Int) (n : Nat) (h0 : 0 ≤ i) (h1 : i < (s.size : Int)) : ((bytesOf s).drop i.toNat).take (n + 1) = bt s i :: ((bytesOf s).drop (i + 1).toNat).take n := by
  rw [drop_bt h0 h1, List.take_succ_cons]
theorem spec_l4Num_l0 (s : ByteArray) (a n : Int) (hs : s.size ≤ 8388608) (ha : 0 ≤ a) (hn : n ≤ 9) (hb : a + n ≤ s.size) : ∀ (d : Nat) (x i : Int) (j : Nat), a ≤ i → a + n - i = d → 0 ≤ x → x < 10 ^ j → (j : Int) = i - a →
    Ev (fun k => spec_l4Num.l0 k s a n x i) (if (((bytesOf s).drop i.toNat).take d).all digC = true then valL x (((bytesOf s).drop i.toNat).take d) else -1)
  | 0, x, i, j, h0, hd, x0, x1, hj => by
    refine ev_last fun k => ?_
    simp only [spec_l4Num.l0]
    rw [wrap_id (x := a + n) (by omega) (by omega), if_neg (by omega), List.take_zero]
    rfl
  | d + 1, x, i, j, h0, hd, x0, x1, hj => by
    have hlt : i < (s.size : Int) := by omega
    have hp : (10 : Int) ^ 9 = 1000000000 := by decide
    have hle : (10 : Int) ^ j ≤ 10 ^ 9 := pow_le 10 (by decide) (by omega)
    rw [take_cons_drop s i d (by omega) hlt, List.all_cons]
    by_cases h1 : digC (bt s i) = true
    · have h2 := digC_iff.1 h1
      refine Ev.step (f := fun k => spec_l4Num.l0 k s a n (x * 10 + (bt s i - 48)) (i + 1)) (fun k => ?_) (ev_eq (spec_l4Num_l0 s a n hs ha hn hb d _ (i + 1) (j + 1) (by omega) (by omega) (by omega) (by rw [Int.pow_succ]; omega) (by omega)) (by rw [h1, Bool.true_and, valL]))
      simp only [spec_l4Num.l0]
      rw [wrap_id (x := a + n) (by omega) (by omega), if_pos (by omega), if_pos (by omega), if_pos hlt, if_neg (by omega), if_neg (by omega), Int.emod_eq_of_lt (a := bt s i - 48) (by omega) (by omega), wrap_id (x := x * 10) (by omega) (by omega), wrap_id (x := x * 10 + (bt s i - 48)) (by omega) (by omega), wrap_id (x := i + 1) (by omega) (by omega)]
    · rw [Bool.eq_false_iff.2 h1, Bool.false_and, if_neg (by decide)]
      rw [digC_iff] at h1
      refine ev_last fun k => ?_
      simp only [spec_l4Num.l0]
      rw [wrap_id (x := a + n) (by omega) (by omega), if_pos (by omega), if_pos (by omega), if_pos hlt]
      by_cases h3 : bt s i < 48
      · rw [if_pos h3]
      · rw [if_neg h3, if_pos (by omega)]
theorem spec_l4Num_ev (s : ByteArray) (a n : Nat) (hs : s.size ≤ 8388608) (hn : n ≤ 9) (hb : a + n ≤ s.size) : Ev (fun k => spec_l4Num.f k s a n) (numP (sub (bytesOf s) a n)) := by
  have h := spec_l4Num_l0 s a n hs (by omega) (by omega) (by omega) n 0 a 0 (by omega) (by omega) (by omega) (by decide) (by omega)
  rw [Int.toNat_natCast] at h
  exact h
theorem spec_ReadDate_j1 (s : ByteArray) (hs : s.size = 29) (days h m x : Int) (hd : days = daysI (bytesOf s)) (hh : h = numP (sub (bytesOf s) 17 2)) (hm : m = numP (sub (bytesOf s) 20 2)) (hx : x = numP (sub (bytesOf s) 23 2)) (b : Bool) (hb : b = decide (days < 0 ∨ h < 0 ∨ m < 0 ∨ x < 0)) :
    Ev (fun k => spec_ReadDate.j1 k s days h m x b) (readDateP s) := by
  have hl := bytesOf_length s
  have b1 : -1 ≤ days ∧ days ≤ 30000 := by rw [hd]; exact daysP_bd _ _ _
  have e2 : (10 : Int) ^ 2 = 100 := by decide
  have b2 := numP_bd (sub (bytesOf s) 17 2) 2 (by unfold sub; rw [List.length_take]; omega)
  have b3 := numP_bd (sub (bytesOf s) 20 2) 2 (by unfold sub; rw [List.length_take]; omega)
  have b4 := numP_bd (sub (bytesOf s) 23 2) 2 (by unfold sub; rw [List.length_take]; omega)
  rw [← hh] at b2
  rw [← hm] at b3
  rw [← hx] at b4
  cases b with
  | true =>
    have hneg := of_decide_eq_true hb.symm
    rw [readDateP_none (fun sec _ e => by
      obtain ⟨q0, q1, q2, _⟩ := dateB_some hs e
      obtain ⟨f1, f2, f3, f4⟩ := date_facts q0 q1
      rw [← q2] at f1 f2 f3 f4
      rw [← hd] at f1
      rw [← hh] at f2
      rw [← hm] at f3
      rw [← hx] at f4
      omega)]
    exact ev_last fun k => by simp only [spec_ReadDate.j1]; rw [if_pos (by trivial)]
  | false =>
    have hnn := of_decide_eq_false hb.symm
    have hr : readL (bytesOf s) = days * 86400 + h * 3600 + m * 60 + x := by unfold readL; rw [← hd, ← hh, ← hm, ← hx]
    refine Ev.step (fun k => by simp only [spec_ReadDate.j1]; rw [if_neg (by decide), wrap_id (x := days * 86400) (by omega) (by omega), wrap_id (x := h * 3600) (by omega) (by omega), wrap_id (x := days * 86400 + h * 3600) (by omega) (by omega), wrap_id (x := m * 60) (by omega) (by omega), wrap_id (x := days * 86400 + h * 3600 + m * 60) (by omega) (by omega), wrap_id (x := days * 86400 + h * 3600 + m * 60 + x) (by omega) (by omega)]) (ev_bind (spec_ShowDate_ev (days * 86400 + h * 3600 + m * 60 + x) (by omega) (by omega)) ?_)
    rw [← hr]
    by_cases he : dateB (readL (bytesOf s)) = s
    · refine ev_if_pos (by rw [he]) (ev_eq (Ev.now _) ?_)
      rw [readDateP_some hs he]
    · refine ev_if_neg (by rw [toList_eq_iff]; exact he) (ev_eq (Ev.now _) ?_)
      unfold readDateP
      rw [if_neg (fun h => he h.2)]
theorem spec_ReadDate_l0 (s : ByteArray) (hs : s.size = 29) : ∀ (d : Nat) (mon m : Int), 1 ≤ m → m + d = 13 → monF (sub (bytesOf s) 8 3) d m mon = monI (sub (bytesOf s) 8 3) → Ev (fun k => spec_ReadDate.l0 k s mon m) (readDateP s)
  | 0, mon, m, h1, hd, he => by
    have hmon : mon = monI (sub (bytesOf s) 8 3) := he
    have w1 : Ev (fun k => spec_l4Num.f k s 12 4) (numP (sub (bytesOf s) 12 4)) := spec_l4Num_ev s 12 4 (by omega) (by omega) (by omega)
    have w2 : Ev (fun k => spec_l4Num.f k s 5 2) (numP (sub (bytesOf s) 5 2)) := spec_l4Num_ev s 5 2 (by omega) (by omega) (by omega)
    have w3 : Ev (fun k => spec_l4Num.f k s 17 2) (numP (sub (bytesOf s) 17 2)) := spec_l4Num_ev s 17 2 (by omega) (by omega) (by omega)
    have w4 : Ev (fun k => spec_l4Num.f k s 20 2) (numP (sub (bytesOf s) 20 2)) := spec_l4Num_ev s 20 2 (by omega) (by omega) (by omega)
    have w5 : Ev (fun k => spec_l4Num.f k s 23 2) (numP (sub (bytesOf s) 23 2)) := spec_l4Num_ev s 23 2 (by omega) (by omega) (by omega)
    refine Ev.step (fun k => by simp only [spec_ReadDate.l0]; rw [if_neg (by omega)]) (ev_bind w1 (ev_bind w2 (ev_bind (spec_DaysOf_ev _ mon _) (ev_bind w3 (ev_bind w4 (ev_bind w5 ?_))))))
    have hj := spec_ReadDate_j1 s hs (daysI (bytesOf s)) _ _ _ rfl rfl rfl rfl
    have ed : daysP (numP (sub (bytesOf s) 12 4)) mon (numP (sub (bytesOf s) 5 2)) = daysI (bytesOf s) := by rw [hmon]; rfl
    simp only [ed]
    by_cases c1 : daysI (bytesOf s) < 0
    · exact ev_if_pos c1 (hj true (decide_eq_true (.inl c1)).symm)
    · refine ev_if_neg c1 ?_
      by_cases c2 : numP (sub (bytesOf s) 17 2) < 0
      · exact ev_if_pos c2 (hj true (decide_eq_true (.inr (.inl c2))).symm)
      · refine ev_if_neg c2 ?_
        by_cases c3 : numP (sub (bytesOf s) 20 2) < 0
        · exact ev_if_pos c3 (hj true (decide_eq_true (.inr (.inr (.inl c3)))).symm)
        · refine ev_if_neg c3 (hj _ ?_)
          rw [decide_eq_decide]
          exact ⟨fun h => .inr (.inr (.inr h)), fun h => by omega⟩
  | d + 1, mon, m, h1, hd, he => by
    rw [monF] at he
    have hw : bytesOf (s.extract 8 11) = sub (bytesOf s) 8 3 := by
      rw [bytesOf_extract, sub, List.drop_take]
    have hmm : (s.extract 8 11 = strOfNums (monL m)) ↔ sub (bytesOf s) 8 3 = monL m := by
      rw [← hw]
      have hr := bytesOf_strOfNums (xs := monL m) (fun c hc => by have := monL_ge m c hc; omega)
      exact ⟨fun h => by rw [h, hr], fun h => bytesOf_inj (by rw [h, hr])⟩
    by_cases h : sub (bytesOf s) 8 3 = monL m
    · rw [if_pos h] at he
      refine Ev.step (f := fun k => spec_ReadDate.l0 k s m (m + 1)) (fun k => ?_) (spec_ReadDate_l0 s hs d m (m + 1) (by omega) (by omega) he)
      simp only [spec_ReadDate.l0]
      rw [if_pos (by omega), if_pos (by decide), if_pos (by omega), Option.bind_some, wrap_id (x := m - 1) (by omega) (by omega), if_pos (by omega), if_pos (by simp; omega), months_rd h1 (by omega), if_pos (by rw [hmm.2 h]), wrap_id (x := m + 1) (by omega) (by omega)]
    · rw [if_neg h] at he
      refine Ev.step (f := fun k => spec_ReadDate.l0 k s mon (m + 1)) (fun k => ?_) (spec_ReadDate_l0 s hs d mon (m + 1) (by omega) (by omega) he)
      simp only [spec_ReadDate.l0]
      rw [if_pos (by omega), if_pos (by decide), if_pos (by omega), Option.bind_some, wrap_id (x := m - 1) (by omega) (by omega), if_pos (by omega), if_pos (by simp; omega), months_rd h1 (by omega), if_neg (by rw [toList_eq_iff]; exact fun hh => h (hmm.1 hh)), wrap_id (x := m + 1) (by omega) (by omega)]
theorem spec_ReadDate_ev (s : ByteArray) (hs : s.size ≤ 8388608) : Ev (fun k => spec_ReadDate.f k s) (readDateP s) := by
  by_cases h : (s.size : Int) = 29
  · exact Ev.congr (fun k => by unfold spec_ReadDate.f; rw [if_pos h]) (spec_ReadDate_l0 s (by omega) 12 0 1 (by omega) (by omega) rfl)
  · rw [readDateP_none (fun sec e1 e2 => h (by omega))]
    exact Ev.congr (fun k => by unfold spec_ReadDate.f; rw [if_neg h]) (Ev.now _)

end Go.Proofs.YtjldfmkpdkhnnaaGreatDoor.Pure

namespace Go.Proofs.YtjldfmkpdkhnnaaGreatDoor.Pure
open Go.RowKit Go.Proofs.YtjldfmkpdkhnnaaGreatDoor.QL Go.Proofs.YtjldfmkpdkhnnaaGreatDoorW.PrintWords Go.Proofs.YtjldfmkpdkhnnaaGreatDoorW.PrintLast Go.Proofs.YtjldfmkpdkhnnaaGreatDoorW.PrintMore Go.Proofs.YtjldfmkpdkhnnaaGreatDoor.Aux Go.Proofs.YtjldfmkpdkhnnaaGreatDoor.Dom Go.Proofs.YtjldfmkpdkhnnaaGreatDoor.Ext
theorem spec_DateOf_ev (l : List S99) (nm : ByteArray) (hl : l.length ≤ 1048576) (hz : ¬ szF 1048576 (l.map fun x => (x.f0, x.f1)) < 0) : Ev (fun k => spec_DateOf.f k l nm) (dateOfP (l.map fun x => (x.f0, x.f1)) nm) := by
  have q1 := szF_sum nm (by omega) hz
  have j1 := joinG_size nm _ (by omega) hz
  have rdt := spec_ReadDate_ev (joinG nm (l.map fun x => (x.f0, x.f1))) (by omega)
  refine Ev.congr (fun k => by unfold spec_DateOf.f; rfl) (ev_bind (spec_FieldGet_ev l nm hl (by omega)) ?_)
  unfold dateOfP
  exact ev_ite (fun h1 => ev_bind rdt (Ev.now _)) (fun h1 => Ev.now _)

end Go.Proofs.YtjldfmkpdkhnnaaGreatDoor.Pure

namespace Go.Proofs.YtjldfmkpdkhnnaaGreatDoor.Pure
open Go.RowKit Go.Proofs.YtjldfmkpdkhnnaaGreatDoor.QL Go.Proofs.YtjldfmkpdkhnnaaGreatDoorW.PrintWords Go.Proofs.YtjldfmkpdkhnnaaGreatDoorW.PrintLast Go.Proofs.YtjldfmkpdkhnnaaGreatDoorW.PrintMore Go.Proofs.YtjldfmkpdkhnnaaGreatDoor.Aux Go.Proofs.YtjldfmkpdkhnnaaGreatDoor.Dom Go.Proofs.YtjldfmkpdkhnnaaGreatDoor.Ext
theorem mx_later {a b : Int} (h : 0 ≤ b) : mx 0 (a - b) = laterP a b := by
  unfold mx laterP
  (repeat' split) <;> omega
theorem spec_Lifetime_ev (st : Int) (l : List S99) (b : ByteArray) (hl : l.length ≤ 1048576) (hz : ¬ szF 1048576 (l.map fun x => (x.f0, x.f1)) < 0) : Ev (fun k => spec_Lifetime.f k st l b) (lifetimeP (l.map fun x => (x.f0, x.f1))) := by
  have q1 := szF_sum nmExp (by omega) hz
  have b1 := dateOfP_bd (l.map fun x => (x.f0, x.f1)) nmDate
  have b2 := dateOfP_bd (l.map fun x => (x.f0, x.f1)) nmExp
  have b3 := dateOfP_bd (l.map fun x => (x.f0, x.f1)) nmLast
  refine Ev.congr (fun k => by unfold spec_Lifetime.f; rfl) ?_
  unfold lifetimeP
  refine ev_bind (spec_CcSeconds_ev l nmSM hl hz) (ev_ite (fun _ => Ev.now _) (fun _ => ev_bind (spec_CcSeconds_ev l nmMA hl hz) (ev_ite (fun _ => Ev.now _) (fun _ => ?_))))
  unfold lifeD
  refine ev_bind (spec_DateOf_ev l nmDate hl hz) (ev_bind (spec_FieldGet_ev l nmExp hl (by omega)) (ev_ite (fun h1 => ?_) (fun h1 => ?_)))
  · refine ev_bind (spec_DateOf_ev l nmExp hl hz) (ev_ite (fun h2 => ?_) (fun h2 => ev_last fun k => by simp only [spec_Lifetime.j0]; rw [if_pos (by trivial)]))
    generalize dateOfP (l.map fun x => (x.f0, x.f1)) nmDate = q at b1
    refine ev_last fun k => ?_
    simp only [spec_Lifetime.j0]
    by_cases h3 : q.2 = true
    · rw [if_neg (by rw [h3]; decide), if_pos h3, wrap_id (by omega) (by omega), mx_later (by omega)]
    · rw [if_pos (by rw [Bool.eq_false_iff.2 h3]; rfl), if_neg h3]
  · refine ev_bind (spec_DateOf_ev l nmLast hl hz) ?_
    generalize dateOfP (l.map fun x => (x.f0, x.f1)) nmDate = q at b1
    generalize dateOfP (l.map fun x => (x.f0, x.f1)) nmLast = p at b3
    by_cases h3 : q.2 = true
    · by_cases h4 : p.2 = true
      · have hb := laterP_bd (a := q.1) (b := p.1) (by omega)
        refine ev_if_pos h3 (ev_if_pos h4 (ev_eq (Ev.now _) ?_))
        rw [if_pos h4, if_pos h3, wrap_id (x := q.1 - p.1) (by omega) (by omega), mx_later (by omega), wrap_id (by omega) (by omega)]
      · refine ev_if_pos h3 (ev_if_neg h4 (ev_eq (Ev.now _) ?_))
        rw [if_neg h4]
    · refine ev_if_neg h3 (ev_eq (Ev.now _) ?_)
      split <;> first | rfl | (rw [if_neg h3])

end Go.Proofs.YtjldfmkpdkhnnaaGreatDoor.Pure

namespace Go.Proofs.YtjldfmkpdkhnnaaGreatDoor.Pure
open Go.RowKit Go.Proofs.YtjldfmkpdkhnnaaGreatDoor.QL Go.Proofs.YtjldfmkpdkhnnaaGreatDoorW.PrintWords Go.Proofs.YtjldfmkpdkhnnaaGreatDoorW.PrintLast Go.Proofs.YtjldfmkpdkhnnaaGreatDoorW.PrintMore Go.Proofs.YtjldfmkpdkhnnaaGreatDoor.Aux Go.Proofs.YtjldfmkpdkhnnaaGreatDoor.Dom Go.Proofs.YtjldfmkpdkhnnaaGreatDoor.Ext
theorem impl_FieldGet_l0 (l : List S99) (nm : ByteArray) (hl : l.length ≤ 1048576) (V : List ByteArray) (hV : (V.map fun v => v.size + 2).sum ≤ 8388608) (hW : V.length ≤ 1048576) : ∀ (d : Nat) (acc : List ByteArray) (i : Int), 0 ≤ i → (l.length : Int) - i = d → acc ++ getL nm ((l.drop i.toNat).map fun x => (x.f0, x.f1)) = V →
    Ev (fun k => impl_FieldGet.l0 k nm acc l (l.length : Int) i) (joinB ⟨#[44, 32]⟩ V, !V.isEmpty)
  | 0, acc, i, h0, hd, ha => by
    refine ev_last fun k => ?_
    simp only [impl_FieldGet.l0]
    rw [drop_nil (by omega)] at ha
    simp only [List.map_nil, getL, List.append_nil] at ha
    subst ha
    have hs : (joinB ⟨#[44, 32]⟩ acc).size ≤ (acc.map fun v => v.size + 2).sum := joinB_size ⟨#[44, 32]⟩ acc
    rw [if_neg (by omega), strings_Join.f, if_pos ⟨by omega, by omega⟩, Option.bind_some]
    cases acc <;> simp
  | d + 1, acc, i, h0, hd, ha => by
    have hlt : i < (l.length : Int) := by omega
    have hdrop : l.drop i.toNat = rd_T99 l i :: l.drop (i + 1).toNat := drop_rdOf (d := z99) h0 hlt
    rw [hdrop] at ha
    simp only [List.map_cons, getL] at ha
    by_cases h : (rd_T99 l i).f0 = nm
    · rw [if_pos h] at ha
      have hlen : acc.length < 8796093022208 := by
        have := congrArg List.length ha
        simp at this
        omega
      refine Ev.step (f := fun k => impl_FieldGet.l0 k nm (acc ++ [(rd_T99 l i).f1]) l (l.length : Int) (i + 1)) (fun k => ?_) (impl_FieldGet_l0 l nm hl V hV hW d (acc ++ [(rd_T99 l i).f1]) (i + 1) (by omega) (by omega) (by rw [← ha]; simp))
      simp only [impl_FieldGet.l0]
      rw [if_pos hlt, if_pos h0, if_pos hlt, if_pos (by rw [h]), if_pos hlen, wrap_id (by omega) (by omega)]
    · rw [if_neg h] at ha
      refine Ev.step (f := fun k => impl_FieldGet.l0 k nm acc l (l.length : Int) (i + 1)) (fun k => ?_) (impl_FieldGet_l0 l nm hl V hV hW d acc (i + 1) (by omega) (by omega) ha)
      simp only [impl_FieldGet.l0]
      rw [if_pos hlt, if_pos h0, if_pos hlt, if_neg (by rw [toList_eq_iff]; exact h), wrap_id (by omega) (by omega)]
theorem impl_FieldGet_ev (l : List S99) (nm : ByteArray) (hl : l.length ≤ 1048576) (hV : ((getL nm (l.map fun x => (x.f0, x.f1))).map fun v => v.size + 2).sum ≤ 8388608) : Ev (fun k => impl_FieldGet.f k l nm) (joinB ⟨#[44, 32]⟩ (getL nm (l.map fun x => (x.f0, x.f1))), !(getL nm (l.map fun x => (x.f0, x.f1))).isEmpty) := by
  have hW := getL_length nm (l.map fun x => (x.f0, x.f1))
  rw [List.length_map] at hW
  have h := impl_FieldGet_l0 l nm hl _ hV (by omega) l.length [] 0 (by omega) (by omega) (by simp)
  simpa [impl_FieldGet.f] using h

end Go.Proofs.YtjldfmkpdkhnnaaGreatDoor.Pure

namespace Go.Proofs.YtjldfmkpdkhnnaaGreatDoor.Pure
open Go.RowKit Go.Proofs.YtjldfmkpdkhnnaaGreatDoor.QL Go.Proofs.YtjldfmkpdkhnnaaGreatDoorW.PrintWords Go.Proofs.YtjldfmkpdkhnnaaGreatDoorW.PrintLast Go.Proofs.YtjldfmkpdkhnnaaGreatDoorW.PrintMore Go.Proofs.YtjldfmkpdkhnnaaGreatDoor.Aux Go.Proofs.YtjldfmkpdkhnnaaGreatDoor.Dom Go.Proofs.YtjldfmkpdkhnnaaGreatDoor.Ext
theorem impl_Trim_eq (s : ByteArray) (hs : s.size ≤ 8388608) : impl_Trim.f s = some (trimB s) := by
  unfold impl_Trim.f strings_Trim.f
  rw [if_pos ⟨hs, rfl⟩, Option.bind_some]

end Go.Proofs.YtjldfmkpdkhnnaaGreatDoor.Pure

namespace Go.Proofs.YtjldfmkpdkhnnaaGreatDoor.Pure
open Go.RowKit Go.Proofs.YtjldfmkpdkhnnaaGreatDoor.QL Go.Proofs.YtjldfmkpdkhnnaaGreatDoorW.PrintWords Go.Proofs.YtjldfmkpdkhnnaaGreatDoorW.PrintLast Go.Proofs.YtjldfmkpdkhnnaaGreatDoorW.PrintMore Go.Proofs.YtjldfmkpdkhnnaaGreatDoor.Aux Go.Proofs.YtjldfmkpdkhnnaaGreatDoor.Dom Go.Proofs.YtjldfmkpdkhnnaaGreatDoor.Ext
theorem impl_commas_l0 (s : ByteArray) (hs : s.size ≤ 8388608) : ∀ (d : Nat) (acc : List Int) (q : Bool) (i : Int), 0 ≤ i → (s.size : Int) - i ≤ d → (acc.length : Int) ≤ i → i ≤ (s.size : Int) + 1 →
    Ev (fun k => impl_commas.l0 k s acc q i) (acc ++ comL ((bytesOf s).drop i.toNat) q false i)
  | 0, acc, q, i, h0, hd, ha, hi => by
    refine ev_last fun k => ?_
    simp only [impl_commas.l0]
    rw [if_neg (by omega), drop_end (by omega)]
    simp [comL]
  | d + 1, acc, q, i, h0, hd, ha, hi => by
    by_cases hlt : i < (s.size : Int)
    · rw [drop_bt h0 hlt]
      have w1 : wrap64 (i + 1) = i + 1 := wrap_id (by omega) (by omega)
      have w2 : wrap64 (i + 1 + 1) = i + 2 := by rw [wrap_id (by omega) (by omega)]; omega
      by_cases h34 : bt s i = 34
      · refine Ev.step (f := fun k => impl_commas.l0 k s acc (!q) (i + 1)) (fun k => ?_) (ev_eq (impl_commas_l0 s hs d acc (!q) (i + 1) (by omega) (by omega) (by omega) (by omega)) (by rw [comL, if_pos h34]))
        simp only [impl_commas.l0]
        rw [if_pos hlt, if_pos h0, if_pos h34, w1]
      · by_cases hq : q = true
        · subst hq
          by_cases h92 : bt s i = 92
          · refine Ev.step (f := fun k => impl_commas.j1 k s acc true i true) (fun k => ?_) (Ev.step (f := fun k => impl_commas.l0 k s acc true (i + 2)) (fun k => ?_) (ev_eq (impl_commas_l0 s hs d acc true (i + 2) (by omega) (by omega) (by omega) (by omega)) ?_))
            · simp only [impl_commas.l0]
              rw [if_pos hlt, if_pos h0, if_neg h34, if_pos (by trivial), h92]
              rfl
            · simp only [impl_commas.j1]
              rw [if_pos (by trivial), w1, w2]
            · rw [comL, if_neg h34, if_pos ⟨rfl, h92⟩]
              by_cases h2 : i + 1 < (s.size : Int)
              · rw [drop_bt (by omega) h2, comL, show i + 1 + 1 = i + 2 by omega]
              · rw [drop_end (by omega), drop_end (by omega)]
                simp [comL]
          · refine Ev.step (f := fun k => impl_commas.j1 k s acc true i false) (fun k => ?_) (Ev.step (f := fun k => impl_commas.l0 k s acc true (i + 1)) (fun k => ?_) (ev_eq (impl_commas_l0 s hs d acc true (i + 1) (by omega) (by omega) (by omega) (by omega)) ?_))
            · simp only [impl_commas.l0]
              have e : (bt s i == 92) = false := by rw [beq_eq_false_iff_ne]; exact h92
              rw [if_pos hlt, if_pos h0, if_neg h34, if_pos (by trivial), e]
            · simp only [impl_commas.j1]
              rw [if_neg (by decide), if_pos (by trivial), w1]
            · rw [comL, if_neg h34, if_neg (fun h => h92 h.2), if_neg (fun h => by simp at h)]
        · have hq' : q = false := by simpa using hq
          subst hq'
          by_cases h44 : bt s i = 44
          · refine Ev.step (f := fun k => impl_commas.j1 k s acc false i false) (fun k => ?_) (Ev.step (f := fun k => impl_commas.l0 k s (acc ++ [i]) false (i + 1)) (fun k => ?_) (ev_eq (impl_commas_l0 s hs d (acc ++ [i]) false (i + 1) (by omega) (by omega) (by simp; omega) (by omega)) ?_))
            · simp only [impl_commas.l0]
              rw [if_pos hlt, if_pos h0, if_neg h34, if_neg (by decide)]
            · simp only [impl_commas.j1]
              rw [if_neg (by decide), if_neg (by decide), if_pos h0, if_pos hlt, if_pos h44, if_pos (by omega), w1]
            · rw [comL, if_neg h34, if_neg (fun h => by simp at h), if_pos ⟨rfl, h44⟩]
              simp
          · refine Ev.step (f := fun k => impl_commas.j1 k s acc false i false) (fun k => ?_) (Ev.step (f := fun k => impl_commas.l0 k s acc false (i + 1)) (fun k => ?_) (ev_eq (impl_commas_l0 s hs d acc false (i + 1) (by omega) (by omega) (by omega) (by omega)) ?_))
            · simp only [impl_commas.l0]
              rw [if_pos hlt, if_pos h0, if_neg h34, if_neg (by decide)]
            · simp only [impl_commas.j1]
              rw [if_neg (by decide), if_neg (by decide), if_pos h0, if_pos hlt, if_neg h44, w1]
            · rw [comL, if_neg h34, if_neg (fun h => by simp at h), if_neg (fun h => h44 h.2)]
    · refine ev_last fun k => ?_
      simp only [impl_commas.l0]
      rw [if_neg (by omega), drop_end (by omega)]
      simp [comL]
theorem impl_commas_ev (s : ByteArray) (hs : s.size ≤ 8388608) : Ev (fun k => impl_commas.f k s) (comL (bytesOf s) false false 0) := by
  have h := impl_commas_l0 s hs s.size [] false 0 (by omega) (by omega) (by simp) (by omega)
  simpa [impl_commas.f] using h

end Go.Proofs.YtjldfmkpdkhnnaaGreatDoor.Pure

namespace Go.Proofs.YtjldfmkpdkhnnaaGreatDoor.Pure
open Go.RowKit Go.Proofs.YtjldfmkpdkhnnaaGreatDoor.QL Go.Proofs.YtjldfmkpdkhnnaaGreatDoorW.PrintWords Go.Proofs.YtjldfmkpdkhnnaaGreatDoorW.PrintLast Go.Proofs.YtjldfmkpdkhnnaaGreatDoorW.PrintMore Go.Proofs.YtjldfmkpdkhnnaaGreatDoor.Aux Go.Proofs.YtjldfmkpdkhnnaaGreatDoor.Dom Go.Proofs.YtjldfmkpdkhnnaaGreatDoor.Ext
theorem impl_SplitList_l0 (s : ByteArray) (hs : s.size ≤ 8388608) (L : List Int) (hL : L.length ≤ 8388609) : ∀ (d : Nat) (acc : List ByteArray) (a : Int) (j : Int), 0 ≤ j → (L.length : Int) - j = d → (acc.length : Int) ≤ j → 0 ≤ a → upL s.size a (L.drop j.toNat) →
    Ev (fun k => impl_SplitList.l0 k s acc a L (L.length : Int) j) (acc ++ splL s a (L.drop j.toNat))
  | 0, acc, a, j, h0, hd, ha, ha0, hu => by
    refine ev_last fun k => ?_
    simp only [impl_SplitList.l0]
    rw [if_neg (by omega), drop_nil (by omega)]
    simp [splL]
  | d + 1, acc, a, j, h0, hd, ha, ha0, hu => by
    have hlt : j < (L.length : Int) := by omega
    have hdrop : L.drop j.toNat = rd L j :: L.drop (j + 1).toNat := drop_rdOf (d := 0) h0 hlt
    rw [hdrop] at hu ⊢
    obtain ⟨u1, u2, u3⟩ := hu
    have w1 : wrap64 (rd L j + 1) = rd L j + 1 := wrap_id (by omega) (by omega)
    have w2 : wrap64 (j + 1) = j + 1 := wrap_id (by omega) (by omega)
    have ht := impl_Trim_eq (s.extract a.toNat (rd L j).toNat) (by rw [ByteArray.size_extract]; omega)
    by_cases he : trimB (s.extract a.toNat (rd L j).toNat) = ⟨#[]⟩
    · refine Ev.step (f := fun k => impl_SplitList.l0 k s acc (rd L j + 1) L (L.length : Int) (j + 1)) (fun k => ?_) (ev_eq (impl_SplitList_l0 s hs L hL d acc (rd L j + 1) (j + 1) (by omega) (by omega) (by omega) (by omega) u3) (by rw [splL, if_pos he]))
      simp only [impl_SplitList.l0]
      rw [if_pos hlt, if_pos h0, if_pos hlt, if_pos ha0, if_pos u1, if_pos u2, ht, Option.bind_some, if_pos ((trim_nil _).2 he), w1, w2]
    · refine Ev.step (f := fun k => impl_SplitList.l0 k s (acc ++ [trimB (s.extract a.toNat (rd L j).toNat)]) (rd L j + 1) L (L.length : Int) (j + 1)) (fun k => ?_) (ev_eq (impl_SplitList_l0 s hs L hL d _ (rd L j + 1) (j + 1) (by omega) (by omega) (by simp; omega) (by omega) u3) (by rw [splL, if_neg he]; simp))
      simp only [impl_SplitList.l0]
      rw [if_pos hlt, if_pos h0, if_pos hlt, if_pos ha0, if_pos u1, if_pos u2, ht, Option.bind_some, if_neg (fun h => he ((trim_nil _).1 h)), if_pos (by omega), w1, w2]
theorem impl_SplitList_ev (s : ByteArray) (hs : s.size ≤ 8388608) : Ev (fun k => impl_SplitList.f k s) (splL s 0 (comL (bytesOf s) false false 0 ++ [(s.size : Int)])) := by
  have hc := comL_length (bytesOf s) false false 0
  rw [bytesOf_length] at hc
  have hu := comL_up (s.size : Int) (bytesOf s) false false 0 0 (by omega) (by rw [bytesOf_length]; omega)
  refine Ev.congr (fun k => by unfold impl_SplitList.f; rfl) (ev_bind (impl_commas_ev s hs) ?_)
  refine ev_if_pos (show (comL (bytesOf s) false false 0).length < 17592186044416 by omega) ?_
  refine Ev.congr (fun k => by rw [Option.bind_some]) ?_
  have h := impl_SplitList_l0 s hs (comL (bytesOf s) false false 0 ++ [(s.size : Int)]) (by simp; omega) (comL (bytesOf s) false false 0 ++ [(s.size : Int)]).length [] 0 0 (by omega) (by omega) (by simp) (by omega) (by simpa using hu)
  exact h

end Go.Proofs.YtjldfmkpdkhnnaaGreatDoor.Pure

namespace Go.Proofs.YtjldfmkpdkhnnaaGreatDoor.Pure
open Go.RowKit Go.Proofs.YtjldfmkpdkhnnaaGreatDoor.QL Go.Proofs.YtjldfmkpdkhnnaaGreatDoorW.PrintWords Go.Proofs.YtjldfmkpdkhnnaaGreatDoorW.PrintLast Go.Proofs.YtjldfmkpdkhnnaaGreatDoorW.PrintMore Go.Proofs.YtjldfmkpdkhnnaaGreatDoor.Aux Go.Proofs.YtjldfmkpdkhnnaaGreatDoor.Dom Go.Proofs.YtjldfmkpdkhnnaaGreatDoor.Ext
theorem strings_IndexByte_eq (s : ByteArray) (c : Int) (h0 : 0 ≤ c) (h1 : c < 256) : strings_IndexByte.f s c = some (idxB (bytesOf s) c) := by unfold strings_IndexByte.f; rw [if_pos ⟨h0, h1⟩]

end Go.Proofs.YtjldfmkpdkhnnaaGreatDoor.Pure

namespace Go.Proofs.YtjldfmkpdkhnnaaGreatDoor.Pure
open Go.RowKit Go.Proofs.YtjldfmkpdkhnnaaGreatDoor.QL Go.Proofs.YtjldfmkpdkhnnaaGreatDoorW.PrintWords Go.Proofs.YtjldfmkpdkhnnaaGreatDoorW.PrintLast Go.Proofs.YtjldfmkpdkhnnaaGreatDoorW.PrintMore Go.Proofs.YtjldfmkpdkhnnaaGreatDoor.Aux Go.Proofs.YtjldfmkpdkhnnaaGreatDoor.Dom Go.Proofs.YtjldfmkpdkhnnaaGreatDoor.Ext
def lodC (c : Int) : Bool := decide (97 ≤ c ∧ c ≤ 122) || decide (65 ≤ c ∧ c ≤ 90) || decide (48 ≤ c ∧ c ≤ 57)
theorem impl_isLetterOrDigit_eq {c : Int} (h0 : 0 ≤ c) (h1 : c < 256) : impl_isLetterOrDigit.f c = some (lodC c) :=
  byte_all (P := fun c => impl_isLetterOrDigit.f c = some (lodC c)) (by decide +kernel) h0 h1
theorem impl_tok {c : Int} (h0 : 0 ≤ c) (h1 : c < 256) : tokC c = (lodC c || !decide (idxB [33, 35, 36, 37, 38, 39, 42, 43, 45, 46, 94, 95, 124, 126, 96] c < 0)) :=
  byte_all (P := fun c => tokC c = (lodC c || !decide (idxB [33, 35, 36, 37, 38, 39, 42, 43, 45, 46, 94, 95, 124, 126, 96] c < 0))) (by decide +kernel) h0 h1
theorem impl_IsTokenText_l0 (s : ByteArray) (hs : s.size ≤ 8388608) : ∀ (d : Nat) (i : Int), 0 ≤ i → (s.size : Int) - i = d →
    Ev (fun k => impl_IsTokenText.l0 k s (s.size : Int) i) (((bytesOf s).drop i.toNat).all tokC && !(bytesOf s).isEmpty)
  | 0, i, h0, hd => by
    refine ev_last fun k => ?_
    simp only [impl_IsTokenText.l0]
    rw [if_neg (by omega), drop_end (by omega)]
    congr 1
    rw [Bool.eq_iff_iff]
    simp only [bne_iff_ne, ne_eq, List.all_nil, Bool.true_and, Bool.not_eq_true', List.isEmpty_eq_false_iff]
    constructor
    · intro h he
      apply h
      exact (toList_lit _ _).2 he
    · intro h he
      exact h ((toList_lit _ _).1 he)
  | d + 1, i, h0, hd => by
    have hb := bt_bound s i
    have hlt : i < (s.size : Int) := by omega
    have e := impl_isLetterOrDigit_eq hb.1 hb.2
    have et := impl_tok hb.1 hb.2
    rw [drop_bt h0 hlt, List.all_cons]
    have ei := strings_IndexByte_eq (⟨#[33, 35, 36, 37, 38, 39, 42, 43, 45, 46, 94, 95, 124, 126, 96]⟩ : ByteArray) (bt s i) hb.1 hb.2
    have eb : bytesOf (⟨#[33, 35, 36, 37, 38, 39, 42, 43, 45, 46, 94, 95, 124, 126, 96]⟩ : ByteArray) = [33, 35, 36, 37, 38, 39, 42, 43, 45, 46, 94, 95, 124, 126, 96] := by decide +kernel
    rw [eb] at ei
    cases hl : lodC (bt s i) with
    | true =>
      rw [hl, Bool.true_or] at et
      refine Ev.step (f := fun k => impl_IsTokenText.l0 k s (s.size : Int) (i + 1)) (fun k => ?_) (ev_eq (impl_IsTokenText_l0 s hs d (i + 1) (by omega) (by omega)) (by rw [et, Bool.true_and]))
      simp only [impl_IsTokenText.l0]
      rw [if_pos hlt, if_pos h0, if_pos hlt, e, hl, Option.bind_some, if_pos rfl, wrap_id (by omega) (by omega)]
    | false =>
      rw [hl, Bool.false_or] at et
      by_cases hx : idxB [33, 35, 36, 37, 38, 39, 42, 43, 45, 46, 94, 95, 124, 126, 96] (bt s i) < 0
      · refine ev_last fun k => ?_
        simp only [impl_IsTokenText.l0]
        rw [if_pos hlt, if_pos h0, if_pos hlt, e, hl, Option.bind_some, if_neg (by decide), ei, Option.bind_some, if_pos hx, et, decide_eq_true hx]
        rfl
      · refine Ev.step (f := fun k => impl_IsTokenText.l0 k s (s.size : Int) (i + 1)) (fun k => ?_) (ev_eq (impl_IsTokenText_l0 s hs d (i + 1) (by omega) (by omega)) (by rw [et, decide_eq_false hx]; rfl))
        simp only [impl_IsTokenText.l0]
        rw [if_pos hlt, if_pos h0, if_pos hlt, e, hl, Option.bind_some, if_neg (by decide), ei, Option.bind_some, if_neg hx, wrap_id (by omega) (by omega)]
theorem impl_IsTokenText_ev (s : ByteArray) (hs : s.size ≤ 8388608) : Ev (fun k => impl_IsTokenText.f k s) (tokB (bytesOf s)) := by
  have h := impl_IsTokenText_l0 s hs s.size 0 (by omega) (by omega)
  simpa [impl_IsTokenText.f, tokB] using h

end Go.Proofs.YtjldfmkpdkhnnaaGreatDoor.Pure

namespace Go.Proofs.YtjldfmkpdkhnnaaGreatDoor.Pure
open Go.RowKit Go.Proofs.YtjldfmkpdkhnnaaGreatDoor.QL Go.Proofs.YtjldfmkpdkhnnaaGreatDoorW.PrintWords Go.Proofs.YtjldfmkpdkhnnaaGreatDoorW.PrintLast Go.Proofs.YtjldfmkpdkhnnaaGreatDoorW.PrintMore Go.Proofs.YtjldfmkpdkhnnaaGreatDoor.Aux Go.Proofs.YtjldfmkpdkhnnaaGreatDoor.Dom Go.Proofs.YtjldfmkpdkhnnaaGreatDoor.Ext
theorem impl_Lower_eq (s : ByteArray) (hs : s.size ≤ 8388608) : impl_Lower.f s = some (strOfNums ((bytesOf s).map lowC)) := by unfold impl_Lower.f; rw [if_pos hs]

end Go.Proofs.YtjldfmkpdkhnnaaGreatDoor.Pure

namespace Go.Proofs.YtjldfmkpdkhnnaaGreatDoor.Pure
open Go.RowKit Go.Proofs.YtjldfmkpdkhnnaaGreatDoor.QL Go.Proofs.YtjldfmkpdkhnnaaGreatDoorW.PrintWords Go.Proofs.YtjldfmkpdkhnnaaGreatDoorW.PrintLast Go.Proofs.YtjldfmkpdkhnnaaGreatDoorW.PrintMore Go.Proofs.YtjldfmkpdkhnnaaGreatDoor.Aux Go.Proofs.YtjldfmkpdkhnnaaGreatDoor.Dom Go.Proofs.YtjldfmkpdkhnnaaGreatDoor.Ext
theorem strings_Cut_eq (s sep : ByteArray) (hs : s.size ≤ 8388608) : strings_Cut.f s sep = some (strOfNums (cutL (bytesOf s) (bytesOf sep)).1, strOfNums (cutL (bytesOf s) (bytesOf sep)).2.1, (cutL (bytesOf s) (bytesOf sep)).2.2) := by unfold strings_Cut.f; rw [if_pos hs]

end Go.Proofs.YtjldfmkpdkhnnaaGreatDoor.Pure

namespace Go.Proofs.YtjldfmkpdkhnnaaGreatDoor.Pure
open Go.RowKit Go.Proofs.YtjldfmkpdkhnnaaGreatDoor.QL Go.Proofs.YtjldfmkpdkhnnaaGreatDoorW.PrintWords Go.Proofs.YtjldfmkpdkhnnaaGreatDoorW.PrintLast Go.Proofs.YtjldfmkpdkhnnaaGreatDoorW.PrintMore Go.Proofs.YtjldfmkpdkhnnaaGreatDoor.Aux Go.Proofs.YtjldfmkpdkhnnaaGreatDoor.Dom Go.Proofs.YtjldfmkpdkhnnaaGreatDoor.Ext
theorem impl_Directives_l0 (L : List ByteArray) (hL : L.length ≤ 16777216) (hm : ∀ p ∈ L, p.size ≤ 8388608) : ∀ (d : Nat) (acc : List S46) (i : Int), 0 ≤ i → (L.length : Int) - i = d → (acc.length : Int) ≤ i →
    Ev (fun k => impl_Directives.l0 k acc L (L.length : Int) i) (acc ++ (dirL (L.drop i.toNat)).map fun p => (⟨p.1, p.2⟩ : S46))
  | 0, acc, i, h0, hd, ha => by
    refine ev_last fun k => ?_
    simp only [impl_Directives.l0]
    rw [if_neg (by omega), drop_nil (by omega)]
    simp [dirL]
  | d + 1, acc, i, h0, hd, ha => by
    have hlt : i < (L.length : Int) := by omega
    have hdrop : L.drop i.toNat = rdOf ByteArray.empty L i :: L.drop (i + 1).toNat := drop_rdOf (d := ByteArray.empty) h0 hlt
    have hmem : rdOf ByteArray.empty L i ∈ L := List.mem_of_mem_drop (i := i.toNat) (by rw [hdrop]; exact List.mem_cons_self)
    have hsz := hm _ hmem
    have hw : wrap64 (i + 1) = i + 1 := wrap_id (by omega) (by omega)
    rw [hdrop]
    simp only [dirL]
    obtain ⟨p, hp⟩ : ∃ p, p = rdOf ByteArray.empty L i := ⟨_, rfl⟩
    rw [← hp] at hsz ⊢
    obtain ⟨n1, n2⟩ := cut_name p [61]
    have n3 := cut_rest p [61]
    have hc := strings_Cut_eq p ⟨#[61]⟩ hsz
    rw [show bytesOf (⟨#[61]⟩ : ByteArray) = [61] from rfl] at hc
    unfold dirOf
    generalize hN : strOfNums (cutL (bytesOf p) [61]).1 = N at n1 n2 hc
    generalize hR : strOfNums (cutL (bytesOf p) [61]).2.1 = R at n3 hc
    have w1 : wrap64 ((R.size : Int) - 1) = (R.size : Int) - 1 := wrap_id (by omega) (by omega)
    have hg : ∀ k, impl_Directives.l0 (k + 1) acc L (L.length : Int) i = (impl_IsTokenText.f k N).bind fun t113 => if t113 = true then (impl_Lower.f N).bind (fun t => if acc.length < 4398046511104 then impl_Directives.l0 k (acc ++ [(⟨t, unqB R⟩ : S46)]) L (L.length : Int) (i + 1) else none) else impl_Directives.l0 k acc L (L.length : Int) (i + 1) := by
      intro k
      simp only [impl_Directives.l0]
      rw [if_pos hlt, if_pos h0, if_pos hlt, ← hp, hc]
      simp only [Option.bind_some]
      rw [hw]
      congr 1
      funext t
      by_cases ht : t = true
      · rw [if_pos ht, if_pos ht]
        by_cases h2 : (R.size : Int) ≥ 2
        · rw [if_pos h2, if_pos (by omega)]
          by_cases hq : bt R 0 = 34
          · rw [if_pos hq, w1, if_pos (by omega), if_pos (by omega)]
            by_cases hr : bt R ((R.size : Int) - 1) = 34
            · rw [if_pos hr, if_pos (by omega), if_pos (by omega), show unqB R = R.extract 1 (R.size - 1) from if_pos ⟨by omega, hq, hr⟩, show ((R.size : Int) - 1).toNat = R.size - 1 by omega]
            · rw [if_neg hr, show unqB R = R from if_neg (fun h => hr h.2.2)]
          · rw [if_neg hq, show unqB R = R from if_neg (fun h => hq h.2.1)]
        · rw [if_neg h2, show unqB R = R from if_neg (fun h => h2 (by have := h.1; omega))]
      · rw [if_neg ht, if_neg ht]
    refine Ev.step hg (ev_bind (impl_IsTokenText_ev N (by omega)) ?_)
    rw [n1]
    by_cases hT : tokB (cutL (bytesOf p) [61]).1 = true
    · rw [if_pos hT]
      refine ev_if_pos hT (ev_bind (ev_some fun _ => impl_Lower_eq N (by omega)) (ev_if_pos (by omega) (ev_eq (impl_Directives_l0 L hL hm d _ (i + 1) (by omega) (by omega) (by simp; omega)) ?_)))
      simp [lowB]
    · rw [if_neg hT]
      exact ev_if_neg hT (impl_Directives_l0 L hL hm d acc (i + 1) (by omega) (by omega) (by omega))
theorem impl_Directives_ev (l : List S99) (hl : l.length ≤ 1048576) (hz : ¬ szF 1048576 (l.map fun x => (x.f0, x.f1)) < 0) : Ev (fun k => impl_Directives.f k l) ((dirsL (l.map fun x => (x.f0, x.f1))).map fun p => (⟨p.1, p.2⟩ : S46)) := by
  have hs := ccB_size _ (by omega) hz
  have hq := szF_sum nmCC (by omega) hz
  have hc := comL_length (bytesOf (ccB (l.map fun x => (x.f0, x.f1)))) false false 0
  rw [bytesOf_length] at hc
  have hp := splL_length (ccB (l.map fun x => (x.f0, x.f1))) (comL (bytesOf (ccB (l.map fun x => (x.f0, x.f1)))) false false 0 ++ [((ccB (l.map fun x => (x.f0, x.f1))).size : Int)]) 0
  rw [List.length_append, List.length_singleton] at hp
  refine Ev.congr (fun k => by unfold impl_Directives.f; rfl) (ev_bind (impl_FieldGet_ev l nmCC hl (by omega)) (ev_bind (impl_SplitList_ev (ccB (l.map fun x => (x.f0, x.f1))) (by omega)) ?_))
  have h := impl_Directives_l0 (splL (ccB (l.map fun x => (x.f0, x.f1))) 0 (comL (bytesOf (ccB (l.map fun x => (x.f0, x.f1)))) false false 0 ++ [((ccB (l.map fun x => (x.f0, x.f1))).size : Int)])) (by omega) (fun p hp => Nat.le_trans (splL_size _ _ _ p hp) (by omega)) (splL (ccB (l.map fun x => (x.f0, x.f1))) 0 (comL (bytesOf (ccB (l.map fun x => (x.f0, x.f1)))) false false 0 ++ [((ccB (l.map fun x => (x.f0, x.f1))).size : Int)])).length [] 0 (by omega) (by omega) (by simp)
  exact h

end Go.Proofs.YtjldfmkpdkhnnaaGreatDoor.Pure

namespace Go.Proofs.YtjldfmkpdkhnnaaGreatDoor.Pure
open Go.RowKit Go.Proofs.YtjldfmkpdkhnnaaGreatDoor.QL Go.Proofs.YtjldfmkpdkhnnaaGreatDoorW.PrintWords Go.Proofs.YtjldfmkpdkhnnaaGreatDoorW.PrintLast Go.Proofs.YtjldfmkpdkhnnaaGreatDoorW.PrintMore Go.Proofs.YtjldfmkpdkhnnaaGreatDoor.Aux Go.Proofs.YtjldfmkpdkhnnaaGreatDoor.Dom Go.Proofs.YtjldfmkpdkhnnaaGreatDoor.Ext
theorem strconv_Atoi_short (s : ByteArray) (n : Int) (hs : s.size ≤ 18) (h : Lib.atoi s.data.toList = some n) : strconv_Atoi.f s = some (n, none) := by
  unfold strconv_Atoi.f
  rw [if_pos (by omega), Lib.atoiAll_short _ (by rw [← Lib.size_eq]; exact hs), h]
  rfl
theorem atoi_dig (ds : List Int) (hd : ds.all digC = true) (hne : ds ≠ []) : Lib.atoi (strOfNums ds).data.toList = some (valL 0 ds) := by
  have hr : bytesOf (strOfNums ds) = ds := bytesOf_strOfNums fun c hc => by
    have := digC_iff.1 (List.all_eq_true.1 hd c hc)
    omega
  have hm : ((strOfNums ds).data.toList.map fun b : UInt8 => (b.toNat : Int)) = ds := hr
  obtain ⟨m, h1, h2⟩ := decFrom_val (strOfNums ds).data.toList 0 (by rw [hm]; exact hd)
  rw [hm] at h2
  cases hl : (strOfNums ds).data.toList with
  | nil => rw [hl] at hm; exact absurd hm.symm hne
  | cons b r =>
    rw [hl] at hm h1
    have hb : digC (b.toNat : Int) = true := by
      rw [← hm] at hd
      rw [List.map_cons, List.all_cons, Bool.and_eq_true] at hd
      exact hd.1
    rw [digC_iff] at hb
    have n45 : (b == 45) = false := beq_eq_false_iff_ne.mpr fun e => by subst e; simp at hb
    have n43 : (b == 43) = false := beq_eq_false_iff_ne.mpr fun e => by subst e; simp at hb
    rw [Lib.atoi, if_neg (by rw [n45]; decide), if_neg (by rw [n43]; decide), Lib.decNat, if_neg (by simp), h1, Option.map_some, h2]
    rfl
theorem strconv_Atoi_dig (ds : List Int) (hd : ds.all digC = true) (hne : ds ≠ []) (hl : ds.length ≤ 18) : strconv_Atoi.f (strOfNums ds) = some (valL 0 ds, none) :=
  strconv_Atoi_short _ _ (by rw [strOfNums_size]; exact hl) (atoi_dig ds hd hne)
theorem strconv_Atoi_dec (ds : List Int) (hd : ds.all digC = true) (hl : ds.length ≤ 10) : strconv_Atoi.f ((⟨#[48]⟩ : ByteArray) ++ strOfNums ds) = some (valL 0 ds, none) := by
  have e : (⟨#[48]⟩ : ByteArray) ++ strOfNums ds = strOfNums (48 :: ds) := by
    rw [show (48 :: ds : List Int) = [48] ++ ds from rfl, strOfNums_append]
    rfl
  rw [e, strconv_Atoi_dig (48 :: ds) (by rw [List.all_cons, hd]; rfl) (by simp) (by simp; omega)]
  rfl
end Go.Proofs.YtjldfmkpdkhnnaaGreatDoor.Pure

namespace Go.Proofs.YtjldfmkpdkhnnaaGreatDoor.Pure
open Go.RowKit Go.Proofs.YtjldfmkpdkhnnaaGreatDoor.QL Go.Proofs.YtjldfmkpdkhnnaaGreatDoorW.PrintWords Go.Proofs.YtjldfmkpdkhnnaaGreatDoorW.PrintLast Go.Proofs.YtjldfmkpdkhnnaaGreatDoorW.PrintMore Go.Proofs.YtjldfmkpdkhnnaaGreatDoor.Aux Go.Proofs.YtjldfmkpdkhnnaaGreatDoor.Dom Go.Proofs.YtjldfmkpdkhnnaaGreatDoor.Ext
theorem impl_Seconds_l0 (s : ByteArray) (hs : s.size ≤ 8388608) (hA : (bytesOf s).all digC = true ∨ True) : ∀ (d : Nat) (i : Int), 0 ≤ i → (s.size : Int) - i = d → ((bytesOf s).take i.toNat).all digC = true →
    Ev (fun k => impl_Seconds.l0 k s (s.size : Int) i) (secP (bytesOf s))
  | 0, i, h0, hd, ht => by
    have hl := bytesOf_length s
    have hall : (bytesOf s).all digC = true := by rw [List.take_of_length_le (by omega)] at ht; exact ht
    refine Ev.step (fun k => by simp only [impl_Seconds.l0]; rw [if_neg (by omega)]) ?_
    unfold secP
    rw [if_pos hall, satV_eq _ 0 (by omega) (by omega) hall, ← valL_cut]
    by_cases he : s.toList = ([] : List UInt8)
    · have hb : bytesOf s = [] := by have := (toList_lit _ _).1 he; simpa using this
      refine ev_if_pos he (ev_eq (Ev.now _) ?_)
      rw [hb]
      rfl
    · have hne : 0 < (bytesOf s).length := by
        rcases Nat.eq_zero_or_pos (bytesOf s).length with h | h
        · exact absurd ((toList_lit _ _).2 (by rw [List.eq_nil_of_length_eq_zero h]; rfl)) he
        · exact h
      rw [decide_eq_true hne]
      have htl : strings_TrimLeft.f s (⟨#[48]⟩ : ByteArray) = some (strOfNums (cutC 48 (bytesOf s))) := by unfold strings_TrimLeft.f; rw [if_pos rfl]
      refine ev_if_neg he (ev_bind (ev_some fun _ => htl) ?_)
      have hca := cutC_all hall
      by_cases h10 : 10 < (cutC 48 (bytesOf s)).length
      · refine ev_if_pos (by rw [strOfNums_size]; omega) (ev_eq (Ev.now _) ?_)
        rw [mn_ge (cutC_big hall h10)]
      · refine ev_if_neg (by rw [strOfNums_size]; omega) (ev_if_pos (by rw [strOfNums_size]; omega) ?_)
        exact ev_bind (ev_some fun _ => strconv_Atoi_dec _ hca (by omega)) (Ev.now _)
  | d + 1, i, h0, hd, ht => by
    have hlt : i < (s.size : Int) := by omega
    have hl := bytesOf_length s
    have hmem : bt s i ∈ bytesOf s := List.mem_of_mem_drop (i := i.toNat) (by rw [drop_bt h0 hlt]; exact List.mem_cons_self)
    by_cases h1 : digC (bt s i) = true
    · have h2 := digC_iff.1 h1
      refine Ev.step (f := fun k => impl_Seconds.l0 k s (s.size : Int) (i + 1)) (fun k => ?_) (impl_Seconds_l0 s hs hA d (i + 1) (by omega) (by omega) ?_)
      · simp only [impl_Seconds.l0]
        rw [if_pos hlt, if_pos h0, if_pos hlt, if_neg (by omega), if_neg (by omega), wrap_id (by omega) (by omega)]
      · have e : (bytesOf s).take (i + 1).toNat = (bytesOf s).take i.toNat ++ [bt s i] := by
          have h3 := List.take_append_drop i.toNat ((bytesOf s).take (i + 1).toNat)
          rw [List.take_take, Nat.min_eq_left (by omega), List.drop_take, drop_bt h0 hlt, show (i + 1).toNat - i.toNat = 1 by omega] at h3
          rw [← h3]
          rfl
        rw [e, List.all_append, ht, List.all_cons, h1]
        rfl
    · have hn : ¬ (bytesOf s).all digC = true := fun h => h1 (List.all_eq_true.1 h _ hmem)
      unfold secP
      rw [if_neg hn]
      rw [digC_iff] at h1
      refine ev_last fun k => ?_
      simp only [impl_Seconds.l0]
      rw [if_pos hlt, if_pos h0, if_pos hlt]
      by_cases h3 : bt s i < 48
      · rw [if_pos h3]
      · rw [if_neg h3, if_pos (by omega)]
theorem impl_Seconds_ev (s : ByteArray) (hs : s.size ≤ 8388608) : Ev (fun k => impl_Seconds.f k s) (secP (bytesOf s)) :=
  impl_Seconds_l0 s hs (.inr trivial) s.size 0 (by omega) (by omega) (by simp)

end Go.Proofs.YtjldfmkpdkhnnaaGreatDoor.Pure

namespace Go.Proofs.YtjldfmkpdkhnnaaGreatDoor.Pure
open Go.RowKit Go.Proofs.YtjldfmkpdkhnnaaGreatDoor.QL Go.Proofs.YtjldfmkpdkhnnaaGreatDoorW.PrintWords Go.Proofs.YtjldfmkpdkhnnaaGreatDoorW.PrintLast Go.Proofs.YtjldfmkpdkhnnaaGreatDoorW.PrintMore Go.Proofs.YtjldfmkpdkhnnaaGreatDoor.Aux Go.Proofs.YtjldfmkpdkhnnaaGreatDoor.Dom Go.Proofs.YtjldfmkpdkhnnaaGreatDoor.Ext
theorem impl_CcSeconds_l0 (D : List S46) (nm : ByteArray) (hl : D.length ≤ 16777216) (hm : ∀ x ∈ D, x.f1.size ≤ 8388608) : ∀ (d : Nat) (n : Int) (b : Bool) (i : Int), 0 ≤ i → (D.length : Int) - i = d →
    Ev (fun k => impl_CcSeconds.l0 k nm n b D (D.length : Int) i) (finI n b (ccL nm ((D.drop i.toNat).map fun x => (x.f0, x.f1))))
  | 0, n, b, i, h0, hd => by
    refine ev_last fun k => ?_
    simp only [impl_CcSeconds.l0]
    rw [if_neg (by omega), drop_nil (by omega)]
    rfl
  | d + 1, n, b, i, h0, hd => by
    have hlt : i < (D.length : Int) := by omega
    have hdrop : D.drop i.toNat = rd_T46 D i :: D.drop (i + 1).toNat := drop_rdOf (d := z46) h0 hlt
    have hmem : rd_T46 D i ∈ D := List.mem_of_mem_drop (i := i.toNat) (by rw [hdrop]; exact List.mem_cons_self)
    have hsz := hm _ hmem
    have hw : wrap64 (i + 1) = i + 1 := wrap_id (by omega) (by omega)
    rw [hdrop]
    simp only [List.map_cons, ccL]
    by_cases h : (rd_T46 D i).f0 = nm
    · rw [if_pos h, finI]
      refine Ev.step (fun k => by simp only [impl_CcSeconds.l0]; rw [if_pos hlt, if_pos h0, if_pos hlt, if_pos (by rw [h])]) (ev_bind (impl_Seconds_ev _ hsz) ?_)
      cases b with
      | true =>
        rw [if_pos rfl]
        refine ev_if_pos rfl ?_
        by_cases hv : (secP (bytesOf (rd_T46 D i).f1)).1 < n
        · rw [if_pos hv]
          exact ev_if_pos hv (Ev.congr (fun k => by rw [hw]) (impl_CcSeconds_l0 D nm hl hm d _ true (i + 1) (by omega) (by omega)))
        · rw [if_neg hv]
          exact ev_if_neg hv (Ev.congr (fun k => by rw [hw]) (impl_CcSeconds_l0 D nm hl hm d _ true (i + 1) (by omega) (by omega)))
      | false =>
        rw [if_neg (by decide)]
        exact ev_if_neg (by decide) (Ev.congr (fun k => by rw [hw]) (impl_CcSeconds_l0 D nm hl hm d _ true (i + 1) (by omega) (by omega)))
    · rw [if_neg h]
      exact Ev.step (fun k => by simp only [impl_CcSeconds.l0]; rw [if_pos hlt, if_pos h0, if_pos hlt, if_neg (by rw [toList_eq_iff]; exact h), hw]) (impl_CcSeconds_l0 D nm hl hm d n b (i + 1) (by omega) (by omega))
theorem impl_CcSeconds_ev (l : List S99) (nm : ByteArray) (hl : l.length ≤ 1048576) (hz : ¬ szF 1048576 (l.map fun x => (x.f0, x.f1)) < 0) : Ev (fun k => impl_CcSeconds.f k l nm) (ccSec (l.map fun x => (x.f0, x.f1)) nm) := by
  have q1 := dirsL_length _ (by omega) hz
  have q2 := dirsL_size _ (by omega) hz
  refine Ev.congr (fun k => by unfold impl_CcSeconds.f; rfl) (ev_bind (impl_Directives_ev l hl hz) ?_)
  refine ev_eq (impl_CcSeconds_l0 ((dirsL (l.map fun x => (x.f0, x.f1))).map fun p => (⟨p.1, p.2⟩ : S46)) nm (by rw [List.length_map]; omega) (fun x hx => ?_) ((dirsL (l.map fun x => (x.f0, x.f1))).map fun p => (⟨p.1, p.2⟩ : S46)).length 0 false 0 (by omega) (by omega)) ?_
  · obtain ⟨p, hp, rfl⟩ := List.mem_map.1 hx
    have := q2 p hp
    simp only
    omega
  · simp only [Int.toNat_zero, List.drop_zero, List.map_map]
    rw [show ((fun x : S46 => (x.f0, x.f1)) ∘ fun p : ByteArray × ByteArray => (⟨p.1, p.2⟩ : S46)) = id from rfl, List.map_id]
    exact finI_eq _ (fun v hv => (ccL_bd nm _ v hv).2)

end Go.Proofs.YtjldfmkpdkhnnaaGreatDoor.Pure

namespace Go.Proofs.YtjldfmkpdkhnnaaGreatDoor.Pure
open Go.RowKit Go.Proofs.YtjldfmkpdkhnnaaGreatDoor.QL Go.Proofs.YtjldfmkpdkhnnaaGreatDoorW.PrintWords Go.Proofs.YtjldfmkpdkhnnaaGreatDoorW.PrintLast Go.Proofs.YtjldfmkpdkhnnaaGreatDoorW.PrintMore Go.Proofs.YtjldfmkpdkhnnaaGreatDoor.Aux Go.Proofs.YtjldfmkpdkhnnaaGreatDoor.Dom Go.Proofs.YtjldfmkpdkhnnaaGreatDoor.Ext
def numA (s : ByteArray) : Int := if (bytesOf s).all digC = true then (match Lib.atoiAll s.data.toList with
  | .ok v => v
  | .range => Lib.atoiSat s.data.toList
  | _ => 0) else -1
theorem numA_short {s : ByteArray} (h : s.size ≤ 18) : numA s = numP (bytesOf s) := by
  unfold numA numP
  by_cases ha : (bytesOf s).all digC = true
  · rw [if_pos ha, if_pos ha]
    by_cases hn : bytesOf s = []
    · have hs : s = ⟨#[]⟩ := bytesOf_inj (hn.trans rfl)
      subst hs
      rfl
    · have h1 := atoi_dig (bytesOf s) ha hn
      rw [strOfNums_bytesOf] at h1
      rw [Lib.atoiAll_short _ (by rw [← Lib.size_eq]; exact h), h1]
      rfl
  · rw [if_neg ha, if_neg ha]
theorem strconv_Atoi_num (s : ByteArray) (hs : s.size ≤ 8388608) (ha : (bytesOf s).all digC = true) : ∃ e, strconv_Atoi.f s = some (numA s, e) := by
  unfold strconv_Atoi.f numA
  rw [if_pos hs, if_pos ha]
  cases hc : Lib.atoiAll s.data.toList with
  | ok v => exact ⟨none, rfl⟩
  | range => exact ⟨some 0, rfl⟩
  | _ => exact ⟨some 0, rfl⟩
theorem impl_number_l0 (s : ByteArray) (hs : s.size ≤ 8388608) : ∀ (d : Nat) (i : Int), 0 ≤ i → (s.size : Int) - i = d → ((bytesOf s).take i.toNat).all digC = true →
    Ev (fun k => impl_number.l0 k s (s.size : Int) i) (numA s)
  | 0, i, h0, hd, ht => by
    have hl := bytesOf_length s
    have hall : (bytesOf s).all digC = true := by rw [List.take_of_length_le (by omega)] at ht; exact ht
    obtain ⟨e, he⟩ := strconv_Atoi_num s hs hall
    refine ev_last fun k => ?_
    simp only [impl_number.l0]
    rw [if_neg (by omega), he, Option.bind_some]
  | d + 1, i, h0, hd, ht => by
    have hlt : i < (s.size : Int) := by omega
    have hl := bytesOf_length s
    have hmem : bt s i ∈ bytesOf s := List.mem_of_mem_drop (i := i.toNat) (by rw [drop_bt h0 hlt]; exact List.mem_cons_self)
    by_cases h1 : digC (bt s i) = true
    · have h2 := digC_iff.1 h1
      refine Ev.step (f := fun k => impl_number.l0 k s (s.size : Int) (i + 1)) (fun k => ?_) (impl_number_l0 s hs d (i + 1) (by omega) (by omega) ?_)
      · simp only [impl_number.l0]
        rw [if_pos hlt, if_pos h0, if_pos hlt, if_neg (by omega), if_neg (by omega), wrap_id (by omega) (by omega)]
      · have e : (bytesOf s).take (i + 1).toNat = (bytesOf s).take i.toNat ++ [bt s i] := by
          have h3 := List.take_append_drop i.toNat ((bytesOf s).take (i + 1).toNat)
          rw [List.take_take, Nat.min_eq_left (by omega), List.drop_take, drop_bt h0 hlt, show (i + 1).toNat - i.toNat = 1 by omega] at h3
          rw [← h3]
          rfl
        rw [e, List.all_append, ht, List.all_cons, h1]
        rfl
    · have hn : ¬ (bytesOf s).all digC = true := fun h => h1 (List.all_eq_true.1 h _ hmem)
      unfold numA
      rw [if_neg hn]
      rw [digC_iff] at h1
      refine ev_last fun k => ?_
      simp only [impl_number.l0]
      rw [if_pos hlt, if_pos h0, if_pos hlt]
      by_cases h3 : bt s i < 48
      · rw [if_pos h3]
      · rw [if_neg h3, if_pos (by omega)]
theorem impl_number_ev (s : ByteArray) (hs : s.size ≤ 8388608) : Ev (fun k => impl_number.f k s) (numA s) :=
  impl_number_l0 s hs s.size 0 (by omega) (by omega) (by simp)

end Go.Proofs.YtjldfmkpdkhnnaaGreatDoor.Pure

namespace Go.Proofs.YtjldfmkpdkhnnaaGreatDoor.Pure
open Go.RowKit Go.Proofs.YtjldfmkpdkhnnaaGreatDoor.QL Go.Proofs.YtjldfmkpdkhnnaaGreatDoorW.PrintWords Go.Proofs.YtjldfmkpdkhnnaaGreatDoorW.PrintLast Go.Proofs.YtjldfmkpdkhnnaaGreatDoorW.PrintMore Go.Proofs.YtjldfmkpdkhnnaaGreatDoor.Aux Go.Proofs.YtjldfmkpdkhnnaaGreatDoor.Dom Go.Proofs.YtjldfmkpdkhnnaaGreatDoor.Ext
theorem slices_Index_l0 (L : List ByteArray) (w : ByteArray) (hL : L.length ≤ 1000000) : ∀ (d : Nat) (i : Int), 0 ≤ i → (L.length : Int) - i = d →
    Ev (fun k => slices_Index_string_string.l0 k L w (L.length : Int) i) (if idxT w (L.drop i.toNat) = -1 then -1 else idxT w (L.drop i.toNat) + i)
  | 0, i, h0, hd => by
    refine ev_last fun k => ?_
    simp only [slices_Index_string_string.l0]
    rw [if_neg (by omega), drop_nil (by omega)]
    rfl
  | d + 1, i, h0, hd => by
    have hlt : i < (L.length : Int) := by omega
    have hdrop : L.drop i.toNat = rdOf ByteArray.empty L i :: L.drop (i + 1).toNat := drop_rdOf (d := ByteArray.empty) h0 hlt
    rw [hdrop, idxT]
    by_cases h : w = rdOf ByteArray.empty L i
    · rw [if_pos h, if_neg (by decide)]
      refine ev_last fun k => ?_
      simp only [slices_Index_string_string.l0]
      rw [if_pos hlt, if_pos h0, if_pos hlt, if_pos (by rw [← h]), Int.zero_add]
    · rw [if_neg h]
      refine Ev.step (f := fun k => slices_Index_string_string.l0 k L w (L.length : Int) (i + 1)) (fun k => ?_) (ev_eq (slices_Index_l0 L w hL d (i + 1) (by omega) (by omega)) ?_)
      · simp only [slices_Index_string_string.l0]
        rw [if_pos hlt, if_pos h0, if_pos hlt, if_neg (by rw [toList_eq_iff]; exact h), wrap_id (by omega) (by omega)]
      · have hb := idxT_bd w (L.drop (i + 1).toNat)
        by_cases h2 : idxT w (L.drop (i + 1).toNat) = -1
        · rw [if_pos h2, if_pos h2, if_pos rfl]
        · rw [if_neg h2, if_neg h2, if_neg (by omega)]
          omega
theorem slices_Index_ev (L : List ByteArray) (w : ByteArray) (hL : L.length ≤ 1000000) : Ev (fun k => slices_Index_string_string.f k L w) (idxT w L) := by
  refine ev_eq (slices_Index_l0 L w hL L.length 0 (by omega) (by omega)) ?_
  simp only [Int.toNat_zero, List.drop_zero, Int.add_zero]
  split
  · rename_i h; exact h.symm
  · rfl

end Go.Proofs.YtjldfmkpdkhnnaaGreatDoor.Pure

namespace Go.Proofs.YtjldfmkpdkhnnaaGreatDoor.Pure
open Go.RowKit Go.Proofs.YtjldfmkpdkhnnaaGreatDoor.QL Go.Proofs.YtjldfmkpdkhnnaaGreatDoorW.PrintWords Go.Proofs.YtjldfmkpdkhnnaaGreatDoorW.PrintLast Go.Proofs.YtjldfmkpdkhnnaaGreatDoorW.PrintMore Go.Proofs.YtjldfmkpdkhnnaaGreatDoor.Aux Go.Proofs.YtjldfmkpdkhnnaaGreatDoor.Dom Go.Proofs.YtjldfmkpdkhnnaaGreatDoor.Ext
theorem impl_in_eq (a b c : Int) : impl_in.f a b c = some (decide (b ≤ a ∧ a ≤ c)) := by
  unfold impl_in.f
  by_cases h : a ≥ b
  · rw [if_pos h]; simp [show b ≤ a from h]
  · rw [if_neg h]; simp [show ¬ b ≤ a from h]

end Go.Proofs.YtjldfmkpdkhnnaaGreatDoor.Pure

namespace Go.Proofs.YtjldfmkpdkhnnaaGreatDoor.Pure
open Go.RowKit Go.Proofs.YtjldfmkpdkhnnaaGreatDoor.QL Go.Proofs.YtjldfmkpdkhnnaaGreatDoorW.PrintWords Go.Proofs.YtjldfmkpdkhnnaaGreatDoorW.PrintLast Go.Proofs.YtjldfmkpdkhnnaaGreatDoorW.PrintMore Go.Proofs.YtjldfmkpdkhnnaaGreatDoor.Aux Go.Proofs.YtjldfmkpdkhnnaaGreatDoor.Dom Go.Proofs.YtjldfmkpdkhnnaaGreatDoor.Ext
theorem impl_IsLeap_eq {y : Int} (h : 0 ≤ y) : impl_IsLeap.f y = some (leapB y) := by
  unfold impl_IsLeap.f leapB
  rw [Int.tmod_eq_emod_of_nonneg h, Int.tmod_eq_emod_of_nonneg h, Int.tmod_eq_emod_of_nonneg h]
  by_cases h4 : y % 4 = 0
  · rw [if_pos h4]
    by_cases h100 : y % 100 = 0
    · rw [if_pos h100]
      congr 1
      rw [Bool.eq_iff_iff]; simp; omega
    · rw [if_neg h100, decide_eq_true (Or.inl ⟨h4, h100⟩)]
  · rw [if_neg h4]
    congr 1
    rw [Bool.eq_iff_iff]; simp; omega

end Go.Proofs.YtjldfmkpdkhnnaaGreatDoor.Pure

namespace Go.Proofs.YtjldfmkpdkhnnaaGreatDoor.Pure
open Go.RowKit Go.Proofs.YtjldfmkpdkhnnaaGreatDoor.QL Go.Proofs.YtjldfmkpdkhnnaaGreatDoorW.PrintWords Go.Proofs.YtjldfmkpdkhnnaaGreatDoorW.PrintLast Go.Proofs.YtjldfmkpdkhnnaaGreatDoorW.PrintMore Go.Proofs.YtjldfmkpdkhnnaaGreatDoor.Aux Go.Proofs.YtjldfmkpdkhnnaaGreatDoor.Dom Go.Proofs.YtjldfmkpdkhnnaaGreatDoor.Ext
theorem impl_monthDays_eq {y m : Int} (hy : 0 ≤ y) (h1 : 1 ≤ m) (h2 : m ≤ 12) : impl_monthDays.f y m = some (monthD y m) := by
  unfold impl_monthDays.f
  rw [impl_IsLeap_eq hy]
  have hm : m = 1 ∨ m = 2 ∨ m = 3 ∨ m = 4 ∨ m = 5 ∨ m = 6 ∨ m = 7 ∨ m = 8 ∨ m = 9 ∨ m = 10 ∨ m = 11 ∨ m = 12 := by omega
  cases hl : leapB y with
  | true => rcases hm with rfl | rfl | rfl | rfl | rfl | rfl | rfl | rfl | rfl | rfl | rfl | rfl <;> simp [monthD, hl, rd, wrap64]
  | false => rcases hm with rfl | rfl | rfl | rfl | rfl | rfl | rfl | rfl | rfl | rfl | rfl | rfl <;> simp [monthD, hl, rd, wrap64]
theorem impl_yearDays_eq {y : Int} (hy : 0 ≤ y) : impl_yearDays.f y = some (yearD y) := by
  unfold impl_yearDays.f yearD
  rw [impl_IsLeap_eq hy, Option.bind_some]
  cases leapB y <;> rfl
theorem impl_DaysOf_l1 (y m : Int) (hy : 0 ≤ y) (hm : m ≤ 13) : ∀ (d : Nat) (n i : Int), 1 ≤ i → m - i = d → 0 ≤ n → n + 31 * d ≤ 100000 → Ev (fun k => impl_DaysOf.l1 k y m n i) (n + monthsD y d i)
  | 0, n, i, h1, hd, n0, n1 => by
    refine ev_last fun k => ?_
    simp only [impl_DaysOf.l1]
    rw [if_neg (by omega)]
    simp [monthsD]
  | d + 1, n, i, h1, hd, n0, n1 => by
    have hb := monthD_bd y i
    refine Ev.step (f := fun k => impl_DaysOf.l1 k y m (n + monthD y i) (i + 1)) (fun k => ?_) (ev_eq (impl_DaysOf_l1 y m hy hm d _ (i + 1) (by omega) (by omega) (by omega) (by omega)) (by rw [monthsD]; omega))
    simp only [impl_DaysOf.l1]
    rw [if_pos (by omega), impl_monthDays_eq hy h1 (by omega), Option.bind_some, wrap_id (by omega) (by omega), wrap_id (by omega) (by omega)]
theorem impl_DaysOf_l0 (y m : Int) (hy : y ≤ 2037) (h1970 : 1970 ≤ y) (hm1 : 1 ≤ m) (hm : m ≤ 12) : ∀ (d : Nat) (n i : Int), 1970 ≤ i → y - i = d → 0 ≤ n → n + 366 * d ≤ 50000 → Ev (fun k => impl_DaysOf.l0 k y m n i) (n + yearsD d i + monthsD y (m - 1).toNat 1)
  | 0, n, i, h1, hd, n0, n1 => by
    refine Ev.step (f := fun k => impl_DaysOf.l1 k y m n 1) (fun k => ?_) (ev_eq (impl_DaysOf_l1 y m (by omega) (by omega) (m - 1).toNat n 1 (by omega) (by omega) n0 (by omega)) (by simp [yearsD]))
    simp only [impl_DaysOf.l0]
    rw [if_neg (by omega)]
  | d + 1, n, i, h1, hd, n0, n1 => by
    have hb := yearD_bd i
    refine Ev.step (f := fun k => impl_DaysOf.l0 k y m (n + yearD i) (i + 1)) (fun k => ?_) (ev_eq (impl_DaysOf_l0 y m hy h1970 hm1 hm d _ (i + 1) (by omega) (by omega) (by omega) (by omega)) (by rw [yearsD]; omega))
    simp only [impl_DaysOf.l0]
    rw [if_pos (by omega), impl_yearDays_eq (by omega), Option.bind_some, wrap_id (by omega) (by omega), wrap_id (by omega) (by omega)]
theorem impl_DaysOf_ev (y m d : Int) : Ev (fun k => impl_DaysOf.f k y m d) (daysP y m d) := by
  have hbad : ∀ k, impl_DaysOf.j0 (k + 1) y m d true = some (-1) := fun k => by simp only [impl_DaysOf.j0]; rw [if_pos trivial]
  refine Ev.congr (fun k => by unfold impl_DaysOf.f; rw [impl_in_eq, Option.bind_some]) ?_
  unfold daysP
  by_cases h1 : 1970 ≤ y ∧ y ≤ 2037
  · refine ev_if_pos (by simpa using h1) ?_
    refine Ev.congr (fun k => by rw [impl_in_eq, Option.bind_some]) ?_
    by_cases h2 : 1 ≤ m ∧ m ≤ 12
    · refine ev_if_pos (by simpa using h2) ?_
      refine Ev.congr (fun k => by rw [impl_monthDays_eq (by omega) h2.1 h2.2, Option.bind_some, impl_in_eq, Option.bind_some]) ?_
      have hb := monthD_bd y m
      by_cases h3 : 1 ≤ d ∧ d ≤ monthD y m
      · rw [decide_eq_true h3, if_pos ⟨h1, h2, h3⟩]
        refine Ev.step (f := fun k => impl_DaysOf.l0 k y m (d - 1) 1970) (fun k => ?_) (ev_eq (impl_DaysOf_l0 y m h1.2 h1.1 h2.1 h2.2 (y - 1970).toNat (d - 1) 1970 (by omega) (by omega) (by omega) (by omega)) (by omega))
        simp only [impl_DaysOf.j0]
        rw [if_neg (by decide), wrap_id (by omega) (by omega)]
      · rw [decide_eq_false h3, if_neg (fun h => h3 h.2.2)]
        exact ev_last hbad
    · rw [if_neg (fun h => h2 h.2.1)]
      exact ev_if_neg (by simpa using h2) (ev_last hbad)
  · rw [if_neg (fun h => h1 h.1)]
    exact ev_if_neg (by simpa using h1) (ev_last hbad)

end Go.Proofs.YtjldfmkpdkhnnaaGreatDoor.Pure

namespace Go.Proofs.YtjldfmkpdkhnnaaGreatDoor.Pure
open Go.RowKit Go.Proofs.YtjldfmkpdkhnnaaGreatDoor.QL Go.Proofs.YtjldfmkpdkhnnaaGreatDoorW.PrintWords Go.Proofs.YtjldfmkpdkhnnaaGreatDoorW.PrintLast Go.Proofs.YtjldfmkpdkhnnaaGreatDoorW.PrintMore Go.Proofs.YtjldfmkpdkhnnaaGreatDoor.Aux Go.Proofs.YtjldfmkpdkhnnaaGreatDoor.Dom Go.Proofs.YtjldfmkpdkhnnaaGreatDoor.Ext
theorem impl_two_eq {n : Int} (h0 : 0 ≤ n) (h1 : n ≤ 99) : impl_two.f n = some (strOfNums (twoL n)) := by
  unfold impl_two.f strconv_Itoa.f
  rw [wrap_id (by omega) (by omega), if_pos ⟨by omega, by omega⟩, Option.bind_some]
  have e : decB (100 + n) = strOfNums (49 :: twoL n) := by unfold decB; rw [decP_100 h0 h1]
  rw [e, if_pos (by rw [strOfNums_size]; simp [twoL])]
  congr 1
theorem impl_ShowDate_fin (k : Nat) (d rest y m wd : Int) (hy : 1970 ≤ y) (hy2 : y ≤ 2037) (hm : 1 ≤ m) (hm2 : m ≤ 12) (hd : 0 ≤ d) (hd2 : d < monthD y m) (hr0 : 0 ≤ rest) (hr1 : rest < 86400) :
    impl_ShowDate.l1 (k + 1) d rest (strOfNums (weekL wd)) y m = some (strOfNums (weekL wd ++ [44, 32] ++ twoL (d + 1) ++ [32] ++ monL m ++ [32] ++ decP y ++ [32] ++ twoL (rest / 3600) ++ [58] ++ twoL (rest / 60 % 60) ++ [58] ++ twoL (rest % 60) ++ [32, 71, 77, 84])) := by
  have hb := monthD_bd y m
  have w1 : wrap64 (d + 1) = d + 1 := wrap_id (by omega) (by omega)
  have w2 : wrap64 (m - 1) = m - 1 := wrap_id (by omega) (by omega)
  have w3 : wrap64 (Int.tdiv rest 3600) = rest / 3600 := by rw [Int.tdiv_eq_ediv_of_nonneg hr0, wrap_id (by omega) (by omega)]
  have w4 : Int.tmod (wrap64 (Int.tdiv rest 60)) 60 = rest / 60 % 60 := by rw [Int.tdiv_eq_ediv_of_nonneg hr0, wrap_id (by omega) (by omega), Int.tmod_eq_emod_of_nonneg (by omega)]
  have w5 : Int.tmod rest 60 = rest % 60 := Int.tmod_eq_emod_of_nonneg hr0
  have s1 : (strOfNums (weekL wd)).size = 3 := by rw [strOfNums_size, weekL_length]
  have s2 : ∀ n, (strOfNums (twoL n)).size = 2 := fun n => by rw [strOfNums_size]; rfl
  have s3 : (strOfNums (monL m)).size = 3 := by rw [strOfNums_size, monL_length]
  have s4 : (decB y).size = 4 := by unfold decB; rw [decP_year (by omega) (by omega), strOfNums_size]; rfl
  have z1 : (⟨#[44, 32]⟩ : ByteArray).size = 2 := rfl
  have z2 : (⟨#[32]⟩ : ByteArray).size = 1 := rfl
  have z3 : (⟨#[58]⟩ : ByteArray).size = 1 := rfl
  have i1 : strconv_Itoa.f y = some (decB y) := by unfold strconv_Itoa.f; rw [if_pos ⟨by omega, by omega⟩]
  simp only [impl_ShowDate.l1, impl_monthDays_eq (y := y) (m := m) (by omega) hm hm2, Option.bind_some]
  rw [if_neg (by omega), w1, w2, w3, w4, w5, impl_two_eq (n := d + 1) (by omega) (by omega), impl_two_eq (n := rest / 3600) (by omega) (by omega), impl_two_eq (n := rest / 60 % 60) (by omega) (by omega), impl_two_eq (n := rest % 60) (by omega) (by omega), i1]
  simp only [impl_months.f, Option.bind_some]
  rw [if_pos (c := 0 ≤ m - 1) (by omega), if_pos (c := m - 1 < _) (by simp; omega)]
  simp only [months_rd hm hm2, ByteArray.size_append, s1, s2, s3, s4, z1, z2, z3, Nat.reduceAdd, Nat.reduceLeDiff, if_true]
  congr 1
  simp only [strOfNums_append, decB]
  rfl
theorem impl_ShowDate_l1 (rest y wd : Int) (hy : 1970 ≤ y) (hy2 : y ≤ 2037) (hr0 : 0 ≤ rest) (hr1 : rest < 86400) : ∀ (f : Nat) (m d : Int), 1 ≤ m → m + f = 13 → 0 ≤ d → d < monthsD y f m →
    Ev (fun k => impl_ShowDate.l1 k d rest (strOfNums (weekL wd)) y m) (strOfNums (weekL wd ++ [44, 32] ++ twoL ((mdL y f m d).2 + 1) ++ [32] ++ monL (mdL y f m d).1 ++ [32] ++ decP y ++ [32] ++ twoL (rest / 3600) ++ [58] ++ twoL (rest / 60 % 60) ++ [58] ++ twoL (rest % 60) ++ [32, 71, 77, 84]))
  | 0, m, d, h1, hf, h0, hd => by simp [monthsD] at hd; omega
  | f + 1, m, d, h1, hf, h0, hd => by
    have hb := monthD_bd y m
    have hb2 := monthsD_bd y f (m + 1)
    rw [monthsD] at hd
    rw [mdL]
    by_cases h : monthD y m ≤ d
    · rw [if_pos h]
      refine Ev.step (f := fun k => impl_ShowDate.l1 k (d - monthD y m) rest (strOfNums (weekL wd)) y (m + 1)) (fun k => ?_) (impl_ShowDate_l1 rest y wd hy hy2 hr0 hr1 f (m + 1) (d - monthD y m) (by omega) (by omega) (by omega) (by omega))
      simp only [impl_ShowDate.l1, impl_monthDays_eq (y := y) (m := m) (by omega) h1 (by omega), Option.bind_some]
      rw [if_pos h, wrap_id (x := d - monthD y m) (by omega) (by omega), wrap_id (x := m + 1) (by omega) (by omega)]
    · rw [if_neg h]
      exact ev_last fun k => impl_ShowDate_fin k d rest y m wd hy hy2 h1 (by omega) h0 (by omega) hr0 hr1
theorem impl_ShowDate_l0 (rest wd : Int) (hr0 : 0 ≤ rest) (hr1 : rest < 86400) : ∀ (f : Nat) (y d : Int), 1970 ≤ y → y + f = 2038 → 0 ≤ d → d < 365 * f →
    Ev (fun k => impl_ShowDate.l0 k d rest (strOfNums (weekL wd)) y 1) (strOfNums (weekL wd ++ [44, 32] ++ twoL ((mdL (ydL f y d).1 12 1 (ydL f y d).2).2 + 1) ++ [32] ++ monL (mdL (ydL f y d).1 12 1 (ydL f y d).2).1 ++ [32] ++ decP (ydL f y d).1 ++ [32] ++ twoL (rest / 3600) ++ [58] ++ twoL (rest / 60 % 60) ++ [58] ++ twoL (rest % 60) ++ [32, 71, 77, 84]))
  | 0, y, d, h1, hf, h0, hd => by omega
  | f + 1, y, d, h1, hf, h0, hd => by
    have hb := yearD_bd y
    rw [ydL]
    by_cases h : yearD y ≤ d
    · rw [if_pos h]
      refine Ev.step (f := fun k => impl_ShowDate.l0 k (d - yearD y) rest (strOfNums (weekL wd)) (y + 1) 1) (fun k => ?_) (impl_ShowDate_l0 rest wd hr0 hr1 f (y + 1) (d - yearD y) (by omega) (by omega) (by omega) (by omega))
      simp only [impl_ShowDate.l0, impl_yearDays_eq (y := y) (by omega), Option.bind_some]
      rw [if_pos h, wrap_id (x := d - yearD y) (by omega) (by omega), wrap_id (x := y + 1) (by omega) (by omega)]
    · rw [if_neg h]
      have hw := yearW_eq y
      unfold yearW at hw
      refine Ev.step (f := fun k => impl_ShowDate.l1 k d rest (strOfNums (weekL wd)) y 1) (fun k => ?_) (impl_ShowDate_l1 rest y wd h1 (by omega) hr0 hr1 12 1 d (by omega) (by omega) h0 (by omega))
      simp only [impl_ShowDate.l0, impl_yearDays_eq (y := y) (by omega), Option.bind_some]
      rw [if_neg (by omega)]
theorem impl_ShowDate_ev (sec : Int) (h0 : -9223372036854775808 ≤ sec) (h1 : sec ≤ 9223372036854775807) : Ev (fun k => impl_ShowDate.f k sec) (dateB sec) := by
  refine Ev.congr (fun k => by unfold impl_ShowDate.f; rw [impl_in_eq, Option.bind_some]) ?_
  unfold dateB
  by_cases h : 0 ≤ sec ∧ sec ≤ 2000000000
  · rw [if_pos h]
    refine ev_if_pos (by simpa using h) ?_
    have w1 : wrap64 (Int.tdiv sec 86400) = sec / 86400 := by rw [Int.tdiv_eq_ediv_of_nonneg h.1, wrap_id (by omega) (by omega)]
    have w2 : Int.tmod (sec / 86400) 7 = sec / 86400 % 7 := Int.tmod_eq_emod_of_nonneg (by omega)
    have w3 : Int.tmod sec 86400 = sec % 86400 := Int.tmod_eq_emod_of_nonneg h.1
    refine Ev.congr (fun k => by rw [w1, w2, w3, Option.bind_some, if_pos (by omega), if_pos (by simp; omega), week_rd (by omega) (by omega)]) ?_
    refine ev_eq (impl_ShowDate_l0 (sec % 86400) (sec / 86400 % 7) (by omega) (by omega) 68 1970 (sec / 86400) (by omega) (by omega) (by omega) (by omega)) ?_
    unfold dateL ymd
    rw [show (70 : Nat) = 68 + 2 from rfl, ydL_more 68 2 1970 (sec / 86400) (by omega) (by omega), show sec % 86400 / 3600 = sec / 3600 % 24 by omega, show sec % 86400 / 60 % 60 = sec / 60 % 60 by omega, show sec % 86400 % 60 = sec % 60 by omega]
  · rw [if_neg h]
    exact ev_if_neg (by simpa using h) (Ev.now _)

end Go.Proofs.YtjldfmkpdkhnnaaGreatDoor.Pure

namespace Go.Proofs.YtjldfmkpdkhnnaaGreatDoor.Pure
open Go.RowKit Go.Proofs.YtjldfmkpdkhnnaaGreatDoor.QL Go.Proofs.YtjldfmkpdkhnnaaGreatDoorW.PrintWords Go.Proofs.YtjldfmkpdkhnnaaGreatDoorW.PrintLast Go.Proofs.YtjldfmkpdkhnnaaGreatDoorW.PrintMore Go.Proofs.YtjldfmkpdkhnnaaGreatDoor.Aux Go.Proofs.YtjldfmkpdkhnnaaGreatDoor.Dom Go.Proofs.YtjldfmkpdkhnnaaGreatDoor.Ext
theorem impl_ReadDate_ev (s : ByteArray) (hs : s.size ≤ 8388608) : Ev (fun k => impl_ReadDate.f k s) (readDateP s) := by
  have hsp : strings_Split.f s (⟨#[32]⟩ : ByteArray) = some ((splC 32 (bytesOf s)).map strOfNums) := by unfold strings_Split.f; rw [if_pos ⟨hs, rfl⟩]
  have hbad : ∀ L, Ev (fun k => impl_ReadDate.j0 k s L true) ((0 : Int), false) := fun L => ev_last fun k => by simp only [impl_ReadDate.j0]; rw [if_pos (by trivial)]
  -- what a date's parts are
  have hok : ∀ sec, s.size = 29 → dateB sec = s → 0 ≤ sec ∧ sec ≤ 2000000000 ∧ splC 32 (bytesOf s) = [weekL (sec / 86400 % 7) ++ [44], twoL (ymd (sec / 86400)).2.2, monL (ymd (sec / 86400)).2.1, decP (ymd (sec / 86400)).1, twoL (sec / 3600 % 24) ++ [58] ++ twoL (sec / 60 % 60) ++ [58] ++ twoL (sec % 60), [71, 77, 84]] := by
    intro sec h1 h2
    obtain ⟨a, b, c, _⟩ := dateB_some h1 h2
    exact ⟨a, b, by rw [c]; exact splC_date a b⟩
  refine Ev.congr (fun k => by unfold impl_ReadDate.f; rw [hsp, Option.bind_some]) ?_
  generalize hP : (splC 32 (bytesOf s)).map strOfNums = L
  have hPl : ∀ p ∈ L, p.size ≤ s.size := by
    intro p hp
    rw [← hP] at hp
    obtain ⟨q, hq, rfl⟩ := List.mem_map.1 hp
    rw [strOfNums_size]
    have := splC_mem (bytesOf s) 32 q hq
    rw [bytesOf_length] at this
    exact this
  by_cases h6 : (L.length : Int) = 6
  · refine ev_if_pos h6 ?_
    by_cases h29 : (s.size : Int) = 29
    · refine ev_if_pos h29 (ev_if_pos (by omega) ?_)
      by_cases h8 : ((rdOf ByteArray.empty L 4).size : Int) = 8
      · refine ev_if_pos h8 (ev_if_pos (by omega) ?_)
        by_cases h4 : ((rdOf ByteArray.empty L 3).size : Int) = 4
        · have hin : ∀ i : Int, 0 ≤ i → i < 6 → (rdOf ByteArray.empty L i).size ≤ s.size := by
            intro i i0 i1
            refine hPl _ (List.mem_of_mem_drop (i := i.toNat) ?_)
            rw [drop_rdOf (d := ByteArray.empty) i0 (by omega)]
            exact List.mem_cons_self
          have hc : (rdOf ByteArray.empty L 4).size = 8 := by omega
          have x1 : ((rdOf ByteArray.empty L 4).extract 0 2).size = 2 := by rw [ByteArray.size_extract]; omega
          have x2 : ((rdOf ByteArray.empty L 4).extract 3 5).size = 2 := by rw [ByteArray.size_extract]; omega
          have x3 : ((rdOf ByteArray.empty L 4).extract 6 (rdOf ByteArray.empty L 4).size).size = 2 := by rw [ByteArray.size_extract]; omega
          have n3 := impl_number_ev (rdOf ByteArray.empty L 3) (by omega)
          have n1 := impl_number_ev (rdOf ByteArray.empty L 1) (by have := hin 1 (by omega) (by omega); omega)
          have c1 := impl_number_ev ((rdOf ByteArray.empty L 4).extract 0 2) (by omega)
          have c2 := impl_number_ev ((rdOf ByteArray.empty L 4).extract 3 5) (by omega)
          have c3 := impl_number_ev ((rdOf ByteArray.empty L 4).extract 6 (rdOf ByteArray.empty L 4).size) (by omega)
          rw [numA_short (s := (rdOf ByteArray.empty L 4).extract 0 2) (by omega)] at c1
          rw [numA_short (s := (rdOf ByteArray.empty L 4).extract 3 5) (by omega)] at c2
          rw [numA_short (s := (rdOf ByteArray.empty L 4).extract 6 (rdOf ByteArray.empty L 4).size) (by omega)] at c3
          rw [numA_short (s := rdOf ByteArray.empty L 3) (by omega)] at n3
          have e2 : (10 : Int) ^ 2 = 100 := by decide
          have b1 := numP_bd (bytesOf ((rdOf ByteArray.empty L 4).extract 0 2)) 2 (by rw [bytesOf_length]; omega)
          have b2 := numP_bd (bytesOf ((rdOf ByteArray.empty L 4).extract 3 5)) 2 (by rw [bytesOf_length]; omega)
          have b3 := numP_bd (bytesOf ((rdOf ByteArray.empty L 4).extract 6 (rdOf ByteArray.empty L 4).size)) 2 (by rw [bytesOf_length]; omega)
          have ix := slices_Index_ev monthsB (rdOf ByteArray.empty L 2) (by decide)
          have ib := idxT_bd (rdOf ByteArray.empty L 2) monthsB
          have ibl : (monthsB.length : Int) = 12 := rfl
          have hmo : impl_months.f = some monthsB := rfl
          have key : ∀ sec, dateB sec = s → sec = daysP (numP (bytesOf (rdOf ByteArray.empty L 3))) (idxT (rdOf ByteArray.empty L 2) monthsB + 1) (numA (rdOf ByteArray.empty L 1)) * 86400 + 3600 * numP (bytesOf ((rdOf ByteArray.empty L 4).extract 0 2)) + 60 * numP (bytesOf ((rdOf ByteArray.empty L 4).extract 3 5)) + numP (bytesOf ((rdOf ByteArray.empty L 4).extract 6 (rdOf ByteArray.empty L 4).size)) ∧ 0 ≤ daysP (numP (bytesOf (rdOf ByteArray.empty L 3))) (idxT (rdOf ByteArray.empty L 2) monthsB + 1) (numA (rdOf ByteArray.empty L 1)) := by
            intro sec e
            obtain ⟨q0, q1, q2⟩ := hok sec (by omega) e
            obtain ⟨a1, a2, a3, a4, a5, a6, _⟩ := ymd_spec (days := sec / 86400) (by omega) (by omega)
            have hmb := monthD_bd (ymd (sec / 86400)).1 (ymd (sec / 86400)).2.1
            rw [q2] at hP
            subst hP
            have rT : ∀ n : Int, 0 ≤ n → n ≤ 99 → bytesOf (strOfNums (twoL n)) = twoL n := fun n h0 h1 => bytesOf_strOfNums (fun c hc => by simp [twoL] at hc; omega)
            have rY : bytesOf (strOfNums (decP (ymd (sec / 86400)).1)) = decP (ymd (sec / 86400)).1 := bytesOf_strOfNums (fun c hc => by rw [decP_year (by omega) (by omega)] at hc; simp at hc; omega)
            have rC : bytesOf (strOfNums (twoL (sec / 3600 % 24) ++ [58] ++ twoL (sec / 60 % 60) ++ [58] ++ twoL (sec % 60))) = twoL (sec / 3600 % 24) ++ [58] ++ twoL (sec / 60 % 60) ++ [58] ++ twoL (sec % 60) := bytesOf_strOfNums (fun c hc => by simp [twoL] at hc; omega)
            have sC : (strOfNums (twoL (sec / 3600 % 24) ++ [58] ++ twoL (sec / 60 % 60) ++ [58] ++ twoL (sec % 60))).size = 8 := by rw [strOfNums_size]; rfl
            show sec = daysP (numP (bytesOf (strOfNums (decP (ymd (sec / 86400)).1)))) (idxT (strOfNums (monL (ymd (sec / 86400)).2.1)) monthsB + 1) (numA (strOfNums (twoL (ymd (sec / 86400)).2.2))) * 86400 + 3600 * numP (bytesOf ((strOfNums (twoL (sec / 3600 % 24) ++ [58] ++ twoL (sec / 60 % 60) ++ [58] ++ twoL (sec % 60))).extract 0 2)) + 60 * numP (bytesOf ((strOfNums (twoL (sec / 3600 % 24) ++ [58] ++ twoL (sec / 60 % 60) ++ [58] ++ twoL (sec % 60))).extract 3 5)) + numP (bytesOf ((strOfNums (twoL (sec / 3600 % 24) ++ [58] ++ twoL (sec / 60 % 60) ++ [58] ++ twoL (sec % 60))).extract 6 (strOfNums (twoL (sec / 3600 % 24) ++ [58] ++ twoL (sec / 60 % 60) ++ [58] ++ twoL (sec % 60))).size)) ∧ 0 ≤ daysP (numP (bytesOf (strOfNums (decP (ymd (sec / 86400)).1)))) (idxT (strOfNums (monL (ymd (sec / 86400)).2.1)) monthsB + 1) (numA (strOfNums (twoL (ymd (sec / 86400)).2.2)))
            rw [sC, bytesOf_extract, bytesOf_extract, bytesOf_extract, rC, rY, idxT_month a3 a4, numA_short (s := strOfNums (twoL (ymd (sec / 86400)).2.2)) (by rw [strOfNums_size]; show 2 ≤ 18; omega), rT _ (by omega) (by omega), numP_year (by omega) (by omega), numP_two (n := (ymd (sec / 86400)).2.2) (by omega) (by omega), show (ymd (sec / 86400)).2.1 - 1 + 1 = (ymd (sec / 86400)).2.1 by omega, daysP_ymd (by omega) (by omega)]
            have p1 : numP (((twoL (sec / 3600 % 24) ++ [58] ++ twoL (sec / 60 % 60) ++ [58] ++ twoL (sec % 60)).take 2).drop 0) = sec / 3600 % 24 := numP_two (by omega) (by omega)
            have p2 : numP (((twoL (sec / 3600 % 24) ++ [58] ++ twoL (sec / 60 % 60) ++ [58] ++ twoL (sec % 60)).take 5).drop 3) = sec / 60 % 60 := numP_two (by omega) (by omega)
            have p3 : numP (((twoL (sec / 3600 % 24) ++ [58] ++ twoL (sec / 60 % 60) ++ [58] ++ twoL (sec % 60)).take 8).drop 6) = sec % 60 := numP_two (by omega) (by omega)
            rw [p1, p2, p3]
            omega
          have db := daysP_bd (numP (bytesOf (rdOf ByteArray.empty L 3))) (idxT (rdOf ByteArray.empty L 2) monthsB + 1) (numA (rdOf ByteArray.empty L 1))
          refine Ev.congr (fun k => by rw [show (((rdOf ByteArray.empty L 3).size : Int) != 4) = false from bne_eq_false_iff_eq.2 h4]) ?_
          refine Ev.step (fun k => by simp only [impl_ReadDate.j0]; rw [if_neg (by decide), if_pos (by omega), if_pos (by omega), hmo]) ?_
          refine ev_bind n3 (Ev.congr (fun k => by rw [Option.bind_some, if_pos (by omega)]) (ev_bind ix ?_))
          refine ev_if_pos (show (1 : Int) < (L.length : Int) by omega) (ev_bind n1 ?_)
          refine Ev.congr (fun k => by rw [wrap_id (x := idxT (rdOf ByteArray.empty L 2) monthsB + 1) (by omega) (by omega)]) (ev_bind (impl_DaysOf_ev _ _ _) ?_)
          generalize daysP (numP (bytesOf (rdOf ByteArray.empty L 3))) (idxT (rdOf ByteArray.empty L 2) monthsB + 1) (numA (rdOf ByteArray.empty L 1)) = days at key db
          by_cases hd : days < 0
          · rw [readDateP_none (fun sec _ e => by have := (key sec e).2; omega)]
            exact ev_if_pos hd (Ev.now _)
          · refine ev_if_neg hd ?_
            refine ev_if_pos (show (0 : Nat) ≤ 2 by decide) ?_
            refine ev_if_pos (show (2 : Int) ≤ ((rdOf ByteArray.empty L 4).size : Int) by omega) (ev_bind c1 ?_)
            refine ev_if_pos (show (3 : Nat) ≤ 5 by decide) ?_
            refine ev_if_pos (show (5 : Int) ≤ ((rdOf ByteArray.empty L 4).size : Int) by omega) (ev_bind c2 ?_)
            refine ev_if_pos (show (6 : Int) ≤ ((rdOf ByteArray.empty L 4).size : Int) by omega) (ev_bind c3 ?_)
            generalize numP (bytesOf ((rdOf ByteArray.empty L 4).extract 0 2)) = v1 at key b1
            generalize numP (bytesOf ((rdOf ByteArray.empty L 4).extract 3 5)) = v2 at key b2
            generalize numP (bytesOf ((rdOf ByteArray.empty L 4).extract 6 (rdOf ByteArray.empty L 4).size)) = v3 at key b3
            refine Ev.congr (fun k => by rw [wrap_id (x := days * 86400) (by omega) (by omega), wrap_id (x := 3600 * v1) (by omega) (by omega), wrap_id (x := days * 86400 + 3600 * v1) (by omega) (by omega), wrap_id (x := 60 * v2) (by omega) (by omega), wrap_id (x := days * 86400 + 3600 * v1 + 60 * v2) (by omega) (by omega), wrap_id (x := days * 86400 + 3600 * v1 + 60 * v2 + v3) (by omega) (by omega)]) (ev_bind (impl_ShowDate_ev (days * 86400 + 3600 * v1 + 60 * v2 + v3) (by omega) (by omega)) ?_)
            by_cases he : dateB (days * 86400 + 3600 * v1 + 60 * v2 + v3) = s
            · exact ev_if_pos (by rw [he]) (ev_eq (Ev.now _) (readDateP_some (by omega) he).symm)
            · rw [readDateP_none (fun sec _ e => he (by rw [← (key sec e).1]; exact e))]
              exact ev_if_neg (by rw [toList_eq_iff]; exact he) (Ev.now _)
        · rw [readDateP_none (fun sec e1 e2 => by
            obtain ⟨a, b, c⟩ := hok sec e1 e2
            rw [c] at hP
            subst hP
            exact h4 (by
              obtain ⟨a1, a2, _⟩ := ymd_spec (days := sec / 86400) (by omega) (by omega)
              show ((strOfNums (decP _)).size : Int) = 4
              rw [decP_year (by omega) (by omega), strOfNums_size]
              rfl))]
          refine Ev.congr (fun k => by rw [show (((rdOf ByteArray.empty L 3).size : Int) != 4) = true from bne_iff_ne.2 h4]) (hbad L)
      · rw [readDateP_none (fun sec e1 e2 => by
          obtain ⟨a, b, c⟩ := hok sec e1 e2
          rw [c] at hP
          subst hP
          exact h8 (by
            show ((strOfNums (twoL _ ++ [58] ++ twoL _ ++ [58] ++ twoL _)).size : Int) = 8
            rw [strOfNums_size]
            rfl))]
        exact ev_if_neg h8 (hbad L)
    · rw [readDateP_none (fun sec e1 e2 => h29 (by omega))]
      exact ev_if_neg h29 (hbad L)
  · rw [readDateP_none (fun sec e1 e2 => by
      obtain ⟨a, b, c⟩ := hok sec e1 e2
      rw [c] at hP
      subst hP
      exact h6 rfl)]
    exact ev_if_neg h6 (hbad L)

end Go.Proofs.YtjldfmkpdkhnnaaGreatDoor.Pure

namespace Go.Proofs.YtjldfmkpdkhnnaaGreatDoor.Pure
open Go.RowKit Go.Proofs.YtjldfmkpdkhnnaaGreatDoor.QL Go.Proofs.YtjldfmkpdkhnnaaGreatDoorW.PrintWords Go.Proofs.YtjldfmkpdkhnnaaGreatDoorW.PrintLast Go.Proofs.YtjldfmkpdkhnnaaGreatDoorW.PrintMore Go.Proofs.YtjldfmkpdkhnnaaGreatDoor.Aux Go.Proofs.YtjldfmkpdkhnnaaGreatDoor.Dom Go.Proofs.YtjldfmkpdkhnnaaGreatDoor.Ext
theorem impl_DateOf_ev (l : List S99) (nm : ByteArray) (hl : l.length ≤ 1048576) (hz : ¬ szF 1048576 (l.map fun x => (x.f0, x.f1)) < 0) : Ev (fun k => impl_DateOf.f k l nm) (dateOfP (l.map fun x => (x.f0, x.f1)) nm) := by
  have q1 := szF_sum nm (by omega) hz
  have j1 := joinG_size nm _ (by omega) hz
  have rdt := impl_ReadDate_ev (joinG nm (l.map fun x => (x.f0, x.f1))) (by omega)
  refine Ev.congr (fun k => by unfold impl_DateOf.f; rfl) (ev_bind (impl_FieldGet_ev l nm hl (by omega)) ?_)
  unfold dateOfP
  exact ev_ite (fun h1 => ev_bind rdt (Ev.now _)) (fun h1 => Ev.now _)

end Go.Proofs.YtjldfmkpdkhnnaaGreatDoor.Pure

namespace Go.Proofs.YtjldfmkpdkhnnaaGreatDoor.QL
open Go.RowKit Go.Proofs.YtjldfmkpdkhnnaaGreatDoorW.PrintWords Go.Proofs.YtjldfmkpdkhnnaaGreatDoorW.PrintLast Go.Proofs.YtjldfmkpdkhnnaaGreatDoorW.PrintMore Go.Proofs.YtjldfmkpdkhnnaaGreatDoor.Aux Go.Proofs.YtjldfmkpdkhnnaaGreatDoor.Dom Go.Proofs.YtjldfmkpdkhnnaaGreatDoor.Ext Go.Proofs.YtjldfmkpdkhnnaaGreatDoor.Glob
attribute [local go_sem] max2_int min2_int max_two min_two max_three min_three max_four min_four   -- for this text's walks alone

def impl_within.f (a0 : Int) : Option (Int) := some (mx 0 (mn a0 2147483648))
set_option maxHeartbeats 8000000 in
set_option maxRecDepth 100000 in
theorem impl_within.calls (a0 : Int) (r : Int) (w : World) (h : impl_within.f a0 = some r) :
  Calls Tryz.prog 49 #[.int .i64 a0] w fun e w' => e = .returned (.int .i64 r) ∧ Below w.heap.size w w' := by
 have HB := Aside0.mk (Below.refl w.heap.size w)
 have H : (some (mx 0 (mn a0 2147483648))) = some r := h
 clear h
 obtain ⟨ji2, hji2⟩ : ∃ j_ : Int, (mn a0 2147483648) = j_ := ⟨_, rfl⟩
 replace H : (some (mx 0 (ji2))) = some r := by first | (rw [hji2] at H; exact H) | (simp only [hji2] at H ⊢; exact H)
 (try (have hji2h : ji2 ≤ 2147483648 := by (rw [← hji2]; unfold mn; (repeat' split) <;> omega)))
 (try (have hji2g : ji2 ≤ 64 := by omega))
 have hji2_ : (if 2147483648 < a0 then 2147483648 else a0) = ji2 := hji2
 obtain ⟨ji3, hji3⟩ : ∃ j_ : Int, (mx 0 (ji2)) = j_ := ⟨_, rfl⟩
 replace H : (some ji3) = some r := by first | (rw [hji3] at H; exact H) | (simp only [hji3] at H ⊢; exact H)
 have hji3_ : (if 0 < (ji2) then (ji2) else 0) = ji3 := hji3
 obtain rfl := Option.some.inj H
 go_enter Tryz.func49, Tryz.ntmps49
 go_wp2
 go_ret
 exact ⟨by first | rfl | (simp [errW_none, errW_some] <;> rfl) | (simp only [← hji2, ← hji3]; first | rfl | (simp [errW_none, errW_some] <;> rfl)) | (simp [*, errW_none, errW_some] <;> rfl), bq⟩

end Go.Proofs.YtjldfmkpdkhnnaaGreatDoor.QL

namespace Go.Proofs.YtjldfmkpdkhnnaaGreatDoor.QL
open Go.RowKit Go.Proofs.YtjldfmkpdkhnnaaGreatDoorW.PrintWords Go.Proofs.YtjldfmkpdkhnnaaGreatDoorW.PrintLast Go.Proofs.YtjldfmkpdkhnnaaGreatDoorW.PrintMore Go.Proofs.YtjldfmkpdkhnnaaGreatDoor.Aux Go.Proofs.YtjldfmkpdkhnnaaGreatDoor.Dom Go.Proofs.YtjldfmkpdkhnnaaGreatDoor.Ext Go.Proofs.YtjldfmkpdkhnnaaGreatDoor.Glob
attribute [local go_sem] max2_int min2_int max_two min_two max_three min_three max_four min_four   -- for this text's walks alone

def impl_SatAdd.f (a0 : Int) (a1 : Int) : Option (Int) := (impl_within.f a0).bind fun t101 => ((impl_within.f a1).bind fun t102 => (some (mn (wrap64 (t101 + t102)) 2147483648)))
set_option maxHeartbeats 8000000 in
set_option maxRecDepth 100000 in
theorem impl_SatAdd.calls (a0 : Int) (a1 : Int) (r : Int) (w : World) (h : impl_SatAdd.f a0 a1 = some r) :
  Calls Tryz.prog 31 #[.int .i64 a0, .int .i64 a1] w fun e w' => e = .returned (.int .i64 r) ∧ Below w.heap.size w w' := by
 have HB := Aside0.mk (Below.refl w.heap.size w)
 have H : ((impl_within.f a0).bind fun t101 => ((impl_within.f a1).bind fun t102 => (some (mn (wrap64 (t101 + t102)) 2147483648)))) = some r := h
 clear h
 replace H := Option.bind_eq_some_iff.mp H
 obtain ⟨t101, A30, H⟩ := H
 try dsimp only at H
 have A3 := Aside0.mk A30
 clear A30
 replace H := Option.bind_eq_some_iff.mp H
 obtain ⟨t102, A40, H⟩ := H
 try dsimp only at H
 have A4 := Aside0.mk A40
 clear A40
 obtain ⟨ji5, hji5⟩ : ∃ j_ : Int, (mn (wrap64 (t101 + t102)) 2147483648) = j_ := ⟨_, rfl⟩
 replace H : (some ji5) = some r := by first | (rw [hji5] at H; exact H) | (simp only [hji5] at H ⊢; exact H)
 (try rw [hji5] at A3)
 (try rw [hji5] at A4)
 (try (have hji5h : ji5 ≤ 2147483648 := by (rw [← hji5]; unfold mn; (repeat' split) <;> omega)))
 (try (have hji5g : ji5 ≤ 64 := by omega))
 have hji5_ : (if 2147483648 < (wrap64 (t101 + t102)) then 2147483648 else (wrap64 (t101 + t102))) = ji5 := hji5
 obtain rfl := Option.some.inj H
 go_enter Tryz.func31, Tryz.ntmps31
 go_wp2_with (first | ((with_reducible refine gate_callee (f := 49) rfl ?_); refine goesL_ (some 6) rfl rfl Tryz.func49 (by kernel_rfl) rfl #[.int .i64 a0] rfl am ?_; (with_reducible refine (impl_within.calls a0 t101 _ A3.out).mono ?_); rintro e w6 ⟨rfl, hb⟩; refine ⟨_, rfl, ?_⟩; have n0_ := Aside0.mk (below_step bq hb); clear HB; have HB := n0_; clear n0_; (try clear hb); (try clear hb2); (try clear hk); (try clear hi)) | ((with_reducible refine gate_callee (f := 49) rfl ?_); refine goesL_ (some 8) rfl rfl Tryz.func49 (by kernel_rfl) rfl #[.int .i64 a1] rfl am ?_; (with_reducible refine (impl_within.calls a1 t102 _ A4.out).mono ?_); rintro e w7 ⟨rfl, hb⟩; refine ⟨_, rfl, ?_⟩; have n0_ := Aside0.mk (below_step bq hb); clear HB; have HB := n0_; clear n0_; (try clear hb); (try clear hb2); (try clear hk); (try clear hi)))
 go_ret
 exact ⟨by first | rfl | (simp [errW_none, errW_some] <;> rfl) | (simp only [← hji5]; first | rfl | (simp [errW_none, errW_some] <;> rfl)) | (simp [*, errW_none, errW_some] <;> rfl), bq⟩

end Go.Proofs.YtjldfmkpdkhnnaaGreatDoor.QL

namespace Go.Proofs.YtjldfmkpdkhnnaaGreatDoor.Pure
open Go.RowKit Go.Proofs.YtjldfmkpdkhnnaaGreatDoor.QL Go.Proofs.YtjldfmkpdkhnnaaGreatDoorW.PrintWords Go.Proofs.YtjldfmkpdkhnnaaGreatDoorW.PrintLast Go.Proofs.YtjldfmkpdkhnnaaGreatDoorW.PrintMore Go.Proofs.YtjldfmkpdkhnnaaGreatDoor.Aux Go.Proofs.YtjldfmkpdkhnnaaGreatDoor.Dom Go.Proofs.YtjldfmkpdkhnnaaGreatDoor.Ext
theorem impl_later_eq {a b : Int} (h : a ≤ 9223372036854775807) : impl_later.f a b = some (laterP a b) := by
  unfold impl_later.f laterP
  split
  · rfl
  · split
    · rfl
    · rw [wrap_id (by omega) (by omega)]
end Go.Proofs.YtjldfmkpdkhnnaaGreatDoor.Pure

namespace Go.Proofs.YtjldfmkpdkhnnaaGreatDoor.Pure
open Go.RowKit Go.Proofs.YtjldfmkpdkhnnaaGreatDoor.QL Go.Proofs.YtjldfmkpdkhnnaaGreatDoorW.PrintWords Go.Proofs.YtjldfmkpdkhnnaaGreatDoorW.PrintLast Go.Proofs.YtjldfmkpdkhnnaaGreatDoorW.PrintMore Go.Proofs.YtjldfmkpdkhnnaaGreatDoor.Aux Go.Proofs.YtjldfmkpdkhnnaaGreatDoor.Dom Go.Proofs.YtjldfmkpdkhnnaaGreatDoor.Ext
theorem impl_Lifetime_ev (st : Int) (l : List S99) (b : ByteArray) (hl : l.length ≤ 1048576) (hz : ¬ szF 1048576 (l.map fun x => (x.f0, x.f1)) < 0) : Ev (fun k => impl_Lifetime.f k st l b) (lifetimeP (l.map fun x => (x.f0, x.f1))) := by
  have q1 := szF_sum nmExp (by omega) hz
  have b1 := dateOfP_bd (l.map fun x => (x.f0, x.f1)) nmDate
  have b2 := dateOfP_bd (l.map fun x => (x.f0, x.f1)) nmExp
  have c1 := impl_CcSeconds_ev l nmSM hl hz
  have c2 := impl_CcSeconds_ev l nmMA hl hz
  have hh : Ev (fun k => impl_hasField.f k l nmExp) (!(getL nmExp (l.map fun x => (x.f0, x.f1))).isEmpty) := Ev.congr (fun k => by unfold impl_hasField.f; rfl) (ev_bind (impl_FieldGet_ev l nmExp hl (by omega)) (Ev.now _))
  have hfin : Ev (fun k => impl_Lifetime.l0 k [nmSM, nmMA] 2 2 st l b) (lifeD (l.map fun x => (x.f0, x.f1))) := by
    unfold lifeD
    refine Ev.step (fun k => by simp only [impl_Lifetime.l0]; rw [if_neg (by decide)]; rfl) (ev_bind (impl_DateOf_ev l nmDate hl hz) (ev_bind hh (ev_ite (fun h1 => ?_) (fun h1 => ?_))))
    · refine ev_bind (impl_DateOf_ev l nmExp hl hz) (ev_ite (fun h2 => ev_ite (fun h3 => ?_) (fun _ => Ev.now _)) (fun _ => Ev.now _))
      exact ev_some fun k => by rw [impl_later_eq (by omega), Option.bind_some]
    · refine ev_bind (impl_DateOf_ev l nmLast hl hz) (ev_ite (fun h2 => ev_ite (fun h3 => ?_) (fun _ => Ev.now _)) (fun _ => Ev.now _))
      have hb := laterP_bd (a := (dateOfP (l.map fun x => (x.f0, x.f1)) nmDate).1) (b := (dateOfP (l.map fun x => (x.f0, x.f1)) nmLast).1) (by omega)
      exact ev_some fun k => by rw [impl_later_eq (by omega), Option.bind_some, Int.tdiv_eq_ediv_of_nonneg hb.1, wrap_id (by omega) (by omega)]
  refine Ev.congr (fun k => by unfold impl_Lifetime.f; rw [Option.bind_some]) ?_
  unfold lifetimeP
  have s0 : ∀ k, impl_Lifetime.l0 (k + 1) [nmSM, nmMA] 2 0 st l b = (impl_CcSeconds.f k l nmSM).bind fun q => if q.2 = true then some q.1 else impl_Lifetime.l0 k [nmSM, nmMA] 2 1 st l b := by
    intro k
    simp only [impl_Lifetime.l0]
    rw [if_pos (by decide), if_pos (by decide), if_pos (by decide), show wrap64 (0 + 1) = 1 from wrap_id (by omega) (by omega), show rdOf ByteArray.empty [nmSM, nmMA] 0 = nmSM from rfl]
  have s1 : ∀ k, impl_Lifetime.l0 (k + 1) [nmSM, nmMA] 2 1 st l b = (impl_CcSeconds.f k l nmMA).bind fun q => if q.2 = true then some q.1 else impl_Lifetime.l0 k [nmSM, nmMA] 2 2 st l b := by
    intro k
    simp only [impl_Lifetime.l0]
    rw [if_pos (by decide), if_pos (by decide), if_pos (by decide), show wrap64 (1 + 1) = 2 from wrap_id (by omega) (by omega), show rdOf ByteArray.empty [nmSM, nmMA] 1 = nmMA from rfl]
  show Ev (fun k => impl_Lifetime.l0 k [nmSM, nmMA] 2 0 st l b) _
  refine Ev.step s0 (ev_bind c1 (ev_ite (fun _ => Ev.now _) (fun _ => ?_)))
  exact Ev.step s1 (ev_bind c2 (ev_ite (fun _ => Ev.now _) (fun _ => hfin)))

end Go.Proofs.YtjldfmkpdkhnnaaGreatDoor.Pure

namespace Go.Proofs.YtjldfmkpdkhnnaaGreatDoor.Pure
open Go.RowKit Go.Proofs.YtjldfmkpdkhnnaaGreatDoor.QL Go.Proofs.YtjldfmkpdkhnnaaGreatDoorW.PrintWords Go.Proofs.YtjldfmkpdkhnnaaGreatDoorW.PrintLast Go.Proofs.YtjldfmkpdkhnnaaGreatDoorW.PrintMore Go.Proofs.YtjldfmkpdkhnnaaGreatDoor.Aux Go.Proofs.YtjldfmkpdkhnnaaGreatDoor.Dom Go.Proofs.YtjldfmkpdkhnnaaGreatDoor.Ext

theorem FnExactLifetime : laws_FnExactLifetime.Pure := by
  intro st l b hst hl hlm hb
  refine Ev.rounds (Ev.congr (fun k => by unfold laws_FnExactLifetime.f; rfl) ?_)
  refine ev_bind (laws_szResponse_ev st l b 1048576 hl hlm hb (by omega) (by omega)) ?_
  by_cases h1 : szR 1048576 (l.map fun x => (x.f0, x.f1)) b < 0
  · exact ev_if_pos h1 (Ev.now _)
  refine ev_if_neg h1 ?_
  have q0 := szR_szF h1
  have q1 := szR_len h1
  rw [List.length_map] at q1
  have eX : ((l.map fun x => (⟨x.f0, x.f1⟩ : S99)).map fun x => (x.f0, x.f1)) = l.map fun x => (x.f0, x.f1) := by rw [List.map_map]; rfl
  have t1 := laws_toResponse_ev st l b (by omega)
  have sp := spec_Lifetime_ev st (l.map fun x => (⟨x.f0, x.f1⟩ : S99)) b (by rw [List.length_map]; omega) (by rw [eX]; exact q0.1)
  have im := impl_Lifetime_ev st (l.map fun x => (⟨x.f0, x.f1⟩ : S99)) b (by rw [List.length_map]; omega) (by rw [eX]; exact q0.1)
  have e1 := laws_eqResponse_ev st (l.map fun x => (⟨x.f0, x.f1⟩ : S99)) b (by rw [List.length_map]; omega)
  exact ev_bind t1 (ev_bind sp (ev_bind t1 (ev_bind im (ev_if_pos rfl (ev_bind t1 (ev_bind e1 (ev_if_pos rfl (Ev.now _))))))))

end Go.Proofs.YtjldfmkpdkhnnaaGreatDoor.Pure

namespace Go.Proofs.YtjldfmkpdkhnnaaGreatDoor.Open
open Go.ChangeShapes Go.WideShapes Go.Deep
section
variable {H : Type} {enc : TypeId × Value → H} {P : Program} {w : World} {base : Nat} {spare : Nat → Bool} {held : Bool}
theorem open_slice_fields {t e : TypeId} {fs : Array Field} {fuel : Nat} {cs : List Value} {x : DataW H × List MemPlace} (ht : P.underlying t = some (.slice e)) (he : P.underlying e = some (.struct fs))
    (hone : oneCellFields P fs = true) (hC : P.cellsOf e = fs.size) (h : DataW.trod enc P w base spare held fuel t cs = some x) :
    (cs = [.slice none 0 0] ∧ x = (.nil, [])) ∨
    ∃ (a : Addr) (len cap m : Nat) (D : Nat → DataW H) (Pl : Nat → List MemPlace), cs = [.slice (some a) len cap] ∧ base ≤ a.block ∧ len ≤ cap ∧ cap ≤ maxLen ∧ m = (if spare a.block then cap else len) ∧
      x = (.slice ((List.range len).map D) ((List.range (m - len)).map fun j => D (len + j)), MemPlace.row a (m * fs.size) ++ (List.range m).flatMap Pl) ∧
      ∀ i, i < m → ∃ (ys : List (DataW H × List MemPlace)) (n : Nat), D i = .agg (ys.map (·.1)) ∧ Pl i = ys.flatMap (·.2) ∧ ys.length = fs.size ∧
        ∀ (j : Nat) (f : Field), fs[j]? = some f → ∃ (v : Value) (y : DataW H × List MemPlace), w.cell? (a.add (i * fs.size + j)) = some v ∧ ys[j]? = some y ∧ DataW.trod enc P w base spare held n f.type [v] = some y := by
  rcases open_slice ht h with h0 | ⟨a, len, cap, m, n, D, Pl, hcs, hb, hl, hm, hmm, hx, hi⟩
  · exact .inl h0
  · refine .inr ⟨a, len, cap, m, D, Pl, hcs, hb, hl, hm, hmm, by rw [hC] at hx; exact hx, fun i him => ?_⟩
    obtain ⟨cs', hc, ht'⟩ := hi i him
    rw [hC] at hc
    obtain ⟨ys, n', hn', hy, hlen, hyl, hf⟩ := DataW.trod_struct he ht'
    obtain ⟨_, hcl, hat⟩ := World.cells?_some hc
    simp only [Prod.mk.injEq] at hy
    refine ⟨ys, n', hy.1, hy.2, hyl, fun j f hj => ?_⟩
    obtain ⟨ho, hk⟩ := hone_of hone j f hj
    have hjl : j < fs.size := (Array.getElem?_eq_some_iff.1 hj).1
    have hcell := hat j hjl
    have hv : cs'[j]? = some (cs'[j]'(by omega)) := List.getElem?_eq_getElem (by omega)
    have h1 := hf j f hj
    rw [ho, hk] at h1
    have hone' : (cs'.drop j).take 1 = [cs'[j]'(by omega)] := by
      rw [List.drop_eq_getElem_cons (by omega)]
      rfl
    rw [hone'] at h1
    have hys : ys[j]? = some (ys[j]'(by omega)) := List.getElem?_eq_getElem (by omega)
    refine ⟨_, _, ?_, hys, h1.trans hys⟩
    rw [← Go.Deep.add_add, hcell, hv]
end

theorem list_of {α : Type} (Q : Nat → α → Prop) : ∀ n : Nat, (∀ i, i < n → ∃ p, Q i p) → ∃ l : List α, l.length = n ∧ ∀ (j : Nat) p, l[j]? = some p → Q j p
  | 0, _ => ⟨[], rfl, fun j p h => by simp at h⟩
  | n + 1, h => by
    obtain ⟨l, hl, hq⟩ := list_of Q n (fun i hi => h i (by omega))
    obtain ⟨p, hp⟩ := h n (by omega)
    refine ⟨l ++ [p], by simp [hl], fun j q hj => ?_⟩
    rcases Nat.lt_or_ge j l.length with hlt | hge
    · rw [List.getElem?_append_left hlt] at hj
      exact hq j q hj
    · have hjl : j < (l ++ [p]).length := (List.getElem?_eq_some_iff.1 hj).1
      rw [List.length_append, List.length_singleton] at hjl
      have : j = l.length := by omega
      subst this
      have : p = q := by simpa using hj
      subst this
      rw [hl]; exact hp

def PairsAt (w : World) (A : Option Addr) (l : List (ByteArray × ByteArray)) : Prop :=
  l.length ≤ maxLen ∧ (∀ p ∈ l, p.1.size ≤ maxLen ∧ p.2.size ≤ maxLen) ∧
  (0 < l.length → ∃ ad, A = some ad ∧ ∀ (j : Nat) p, l[j]? = some p → w.cell? (ad.add (j * 2 + 0)) = some (.string p.1) ∧ w.cell? (ad.add (j * 2 + 1)) = some (.string p.2))

section
variable {H : Type} {enc : TypeId × Value → H} {P : Program} {w : World} {base : Nat} {spare : Nat → Bool} {held : Bool}
theorem open_pairs {t e : TypeId} {f0 f1 : Field} {fuel : Nat} {v : Value} {x : DataW H × List MemPlace} (ht : P.underlying t = some (.slice e)) (he : P.underlying e = some (.struct #[f0, f1]))
    (hone : oneCellFields P #[f0, f1] = true) (hC : P.cellsOf e = 2) (h0 : P.underlying f0.type = some .string) (h1 : P.underlying f1.type = some .string) (h : DataW.trod enc P w base spare held fuel t [v] = some x) :
    ∃ (A : Option Addr) (cap : Nat) (l : List (ByteArray × ByteArray)), v = .slice A l.length cap ∧ l.length ≤ cap ∧ PairsAt w A l := by
  rcases open_slice_fields ht he hone hC h with ⟨hcs, _⟩ | ⟨a, len, cap, m, D, Pl, hcs, _, hl, hm, hmm, _, hi⟩
  · obtain rfl : v = .slice none 0 0 := by simpa using hcs
    exact ⟨none, 0, [], rfl, Nat.le_refl _, by simp [maxLen], fun p hp => (by cases hp), fun hp => absurd hp (by simp)⟩
  · obtain rfl : v = .slice (some a) len cap := by simpa using hcs
    have hlm : len ≤ m := by
      rw [hmm]
      split
      · exact hl
      · exact Nat.le_refl _
    obtain ⟨l, hll, hq⟩ := list_of (fun i (p : ByteArray × ByteArray) => (w.cell? (a.add (i * 2 + 0)) = some (.string p.1) ∧ w.cell? (a.add (i * 2 + 1)) = some (.string p.2)) ∧ p.1.size ≤ maxLen ∧ p.2.size ≤ maxLen) len (fun i him => by
      obtain ⟨ys, n, _, _, _, hf⟩ := hi i (by omega)
      obtain ⟨v0, y0, hc0, _, ht0⟩ := hf 0 f0 rfl
      obtain ⟨v1, y1, hc1, _, ht1⟩ := hf 1 f1 rfl
      obtain ⟨s0, e0, _, z0⟩ := DataW.trod_string h0 ht0
      obtain ⟨s1, e1, _, z1⟩ := DataW.trod_string h1 ht1
      obtain rfl : v0 = .string s0 := by simpa using e0
      obtain rfl : v1 = .string s1 := by simpa using e1
      exact ⟨(s0, s1), ⟨hc0, hc1⟩, z0, z1⟩)
    subst hll
    refine ⟨some a, cap, l, rfl, hl, by omega, fun p hp => ?_, fun _ => ⟨a, rfl, fun j p hj => (hq j p hj).1⟩⟩
    obtain ⟨j, hj⟩ := List.getElem?_of_mem hp
    exact (hq j p hj).2
end

theorem returnsInHanded_door {H : Type} {enc : TypeId × Value → H} {a : Assume} {C : Checked} {os : Os} {f : FuncId} {fn : Func} {s : ChangeSpec} {conds : List PathCond} {apart fresh handsOn again : Bool} {X : World → Array Value → Prop}
    (hX : ∀ (w w' : World) (args : Array Value), w.heap = w'.heap → X w args → X w' args)
    (own : ownKnob C.prog.godebug = none) (started : os.Started) (noInit : C.prog.inits.idxOf? f = none) (hfn : C.prog.funcs[f]? = some fn)
    (witness : ∃ (w : World) (tape : Tape) (i : Input), w.os = os ∧ (w.forCall tape i).Shaped C.prog ∧ i.vars = [] ∧ Input.okWide C.prog (w.forCall tape i) .any w.heap.size f i ∧
      ((s.pre enc C.prog fn conds apart (w.forCall tape i).memory i.args ∧ X (w.forCall tape i).memory i.args) ∧ sizedMet enc C.prog fn (OpenSpec.ofChange s) apart (w.forCall tape i).memory i.args) ∧ a.holds C.prog (lone (Frame.enter C.prog f i.args .normal) [] (w.forCall tape i)))
    (contract : ∀ (W : World) (base : Nat) (args : Array Value) (ds gs : List (DataW H)) (before : List MemPlace),
      (∀ (j : Nat) t v, fn.params[j]? = some t → args[j]? = some v → Value.okWide C.prog W .any base t v) →
      DataW.Whole enc C.prog fn.params.toList s.vars apart W args.toList ds gs before →
      conds.all (PathCond.test C.prog ⟨fn.params.toList, ds, s.plain.varTypes C.prog, gs⟩) = true →
      (DataW.weightsEach C.prog (fn.params.toList ++ s.plain.varTypes C.prog) (ds ++ gs)).all (· ≤ reachBytes) = true → X W args →
      W.ShapedOpen C.prog →
      a.holds C.prog (lone (Frame.enter C.prog f args .normal) [] W) →
      Calls C.prog f args W fun e W' => ∃ v, e = .returned v ∧ s.post enc C.prog fn apart fresh handsOn again W args v W') :
    ReturnsInHanded a C os f .any (fun w args => (s.pre enc C.prog fn conds apart w args ∧ X w args) ∧ sizedMet enc C.prog fn (OpenSpec.ofChange s) apart w args) (s.post enc C.prog fn apart fresh handsOn again) := by
  refine returnsInHanded_of_calls own started noInit witness ?_
  intro w tape i _ hsh _ hok hpre hholds
  obtain ⟨_, _, _, fn', hfn', _, _, _, _, hval⟩ := hok
  have e : fn' = fn := Option.some.inj (hfn'.symm.trans hfn)
  subst e
  obtain ⟨⟨⟨ds, gs, before, hw, hc⟩, hx⟩, hz⟩ := hpre
  have hw' := DataW.Whole.of_heap (w' := w.forCall tape i) (by rfl) hw
  refine (contract (w.forCall tape i) w.heap.size i.args ds gs before hval hw' hc (hz.weights hw) (hX _ _ _ (by rfl) hx) hsh hholds).mono fun e W' ⟨v, he, hp⟩ => ?_
  subst he
  exact ChangeSpec.post_blind hp

end Go.Proofs.YtjldfmkpdkhnnaaGreatDoor.Open

namespace Go.Proofs.YtjldfmkpdkhnnaaGreatDoorW.PrintWords
open Go.ChangeShapes Go.WideShapes
end Go.Proofs.YtjldfmkpdkhnnaaGreatDoorW.PrintWords

