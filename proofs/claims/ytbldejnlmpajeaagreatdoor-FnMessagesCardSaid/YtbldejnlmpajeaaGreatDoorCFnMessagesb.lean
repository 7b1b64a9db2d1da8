/- Requests and answers are read from their texts, whatever stands behind, and of a beginning more is wanted: for all codes that are drawn from (codes of more than 2^20 bytes are let by). -/
import Derived.Test.YtbldejnlmpajeaaGreatDoorProg
import Derived.Below
import Derived.Deep.Draws
import Derived.Deep.AppendLies
import Derived.Maps.AppendAt
import Derived.OwnWalk
import Derived.Laws.BytesArg
import Derived.Laws.MakeOwn
import Derived.Laws.OwnMore
import Derived.Deep.OwnRows
import Derived.Tactics
import Derived.Lib.ConvBytes
import Derived.Laws.Slices
import Derived.WalkKit
import Derived.KernelRfl
import Derived.RowKit3
import Derived.Deep.LoopGhost
import Derived.Deep.QuietTactic
import Derived.BigQuiet
import Derived.WideLaws
import Derived.Deep.DeepCutAuto
import Derived.Deep.CutBlock
import Derived.Deep.RegionHeld3
import Derived.Laws.Rows
import Derived.Lib.AppendStr
import Derived.ArgAppend
import Derived.Laws.IdiomCopy
import Derived.OrdersHeld
import Derived.Laws.BitsLemmas
import Derived.RowKit
import Derived.Lib.Bytealg
import Derived.Lib.Strings
import Derived.Shelf.Strings.SlTrimAscii
import Derived.Lib.AppendIntMem
import Derived.Lib.IndexAny
import Derived.Shelf.Strconv.ErrVarAll
import Derived.Shelf.SlicesQ.IndexFunc
import Derived.Shelf.SlicesE.DeleteFunc
import Derived.Test.YtbldejnlmpajeaaGreatDoorCFnMessagesa
set_option linter.unusedVariables false
set_option linter.unusedSimpArgs false
set_option maxHeartbeats 8000000
set_option maxRecDepth 100000
namespace Go.Proofs.YtbldejnlmpajeaaGreatDoor.Dom
open Go.RowKit Go.Proofs.YtbldejnlmpajeaaGreatDoorW.PrintWords Go.Proofs.YtbldejnlmpajeaaGreatDoorW.PrintLast Go.Proofs.YtbldejnlmpajeaaGreatDoorW.PrintMore Go.Proofs.YtbldejnlmpajeaaGreatDoor.Aux
def uriB (l : List Int) : Bool := l.all (fun c => decide (33 ≤ c ∧ c ≤ 126)) && (decide (1 ≤ (l.length : Int) ∧ (l.length : Int) ≤ 20) && (rd l 0 == 47))
def szL : Int → List (ByteArray × ByteArray) → Int
  | n, [] => n
  | n, p :: r => if n - (p.1.size : Int) - (p.2.size : Int) < 0 then -1 else szL (n - (p.1.size : Int) - (p.2.size : Int)) r
def szF (n : Int) (l : List (ByteArray × ByteArray)) : Int := if n - (l.length : Int) < 0 then -1 else szL (n - l.length) l
theorem szF_len {n : Int} {l : List (ByteArray × ByteArray)} (h : ¬ szF n l < 0) : (l.length : Int) ≤ n := by
  unfold szF at h
  split at h
  · exact absurd (by omega) h
  · omega
def getL (nm : ByteArray) : List (ByteArray × ByteArray) → List ByteArray
  | [] => []
  | p :: r => if p.1 = nm then p.2 :: getL nm r else getL nm r
theorem zj1 (nm : ByteArray) : ∀ (l : List (ByteArray × ByteArray)) (n : Int), 0 ≤ n → ¬ szL n l < 0 → ((((getL nm l).map fun v => v.size + 2).sum : Nat) : Int) ≤ n + 2 * l.length
  | [], n, h0, _ => by simp [getL]; omega
  | q :: r, n, h0, h => by
    rw [szL] at h
    split at h
    · exact absurd (by omega) h
    · rename_i h1
      have ih := zj1 nm r _ (by omega) h
      rw [getL]
      split
      · rw [List.map_cons, List.sum_cons, List.length_cons]
        omega
      · rw [List.length_cons]
        omega
theorem xs0 (nm : ByteArray) {n : Int} {l : List (ByteArray × ByteArray)} (h0 : 0 ≤ n) (h : ¬ szF n l < 0) : ((((getL nm l).map fun v => v.size + 2).sum : Nat) : Int) ≤ 3 * n := by
  have h1 := szF_len h
  unfold szF at h
  split at h
  · exact absurd (by omega) h
  · have := zj1 nm l _ (by omega) h
    omega
theorem xO0 (nm : ByteArray) : ∀ l : List (ByteArray × ByteArray), (getL nm l).length ≤ l.length
  | [] => by simp [getL]
  | q :: r => by
    have := xO0 nm r
    rw [getL]
    split <;> simp <;> omega
def sameL : List (ByteArray × ByteArray) → List (ByteArray × ByteArray) → Bool
  | p :: r, q :: t => if p.1 = q.1 ∧ p.2 = q.2 then sameL r t else false
  | _, _ => true
def sameF (a b : List (ByteArray × ByteArray)) : Bool := if a.length = b.length then sameL a b else false
theorem xQ0 : ∀ (f : Nat) (n : Int) (acc : List Int), (decL f n acc).length ≤ f + acc.length
  | 0, _, acc => by simp [decL]
  | f + 1, n, acc => by
    rw [decL]
    split
    · have := xQ0 f (n / 10) ((48 + n % 10) :: acc)
      simp at this; omega
    · omega
theorem jF0 (j : Nat) : ∀ (f : Nat) (n : Int) (acc : List Int), n < 10 ^ f → decL (f + j) n acc = decL f n acc
  | 0, n, acc, h => by
    have : ¬ n > 0 := by simp at h; omega
    cases j with
    | zero => rfl
    | succ j => simp only [Nat.zero_add, decL, if_neg this]
  | f + 1, n, acc, h => by
    rw [show f + 1 + j = (f + j) + 1 by omega, decL, decL]
    split
    · exact jF0 j f (n / 10) _ (by rw [Int.pow_succ] at h; omega)
    · rfl
def tokB (l : List Int) : Bool := l.all tokC && !l.isEmpty
def hexDs : List Int := [48, 49, 50, 51, 52, 53, 54, 55, 56, 57, 97, 98, 99, 100, 101, 102]
def hexV (c : Int) : Int := if 48 ≤ c ∧ c ≤ 57 then c - 48 else if 97 ≤ c ∧ c ≤ 102 then c - 87 else if 65 ≤ c ∧ c ≤ 70 then c - 55 else -1
def hexW : Int → List Int → Int
  | n, [] => n
  | n, c :: r => hexW (wrap64 (n * 16 + hexV c)) r
def xP (l : List Int) : Int × Bool := bif (l.all fun c => decide (0 ≤ hexV c)) && decide (1 ≤ (l.length : Int) ∧ (l.length : Int) ≤ 6) then (hexW 0 l, true) else (0, false)
theorem jj0 (a b : Int) : wrap64 (wrap64 a + b) = wrap64 (a + b) := by unfold wrap64; omega
def leapB (y : Int) : Bool := decide ((y % 4 = 0 ∧ y % 100 ≠ 0) ∨ y % 400 = 0)
def yearD (y : Int) : Int := if leapB y then 366 else 365
def qw (y m : Int) : Int := if m = 2 then (if leapB y then 29 else 28) else if m = 4 ∨ m = 6 ∨ m = 9 ∨ m = 11 then 30 else 31
def qc : Nat → Int → Int
  | 0, _ => 0
  | d + 1, y => yearD y + qc d (y + 1)
def xk (y : Int) : Nat → Int → Int
  | 0, _ => 0
  | d + 1, m => qw y m + xk y d (m + 1)
def daysP (y m d : Int) : Int := if (1970 ≤ y ∧ y ≤ 2037) ∧ (1 ≤ m ∧ m ≤ 12) ∧ (1 ≤ d ∧ d ≤ qw y m) then d - 1 + qc (y - 1970).toNat 1970 + xk y (m - 1).toNat 1 else -1
theorem zN0 (y : Int) : 365 ≤ yearD y ∧ yearD y ≤ 366 := by unfold yearD; split <;> omega
theorem jy (y m : Int) : 28 ≤ qw y m ∧ qw y m ≤ 31 := by
  unfold qw
  split
  · split <;> omega
  · split <;> omega
theorem xp0 : ∀ (d : Nat) (y : Int), 365 * (d : Int) ≤ qc d y ∧ qc d y ≤ 366 * (d : Int)
  | 0, _ => by simp [qc]
  | d + 1, y => by
    have := xp0 d (y + 1)
    have := zN0 y
    rw [qc]; omega
theorem qu0 (y : Int) : ∀ (d : Nat) (m : Int), 28 * (d : Int) ≤ xk y d m ∧ xk y d m ≤ 31 * (d : Int)
  | 0, _ => by simp [xk]
  | d + 1, m => by
    have := qu0 y d (m + 1)
    have := jy y m
    rw [xk]; omega
theorem qd (b : ByteArray) (xs : List UInt8) : b.toList = xs ↔ bytesOf b = xs.map fun c => (c.toNat : Int) := by
  rw [Lib.toList_data]
  unfold bytesOf
  constructor
  · intro h; rw [h]
  · intro h
    exact List.map_inj_right (f := fun b : UInt8 => (b.toNat : Int)) (fun x y hxy => UInt8.toNat_inj.1 (by exact_mod_cast hxy)) |>.1 h
theorem qg (sub : List Int) : ∀ l : List Int, idxS l sub = -1 ∨ (0 ≤ idxS l sub ∧ idxS l sub + sub.length ≤ l.length)
  | [] => by
    cases sub with
    | nil => right; simp [idxS]
    | cons a s => left; rfl
  | b :: l => by
    rw [idxS]
    by_cases h : sub.isPrefixOf (b :: l) = true
    · rw [if_pos h]
      right
      have := (List.isPrefixOf_iff_prefix.1 h).length_le
      exact ⟨by omega, by omega⟩
    · rw [if_neg h]
      rcases qg sub l with h1 | h1
      · left; rw [if_pos h1]
      · right
        rw [if_neg (by omega), List.length_cons]
        omega
theorem zc0 (a b : Int) (r : List Int) : idxS (a :: b :: r) [13, 10] = if a = 13 ∧ b = 10 then 0 else if idxS (b :: r) [13, 10] = -1 then -1 else idxS (b :: r) [13, 10] + 1 := by
  rw [idxS]
  by_cases h : a = 13 ∧ b = 10
  · obtain ⟨rfl, rfl⟩ := h
    simp [List.isPrefixOf]
  · rw [if_neg h, if_neg]
    simp only [List.isPrefixOf, Bool.and_true, Bool.and_eq_true, beq_iff_eq]
    intro hh; exact h ⟨hh.1.symm, hh.2.symm⟩
theorem qz0 : ∀ (l : List Int) (n : Int) (j : Nat), (l.all fun c => decide (0 ≤ hexV c)) = true → 0 ≤ n → n < 16 ^ j → j + l.length ≤ 6 → 0 ≤ hexW n l ∧ hexW n l < 16 ^ 6
  | [], n, j, _, h0, h1, hj => by
    have : (16 : Int) ^ j ≤ 16 ^ 6 := zr1 16 (by decide) (by simp at hj; omega)
    exact ⟨by simpa [hexW] using h0, by simp only [hexW]; omega⟩
  | c :: r, n, j, hl, h0, h1, hj => by
    simp only [List.all_cons, Bool.and_eq_true, decide_eq_true_eq] at hl
    have hc : hexV c < 16 := by unfold hexV; split; omega; split; omega; split <;> omega
    have hle : (16 : Int) ^ j ≤ 16 ^ 5 := zr1 16 (by decide) (by simp at hj; omega)
    rw [hexW, yg (by omega) (by omega)]
    exact qz0 r _ (j + 1) hl.2 (by omega) (by rw [Int.pow_succ]; omega) (by simp at hj; omega)
theorem qW {l : List Int} (h : (xP l).2 = true) : 0 ≤ (xP l).1 ∧ (xP l).1 < 16777216 := by
  unfold xP at h ⊢
  cases hc : ((l.all fun c => decide (0 ≤ hexV c)) && decide (1 ≤ (l.length : Int) ∧ (l.length : Int) ≤ 6)) with
  | false => rw [hc] at h; cases h
  | true =>
    simp only [Bool.and_eq_true, decide_eq_true_eq] at hc
    have := qz0 l 0 0 hc.1 (by omega) (by simp) (by omega)
    simp only [cond_true]
    omega
def jw (l : List Int) (ahead : Int) : ByteArray × Int × Int :=
  if idxS l [13, 10] < 0 then (if (l.length : Int) ≤ 8 then (⟨#[]⟩, 0, 1) else (⟨#[]⟩, 0, 2))
  else
    let line := l.take (idxS l [13, 10]).toNat
    let rest := l.drop ((idxS l [13, 10]).toNat + 2)
    let h := xP line
    if ¬ (h.2 = true ∧ ahead + h.1 ≤ 60) then (⟨#[]⟩, 0, 2)
    else if (rest.length : Int) < h.1 + 2 then (⟨#[]⟩, 0, 1)
    else if (rest.drop h.1.toNat).take 2 = [13, 10] then (strOfNums (rest.take h.1.toNat), idxS l [13, 10] + h.1 + 4, 0) else (⟨#[]⟩, 0, 2)
theorem jx0 {l : List Int} {ahead : Int} (h : (jw l ahead).2.2 = 0) (h0 : 0 ≤ ahead) :
    0 ≤ idxS l [13, 10] ∧ (xP (l.take (idxS l [13, 10]).toNat)).2 = true ∧ ahead + (xP (l.take (idxS l [13, 10]).toNat)).1 ≤ 60 ∧ idxS l [13, 10] + (xP (l.take (idxS l [13, 10]).toNat)).1 + 4 ≤ l.length ∧
      jw l ahead = (strOfNums ((l.drop ((idxS l [13, 10]).toNat + 2)).take (xP (l.take (idxS l [13, 10]).toNat)).1.toNat), idxS l [13, 10] + (xP (l.take (idxS l [13, 10]).toNat)).1 + 4, 0) := by
  unfold jw at h ⊢
  by_cases h1 : idxS l [13, 10] < 0
  · rw [if_pos h1] at h
    split at h <;> cases h
  · rw [if_neg h1] at h ⊢
    simp only at h ⊢
    by_cases h2 : ¬ ((xP (l.take (idxS l [13, 10]).toNat)).2 = true ∧ ahead + (xP (l.take (idxS l [13, 10]).toNat)).1 ≤ 60)
    · rw [if_pos h2] at h; cases h
    · rw [if_neg h2] at h ⊢
      have h2' := Classical.not_not.1 h2
      have hb := qW h2'.1
      by_cases h3 : ((l.drop ((idxS l [13, 10]).toNat + 2)).length : Int) < (xP (l.take (idxS l [13, 10]).toNat)).1 + 2
      · rw [if_pos h3] at h; cases h
      · rw [if_neg h3] at h ⊢
        have hx := qg [13, 10] l
        simp only [List.length_drop, List.length_cons, List.length_nil] at h3 hx
        by_cases h4 : ((l.drop ((idxS l [13, 10]).toNat + 2)).drop (xP (l.take (idxS l [13, 10]).toNat)).1.toNat).take 2 = [13, 10]
        · rw [if_pos h4]
          exact ⟨by omega, h2'.1, h2'.2, by omega, rfl⟩
        · rw [if_neg h4] at h; cases h
def unchP (l : List Int) : Nat → ByteArray → Int → ByteArray × Int × Int
  | 0, _, _ => (⟨#[]⟩, 0, 0)
  | d + 1, out, i =>
    if (jw (l.drop i.toNat) out.size).2.2 = 0 then
      (if (jw (l.drop i.toNat) out.size).1 = ⟨#[]⟩ then (out, i + (jw (l.drop i.toNat) out.size).2.1, 0)
        else unchP l d (out ++ (jw (l.drop i.toNat) out.size).1) (i + (jw (l.drop i.toNat) out.size).2.1))
    else (⟨#[]⟩, 0, (jw (l.drop i.toNat) out.size).2.2)
def xi0 (l : List Int) : ByteArray × Int × Int := unchP l (l.length + 1) ⟨#[]⟩ 0
def valC (c : Int) : Bool := decide (c = 9) || (decide (32 ≤ c) && decide (c ≠ 127))
def valB (s : ByteArray) : Bool := (bytesOf s).all valC && decide (trimB s = s)
theorem qh0 (a b : ByteArray) : (a.toList == b.toList) = decide (a = b) := by
  rw [Bool.eq_iff_iff, beq_iff_eq, decide_eq_true_eq, xF]
theorem jN0 {s : ByteArray} {d : Nat} (h : s.size = d + 1) : bytesOf s = (bytesOf s).take d ++ [bt s (d : Int)] := by
  have hl := zw s
  have hd : d < (bytesOf s).length := by omega
  rw [qF0 s d hd]
  conv => lhs; rw [← List.take_append_drop d (bytesOf s), List.drop_eq_getElem_cons hd, List.drop_of_length_le (by omega)]
theorem jF {s : ByteArray} (h : s.size = 0) : bytesOf s = [] := List.eq_nil_of_length_eq_zero (by rw [zw]; exact h)
def lowB (s : ByteArray) : ByteArray := strOfNums ((bytesOf s).map lowC)
def xQ (p : ByteArray × ByteArray) : Bool := tokB (bytesOf p.1) && decide (p.1.size ≤ 24) && decide (lowB p.1 = p.1) && valB p.2 && decide (p.2.size ≤ 60)
def qa (l : List (ByteArray × ByteArray)) : Bool := l.all xQ && decide (l.length ≤ 12)
theorem qU (b : ByteArray) : b.toList = ([] : List UInt8) ↔ b = ⟨#[]⟩ := by
  rw [qd]
  constructor
  · intro h
    refine qm (h.trans ?_)
    rfl
  · rintro rfl
    rfl
def showR : List (ByteArray × ByteArray) → ByteArray
  | [] => ⟨#[13, 10]⟩
  | p :: r => p.1 ++ ⟨#[58, 32]⟩ ++ p.2 ++ ⟨#[13, 10]⟩ ++ showR r
def showB (l : List (ByteArray × ByteArray)) : ByteArray := if qa l = true then showR l else ⟨#[]⟩
theorem xM : (⟨#[58, 32]⟩ : ByteArray).size = 2 := rfl
theorem xw : (⟨#[13, 10]⟩ : ByteArray).size = 2 := rfl
def lineF (line : List Int) (c : Int) : ByteArray × ByteArray := (lowB (strOfNums (line.take c.toNat)), trimB (strOfNums (line.drop (c.toNat + 1))))
def rfP (l : List Int) : Nat → List (ByteArray × ByteArray) → Int → List (ByteArray × ByteArray) × Int × Bool
  | 0, _, _ => ([], 0, false)
  | d + 1, acc, i =>
    if idxS (l.drop i.toNat) [13, 10] < 0 then ([], 0, false)
    else if idxS (l.drop i.toNat) [13, 10] = 0 then (acc, i + 2, true)
    else if idxS ((l.drop i.toNat).take (idxS (l.drop i.toNat) [13, 10]).toNat) [58] < 0 then ([], 0, false)
    else if xQ (lineF ((l.drop i.toNat).take (idxS (l.drop i.toNat) [13, 10]).toNat) (idxS ((l.drop i.toNat).take (idxS (l.drop i.toNat) [13, 10]).toNat) [58])) = true ∧ acc.length < 12 then rfP l d (acc ++ [lineF ((l.drop i.toNat).take (idxS (l.drop i.toNat) [13, 10]).toNat) (idxS ((l.drop i.toNat).take (idxS (l.drop i.toNat) [13, 10]).toNat) [58])]) (i + idxS (l.drop i.toNat) [13, 10] + 2)
    else ([], 0, false)
theorem qm0 (l : List Int) : ∀ (d : Nat) (acc : List (ByteArray × ByteArray)) (i : Int), acc.length ≤ 12 → (rfP l d acc i).1.length ≤ 12
  | 0, acc, i, _ => by simp [rfP]
  | d + 1, acc, i, h => by
    rw [rfP]
    split
    · simp
    · split
      · exact h
      · split
        · simp
        · split
          · rename_i h4
            exact qm0 l d _ _ (by simp; omega)
          · simp
theorem vF0 (b c : Int) (r : List Int) : idxS (b :: r) [c] = if c = b then 0 else if idxS r [c] = -1 then -1 else idxS r [c] + 1 := by
  rw [idxS]
  by_cases h : c = b
  · subst h
    simp [List.isPrefixOf]
  · rw [if_neg h, if_neg (by simp [List.isPrefixOf, h])]
theorem vS0 {s : ByteArray} : (trimB s).size ≤ s.size := by
  unfold trimB
  rw [strOfNums_size]
  unfold trimC
  have h1 := (List.dropWhile_sublist blkC (l := ((bytesOf s).reverse.dropWhile blkC).reverse)).length_le
  have h2 := (List.dropWhile_sublist blkC (l := (bytesOf s).reverse)).length_le
  have h3 := zw s
  simp only [List.length_reverse] at h1 h2
  omega
theorem qt0 : (strOfNums []).toList = ([] : List UInt8) := (qU _).2 rfl
theorem zx1 {s : ByteArray} : (lowB s).size = s.size := by
  unfold lowB
  rw [strOfNums_size, List.length_map, zw]
def digC (c : Int) : Bool := decide (48 ≤ c) && decide (c ≤ 57)
def valL : Int → List Int → Int
  | n, [] => n
  | n, c :: r => valL (n * 10 + (c - 48)) r
def satV : Int → List Int → Int
  | n, [] => n
  | n, c :: r => satV (mn (n * 10 + (c - 48)) 2147483648) r
def secP (l : List Int) : Int × Bool := if l.all digC = true then (satV 0 l, decide (0 < l.length)) else (0, false)
theorem qN {c : Int} : digC c = true ↔ 48 ≤ c ∧ c ≤ 57 := by unfold digC; rw [Bool.and_eq_true, decide_eq_true_eq, decide_eq_true_eq]
theorem mn_le {a b : Int} (h : a ≤ b) : mn a b = a := by unfold mn; split <;> omega
theorem mn_ge {a b : Int} (h : b ≤ a) : mn a b = b := by unfold mn; split <;> omega
theorem qK0 : ∀ (l : List Int) (n : Int), 0 ≤ n → l.all digC = true → n * 10 ^ l.length ≤ valL n l
  | [], n, _, _ => by simp [valL]
  | c :: r, n, h0, h => by
    rw [List.all_cons, Bool.and_eq_true, qN] at h
    have ih := qK0 r (n * 10 + (c - 48)) (by omega) h.2
    rw [valL, List.length_cons, Int.pow_succ]
    refine Int.le_trans ?_ ih
    have hp : (0 : Int) ≤ 10 ^ r.length := Int.le_of_lt (Int.pow_pos (by decide))
    have h2 : 0 ≤ (c - 48) * 10 ^ r.length := Int.mul_nonneg (by omega) hp
    have e : (n * 10 + (c - 48)) * 10 ^ r.length = n * (10 ^ r.length * 10) + (c - 48) * 10 ^ r.length := by
      rw [Int.add_mul, Int.mul_assoc, Int.mul_comm 10]
    rw [e]
    omega
theorem jm0 (l : List Int) (n : Int) (h0 : 0 ≤ n) (h : l.all digC = true) : n ≤ valL n l := by
  have h1 := qK0 l n h0 h
  have hp : (1 : Int) ≤ 10 ^ l.length := by have : (0 : Int) < 10 ^ l.length := Int.pow_pos (by decide); omega
  have h2 : n * 1 ≤ n * 10 ^ l.length := Int.mul_le_mul_of_nonneg_left hp h0
  omega
theorem vb0 : ∀ (l : List Int) (n : Int), 0 ≤ n → n ≤ 2147483648 → l.all digC = true → satV n l = mn (valL n l) 2147483648
  | [], n, _, h1, _ => by rw [satV, valL, mn_le h1]
  | c :: r, n, h0, h1, h => by
    have hh := h
    rw [List.all_cons, Bool.and_eq_true, qN] at hh
    rw [satV, valL]
    by_cases ha : n * 10 + (c - 48) ≤ 2147483648
    · rw [mn_le ha]
      exact vb0 r _ (by omega) ha hh.2
    · rw [mn_ge (by omega), vb0 r 2147483648 (by decide) (by decide) hh.2]
      have a1 := jm0 r 2147483648 (by decide) hh.2
      have a2 := jm0 r (n * 10 + (c - 48)) (by omega) hh.2
      rw [mn_ge a1, mn_ge (by omega)]
theorem vq0 : ∀ l : List Int, valL 0 (cutC 48 l) = valL 0 l
  | [] => rfl
  | c :: r => by
    by_cases h : c = 48
    · subst h
      have e : cutC 48 (48 :: r) = cutC 48 r := List.dropWhile_cons_of_pos (by decide)
      rw [e, vq0 r]
      rfl
    · have e : cutC 48 (c :: r) = c :: r := List.dropWhile_cons_of_neg (by simpa using h)
      rw [e]
theorem jH0 : ∀ l : List Int, cutC 48 l = [] ∨ ∃ c r, cutC 48 l = c :: r ∧ c ≠ 48
  | [] => .inl rfl
  | c :: r => by
    by_cases h : c = 48
    · subst h
      have e : cutC 48 (48 :: r) = cutC 48 r := List.dropWhile_cons_of_pos (by decide)
      rw [e]
      exact jH0 r
    · have e : cutC 48 (c :: r) = c :: r := List.dropWhile_cons_of_neg (by simpa using h)
      exact .inr ⟨c, r, e, h⟩
theorem vO0 {l : List Int} (h : l.all digC = true) : (cutC 48 l).all digC = true := by
  rw [List.all_eq_true] at h ⊢
  exact fun x hx => h x (List.dropWhile_sublist _ |>.mem hx)
theorem cutC_big {l : List Int} (h : l.all digC = true) (hl : 10 < (cutC 48 l).length) : 2147483648 ≤ valL 0 (cutC 48 l) := by
  have ha := vO0 h
  rcases jH0 l with e | ⟨c, r, e, hc⟩
  · rw [e] at hl; simp at hl
  · rw [e] at hl ha ⊢
    rw [List.all_cons, Bool.and_eq_true, qN] at ha
    rw [valL]
    have h1 := qK0 r (0 * 10 + (c - 48)) (by omega) ha.2
    have hp : (10 : Int) ^ 10 ≤ 10 ^ r.length := zr1 10 (by decide) (by simp at hl; omega)
    have h2 : 1 * (10 : Int) ^ r.length ≤ (0 * 10 + (c - 48)) * 10 ^ r.length := Int.mul_le_mul_of_nonneg_right (by omega) (by omega)
    have h3 : (10 : Int) ^ 10 = 10000000000 := by decide
    omega
theorem zD0 : ∀ (l : List UInt8) (n : Nat), (l.map fun b : UInt8 => (b.toNat : Int)).all digC = true → ∃ m : Nat, Lib.decFrom n l = some m ∧ (m : Int) = valL n (l.map fun b : UInt8 => (b.toNat : Int))
  | [], n, _ => ⟨n, rfl, rfl⟩
  | b :: r, n, h => by
    rw [List.map_cons, List.all_cons, Bool.and_eq_true, qN] at h
    obtain ⟨m, h1, h2⟩ := zD0 r (n * 10 + (b.toNat - 48)) h.2
    refine ⟨m, ?_, ?_⟩
    · rw [Lib.decFrom, Lib.digitVal, if_pos (by omega)]
      exact h1
    · rw [h2, List.map_cons, valL]
      congr 1
      omega
def nmTE : ByteArray := ⟨#[116, 114, 97, 110, 115, 102, 101, 114, 45, 101, 110, 99, 111, 100, 105, 110, 103]⟩
def nmCL : ByteArray := ⟨#[99, 111, 110, 116, 101, 110, 116, 45, 108, 101, 110, 103, 116, 104]⟩
def qx (l : List (ByteArray × ByteArray)) : Bool := qa l && decide (l.length < 12) && (getL nmTE l).isEmpty && (getL nmCL l).isEmpty
def respB (a : Int) (l : List (ByteArray × ByteArray)) (b : ByteArray) : Bool := decide (200 ≤ a ∧ a ≤ 599) && qx l && decide (b.size ≤ 60) && (decide (b = ⟨#[]⟩) || !decide (a = 204 ∨ a = 304))
def reqB (m u : ByteArray) (l : List (ByteArray × ByteArray)) (b : ByteArray) : Bool := tokB (bytesOf m) && decide (m.size ≤ 10) && uriB (bytesOf u) && qx l && decide (b.size ≤ 60)
theorem nil_beq (b : ByteArray) : (b.toList == ([] : List UInt8)) = decide (b = ⟨#[]⟩) := by
  rw [Bool.eq_iff_iff, beq_iff_eq, decide_eq_true_eq, qU]
theorem jD0 (n : Nat) : decide ((n : Int) ≤ 60) = decide (n ≤ 60) := by rw [decide_eq_decide]; omega
def dropL (nm : ByteArray) : List (ByteArray × ByteArray) → List (ByteArray × ByteArray)
  | [] => []
  | p :: r => if p.1 = nm then dropL nm r else p :: dropL nm r
theorem jR (nm : ByteArray) : ∀ l, (dropL nm l).length ≤ l.length
  | [] => by simp [dropL]
  | p :: r => by
    have := jR nm r
    rw [dropL]
    split
    · simp; omega
    · simp; omega
theorem vq (nm : ByteArray) : ∀ {l}, getL nm l = [] → dropL nm l = l
  | [], _ => rfl
  | p :: r, h => by
    rw [getL] at h
    split at h
    · cases h
    · rename_i hp
      rw [dropL, if_neg hp, vq nm h]
theorem hex_bt {c : Int} (h0 : 0 ≤ c) (h1 : c < 16) : bt (⟨#[48, 49, 50, 51, 52, 53, 54, 55, 56, 57, 97, 98, 99, 100, 101, 102]⟩ : ByteArray) c = hxn c := by
  have : c = 0 ∨ c = 1 ∨ c = 2 ∨ c = 3 ∨ c = 4 ∨ c = 5 ∨ c = 6 ∨ c = 7 ∨ c = 8 ∨ c = 9 ∨ c = 10 ∨ c = 11 ∨ c = 12 ∨ c = 13 ∨ c = 14 ∨ c = 15 := by omega
  rcases this with rfl | rfl | rfl | rfl | rfl | rfl | rfl | rfl | rfl | rfl | rfl | rfl | rfl | rfl | rfl | rfl <;> rfl
theorem qA0 (n : Int) : (hexNB n).size ≤ 16 := by
  unfold hexNB
  rw [strOfNums_size]
  have := xM0 16 n []
  simpa using this
def chkL (sz : Nat) : Nat → ByteArray → ByteArray
  | 0, _ => ⟨#[]⟩
  | d + 1, s => if s.size = 0 then ⟨#[]⟩ else hexNB (min sz s.size : Nat) ++ ⟨#[13, 10]⟩ ++ s.extract 0 (min sz s.size) ++ ⟨#[13, 10]⟩ ++ chkL sz d (s.extract (min sz s.size) s.size)
def chkB (s : ByteArray) (sz : Int) : ByteArray := if sz < 1 then ⟨#[]⟩ else chkL sz.toNat (s.size + 1) s ++ ⟨#[48, 13, 10, 13, 10]⟩
def nmCC : ByteArray := ⟨#[99, 97, 99, 104, 101, 45, 99, 111, 110, 116, 114, 111, 108]⟩
theorem jc0 (l sep : List Int) : ∃ n : Nat, (cutL l sep).1 = l.take n := by
  unfold cutL
  split
  · exact ⟨_, rfl⟩
  · exact ⟨l.length, by simp⟩
theorem jb0 (l sep : List Int) : ∃ n : Nat, (cutL l sep).2.1 = l.drop n := by
  unfold cutL
  split
  · exact ⟨_, rfl⟩
  · exact ⟨l.length, by simp⟩
def joinG (nm : ByteArray) (l : List (ByteArray × ByteArray)) : ByteArray := joinB ⟨#[44, 32]⟩ (getL nm l)
theorem qw0 (nm : ByteArray) (l : List (ByteArray × ByteArray)) {n : Int} (h0 : 0 ≤ n) (h : ¬ szF n l < 0) : ((joinG nm l).size : Int) ≤ 3 * n := by
  have h1 := xs0 nm h0 h
  have h2 := yy0 ⟨#[44, 32]⟩ (getL nm l)
  unfold joinG
  have e : ((getL nm l).map fun v => v.size + (⟨#[44, 32]⟩ : ByteArray).size) = (getL nm l).map fun v => v.size + 2 := rfl
  rw [e] at h2
  omega
def je0 : ByteArray := ⟨#[99, 104, 117, 110, 107, 101, 100]⟩
def lenP (q : Int × Bool) (s : ByteArray) : ByteArray × Int × Int := if q.2 = true ∧ q.1 ≤ 60 then (if (s.size : Int) < q.1 then (⟨#[]⟩, 0, 1) else (s.extract 0 q.1.toNat, q.1, 0)) else (⟨#[]⟩, 0, 2)
def bodyP (l : List (ByteArray × ByteArray)) (s : ByteArray) (c : Bool) : ByteArray × Int × Int :=
  if (!(getL nmTE l).isEmpty) = true then (if lowB (joinG nmTE l) = je0 then (if (!(getL nmCL l).isEmpty) = true then (⟨#[]⟩, 0, 2) else xi0 (bytesOf s)) else (⟨#[]⟩, 0, 2))
  else if (!(getL nmCL l).isEmpty) = true then lenP (secP (bytesOf (joinG nmCL l))) s
  else if c = true then (if (s.size : Int) > 60 then (⟨#[]⟩, 0, 2) else (s, (s.size : Int), 0)) else (⟨#[]⟩, 0, 0)
theorem zm1 : ∀ (l : List Int) (n : Int), 0 ≤ n → n ≤ 2147483648 → l.all digC = true → 0 ≤ satV n l ∧ satV n l ≤ 2147483648
  | [], n, h0, h1, _ => ⟨h0, h1⟩
  | c :: r, n, h0, h1, h => by
    rw [List.all_cons, Bool.and_eq_true, qN] at h
    rw [satV]
    exact zm1 r _ (by unfold mn; split <;> omega) (by unfold mn; split <;> omega) h.2
theorem zl1 (l : List Int) : 0 ≤ (secP l).1 ∧ (secP l).1 ≤ 2147483648 := by
  unfold secP
  split
  · rename_i h
    exact zm1 l 0 (by omega) (by omega) h
  · simp
theorem xR0 (b : ByteArray) : b.toList = ([99, 104, 117, 110, 107, 101, 100] : List UInt8) ↔ b = je0 := by
  rw [qd]
  constructor
  · intro h
    exact qm (h.trans rfl)
  · rintro rfl
    rfl
def ydL : Nat → Int → Int → Int × Int
  | 0, y, d => (y, d)
  | f + 1, y, d => if yearD y ≤ d then ydL f (y + 1) (d - yearD y) else (y, d)
def mdL (y : Int) : Nat → Int → Int → Int × Int
  | 0, m, d => (m, d)
  | f + 1, m, d => if qw y m ≤ d then mdL y f (m + 1) (d - qw y m) else (m, d)
theorem vo0 : ∀ (f : Nat) (y d : Int), 0 ≤ d → d < 365 * f → ∃ j : Nat, ydL f y d = (y + j, d - qc j y) ∧ 0 ≤ d - qc j y ∧ d - qc j y < yearD (y + j) ∧ j < f
  | 0, y, d, h0, h => by omega
  | f + 1, y, d, h0, h => by
    have hb := zN0 y
    rw [ydL]
    by_cases hd : yearD y ≤ d
    · rw [if_pos hd]
      obtain ⟨j, e, a1, a2, a3⟩ := vo0 f (y + 1) (d - yearD y) (by omega) (by omega)
      refine ⟨j + 1, ?_, ?_, ?_, by omega⟩
      · rw [e, qc]
        refine Prod.ext ?_ ?_
        · simp; omega
        · simp; omega
      · rw [qc]; omega
      · rw [qc, show y + ((j + 1 : Nat) : Int) = y + 1 + j by omega]; omega
    · rw [if_neg hd]
      exact ⟨0, by simp [qc], by simp [qc]; omega, by simp [qc]; omega, by omega⟩
def yearW (y : Int) : Int := xk y 12 1
theorem vn0 (y : Int) : yearW y = yearD y := by
  unfold yearW yearD
  simp only [xk, qw]
  cases leapB y <;> simp
theorem yM0 (y : Int) : ∀ (d : Nat) (m : Int), xk y (d + 1) m = xk y d m + qw y (m + d)
  | 0, m => by simp [xk]
  | d + 1, m => by
    rw [xk, yM0 y d (m + 1), xk, show m + 1 + (d : Int) = m + ((d + 1 : Nat) : Int) by omega]
    omega
theorem xo0 : ∀ (d : Nat) (y : Int), qc (d + 1) y = qc d y + yearD (y + d)
  | 0, y => by simp [qc]
  | d + 1, y => by
    rw [qc, xo0 d (y + 1), qc, show y + 1 + (d : Int) = y + ((d + 1 : Nat) : Int) by omega]
    omega
theorem vB0 (y : Int) : ∀ (f : Nat) (m d : Int), 0 ≤ d → d < xk y f m → ∃ j : Nat, mdL y f m d = (m + j, d - xk y j m) ∧ 0 ≤ d - xk y j m ∧ d - xk y j m < qw y (m + j) ∧ j < f
  | 0, m, d, h0, h => by simp [xk] at h; omega
  | f + 1, m, d, h0, h => by
    rw [xk] at h
    rw [mdL]
    by_cases hd : qw y m ≤ d
    · rw [if_pos hd]
      obtain ⟨j, e, a1, a2, a3⟩ := vB0 y f (m + 1) (d - qw y m) (by omega) (by omega)
      refine ⟨j + 1, ?_, ?_, ?_, by omega⟩
      · rw [e, xk]
        refine Prod.ext ?_ ?_
        · simp; omega
        · simp; omega
      · rw [xk]; omega
      · rw [xk, show m + ((j + 1 : Nat) : Int) = m + 1 + j by omega]; omega
    · rw [if_neg hd]
      exact ⟨0, by simp [xk], by simp [xk]; omega, by simp [xk]; omega, by omega⟩
def twoL (n : Int) : List Int := [48 + n / 10 % 10, 48 + n % 10]
def weekL (d : Int) : List Int := if d = 0 then [84, 104, 117] else if d = 1 then [70, 114, 105] else if d = 2 then [83, 97, 116] else if d = 3 then [83, 117, 110] else if d = 4 then [77, 111, 110] else if d = 5 then [84, 117, 101] else [87, 101, 100]
def monL (m : Int) : List Int := if m = 1 then [74, 97, 110] else if m = 2 then [70, 101, 98] else if m = 3 then [77, 97, 114] else if m = 4 then [65, 112, 114] else if m = 5 then [77, 97, 121] else if m = 6 then [74, 117, 110] else if m = 7 then [74, 117, 108] else if m = 8 then [65, 117, 103] else if m = 9 then [83, 101, 112] else if m = 10 then [79, 99, 116] else if m = 11 then [78, 111, 118] else [68, 101, 99]
def ymd (days : Int) : Int × Int × Int := ((ydL 70 1970 days).1, (mdL (ydL 70 1970 days).1 12 1 (ydL 70 1970 days).2).1, (mdL (ydL 70 1970 days).1 12 1 (ydL 70 1970 days).2).2 + 1)
theorem ymd_spec {days : Int} (h0 : 0 ≤ days) (h1 : days ≤ 23148) : 1970 ≤ (ymd days).1 ∧ (ymd days).1 ≤ 2033 ∧ 1 ≤ (ymd days).2.1 ∧ (ymd days).2.1 ≤ 12 ∧ 1 ≤ (ymd days).2.2 ∧ (ymd days).2.2 ≤ qw (ymd days).1 (ymd days).2.1 ∧
    days = (ymd days).2.2 - 1 + qc ((ymd days).1 - 1970).toNat 1970 + xk (ymd days).1 ((ymd days).2.1 - 1).toNat 1 := by
  obtain ⟨j, e, a1, a2, a3⟩ := vo0 70 1970 days h0 (by omega)
  have hy := vn0 (1970 + j)
  unfold yearW at hy
  obtain ⟨i, e2, b1, b2, b3⟩ := vB0 (1970 + j) 12 1 (days - qc j 1970) a1 (by omega)
  have hj := xp0 j 1970
  have ej : (1970 + (j : Int) - 1970).toNat = j := by omega
  have ei : (1 + (i : Int) - 1).toNat = i := by omega
  simp only [ymd, e, e2, ej, ei]
  omega
def dateL (sec : Int) : List Int :=
  weekL (sec / 86400 % 7) ++ [44, 32] ++ twoL (ymd (sec / 86400)).2.2 ++ [32] ++ monL (ymd (sec / 86400)).2.1 ++ [32] ++ decP (ymd (sec / 86400)).1 ++ [32] ++ twoL (sec / 3600 % 24) ++ [58] ++ twoL (sec / 60 % 60) ++ [58] ++ twoL (sec % 60) ++ [32, 71, 77, 84]
def dateB (sec : Int) : ByteArray := if 0 ≤ sec ∧ sec ≤ 2000000000 then strOfNums (dateL sec) else ⟨#[]⟩
theorem jE0 {y : Int} (h0 : 1000 ≤ y) (h1 : y ≤ 9999) : decP y = [48 + y / 1000, 48 + y / 100 % 10, 48 + y / 10 % 10, 48 + y % 10] := by
  unfold decP
  rw [if_neg (by omega), if_neg (by omega)]
  have e3 : y / 10 / 10 / 10 % 10 = y / 1000 := by omega
  have e2 : y / 10 / 10 % 10 = y / 100 % 10 := by omega
  rw [show (20 : Nat) = 15 + 1 + 1 + 1 + 1 + 1 from rfl, decL, if_pos (by omega), decL, if_pos (by omega), decL, if_pos (by omega), decL, if_pos (by omega), decL, if_neg (by omega), e3, e2]
theorem yG0 (d : Int) : (weekL d).length = 3 := by unfold weekL; (repeat' split) <;> rfl
theorem xE0 (m : Int) : (monL m).length = 3 := by unfold monL; (repeat' split) <;> rfl
theorem jG0 {sec : Int} (h0 : 0 ≤ sec) (h1 : sec ≤ 2000000000) : (dateL sec).length = 29 := by
  obtain ⟨a1, a2, _⟩ := ymd_spec (days := sec / 86400) (by omega) (by omega)
  unfold dateL
  rw [jE0 (by omega) (by omega)]
  simp only [List.length_append, yG0, xE0, twoL, List.length_cons, List.length_nil]
theorem zw1 {m : Int} (h1 : 1 ≤ m) (h2 : m ≤ 12) : rdOf ByteArray.empty ([(⟨#[74, 97, 110]⟩ : ByteArray), (⟨#[70, 101, 98]⟩ : ByteArray), (⟨#[77, 97, 114]⟩ : ByteArray), (⟨#[65, 112, 114]⟩ : ByteArray), (⟨#[77, 97, 121]⟩ : ByteArray), (⟨#[74, 117, 110]⟩ : ByteArray), (⟨#[74, 117, 108]⟩ : ByteArray), (⟨#[65, 117, 103]⟩ : ByteArray), (⟨#[83, 101, 112]⟩ : ByteArray), (⟨#[79, 99, 116]⟩ : ByteArray), (⟨#[78, 111, 118]⟩ : ByteArray), (⟨#[68, 101, 99]⟩ : ByteArray)] : List ByteArray) (m - 1) = strOfNums (monL m) := by
  have hm : m = 1 ∨ m = 2 ∨ m = 3 ∨ m = 4 ∨ m = 5 ∨ m = 6 ∨ m = 7 ∨ m = 8 ∨ m = 9 ∨ m = 10 ∨ m = 11 ∨ m = 12 := by omega
  rcases hm with rfl | rfl | rfl | rfl | rfl | rfl | rfl | rfl | rfl | rfl | rfl | rfl <;> rfl
theorem week_rd {d : Int} (h1 : 0 ≤ d) (h2 : d < 7) : rdOf ByteArray.empty ([(⟨#[84, 104, 117]⟩ : ByteArray), (⟨#[70, 114, 105]⟩ : ByteArray), (⟨#[83, 97, 116]⟩ : ByteArray), (⟨#[83, 117, 110]⟩ : ByteArray), (⟨#[77, 111, 110]⟩ : ByteArray), (⟨#[84, 117, 101]⟩ : ByteArray), (⟨#[87, 101, 100]⟩ : ByteArray)] : List ByteArray) d = strOfNums (weekL d) := by
  have hm : d = 0 ∨ d = 1 ∨ d = 2 ∨ d = 3 ∨ d = 4 ∨ d = 5 ∨ d = 6 := by omega
  rcases hm with rfl | rfl | rfl | rfl | rfl | rfl | rfl <;> rfl
theorem vp0 : ∀ (f j : Nat) (y d : Int), 0 ≤ d → d < 365 * f → ydL (f + j) y d = ydL f y d
  | 0, j, y, d, h0, h => by omega
  | f + 1, j, y, d, h0, h => by
    have hb := zN0 y
    rw [show f + 1 + j = (f + j) + 1 by omega, ydL, ydL]
    split
    · exact vp0 f j (y + 1) _ (by omega) (by omega)
    · rfl
def sub (l : List Int) (a n : Nat) : List Int := (l.drop a).take n
end Go.Proofs.YtbldejnlmpajeaaGreatDoor.Dom
namespace Go.Proofs.YtbldejnlmpajeaaGreatDoor.Ext
end Go.Proofs.YtbldejnlmpajeaaGreatDoor.Ext
namespace Go.Proofs.YtbldejnlmpajeaaGreatDoor.Glob
end Go.Proofs.YtbldejnlmpajeaaGreatDoor.Glob
namespace Go.Proofs.YtbldejnlmpajeaaGreatDoorW.PrintWords
open Go.RowKit
end Go.Proofs.YtbldejnlmpajeaaGreatDoorW.PrintWords
namespace Go.Proofs.YtbldejnlmpajeaaGreatDoorW.PrintLast
section
variable {ops : Array Oper} {a : Act} {o og : Oper} {g : Nat} {t : Tmp} {u : Bool}
end
end Go.Proofs.YtbldejnlmpajeaaGreatDoorW.PrintLast
namespace Go.Proofs.YtbldejnlmpajeaaGreatDoor.Ext
open Go.RowKit Go.Proofs.YtbldejnlmpajeaaGreatDoorW.PrintWords Go.Proofs.YtbldejnlmpajeaaGreatDoorW.PrintLast Go.Proofs.YtbldejnlmpajeaaGreatDoorW.PrintMore Go.Proofs.YtbldejnlmpajeaaGreatDoor.Aux Go.Proofs.YtbldejnlmpajeaaGreatDoor.Dom Go.Proofs.YtbldejnlmpajeaaGreatDoor.Glob
attribute [local go_sem] max2_int min2_int max_two min_two max_three min_three max_four min_four
def yV.f (a0 : ByteArray) (a1 : Int) : Option Int := if 0 ≤ a1 ∧ a1 < 256 then some (idxB (bytesOf a0) a1) else none
theorem yV.calls (a0 : ByteArray) (a1 : Int) (r : Int) (w : World) (h : yV.f a0 a1 = some r) :
    Calls Tryz.prog 74 #[.string a0, .int .u8 a1] w fun e w' => e = .returned (.int .i64 r) ∧ Drawn0 w w' := by
  have hr : 0 ≤ a1 ∧ a1 < 256 := by
    unfold yV.f at h
    split at h
    · assumption
    · cases h
  unfold yV.f at h
  rw [if_pos hr] at h
  obtain rfl := Option.some.inj h
  refine (Tryz.strings_IndexByte a0 a1 w).mono ?_
  rintro e w' ⟨rfl, rfl⟩
  exact ⟨by rw [idxB_lib a0 a1 hr.1 hr.2], Drawn0.refl _⟩
def xl.f (a0 : ByteArray) : Option ByteArray := if a0.size ≤ 8388608 then some (strOfNums ((bytesOf a0).map lowC)) else none
theorem xl.calls (a0 : ByteArray) (r : ByteArray) (w : World) (h : xl.f a0 = some r) :
    Calls Tryz.prog 54 #[.string a0] w fun e w' => e = .returned (.string r) ∧ Below w.heap.size w w' := by
  have hs : a0.size ≤ 8388608 := by
    unfold xl.f at h
    split at h
    · assumption
    · cases h
  have hr : strOfNums ((bytesOf a0).map lowC) = r := by
    unfold xl.f at h
    rw [if_pos hs] at h
    exact Option.some.inj h
  clear h
  have kb := fun W => xC0 (P := Tryz.prog) 9 22 5 Tryz.underlying9 Tryz.underlying22 Tryz.underlying5 a0 W
  generalize grownCap w a0.size 0 5 = cp at kb
  have hbelow : Below w.heap.size w (Lib.bytesWorld w 5 a0) := zH0 (Below.refl _ _) (Nat.le_refl _) _ _
  have hcell0 : ∀ j : Nat, j < a0.size → (Lib.bytesWorld w 5 a0).cell? ⟨w.heap.size, j, none⟩ = some (.int .u8 (lowAt a0 0 j)) ∧ (Lib.bytesWorld w 5 a0).frozen? ⟨w.heap.size, j, none⟩ = false := by
    intro j hj
    refine ⟨?_, yS0 w _ a0 j hj⟩
    rw [Lib.bytesWorld_cell w _ a0 j hj]
    simp only [lowAt, Nat.not_lt_zero, if_false]
    rw [qF0 a0 j (by rw [zw]; exact hj)]
    simp [bytesOf, List.getD_eq_getElem?_getD, hj]
  go_enter Tryz.func54, Tryz.ntmps54
  go_wp2
  generalize grownCap w a0.size 0 5 = cp at kb ⊢
  clear kb
  go_loopw [10] (fun v10 wr => ∃ k : Nat, k ≤ a0.size ∧ v10 = .int .i64 k ∧ (∀ j : Nat, j < a0.size → wr.cell? ⟨w.heap.size, j, none⟩ = some (.int .u8 (lowAt a0 k j)) ∧ wr.frozen? ⟨w.heap.size, j, none⟩ = false) ∧ Below w.heap.size w wr ∧ w.heap.size < wr.heap.size) (fun v10 _ => a0.size - (intOf v10).toNat)
  case atStart => exact ⟨0, Nat.zero_le _, rfl, hcell0, hbelow, by rw [Lib.bytesWorld_size]; omega⟩
  case round =>
    obtain ⟨k, hk, rfl, hc, hb, hsz⟩ := hrel
    by_cases hlt : k < a0.size
    · obtain ⟨hck, hfk⟩ := hc k hlt
      have hHc := Aside0.mk hc
      have hHb := Aside0.mk hb
      clear hc hb hcell0 hbelow
      have hbd := vB a0 k
      have hck' : wr.cell? ⟨w.heap.size, k, none⟩ = some (.int .u8 (bt a0 k)) := by rw [hck]; simp [lowAt]
      clear hck
      generalize hbt : bt a0 (k : Int) = c at hck' hbd
      by_cases h1 : 65 ≤ c
      · by_cases h2 : c ≤ 90
        · have d1 : decide (65 ≤ c) = true := decide_eq_true h1
          have d2 : decide (c ≤ 90) = true := decide_eq_true h2
          go_wp2
          go_roundw
          case measure => simp [intOf]; omega
          case rel => exact ⟨k + 1, hlt, rfl, vx0 hHc.out hlt (by rw [lowAt, if_pos (by omega), hbt, lowC, if_pos ⟨h1, h2⟩]; omega) (fun j hj => by simp only [lowAt]; by_cases hjk : j < k; rw [if_pos (by omega), if_pos hjk]; rw [if_neg (by omega), if_neg hjk]), hHb.out.setCell (Nat.le_refl _) _, by simpa [World.setCell] using hsz⟩
        · have d1 : decide (65 ≤ c) = true := decide_eq_true h1
          have d2 : decide (c ≤ 90) = false := decide_eq_false h2
          go_wp2
          go_roundw
          case measure => simp [intOf]; omega
          case rel => exact ⟨k + 1, hlt, rfl, fun j hj => by rw [show lowAt a0 (k + 1) j = lowAt a0 k j from by simp only [lowAt]; by_cases hjk : j < k; rw [if_pos (by omega), if_pos hjk]; by_cases hje : j = k; subst hje; rw [if_pos (by omega), if_neg hjk, hbt, lowC, if_neg (fun hh => h2 hh.2)]; rw [if_neg (by omega), if_neg hjk]]; exact hHc.out j hj, hHb.out, hsz⟩
      · have d1 : decide (65 ≤ c) = false := decide_eq_false h1
        go_wp2
        go_roundw
        case measure => simp [intOf]; omega
        case rel => exact ⟨k + 1, hlt, rfl, fun j hj => by rw [show lowAt a0 (k + 1) j = lowAt a0 k j from by simp only [lowAt]; by_cases hjk : j < k; rw [if_pos (by omega), if_pos hjk]; by_cases hje : j = k; subst hje; rw [if_pos (by omega), if_neg hjk, hbt, lowC, if_neg (fun hh => h1 hh.1)]; rw [if_neg (by omega), if_neg hjk]]; exact hHc.out j hj, hHb.out, hsz⟩
    · obtain rfl : k = a0.size := by omega
      have kc : (convert 22 9 (.slice (some ⟨w.heap.size, 0, none⟩) a0.size cp)).run Tryz.prog wr = .ok (.string r) wr := by
        rw [← hr]
        refine run_convert_bytes_arg wr 22 5 Tryz.underlying22 Tryz.underlying5 w.heap.size 0 a0.size cp _ (by rw [List.length_map, zw]) (fun i hi => ?_) 9 Tryz.underlying9
        rw [Nat.zero_add, (hc i hi).1, lowAt, if_pos hi]
        rw [qF0 a0 i (by rw [zw]; exact hi)]
        simp [List.getD_eq_getElem?_getD, zw, hi]
      have hHb := Aside0.mk hb
      clear hc hb hcell0 hbelow
      go_wp2
      go_ret
      exact ⟨rfl, hHb.out⟩
def qh.f (a0 : ByteArray) (a1 : ByteArray) : Option (ByteArray) := if a0.size ≤ 8388608 ∧ a1 = ⟨#[32, 9]⟩ then some (trimB a0) else none
theorem qh.calls (a0 : ByteArray) (a1 : ByteArray) (r : ByteArray) (w : World) (h : qh.f a0 a1 = some r) :
    Calls Tryz.prog 106 #[.string a0, .string a1] w fun e w' => e = .returned (.string r) ∧ Below w.heap.size w w' := by
  have hs : a0.size ≤ 8388608 ∧ a1 = ⟨#[32, 9]⟩ := by
    unfold qh.f at h
    split at h
    · assumption
    · cases h
  unfold qh.f at h
  rw [if_pos hs] at h
  have h := Option.some.inj h
  subst h
  obtain ⟨h1, rfl⟩ := hs
  refine (Any.strings_Trim_laid jQ0 (by kernel_rfl) a0 ⟨#[32, 9]⟩ w (by omega) (by decide) (ascii_of_all (by decide))).mono ?_
  rintro e w' ⟨rfl, hb⟩
  exact ⟨by rw [trim_lib], hb⟩
def qp.f (a0 : List ByteArray) (a1 : ByteArray) : Option (ByteArray) := if a0.length ≤ 8796093022208 ∧ (joinB a1 a0).size ≤ 8796093022208 then some (joinB a1 a0) else none
theorem qp.calls (A0 : Option Addr) (c0 : Nat) (a0 : List ByteArray) (a1 : ByteArray) (r : ByteArray) (w : World) (hC : Kd.string.C w A0 a0.length a0) (hc : a0.length ≤ c0) (h : qp.f a0 a1 = some r) :
    Calls Tryz.prog 88 #[.slice A0 a0.length c0, .string a1] w fun e w' => e = .returned (.string r) ∧ Below w.heap.size w w' := by
  have hs : a0.length ≤ 8796093022208 ∧ (joinB a1 a0).size ≤ 8796093022208 := by
    unfold qp.f at h
    split at h
    · assumption
    · cases h
  unfold qp.f at h
  rw [if_pos hs] at h
  have h := Option.some.inj h
  subst h
  cases a0 with
  | nil =>
    refine (Tryz.strings_Join_none A0 c0 a1 w).mono ?_
    rintro e w' ⟨rfl, rfl⟩
    exact ⟨rfl, Below.refl _ _⟩
  | cons x r =>
    obtain ⟨g, o, rfl, hsz, hcell⟩ := row_form hC
    have hlen : (Lib.join ((x :: r).map (·.data.toList)) a1.data.toList).length ≤ 140737488355328 := by
      have e := jC0 a1 (x :: r)
      have e2 : (joinB a1 (x :: r)).size = (Lib.join ((x :: r).map (·.data.toList)) a1.data.toList).length := by rw [← e]; simp [ByteArray.size]
      omega
    refine (Tryz.strings_Join g o c0 (x :: r) a1 w hcell hsz (by omega) hc hlen).mono ?_
    rintro e w' ⟨rfl, hb⟩
    exact ⟨by rw [jC0], hb⟩
def qi.f (a0 : Int) : Option (ByteArray) := if -9223372036854775808 ≤ a0 ∧ a0 ≤ 9223372036854775807 then some (decB a0) else none
theorem qi.calls (a0 : Int) (r : ByteArray) (w : World) (hGPow : GPow w) (h : qi.f a0 = some r) :
    Calls Tryz.prog 63 #[.int .i64 a0] w fun e w' => e = .returned (.string r) ∧ Below w.heap.size w w' := by
  have hs : -9223372036854775808 ≤ a0 ∧ a0 ≤ 9223372036854775807 := by
    unfold qi.f at h
    split at h
    · assumption
    · cases h
  unfold qi.f at h
  rw [if_pos hs] at h
  have h := Option.some.inj h
  subst h
  refine (Tryz.strconv_Itoa a0 hs.1 hs.2 w hGPow).mono ?_
  rintro e w' ⟨rfl, k, os, rfl⟩
  exact ⟨by rw [itoa_lib a0 hs.1 hs.2], Lib.below_grow _ w (Nat.le_refl _) k os⟩
def xo.f (a0 : ByteArray) (a1 : ByteArray) : Option Bool := if a0.size ≤ 8388608 then some (decide (0 ≤ idxS (bytesOf a0) (bytesOf a1))) else none
theorem xo.calls (a0 : ByteArray) (a1 : ByteArray) (r : Bool) (w : World) (hGMax : GMax w) (h : xo.f a0 a1 = some r) :
    Calls Tryz.prog 48 #[.string a0, .string a1] w fun e w' => e = .returned (.bool r) ∧ Drawn0 w w' := by
  have hs : a0.size ≤ 8388608 := by
    unfold xo.f at h
    split at h
    · assumption
    · cases h
  unfold xo.f at h
  rw [if_pos hs] at h
  obtain rfl := Option.some.inj h
  obtain ⟨m, hm⟩ := hGMax
  refine (Tryz.strings_Contains a0 a1 m w (by omega) hm).mono ?_
  rintro e w' ⟨rfl, rfl⟩
  refine ⟨?_, Drawn0.refl _⟩
  unfold Lib.contains
  rw [vG0]
  rfl
def yM.f (a0 : ByteArray) (a1 : ByteArray) : Option (ByteArray × ByteArray × Bool) := if a0.size ≤ 8388608 then some (strOfNums (cutL (bytesOf a0) (bytesOf a1)).1, strOfNums (cutL (bytesOf a0) (bytesOf a1)).2.1, (cutL (bytesOf a0) (bytesOf a1)).2.2) else none
theorem yM.calls (a0 : ByteArray) (a1 : ByteArray) (r1 : ByteArray) (r2 : ByteArray) (r3 : Bool) (w : World) (hGMax : GMax w) (h : yM.f a0 a1 = some (r1, r2, r3)) :
    Calls Tryz.prog 49 #[.string a0, .string a1] w fun e w' => e = .returned (.tuple #[.string r1, .string r2, .bool r3]) ∧ Below w.heap.size w w' := by
  have hs : a0.size ≤ 8388608 := by
    unfold yM.f at h
    split at h
    · assumption
    · cases h
  unfold yM.f at h
  rw [if_pos hs] at h
  have h := Option.some.inj h
  simp only [Prod.mk.injEq] at h
  obtain ⟨rfl, rfl, rfl⟩ := h
  obtain ⟨m, hm⟩ := hGMax
  refine (Tryz.strings_Cut a0 a1 m w (by omega) hm).mono ?_
  rintro e w' ⟨rfl, n, rfl⟩
  obtain ⟨e1, e2, e3⟩ := cutL_lib a0 a1
  exact ⟨by rw [e1, e2, e3], yH (Below.refl _ _) n⟩
def zk.idxA : List Int → List Int → Int
  | [], _ => -1
  | b :: l, cs => if cs.contains b = true then 0 else if zk.idxA l cs = -1 then -1 else zk.idxA l cs + 1
theorem zk.idxA_lib (cs : List UInt8) : ∀ l : List UInt8, Lib.indexAny l cs = zk.idxA (l.map fun b => (b.toNat : Int)) (cs.map fun b => (b.toNat : Int))
  | [] => rfl
  | b :: l => by
    have e : (cs.map fun b => (b.toNat : Int)).contains ((b.toNat : Nat) : Int) = cs.contains b := by
      rw [Bool.eq_iff_iff, List.contains_iff_mem, List.contains_iff_mem, List.mem_map]
      constructor
      · rintro ⟨c, hc, h⟩
        have : c = b := UInt8.toNat_inj.1 (by omega)
        exact this ▸ hc
      · exact fun h => ⟨b, h, rfl⟩
    rw [Lib.indexAny, List.map_cons, zk.idxA, e, zk.idxA_lib cs l]
    simp only [beq_iff_eq]
def zk.okA (l : List Int) : Bool := l.all fun c => decide (c < 128)
def zk.f (a0 : ByteArray) (a1 : ByteArray) : Option Int := if a0.size ≤ 8388608 ∧ 2 ≤ a1.size ∧ a1.size ≤ 8388608 ∧ (8 < a0.size ∨ zk.okA (bytesOf a0) = true) ∧ zk.okA (bytesOf a1) = true then some (zk.idxA (bytesOf a0) (bytesOf a1)) else none
theorem zk.okA_ascii {s : ByteArray} (h : zk.okA (bytesOf s) = true) : ∀ (j : Nat) b, s.data.toList[j]? = some b → b.toNat < 128 := by
  intro j b hb
  have h1 := List.all_eq_true.1 h ((b.toNat : Nat) : Int) (by
    unfold bytesOf
    exact List.mem_map.2 ⟨b, List.mem_of_getElem? hb, rfl⟩)
  have := of_decide_eq_true h1
  omega
theorem zk.calls (a0 : ByteArray) (a1 : ByteArray) (r : Int) (w : World) (h : zk.f a0 a1 = some r) :
    Calls Tryz.prog 50 #[.string a0, .string a1] w fun e w' => e = .returned (.int .i64 r) ∧ Below w.heap.size w w' := by
  have hs : a0.size ≤ 8388608 ∧ 2 ≤ a1.size ∧ a1.size ≤ 8388608 ∧ (8 < a0.size ∨ zk.okA (bytesOf a0) = true) ∧ zk.okA (bytesOf a1) = true := by
    unfold zk.f at h
    split at h
    · assumption
    · cases h
  unfold zk.f at h
  rw [if_pos hs] at h
  obtain rfl := Option.some.inj h
  obtain ⟨h1, h2, h3, h4, h5⟩ := hs
  have e := zk.idxA_lib a1.data.toList a0.data.toList
  have hv : ∀ w, (zeroValue 98).run Tryz.prog w = .ok (.agg (Array.replicate 256 (.bool false))) w := (zero_of_info (n := 256) (by kernel_rfl)).1
  by_cases h8 : 8 < a0.size
  · refine (Tryz.strings_IndexAny_long hv a0 a1 w h2 h8 (by omega) (by omega) (zk.okA_ascii h5)).mono ?_
    rintro e1 w' ⟨rfl, rfl⟩
    exact ⟨by rw [e]; rfl, ((Below.refl _ _).alloc (Nat.le_refl _) _).alloc (by simp) _⟩
  · refine (Tryz.strings_IndexAny_short a0 a1 w h2 (by omega) (zk.okA_ascii (h4.resolve_left h8))).mono ?_
    rintro e1 w' ⟨rfl, pos, rfl⟩
    exact ⟨by rw [e]; rfl, (Below.refl _ _).alloc (Nat.le_refl _) _⟩
def xh.f (a0 : ByteArray) : Option (Int × Option Int) :=
  if a0.size ≤ 8388608 then (match Lib.atoiAll a0.data.toList with
    | .ok v => some (v, none)
    | .range => some (Lib.atoiSat a0.data.toList, some 0)
    | _ => some (0, some 0)) else none
theorem xh.calls (a0 : ByteArray) (r1 : Int) (r2 : Option Int) (w : World) (hGErr : GErr w) (h : xh.f a0 = some (r1, r2)) :
    Calls Tryz.prog 64 #[.string a0] w fun e w' => ∃ ev : Value, e = .returned (.tuple #[.int .i64 r1, ev]) ∧ (r2 = none → ev = .nilIface) ∧ (∀ c, r2 = some c → ∃ t p, ev = .iface t p) ∧ Below w.heap.size w w' := by
  have hs : a0.size ≤ 8388608 := by
    unfold xh.f at h
    split at h
    · assumption
    · cases h
  unfold xh.f at h
  rw [if_pos hs] at h
  obtain ⟨⟨t1, p1, h1⟩, t2, p2, h2⟩ := hGErr
  cases hc : Lib.atoiAll a0.data.toList with
  | ok v =>
    rw [hc] at h
    simp only [Option.some.injEq, Prod.mk.injEq] at h
    obtain ⟨rfl, rfl⟩ := h
    refine (Any.strconv_Atoi_ok jp a0 (by omega) v hc w).mono ?_
    rintro e w' ⟨rfl, hw⟩
    refine ⟨_, rfl, fun _ => rfl, fun c hh => (by cases hh), ?_⟩
    rcases hw with rfl | ⟨t, rfl⟩
    · exact Below.refl _ _
    · exact zH0 (Below.refl _ _) (Nat.le_refl _) _ _
  | range =>
    rw [hc] at h
    simp only [Option.some.injEq, Prod.mk.injEq] at h
    obtain ⟨rfl, rfl⟩ := h
    refine (Any.strconv_Atoi_range_var jp a0 (by omega) hc t2 p2 w h2).mono ?_
    rintro e w' ⟨N, rfl, _, _, hb⟩
    exact ⟨_, rfl, fun hh => (by cases hh), fun c _ => ⟨_, _, rfl⟩, hb⟩
  | _ =>
    rw [hc] at h
    simp only [Option.some.injEq, Prod.mk.injEq] at h
    obtain ⟨rfl, rfl⟩ := h
    refine (Any.strconv_Atoi_syntax_var jp a0 (by omega) hc t1 p1 w h1).mono ?_
    rintro e w' ⟨N, rfl, _, _, hb⟩
    exact ⟨_, rfl, fun hh => (by cases hh), fun c _ => ⟨_, _, rfl⟩, hb⟩
def xz.f (a0 : ByteArray) (a1 : ByteArray) : Option (ByteArray) := if a1 = ⟨#[48]⟩ then some (strOfNums (cutC 48 (bytesOf a0))) else none
theorem xz.calls (a0 : ByteArray) (a1 : ByteArray) (r : ByteArray) (w : World) (h : xz.f a0 a1 = some r) :
    Calls Tryz.prog 90 #[.string a0, .string a1] w fun e w' => e = .returned (.string r) ∧ Below w.heap.size w w' := by
  have hs : a1 = ⟨#[48]⟩ := by
    unfold xz.f at h
    split at h
    · assumption
    · cases h
  unfold xz.f at h
  rw [if_pos hs] at h
  have h := Option.some.inj h
  subst h
  subst hs
  refine (Tryz.strings_TrimLeft_one a0 48 (by decide) w).mono ?_
  rintro e w' ⟨rfl, rfl⟩
  exact ⟨by rw [jo0]; rfl, Below.refl _ _⟩
def xW.f (a0 : Int) : Option Bool := if 0 ≤ a0 ∧ a0 < 256 then some (tokC a0) else none
theorem xA {P : Program} {ops : Array Oper} {Q : Exit → Act → World → Prop} {rest : List Oper} {o : Oper} {a : Act} {w : World} {d : Nat} (v : Value) (hd : o.dst = some d) (hrun : (execOp a.eval o).run P w = .ok (.value v) w) (hw : Region.wanted o (yielded ops a.tmps) = true)
    (h : wpList P ops Q rest ⟨a.tmps.setIfInBounds d v, a.defers⟩ w) : wpList P ops Q (o :: rest) a w := by
  refine wpList_step fun K hK => ?_
  rw [if_pos hw]
  unfold Oper.wp
  rw [hrun, Oper.upon_value]
  refine hK _ _ ?_
  have e : a.put o.dst v = ⟨a.tmps.setIfInBounds d v, a.defers⟩ := by rw [hd]; rfl
  rw [e]; exact h
theorem qo {P : Program} {ops : Array Oper} {Q : Exit → Act → World → Prop} {rest : List Oper} {o : Oper} {a : Act} {w : World} {d : Nat} (hd : o.dst = some d) (hw : Region.wanted o (yielded ops a.tmps) = false)
    (h : wpList P ops Q rest ⟨a.tmps.setIfInBounds d undef, a.defers⟩ w) : wpList P ops Q (o :: rest) a w := by
  refine wpList_step fun K hK => ?_
  rw [if_neg (by rw [hw]; decide)]
  refine hK _ _ ?_
  have e : a.put o.dst undef = ⟨a.tmps.setIfInBounds d undef, a.defers⟩ := by rw [hd]; rfl
  rw [e]; exact h
theorem yD (T : Array Value) (d : Nat) (v : Value) (h : d < T.size) : (T.setIfInBounds d v)[d]? = some v := by simp [h]
theorem zq (T : Array Value) (d e : Nat) (v x : Value) (h : T[e]? = some x) (hne : e ≠ d) : (T.setIfInBounds d v)[e]? = some x := by
  rw [Array.getElem?_setIfInBounds_ne (fun hh => hne hh.symm)]; exact h
theorem xN {T : Array Value} {D : List Deferred} {t : Nat} {v : Value} (h : T[t]? = some v) : Act.eval ⟨T, D⟩ (.tmp t) = v := by
  simp [Act.eval, Array.getD_eq_getD_getElem?, h]
theorem jm {P : Program} {T : Array Value} {D : List Deferred} {w : World} {o : Oper} {t : Nat} {v : Value} (ho : o.op = .move (.tmp t)) (h : T[t]? = some v) : (execOp (Act.eval ⟨T, D⟩) o).run P w = .ok (.value v) w := by
  have e := xN (D := D) h
  unfold execOp
  rw [ho]
  simp [e]
theorem vT0 {P : Program} {T : Array Value} {D : List Deferred} {w : World} {o : Oper} {t : Nat} {v : Value} (ho : o.op = .assign (.tmp t)) (h : T[t]? = some v) : (execOp (Act.eval ⟨T, D⟩) o).run P w = .ok (.value v) w := by
  have e := xN (D := D) h
  unfold execOp
  rw [ho]
  simp [e]
theorem jl {P : Program} {T : Array Value} {D : List Deferred} {w : World} {o : Oper} {x : Operand} {y z : Operand} {b : Bool} (ho : o.op = .pick x y z) (h : Act.eval ⟨T, D⟩ x = .bool b) : (execOp (Act.eval ⟨T, D⟩) o).run P w = .ok (.value (if b then Act.eval ⟨T, D⟩ y else Act.eval ⟨T, D⟩ z)) w := by
  unfold execOp
  rw [ho]
  cases b <;> simp [h] <;> rfl
theorem run_eql {T : Array Value} {D : List Deferred} {w : World} {o : Oper} {t : Nat} {c n : Int} (ho : o.op = .binOp .eql 5 (.tmp t) (.const (.int .u8 n)) 5) (h : T[t]? = some (.int .u8 c)) : (execOp (Act.eval ⟨T, D⟩) o).run Tryz.prog w = .ok (.value (.bool (c == n))) w := by
  have e := xN (D := D) h
  unfold execOp
  rw [ho]
  go_simp
theorem zo1 {T : Array Value} {D : List Deferred} {w : World} {o : Oper} {t : Nat} {c n : Int} (ho : o.op = .binOp .geq 5 (.tmp t) (.const (.int .u8 n)) 5) (h : T[t]? = some (.int .u8 c)) : (execOp (Act.eval ⟨T, D⟩) o).run Tryz.prog w = .ok (.value (.bool (decide (n ≤ c)))) w := by
  have e := xN (D := D) h
  unfold execOp
  rw [ho]
  go_simp
theorem zn1 {T : Array Value} {D : List Deferred} {w : World} {o : Oper} {t : Nat} {c n : Int} (ho : o.op = .binOp .leq 5 (.tmp t) (.const (.int .u8 n)) 5) (h : T[t]? = some (.int .u8 c)) : (execOp (Act.eval ⟨T, D⟩) o).run Tryz.prog w = .ok (.value (.bool (decide (c ≤ n)))) w := by
  have e := xN (D := D) h
  unfold execOp
  rw [ho]
  go_simp
theorem xL {ops : Array Oper} {T : Array Value} {j s : Nat} {b : Bool} (hj : (ops[j]?).bind (·.dst) = some s) (h : T[s]? = some (.bool b)) : yielded ops T j = some b := by
  simp only [yielded, hj, Option.bind_some, h]
theorem xn0 {ops : Array Oper} {T : Array Value} {j s : Nat} (hj : (ops[j]?).bind (·.dst) = some s) (h : T[s]? = some undef) : yielded ops T j = none := by
  simp only [yielded, hj, Option.bind_some, h, undef]
theorem qn {o : Oper} {f : Nat → Option Bool} (h : o.guard = none) : Region.wanted o f = true := by simp only [Region.wanted, h]
theorem xv {o : Oper} {f : Nat → Option Bool} {j : Nat} {b c : Bool} (h : o.guard = some (j, b)) (hf : f j = some c) : Region.wanted o f = (c == b) := by
  simp only [Region.wanted, h, hf]
  cases b <;> cases c <;> rfl
theorem qg0 {o : Oper} {f : Nat → Option Bool} {j : Nat} {b : Bool} (h : o.guard = some (j, b)) (hf : f j = none) : Region.wanted o f = false := by
  simp only [Region.wanted, h, hf]
  cases b <;> rfl
theorem qA {ops : Array Oper} {Q : Exit → Act → World → Prop} {rest : List Oper} {T : Array Value} {D : List Deferred} {w : World} {o1 o2 o3 o4 : Oper} (s j : Nat) (n c : Int) (B : Bool)
    (d1 : o1.dst = some (s + 1)) (g1 : o1.guard = none) (p1 : o1.op = .move (.tmp s))
    (d2 : o2.dst = some (s + 2)) (g2 : o2.guard = some (j, false)) (p2 : o2.op = .move (.tmp 0))
    (d3 : o3.dst = some (s + 3)) (g3 : o3.guard = some (j, false)) (p3 : o3.op = .binOp .eql 5 (.tmp (s + 2)) (.const (.int .u8 n)) 5)
    (d4 : o4.dst = some (s + 4)) (g4 : o4.guard = none) (p4 : o4.op = .pick (.tmp (s + 1)) (.const (.bool true)) (.tmp (s + 3)))
    (hj : (ops[j]?).bind (·.dst) = some (s + 1)) (hN : T.size = 85) (hs : s + 4 < 85) (h0 : T[0]? = some (.int .u8 c)) (hB : T[s]? = some (.bool B)) (hs0 : 0 < s)
    (k : ∀ T' : Array Value, T'.size = 85 → T'[0]? = some (.int .u8 c) → T'[s + 4]? = some (.bool (B || c == n)) → wpList Tryz.prog ops Q rest ⟨T', D⟩ w) :
    wpList Tryz.prog ops Q (o1 :: o2 :: o3 :: o4 :: rest) ⟨T, D⟩ w := by
  refine xA (.bool B) d1 (jm p1 hB) (qn g1) ?_
  have hN1 : (T.setIfInBounds (s + 1) (.bool B)).size = 85 := by simpa using hN
  have z1 := zq T (s + 1) 0 (.bool B) _ h0 (by omega)
  have y1 := yD T (s + 1) (.bool B) (by omega)
  have w1 : yielded ops (T.setIfInBounds (s + 1) (.bool B)) j = some B := xL hj y1
  generalize T.setIfInBounds (s + 1) (.bool B) = T1 at hN1 z1 y1 w1
  cases B with
  | true =>
    refine qo d2 (by rw [xv g2 w1]; rfl) ?_
    have hN2 : (T1.setIfInBounds (s + 2) undef).size = 85 := by simpa using hN1
    have z2 := zq T1 (s + 2) 0 undef _ z1 (by omega)
    have y2 := zq T1 (s + 2) (s + 1) undef _ y1 (by omega)
    generalize T1.setIfInBounds (s + 2) undef = T2 at hN2 z2 y2
    refine qo d3 (by rw [xv g3 (xL hj y2)]; rfl) ?_
    have hN3 : (T2.setIfInBounds (s + 3) undef).size = 85 := by simpa using hN2
    have z3 := zq T2 (s + 3) 0 undef _ z2 (by omega)
    have y3 := zq T2 (s + 3) (s + 1) undef _ y2 (by omega)
    generalize T2.setIfInBounds (s + 3) undef = T3 at hN3 z3 y3
    refine xA (.bool true) d4 (jl p4 (xN y3)) (qn g4) ?_
    exact k _ (by simpa using hN3) (zq _ _ _ _ _ z3 (by omega)) ((yD T3 _ _ (by omega)).trans rfl)
  | false =>
    refine xA (.int .u8 c) d2 (jm p2 z1) (by rw [xv g2 w1]; rfl) ?_
    have hN2 : (T1.setIfInBounds (s + 2) (.int .u8 c)).size = 85 := by simpa using hN1
    have z2 := zq T1 (s + 2) 0 (.int .u8 c) _ z1 (by omega)
    have y2 := zq T1 (s + 2) (s + 1) (.int .u8 c) _ y1 (by omega)
    have x2 := yD T1 (s + 2) (.int .u8 c) (by omega)
    generalize T1.setIfInBounds (s + 2) (.int .u8 c) = T2 at hN2 z2 y2 x2
    refine xA (.bool (c == n)) d3 (run_eql p3 x2) (by rw [xv g3 (xL hj y2)]; rfl) ?_
    have hN3 : (T2.setIfInBounds (s + 3) (.bool (c == n))).size = 85 := by simpa using hN2
    have z3 := zq T2 (s + 3) 0 (.bool (c == n)) _ z2 (by omega)
    have y3 := zq T2 (s + 3) (s + 1) (.bool (c == n)) _ y2 (by omega)
    have x3 := yD T2 (s + 3) (.bool (c == n)) (by omega)
    generalize T2.setIfInBounds (s + 3) (.bool (c == n)) = T3 at hN3 z3 y3 x3
    have hp := jl (P := Tryz.prog) (D := D) (w := w) p4 (xN y3)
    rw [if_neg (by decide), xN x3] at hp
    refine xA (.bool (c == n)) d4 hp (qn g4) ?_
    exact k _ (by simpa using hN3) (zq _ _ _ _ _ z3 (by omega)) ((yD T3 _ _ (by omega)).trans rfl)
theorem andBlock {ops : Array Oper} {Q : Exit → Act → World → Prop} {rest : List Oper} {T : Array Value} {D : List Deferred} {w : World} {o1 o2 o3 o4 o5 o6 : Oper} (s j : Nat) (lo hi c : Int)
    (d1 : o1.dst = some (s + 1)) (g1 : o1.guard = none) (p1 : o1.op = .move (.tmp 0))
    (d2 : o2.dst = some (s + 2)) (g2 : o2.guard = none) (p2 : o2.op = .binOp .geq 5 (.tmp (s + 1)) (.const (.int .u8 lo)) 5)
    (d3 : o3.dst = some (s + 3)) (g3 : o3.guard = none) (p3 : o3.op = .move (.tmp (s + 2)))
    (d4 : o4.dst = some (s + 4)) (g4 : o4.guard = some (j, true)) (p4 : o4.op = .move (.tmp 0))
    (d5 : o5.dst = some (s + 5)) (g5 : o5.guard = some (j, true)) (p5 : o5.op = .binOp .leq 5 (.tmp (s + 4)) (.const (.int .u8 hi)) 5)
    (d6 : o6.dst = some (s + 6)) (g6 : o6.guard = none) (p6 : o6.op = .pick (.tmp (s + 3)) (.tmp (s + 5)) (.const (.bool false)))
    (hj : (ops[j]?).bind (·.dst) = some (s + 3)) (hN : T.size = 85) (hs : s + 6 < 85) (h0 : T[0]? = some (.int .u8 c))
    (k : ∀ T' : Array Value, T'.size = 85 → T'[0]? = some (.int .u8 c) → T'[s + 6]? = some (.bool (decide (lo ≤ c) && decide (c ≤ hi))) → wpList Tryz.prog ops Q rest ⟨T', D⟩ w) :
    wpList Tryz.prog ops Q (o1 :: o2 :: o3 :: o4 :: o5 :: o6 :: rest) ⟨T, D⟩ w := by
  refine xA (.int .u8 c) d1 (jm p1 h0) (qn g1) ?_
  have hN1 : (T.setIfInBounds (s + 1) (.int .u8 c)).size = 85 := by simpa using hN
  have z1 := zq T (s + 1) 0 (.int .u8 c) _ h0 (by omega)
  have y1 := yD T (s + 1) (.int .u8 c) (by omega)
  generalize T.setIfInBounds (s + 1) (.int .u8 c) = T1 at hN1 z1 y1
  refine xA (.bool (decide (lo ≤ c))) d2 (zo1 p2 y1) (qn g2) ?_
  have hN2 : (T1.setIfInBounds (s + 2) (.bool (decide (lo ≤ c)))).size = 85 := by simpa using hN1
  have z2 := zq T1 (s + 2) 0 (.bool (decide (lo ≤ c))) _ z1 (by omega)
  have y2 := yD T1 (s + 2) (.bool (decide (lo ≤ c))) (by omega)
  generalize T1.setIfInBounds (s + 2) (.bool (decide (lo ≤ c))) = T2 at hN2 z2 y2
  refine xA (.bool (decide (lo ≤ c))) d3 (jm p3 y2) (qn g3) ?_
  have hN3 : (T2.setIfInBounds (s + 3) (.bool (decide (lo ≤ c)))).size = 85 := by simpa using hN2
  have z3 := zq T2 (s + 3) 0 (.bool (decide (lo ≤ c))) _ z2 (by omega)
  have y3 := yD T2 (s + 3) (.bool (decide (lo ≤ c))) (by omega)
  generalize T2.setIfInBounds (s + 3) (.bool (decide (lo ≤ c))) = T3 at hN3 z3 y3
  cases hb : decide (lo ≤ c) with
  | false =>
    rw [hb] at y3
    refine qo d4 (by rw [xv g4 (xL hj y3)]; rfl) ?_
    have hN4 : (T3.setIfInBounds (s + 4) undef).size = 85 := by simpa using hN3
    have z4 := zq T3 (s + 4) 0 undef _ z3 (by omega)
    have y4 := zq T3 (s + 4) (s + 3) undef _ y3 (by omega)
    generalize T3.setIfInBounds (s + 4) undef = T4 at hN4 z4 y4
    refine qo d5 (by rw [xv g5 (xL hj y4)]; rfl) ?_
    have hN5 : (T4.setIfInBounds (s + 5) undef).size = 85 := by simpa using hN4
    have z5 := zq T4 (s + 5) 0 undef _ z4 (by omega)
    have y5 := zq T4 (s + 5) (s + 3) undef _ y4 (by omega)
    generalize T4.setIfInBounds (s + 5) undef = T5 at hN5 z5 y5
    refine xA (.bool false) d6 (jl p6 (xN y5)) (qn g6) ?_
    exact k _ (by simpa using hN5) (zq _ _ _ _ _ z5 (by omega)) ((yD T5 _ _ (by omega)).trans (by rw [hb]; rfl))
  | true =>
    rw [hb] at y3
    refine xA (.int .u8 c) d4 (jm p4 z3) (by rw [xv g4 (xL hj y3)]; rfl) ?_
    have hN4 : (T3.setIfInBounds (s + 4) (.int .u8 c)).size = 85 := by simpa using hN3
    have z4 := zq T3 (s + 4) 0 (.int .u8 c) _ z3 (by omega)
    have y4 := zq T3 (s + 4) (s + 3) (.int .u8 c) _ y3 (by omega)
    have x4 := yD T3 (s + 4) (.int .u8 c) (by omega)
    generalize T3.setIfInBounds (s + 4) (.int .u8 c) = T4 at hN4 z4 y4 x4
    refine xA (.bool (decide (c ≤ hi))) d5 (zn1 p5 x4) (by rw [xv g5 (xL hj y4)]; rfl) ?_
    have hN5 : (T4.setIfInBounds (s + 5) (.bool (decide (c ≤ hi)))).size = 85 := by simpa using hN4
    have z5 := zq T4 (s + 5) 0 (.bool (decide (c ≤ hi))) _ z4 (by omega)
    have y5 := zq T4 (s + 5) (s + 3) (.bool (decide (c ≤ hi))) _ y4 (by omega)
    have x5 := yD T4 (s + 5) (.bool (decide (c ≤ hi))) (by omega)
    generalize T4.setIfInBounds (s + 5) (.bool (decide (c ≤ hi))) = T5 at hN5 z5 y5 x5
    have hp := jl (P := Tryz.prog) (D := D) (w := w) p6 (xN y5)
    rw [if_pos rfl, xN x5] at hp
    refine xA (.bool (decide (c ≤ hi))) d6 hp (qn g6) ?_
    exact k _ (by simpa using hN5) (zq _ _ _ _ _ z5 (by omega)) ((yD T5 _ _ (by omega)).trans (by rw [hb]; rfl))
theorem qs0 {ops : Array Oper} {Q : Exit → Act → World → Prop} {rest : List Oper} {T : Array Value} {D : List Deferred} {w : World} {o1 o2 o3 o4 o5 o6 o7 o8 : Oper} (s j j2 : Nat) (lo hi c : Int) (B : Bool)
    (d1 : o1.dst = some (s + 1)) (g1 : o1.guard = none) (p1 : o1.op = .move (.tmp s))
    (d2 : o2.dst = some (s + 2)) (g2 : o2.guard = some (j, false)) (p2 : o2.op = .move (.tmp 0))
    (d3 : o3.dst = some (s + 3)) (g3 : o3.guard = some (j, false)) (p3 : o3.op = .binOp .geq 5 (.tmp (s + 2)) (.const (.int .u8 lo)) 5)
    (d4 : o4.dst = some (s + 4)) (g4 : o4.guard = some (j, false)) (p4 : o4.op = .move (.tmp (s + 3)))
    (d5 : o5.dst = some (s + 5)) (g5 : o5.guard = some (j2, true)) (p5 : o5.op = .move (.tmp 0))
    (d6 : o6.dst = some (s + 6)) (g6 : o6.guard = some (j2, true)) (p6 : o6.op = .binOp .leq 5 (.tmp (s + 5)) (.const (.int .u8 hi)) 5)
    (d7 : o7.dst = some (s + 7)) (g7 : o7.guard = some (j, false)) (p7 : o7.op = .pick (.tmp (s + 4)) (.tmp (s + 6)) (.const (.bool false)))
    (d8 : o8.dst = some (s + 8)) (g8 : o8.guard = none) (p8 : o8.op = .pick (.tmp (s + 1)) (.const (.bool true)) (.tmp (s + 7)))
    (hj : (ops[j]?).bind (·.dst) = some (s + 1)) (hj2 : (ops[j2]?).bind (·.dst) = some (s + 4)) (hN : T.size = 85) (hs : s + 8 < 85) (h0 : T[0]? = some (.int .u8 c)) (hB : T[s]? = some (.bool B)) (hs0 : 0 < s)
    (k : ∀ T' : Array Value, T'.size = 85 → T'[0]? = some (.int .u8 c) → T'[s + 8]? = some (.bool (B || (decide (lo ≤ c) && decide (c ≤ hi)))) → wpList Tryz.prog ops Q rest ⟨T', D⟩ w) :
    wpList Tryz.prog ops Q (o1 :: o2 :: o3 :: o4 :: o5 :: o6 :: o7 :: o8 :: rest) ⟨T, D⟩ w := by
  refine xA (.bool B) d1 (jm p1 hB) (qn g1) ?_
  have hN1 : (T.setIfInBounds (s + 1) (.bool B)).size = 85 := by simpa using hN
  have z1 := zq T (s + 1) 0 (.bool B) _ h0 (by omega)
  have y1 := yD T (s + 1) (.bool B) (by omega)
  generalize T.setIfInBounds (s + 1) (.bool B) = T1 at hN1 z1 y1
  cases B with
  | true =>
    refine qo d2 (by rw [xv g2 (xL hj y1)]; rfl) ?_
    have hN2 : (T1.setIfInBounds (s + 2) undef).size = 85 := by simpa using hN1
    have z2 := zq T1 (s + 2) 0 undef _ z1 (by omega)
    have y2 := zq T1 (s + 2) (s + 1) undef _ y1 (by omega)
    generalize T1.setIfInBounds (s + 2) undef = T2 at hN2 z2 y2
    refine qo d3 (by rw [xv g3 (xL hj y2)]; rfl) ?_
    have hN3 : (T2.setIfInBounds (s + 3) undef).size = 85 := by simpa using hN2
    have z3 := zq T2 (s + 3) 0 undef _ z2 (by omega)
    have y3 := zq T2 (s + 3) (s + 1) undef _ y2 (by omega)
    generalize T2.setIfInBounds (s + 3) undef = T3 at hN3 z3 y3
    refine qo d4 (by rw [xv g4 (xL hj y3)]; rfl) ?_
    have hN4 : (T3.setIfInBounds (s + 4) undef).size = 85 := by simpa using hN3
    have z4 := zq T3 (s + 4) 0 undef _ z3 (by omega)
    have y4 := zq T3 (s + 4) (s + 1) undef _ y3 (by omega)
    have x4 := yD T3 (s + 4) undef (by omega)
    generalize T3.setIfInBounds (s + 4) undef = T4 at hN4 z4 y4 x4
    refine qo d5 (qg0 g5 (xn0 hj2 x4)) ?_
    have hN5 : (T4.setIfInBounds (s + 5) undef).size = 85 := by simpa using hN4
    have z5 := zq T4 (s + 5) 0 undef _ z4 (by omega)
    have y5 := zq T4 (s + 5) (s + 1) undef _ y4 (by omega)
    have x5 := zq T4 (s + 5) (s + 4) undef _ x4 (by omega)
    generalize T4.setIfInBounds (s + 5) undef = T5 at hN5 z5 y5 x5
    refine qo d6 (qg0 g6 (xn0 hj2 x5)) ?_
    have hN6 : (T5.setIfInBounds (s + 6) undef).size = 85 := by simpa using hN5
    have z6 := zq T5 (s + 6) 0 undef _ z5 (by omega)
    have y6 := zq T5 (s + 6) (s + 1) undef _ y5 (by omega)
    generalize T5.setIfInBounds (s + 6) undef = T6 at hN6 z6 y6
    refine qo d7 (by rw [xv g7 (xL hj y6)]; rfl) ?_
    have hN7 : (T6.setIfInBounds (s + 7) undef).size = 85 := by simpa using hN6
    have z7 := zq T6 (s + 7) 0 undef _ z6 (by omega)
    have y7 := zq T6 (s + 7) (s + 1) undef _ y6 (by omega)
    generalize T6.setIfInBounds (s + 7) undef = T7 at hN7 z7 y7
    refine xA (.bool true) d8 (jl p8 (xN y7)) (qn g8) ?_
    exact k _ (by simpa using hN7) (zq _ _ _ _ _ z7 (by omega)) ((yD T7 _ _ (by omega)).trans rfl)
  | false =>
    refine xA (.int .u8 c) d2 (jm p2 z1) (by rw [xv g2 (xL hj y1)]; rfl) ?_
    have hN2 : (T1.setIfInBounds (s + 2) (.int .u8 c)).size = 85 := by simpa using hN1
    have z2 := zq T1 (s + 2) 0 (.int .u8 c) _ z1 (by omega)
    have y2 := zq T1 (s + 2) (s + 1) (.int .u8 c) _ y1 (by omega)
    have x2 := yD T1 (s + 2) (.int .u8 c) (by omega)
    generalize T1.setIfInBounds (s + 2) (.int .u8 c) = T2 at hN2 z2 y2 x2
    refine xA (.bool (decide (lo ≤ c))) d3 (zo1 p3 x2) (by rw [xv g3 (xL hj y2)]; rfl) ?_
    have hN3 : (T2.setIfInBounds (s + 3) (.bool (decide (lo ≤ c)))).size = 85 := by simpa using hN2
    have z3 := zq T2 (s + 3) 0 (.bool (decide (lo ≤ c))) _ z2 (by omega)
    have y3 := zq T2 (s + 3) (s + 1) (.bool (decide (lo ≤ c))) _ y2 (by omega)
    have x3 := yD T2 (s + 3) (.bool (decide (lo ≤ c))) (by omega)
    generalize T2.setIfInBounds (s + 3) (.bool (decide (lo ≤ c))) = T3 at hN3 z3 y3 x3
    refine xA (.bool (decide (lo ≤ c))) d4 (jm p4 x3) (by rw [xv g4 (xL hj y3)]; rfl) ?_
    have hN4 : (T3.setIfInBounds (s + 4) (.bool (decide (lo ≤ c)))).size = 85 := by simpa using hN3
    have z4 := zq T3 (s + 4) 0 (.bool (decide (lo ≤ c))) _ z3 (by omega)
    have y4 := zq T3 (s + 4) (s + 1) (.bool (decide (lo ≤ c))) _ y3 (by omega)
    have x4 := yD T3 (s + 4) (.bool (decide (lo ≤ c))) (by omega)
    generalize T3.setIfInBounds (s + 4) (.bool (decide (lo ≤ c))) = T4 at hN4 z4 y4 x4
    cases hb : decide (lo ≤ c) with
    | false =>
      rw [hb] at x4
      refine qo d5 (by rw [xv g5 (xL hj2 x4)]; rfl) ?_
      have hN5 : (T4.setIfInBounds (s + 5) undef).size = 85 := by simpa using hN4
      have z5 := zq T4 (s + 5) 0 undef _ z4 (by omega)
      have y5 := zq T4 (s + 5) (s + 1) undef _ y4 (by omega)
      have x5 := zq T4 (s + 5) (s + 4) undef _ x4 (by omega)
      generalize T4.setIfInBounds (s + 5) undef = T5 at hN5 z5 y5 x5
      refine qo d6 (by rw [xv g6 (xL hj2 x5)]; rfl) ?_
      have hN6 : (T5.setIfInBounds (s + 6) undef).size = 85 := by simpa using hN5
      have z6 := zq T5 (s + 6) 0 undef _ z5 (by omega)
      have y6 := zq T5 (s + 6) (s + 1) undef _ y5 (by omega)
      have x6 := zq T5 (s + 6) (s + 4) undef _ x5 (by omega)
      generalize T5.setIfInBounds (s + 6) undef = T6 at hN6 z6 y6 x6
      refine xA (.bool false) d7 (jl p7 (xN x6)) (by rw [xv g7 (xL hj y6)]; rfl) ?_
      have hN7 : (T6.setIfInBounds (s + 7) (.bool false)).size = 85 := by simpa using hN6
      have z7 := zq T6 (s + 7) 0 (.bool false) _ z6 (by omega)
      have y7 := zq T6 (s + 7) (s + 1) (.bool false) _ y6 (by omega)
      have x7 := yD T6 (s + 7) (.bool false) (by omega)
      generalize T6.setIfInBounds (s + 7) (.bool false) = T7 at hN7 z7 y7 x7
      have hp := jl (P := Tryz.prog) (D := D) (w := w) p8 (xN y7)
      rw [if_neg (by decide), xN x7] at hp
      refine xA (.bool false) d8 hp (qn g8) ?_
      exact k _ (by simpa using hN7) (zq _ _ _ _ _ z7 (by omega)) ((yD T7 _ _ (by omega)).trans (by rw [hb]; rfl))
    | true =>
      rw [hb] at x4
      refine xA (.int .u8 c) d5 (jm p5 z4) (by rw [xv g5 (xL hj2 x4)]; rfl) ?_
      have hN5 : (T4.setIfInBounds (s + 5) (.int .u8 c)).size = 85 := by simpa using hN4
      have z5 := zq T4 (s + 5) 0 (.int .u8 c) _ z4 (by omega)
      have y5 := zq T4 (s + 5) (s + 1) (.int .u8 c) _ y4 (by omega)
      have x5 := zq T4 (s + 5) (s + 4) (.int .u8 c) _ x4 (by omega)
      have v5 := yD T4 (s + 5) (.int .u8 c) (by omega)
      generalize T4.setIfInBounds (s + 5) (.int .u8 c) = T5 at hN5 z5 y5 x5 v5
      refine xA (.bool (decide (c ≤ hi))) d6 (zn1 p6 v5) (by rw [xv g6 (xL hj2 x5)]; rfl) ?_
      have hN6 : (T5.setIfInBounds (s + 6) (.bool (decide (c ≤ hi)))).size = 85 := by simpa using hN5
      have z6 := zq T5 (s + 6) 0 (.bool (decide (c ≤ hi))) _ z5 (by omega)
      have y6 := zq T5 (s + 6) (s + 1) (.bool (decide (c ≤ hi))) _ y5 (by omega)
      have x6 := zq T5 (s + 6) (s + 4) (.bool (decide (c ≤ hi))) _ x5 (by omega)
      have v6 := yD T5 (s + 6) (.bool (decide (c ≤ hi))) (by omega)
      generalize T5.setIfInBounds (s + 6) (.bool (decide (c ≤ hi))) = T6 at hN6 z6 y6 x6 v6
      have hq := jl (P := Tryz.prog) (D := D) (w := w) p7 (xN x6)
      rw [if_pos rfl, xN v6] at hq
      refine xA (.bool (decide (c ≤ hi))) d7 hq (by rw [xv g7 (xL hj y6)]; rfl) ?_
      have hN7 : (T6.setIfInBounds (s + 7) (.bool (decide (c ≤ hi)))).size = 85 := by simpa using hN6
      have z7 := zq T6 (s + 7) 0 (.bool (decide (c ≤ hi))) _ z6 (by omega)
      have y7 := zq T6 (s + 7) (s + 1) (.bool (decide (c ≤ hi))) _ y6 (by omega)
      have x7 := yD T6 (s + 7) (.bool (decide (c ≤ hi))) (by omega)
      generalize T6.setIfInBounds (s + 7) (.bool (decide (c ≤ hi))) = T7 at hN7 z7 y7 x7
      have hp := jl (P := Tryz.prog) (D := D) (w := w) p8 (xN y7)
      rw [if_neg (by decide), xN x7] at hp
      refine xA (.bool (decide (c ≤ hi))) d8 hp (qn g8) ?_
      exact k _ (by simpa using hN7) (zq _ _ _ _ _ z7 (by omega)) ((yD T7 _ _ (by omega)).trans (by rw [hb]; rfl))
theorem tok_all : ∀ n : Nat, n < 256 → (fun c : Int => (((((((((((((((((decide (97 ≤ c) && decide (c ≤ 122)) || (decide (65 ≤ c) && decide (c ≤ 90))) || (decide (48 ≤ c) && decide (c ≤ 57))) || c == 33) || c == 35) || c == 36) || c == 37) || c == 38) || c == 39) || c == 42) || c == 43) || c == 45) || c == 46) || c == 94) || c == 95) || c == 96) || c == 124) || c == 126) (n : Int) = tokC n := by decide +kernel
theorem xW.calls (a0 : Int) (r : Bool) (w : World) (h : xW.f a0 = some r) :
    Calls Tryz.prog 57 #[.int .u8 a0] w fun e w' => e = .returned (.bool r) ∧ Drawn0 w w' := by
  have hr : 0 ≤ a0 ∧ a0 < 256 := by
    unfold xW.f at h
    split at h
    · assumption
    · cases h
  unfold xW.f at h
  rw [if_pos hr] at h
  obtain rfl := Option.some.inj h
  clear h
  have ht : ((((((((((((((((((decide (97 ≤ a0) && decide (a0 ≤ 122)) || (decide (65 ≤ a0) && decide (a0 ≤ 90))) || (decide (48 ≤ a0) && decide (a0 ≤ 57))) || a0 == 33) || a0 == 35) || a0 == 36) || a0 == 37) || a0 == 38) || a0 == 39) || a0 == 42) || a0 == 43) || a0 == 45) || a0 == 46) || a0 == 94) || a0 == 95) || a0 == 96) || a0 == 124) || a0 == 126) = tokC a0 := xm0 (P := fun c => ((((((((((((((((((decide (97 ≤ c) && decide (c ≤ 122)) || (decide (65 ≤ c) && decide (c ≤ 90))) || (decide (48 ≤ c) && decide (c ≤ 57))) || c == 33) || c == 35) || c == 36) || c == 37) || c == 38) || c == 39) || c == 42) || c == 43) || c == 45) || c == 46) || c == 94) || c == 95) || c == 96) || c == 124) || c == 126) = tokC c) tok_all hr.1 hr.2
  rw [← ht]
  clear ht hr
  go_enter Tryz.func57, Tryz.ntmps57
  refine wp_seq (wp_region_list (xA (.bool false) rfl rfl rfl ?_))
  refine wp_seq (wp_region_list ?_)
  refine andBlock 2 2 97 122 a0 rfl rfl rfl rfl rfl rfl rfl rfl rfl rfl rfl rfl rfl rfl rfl rfl rfl rfl rfl rfl (by decide) rfl ?_
  intro T1 n1 z1 b1
  refine qs0 8 6 9 65 90 a0 _ rfl rfl rfl rfl rfl rfl rfl rfl rfl rfl rfl rfl rfl rfl rfl rfl rfl rfl rfl rfl rfl rfl rfl rfl rfl rfl n1 (by decide) z1 b1 (by decide) ?_
  intro T2 n2 z2 b2
  refine qs0 16 14 17 48 57 a0 _ rfl rfl rfl rfl rfl rfl rfl rfl rfl rfl rfl rfl rfl rfl rfl rfl rfl rfl rfl rfl rfl rfl rfl rfl rfl rfl n2 (by decide) z2 b2 (by decide) ?_
  intro T3 n3 z3 b3
  refine qA 24 22 33 a0 _ rfl rfl rfl rfl rfl rfl rfl rfl rfl rfl rfl rfl rfl n3 (by decide) z3 b3 (by decide) ?_
  intro T4 n4 z4 b4
  refine qA 28 26 35 a0 _ rfl rfl rfl rfl rfl rfl rfl rfl rfl rfl rfl rfl rfl n4 (by decide) z4 b4 (by decide) ?_
  intro T5 n5 z5 b5
  refine qA 32 30 36 a0 _ rfl rfl rfl rfl rfl rfl rfl rfl rfl rfl rfl rfl rfl n5 (by decide) z5 b5 (by decide) ?_
  intro T6 n6 z6 b6
  refine qA 36 34 37 a0 _ rfl rfl rfl rfl rfl rfl rfl rfl rfl rfl rfl rfl rfl n6 (by decide) z6 b6 (by decide) ?_
  intro T7 n7 z7 b7
  refine qA 40 38 38 a0 _ rfl rfl rfl rfl rfl rfl rfl rfl rfl rfl rfl rfl rfl n7 (by decide) z7 b7 (by decide) ?_
  intro T8 n8 z8 b8
  refine qA 44 42 39 a0 _ rfl rfl rfl rfl rfl rfl rfl rfl rfl rfl rfl rfl rfl n8 (by decide) z8 b8 (by decide) ?_
  intro T9 n9 z9 b9
  refine qA 48 46 42 a0 _ rfl rfl rfl rfl rfl rfl rfl rfl rfl rfl rfl rfl rfl n9 (by decide) z9 b9 (by decide) ?_
  intro T10 n10 z10 b10
  refine qA 52 50 43 a0 _ rfl rfl rfl rfl rfl rfl rfl rfl rfl rfl rfl rfl rfl n10 (by decide) z10 b10 (by decide) ?_
  intro T11 n11 z11 b11
  refine qA 56 54 45 a0 _ rfl rfl rfl rfl rfl rfl rfl rfl rfl rfl rfl rfl rfl n11 (by decide) z11 b11 (by decide) ?_
  intro T12 n12 z12 b12
  refine qA 60 58 46 a0 _ rfl rfl rfl rfl rfl rfl rfl rfl rfl rfl rfl rfl rfl n12 (by decide) z12 b12 (by decide) ?_
  intro T13 n13 z13 b13
  refine qA 64 62 94 a0 _ rfl rfl rfl rfl rfl rfl rfl rfl rfl rfl rfl rfl rfl n13 (by decide) z13 b13 (by decide) ?_
  intro T14 n14 z14 b14
  refine qA 68 66 95 a0 _ rfl rfl rfl rfl rfl rfl rfl rfl rfl rfl rfl rfl rfl n14 (by decide) z14 b14 (by decide) ?_
  intro T15 n15 z15 b15
  refine qA 72 70 96 a0 _ rfl rfl rfl rfl rfl rfl rfl rfl rfl rfl rfl rfl rfl n15 (by decide) z15 b15 (by decide) ?_
  intro T16 n16 z16 b16
  refine qA 76 74 124 a0 _ rfl rfl rfl rfl rfl rfl rfl rfl rfl rfl rfl rfl rfl n16 (by decide) z16 b16 (by decide) ?_
  intro T17 n17 z17 b17
  refine qA 80 78 126 a0 _ rfl rfl rfl rfl rfl rfl rfl rfl rfl rfl rfl rfl rfl n17 (by decide) z17 b17 (by decide) ?_
  intro T18 n18 z18 b18
  generalize hE : ((((((((((((((((((decide (97 ≤ a0) && decide (a0 ≤ 122)) || (decide (65 ≤ a0) && decide (a0 ≤ 90))) || (decide (48 ≤ a0) && decide (a0 ≤ 57))) || a0 == 33) || a0 == 35) || a0 == 36) || a0 == 37) || a0 == 38) || a0 == 39) || a0 == 42) || a0 == 43) || a0 == 45) || a0 == 46) || a0 == 94) || a0 == 95) || a0 == 96) || a0 == 124) || a0 == 126) = BB at b18 ⊢
  refine xA (.bool BB) rfl (vT0 rfl b18) rfl ?_
  refine wp_ret (bodyPost_ret (v := .bool BB) ((results_tmp rfl _ _ _).trans ?_) rfl ⟨rfl, Drawn0.refl _⟩)
  exact congrArg (fun v => Result.ok v w) (xN (D := []) (yD T18 2 (.bool BB) (by omega)))
def qe.f (a0 : ByteArray) : Option ByteArray := if a0.size ≤ 8388608 then some (strOfNums ((bytesOf a0).map lowC)) else none
theorem qe.calls (a0 : ByteArray) (r : ByteArray) (w : World) (h : qe.f a0 = some r) :
    Calls Tryz.prog 114 #[.string a0] w fun e w' => e = .returned (.string r) ∧ Below w.heap.size w w' := by
  have hs : a0.size ≤ 8388608 := by
    unfold qe.f at h
    split at h
    · assumption
    · cases h
  have hr : strOfNums ((bytesOf a0).map lowC) = r := by
    unfold qe.f at h
    rw [if_pos hs] at h
    exact Option.some.inj h
  clear h
  have kb := fun W => xC0 (P := Tryz.prog) 9 22 5 Tryz.underlying9 Tryz.underlying22 Tryz.underlying5 a0 W
  generalize grownCap w a0.size 0 5 = cp at kb
  have hbelow : Below w.heap.size w (Lib.bytesWorld w 5 a0) := zH0 (Below.refl _ _) (Nat.le_refl _) _ _
  have hcell0 : ∀ j : Nat, j < a0.size → (Lib.bytesWorld w 5 a0).cell? ⟨w.heap.size, j, none⟩ = some (.int .u8 (lowAt a0 0 j)) ∧ (Lib.bytesWorld w 5 a0).frozen? ⟨w.heap.size, j, none⟩ = false := by
    intro j hj
    refine ⟨?_, yS0 w _ a0 j hj⟩
    rw [Lib.bytesWorld_cell w _ a0 j hj]
    simp only [lowAt, Nat.not_lt_zero, if_false]
    rw [qF0 a0 j (by rw [zw]; exact hj)]
    simp [bytesOf, List.getD_eq_getElem?_getD, hj]
  go_enter Tryz.func114, Tryz.ntmps114
  go_wp2
  generalize grownCap w a0.size 0 5 = cp at kb ⊢
  clear kb
  go_loopw [4] (fun v10 wr => ∃ k : Nat, k ≤ a0.size ∧ v10 = .int .i64 k ∧ (∀ j : Nat, j < a0.size → wr.cell? ⟨w.heap.size, j, none⟩ = some (.int .u8 (lowAt a0 k j)) ∧ wr.frozen? ⟨w.heap.size, j, none⟩ = false) ∧ Below w.heap.size w wr ∧ w.heap.size < wr.heap.size) (fun v10 _ => a0.size - (intOf v10).toNat)
  case atStart => exact ⟨0, Nat.zero_le _, rfl, hcell0, hbelow, by rw [Lib.bytesWorld_size]; omega⟩
  case round =>
    obtain ⟨k, hk, rfl, hc, hb, hsz⟩ := hrel
    by_cases hlt : k < a0.size
    · obtain ⟨hck, hfk⟩ := hc k hlt
      have hHc := Aside0.mk hc
      have hHb := Aside0.mk hb
      clear hc hb hcell0 hbelow
      have hbd := vB a0 k
      have hck' : wr.cell? ⟨w.heap.size, k, none⟩ = some (.int .u8 (bt a0 k)) := by rw [hck]; simp [lowAt]
      clear hck
      generalize hbt : bt a0 (k : Int) = c at hck' hbd
      by_cases h1 : 65 ≤ c
      · by_cases h2 : c ≤ 90
        · have d1 : decide (65 ≤ c) = true := decide_eq_true h1
          have d2 : decide (c ≤ 90) = true := decide_eq_true h2
          go_wp2
          go_roundw
          case measure => simp [intOf]; omega
          case rel => exact ⟨k + 1, hlt, rfl, vx0 hHc.out hlt (by rw [lowAt, if_pos (by omega), hbt, lowC, if_pos ⟨h1, h2⟩]) (fun j hj => by simp only [lowAt]; by_cases hjk : j < k; rw [if_pos (by omega), if_pos hjk]; rw [if_neg (by omega), if_neg hjk]), hHb.out.setCell (Nat.le_refl _) _, by simpa [World.setCell] using hsz⟩
        · have d1 : decide (65 ≤ c) = true := decide_eq_true h1
          have d2 : decide (c ≤ 90) = false := decide_eq_false h2
          go_wp2
          go_roundw
          case measure => simp [intOf]; omega
          case rel => exact ⟨k + 1, hlt, rfl, fun j hj => by rw [show lowAt a0 (k + 1) j = lowAt a0 k j from by simp only [lowAt]; by_cases hjk : j < k; rw [if_pos (by omega), if_pos hjk]; by_cases hje : j = k; subst hje; rw [if_pos (by omega), if_neg hjk, hbt, lowC, if_neg (fun hh => h2 hh.2)]; rw [if_neg (by omega), if_neg hjk]]; exact hHc.out j hj, hHb.out, hsz⟩
      · have d1 : decide (65 ≤ c) = false := decide_eq_false h1
        go_wp2
        go_roundw
        case measure => simp [intOf]; omega
        case rel => exact ⟨k + 1, hlt, rfl, fun j hj => by rw [show lowAt a0 (k + 1) j = lowAt a0 k j from by simp only [lowAt]; by_cases hjk : j < k; rw [if_pos (by omega), if_pos hjk]; by_cases hje : j = k; subst hje; rw [if_pos (by omega), if_neg hjk, hbt, lowC, if_neg (fun hh => h1 hh.1)]; rw [if_neg (by omega), if_neg hjk]]; exact hHc.out j hj, hHb.out, hsz⟩
    · obtain rfl : k = a0.size := by omega
      have kc : (convert 22 9 (.slice (some ⟨w.heap.size, 0, none⟩) a0.size cp)).run Tryz.prog wr = .ok (.string r) wr := by
        rw [← hr]
        refine run_convert_bytes_arg wr 22 5 Tryz.underlying22 Tryz.underlying5 w.heap.size 0 a0.size cp _ (by rw [List.length_map, zw]) (fun i hi => ?_) 9 Tryz.underlying9
        rw [Nat.zero_add, (hc i hi).1, lowAt, if_pos hi]
        rw [qF0 a0 i (by rw [zw]; exact hi)]
        simp [List.getD_eq_getElem?_getD, zw, hi]
      have hHb := Aside0.mk hb
      clear hc hb hcell0 hbelow
      go_wp2
      go_ret
      exact ⟨rfl, hHb.out⟩
end Go.Proofs.YtbldejnlmpajeaaGreatDoor.Ext
namespace Go.Proofs.YtbldejnlmpajeaaGreatDoor.QL
open Go.RowKit Go.Proofs.YtbldejnlmpajeaaGreatDoorW.PrintWords Go.Proofs.YtbldejnlmpajeaaGreatDoorW.PrintLast Go.Proofs.YtbldejnlmpajeaaGreatDoorW.PrintMore Go.Proofs.YtbldejnlmpajeaaGreatDoor.Aux Go.Proofs.YtbldejnlmpajeaaGreatDoor.Dom Go.Proofs.YtbldejnlmpajeaaGreatDoor.Ext Go.Proofs.YtbldejnlmpajeaaGreatDoor.Glob
attribute [local go_sem] max2_int min2_int max_two min_two max_three min_three max_four min_four
def errW : Option Int → Value
 | none => .nilIface
 | some c => .iface 0 (.int .i64 c)
theorem xy : errW none = .nilIface := rfl
theorem xx (c : Int) : errW (some c) = .iface 0 (.int .i64 c) := rfl
theorem info5 : (Tryz.prog.info? 5).map (fun i => (i.zero, i.size, i.bytes)) = some (some (.int .u8 0), 1, 1) := by kernel_rfl
theorem info9 : (Tryz.prog.info? 9).map (fun i => (i.zero, i.size, i.bytes)) = some (some (.string ⟨#[]⟩), 1, 16) := by kernel_rfl
theorem vM : (Tryz.prog.info? 55).map (fun i => (i.zero, i.size, i.bytes)) = some (some (.agg #[(.string ⟨#[]⟩), (.string ⟨#[]⟩)]), 2, 32) := by kernel_rfl
-- the values' own types
structure S55 where
 f0 : ByteArray
 f1 : ByteArray
def z55 : S55 := ⟨(⟨#[]⟩ : ByteArray), (⟨#[]⟩ : ByteArray)⟩
def k55 : Kd S55 := Kd.iso (Kd.pair Kd.string Kd.string) (fun x : S55 => (x.f0, x.f1))
theorem vD0 {w : World} {x : S55} {cs : List Value} (h : k55.K w x cs) : cs = [.string x.f0, .string x.f1] := by
 obtain ⟨_, _, rfl, rfl, rfl⟩ := h
 exact rfl
theorem zB1 {w : World} {base : Nat} {ok : Nat → Prop} {x : S55} {cs : List Value} (h : k55.M w base ok x cs) : cs = [.string x.f0, .string x.f1] := by
 obtain ⟨_, _, rfl, rfl, rfl⟩ := h
 exact rfl
theorem jA (w : World) (base : Nat) (ok : Nat → Prop) (x : S55)  : k55.M w base ok x [.string x.f0, .string x.f1] := ⟨[.string x.f0], [.string x.f1], rfl, rfl, rfl⟩
def zV (xs : List S55) (i : Int) : S55 := xs.getD i.toNat z55
theorem qO {w : World} {A : Option Addr} {n : Nat} {xs : List S55} (h : Kd.C k55 w A n xs) (i : Int) (h0 : 0 ≤ i) (h1 : i < n) : ∃ ad , A = some ad ∧ w.cell? (ad.add (i.toNat * 2)) = some (.string (zV xs i).f0) ∧ w.cell? ⟨(ad.add (i.toNat * 2)).block, (ad.add (i.toNat * 2)).off + 1, none⟩ = some (.string (zV xs i).f1) := by
 obtain ⟨ad, c, e, _, hK, hc0⟩ := Kd.C_get h z55 i h0 h1
 have hc : ∀ j u, c[j]? = some u → w.cell? (ad.add (i.toNat * 2 + j)) = some u := hc0
 obtain rfl := vD0 hK
 exact ⟨ad, e, hc 0 _ rfl, by rw [← zS1 _ _ 1 (by omega)]; exact hc 1 _ rfl⟩
def zh0.f (l0 : List Int) : Option (Bool) := some (decide ((l0.length : Int) > 1048576))
theorem zh0.calls (A0 : Option Addr) (c0 : Nat) (l0 : List Int) (r : Bool) (w : World) (hr0 : Kd.C (Kd.int .u8) w A0 l0.length l0) (hc0 : l0.length ≤ c0) (h : zh0.f l0 = some r) :
  Calls Tryz.prog 4 #[.slice A0 l0.length c0] w fun e w' => e = .returned (.bool r) ∧ Drawn0 w w' := by
 have HR0 := ak hr0
 have HC0 := ak hc0
 clear hr0 hc0
 have H : (some (decide ((l0.length : Int) > 1048576))) = some r := h
 clear h
 obtain rfl := oi1 H
 go_enter Tryz.func4, Tryz.ntmps4
 go_wp2
 go_ret
 exact ⟨rt, dr⟩
def IsS88 (w0 W : World) (g : Nat) (f0 : List Int) (f1 : Int) (f2 : Int) : Prop := ∃ A0 c0, W.heap[g]? = some (.cells #[.slice A0 f0.length c0, .int .i64 f1, .int .i64 f2] 88 (0, 0)) ∧ w0.heap.size ≤ g ∧ Kd.C (Kd.int .u8) w0 A0 f0.length f0
theorem IsS88.grown {w0 W : World} {g : Nat} {f0 : List Int} {f1 : Int} {f2 : Int} {W1 : World} {row : Option Nat} (h : IsS88 w0 W g f0 f1 f2) (hw : W.grownBy W1 row) (hne : some g ≠ row) : IsS88 w0 W1 g f0 f1 f2 := by
 obtain ⟨A0, c0, hb, hg, hr0⟩ := h
 exact ⟨A0, c0, jG hb hw hne, hg, hr0⟩
theorem IsS88.fresh {w0 W : World} {g : Nat} {f0 : List Int} {f1 : Int} {f2 : Int} (h : IsS88 w0 W g f0 f1 f2) : ∀ k, W.heap.size ≤ k → k ≠ g := by
 obtain ⟨A0, c0, hb, hg, hr0⟩ := h
 exact Kd.freshB hb
theorem IsS88.kept {w0 W : World} {g : Nat} {f0 : List Int} {f1 : Int} {f2 : Int} {W1 : World} {S : Nat → Prop} (h : IsS88 w0 W g f0 f1 f2) (hk : Kept W W1 S) (hne : ¬ S g) : IsS88 w0 W1 g f0 f1 f2 := by
 obtain ⟨A0, c0, hb, hg, hr0⟩ := h
 exact ⟨A0, c0, blk_kept hb hk hne, hg, hr0⟩
theorem IsS88.below {w0 W : World} {g : Nat} {f0 : List Int} {f1 : Int} {f2 : Int} {W1 : World} (h : IsS88 w0 W g f0 f1 f2) (hw : Below W.heap.size W W1) : IsS88 w0 W1 g f0 f1 f2 := h.grown (zs0 hw none) (by simp)
theorem IsS88.alloc {w0 W : World} {g : Nat} {f0 : List Int} {f1 : Int} {f2 : Int} (h : IsS88 w0 W g f0 f1 f2) (o : Obj) : IsS88 w0 (W.alloc o) g f0 f1 f2 := h.below (yN (Below.refl _ _) o)
theorem IsS88.drewN {w0 W : World} {g : Nat} {f0 : List Int} {f1 : Int} {f2 : Int} (h : IsS88 w0 W g f0 f1 f2) (m : Nat) : IsS88 w0 (W.drewN m) g f0 f1 f2 := h
theorem IsS88.drew {w0 W : World} {g : Nat} {f0 : List Int} {f1 : Int} {f2 : Int} (h : IsS88 w0 W g f0 f1 f2) : IsS88 w0 W.drew g f0 f1 f2 := h
theorem IsS88.at_ {w0 W : World} {g : Nat} {f0 : List Int} {f1 : Int} {f2 : Int} {w' : World} {m : Nat} (hq : W.drewN m = w') (h : IsS88 w0 W g f0 f1 f2) : IsS88 w0 w' g f0 f1 f2 := by subst hq; exact IsS88.drewN h m
theorem IsS88.apart {w0 W : World} {g : Nat} {f0 : List Int} {f1 : Int} {f2 : Int} {α : Type} {d : Kd α} {e : Nat} {base : Nat} {ok : Nat → Prop} {v : Value} {xs : List α} (h : IsS88 w0 W g f0 f1 f2) (ho : d.R e W base ok v xs) (ht : ∀ q, q ∈ e :: d.E → q ≠ 88) : d.R e W base (fun k => ok k ∧ k ≠ g) v xs := by
 obtain ⟨A0, c0, hb, hg, hr0⟩ := h
 exact Kd.R_types ho hb ht
theorem yp {w0 W : World} {g : Nat} {f0 : List Int} {f1 : Int} {f2 : Int} {α : Type} {d : Kd α} {e : Nat} {base : Nat} {ok : Nat → Prop} {v : Value} {xs : List α} (h : IsS88 w0 W g f0 f1 f2) (ho : d.R e W base ok v xs) (ht : e ≠ 88) : some g ≠ v.ownBlock := by
 obtain ⟨A0, c0, hb, hg, hr0⟩ := h
 exact Kd.R_ne ho hb ht
theorem xE {w0 W : World} {g : Nat} {f0 : List Int} {f1 : Int} {f2 : Int} (h : IsS88 w0 W g f0 f1 f2) : g < W.heap.size := by
 obtain ⟨A0, c0, hb, hg, hr0⟩ := h
 exact xn hb
theorem zc {w0 W : World} {g : Nat} {f0 : List Int} {f1 : Int} {f2 : Int} (h : IsS88 w0 W g f0 f1 f2) : w0.heap.size ≤ g := by
 obtain ⟨A0, c0, hb, hg, hr0⟩ := h
 exact hg
theorem xR {w0 W : World} {g : Nat} {f0 : List Int} {f1 : Int} {f2 : Int} {a : Nat} {cs : Array Value} {t : TypeId} {fr : Nat × Nat} (h : IsS88 w0 W g f0 f1 f2) (hb2 : W.heap[a]? = some (.cells cs t fr)) (ht : t ≠ 88) : g ≠ a := by
 obtain ⟨A0, c0, hb, hg, hr0⟩ := h
 rintro rfl
 rw [hb] at hb2
 injection hb2 with hb2
 injection hb2 with _ ht2
 exact ht ht2.symm
theorem xZ0 {w0 W : World} {g : Nat} {f0 : List Int} {f1 : Int} {f2 : Int} {p : Addr} (h : IsS88 w0 W g f0 f1 f2) (hne : g ≠ p.block) (u : Value) : IsS88 w0 (W.setCell p u) g f0 f1 f2 := by
 obtain ⟨A0, c0, hb, hg, hr0⟩ := h
 exact ⟨A0, c0, xT0 hb hne u, hg, hr0⟩
theorem jL0 {W : World} {g : Nat} {A0 : Option Addr} {c0 : Nat} {f0 : List Int} {f1 : Int} {f2 : Int} (h : W.heap[g]? = some (.cells #[.slice A0 f0.length c0, .int .i64 f1, .int .i64 f2] 88 (0, 0))) : W.cell? ⟨g, 0, none⟩ = some (.slice A0 f0.length c0) := (zg h 0).trans rfl
theorem jK0 {W : World} {g : Nat} {A0 : Option Addr} {c0 : Nat} {f0 : List Int} {f1 : Int} {f2 : Int} (h : W.heap[g]? = some (.cells #[.slice A0 f0.length c0, .int .i64 f1, .int .i64 f2] 88 (0, 0))) : W.cell? ⟨g, 1, none⟩ = some (.int .i64 f1) := (zg h 1).trans rfl
theorem zL0 {w0 W : World} {g : Nat} {f0 : List Int} {f1 : Int} {f2 : Int} (h : IsS88 w0 W g f0 f1 f2) (x : Int) : IsS88 w0 (W.setCell ⟨g, 1, none⟩ (.int .i64 x)) g f0 x f2 := by
 obtain ⟨A0, c0, hb, hg, hr0⟩ := h
 exact ⟨A0, c0, by simpa using yD0 hb 1 (.int .i64 x), hg, hr0⟩
theorem jJ0 {W : World} {g : Nat} {A0 : Option Addr} {c0 : Nat} {f0 : List Int} {f1 : Int} {f2 : Int} (h : W.heap[g]? = some (.cells #[.slice A0 f0.length c0, .int .i64 f1, .int .i64 f2] 88 (0, 0))) : W.cell? ⟨g, 2, none⟩ = some (.int .i64 f2) := (zg h 2).trans rfl
theorem zK0 {w0 W : World} {g : Nat} {f0 : List Int} {f1 : Int} {f2 : Int} (h : IsS88 w0 W g f0 f1 f2) (x : Int) : IsS88 w0 (W.setCell ⟨g, 2, none⟩ (.int .i64 x)) g f0 f1 x := by
 obtain ⟨A0, c0, hb, hg, hr0⟩ := h
 exact ⟨A0, c0, by simpa using yD0 hb 2 (.int .i64 x), hg, hr0⟩
def yc.l0 : Nat → List Int → Int → Int → Option (List Int × Int × Int)
 | 0, _, _, _ => none
 | k + 1, x0, x3, x4 => if x4 < (x0.length : Int) then (if x4 < 4000 then (if 0 ≤ x4 then (yc.l0 k x0 (Go.bits .and .i64 (wrap64 ((wrap64 ((wrap64 (x3 * 131)) + (wrap64 (rd x0 x4)))) + 7)) 1073741823) (wrap64 (x4 + 1))) else (none)) else (some (x0, 0, x3))) else (some (x0, 0, x3))
def yc.f (k : Nat) (l0 : List Int) : Option (List Int × Int × Int) := yc.l0 k l0 (wrap64 (10101 + (l0.length : Int))) 0
theorem yc.mono_l : ∀ k, (∀ y0 y1 y2, LeO (yc.l0 k y0 y1 y2) (yc.l0 (k + 1) y0 y1 y2))
 | 0 => fun _ _ _ r h => by simp [yc.l0] at h
 | k + 1 => by
  have ih0 := yc.mono_l k
  ·intro y0 y1 y2
   unfold yc.l0
   exact mq1 ih0
theorem yc.mono : ∀ a0 k, LeO (yc.f k a0) (yc.f (k + 1) a0) := by
 intro a0 k
 have ih0 := yc.mono_l k
 unfold yc.f
 exact mq1 ih0
theorem yc.calls (k : Nat) (A0 : Option Addr) (c0 : Nat) (l0 : List Int) (r1 : List Int) (r2 : Int) (r3 : Int) (w0 w : World) (hB : Below w0.heap.size w0 w) (hr0 : Kd.C (Kd.int .u8) w0 A0 l0.length l0) (hc0 : l0.length ≤ c0) (h : yc.f k l0 = some (r1, r2, r3)) :
  Calls Tryz.prog 35 #[.slice A0 l0.length c0] w fun e w' => ∃ g_ : Nat, e = .returned (.pointer (some ⟨g_, 0, none⟩)) ∧ IsS88 w0 w' g_ r1 r2 r3 ∧ Below w0.heap.size w0 w' ∧ Below w.heap.size w w' := by
 have hu88 := Tryz.underlying88
 have HR0 := ak hr0
 have HC0 := ak hc0
 clear hr0 hc0
 have HBW := ak (Below.refl w.heap.size w)
 have HW0 := ak hB.size
 have HB := ak hB
 clear hB
 have H : (yc.l0 k l0 (wrap64 (10101 + (l0.length : Int))) 0) = some (r1, r2, r3) := h
 clear h
 have H' := ak H
 clear H
 go_enter Tryz.func35, Tryz.ntmps35
 go_wp2
 go_loopg [3, 4] k (fun kq v3 v4 w' => ∃ (x3_1 : Int) (x4_1 : Int), v3 = .int .i64 x3_1 ∧ v4 = .int .i64 x4_1 ∧ Aside0 (yc.l0 kq l0 x3_1 x4_1 = some (r1, r2, r3)) ∧ Aside0 (kq ≤ k) ∧ Aside0 (Below w0.heap.size w0 w') ∧ Aside0 (Below w.heap.size w w'))
 case atStart => exact ⟨(wrap64 (10101 + (l0.length : Int))), (0), rs, rs, H', ⟨Nat.le_refl _⟩, ⟨bq⟩, ⟨by repeat (first | (with_reducible first | exact HBW.out | apply yN | apply yH | apply ye) | exact HBW.out)⟩⟩
 case round =>
  clear H'
  clear HBW HB
  obtain ⟨x3_1, x4_1, rfl, rfl, HA, HK1, HB, HBW⟩ := hrel
  cases gk with
  | zero => exact absurd HA.out (by simp [yc.l0])
  | succ k1 =>
   have H := HA.out
   clear HA
   simp only [yc.l0] at H
   replace H := sd H
   rcases H with ⟨c2b0, H⟩ | ⟨c2b0, H⟩
   ·replace H := sd H
    rcases H with ⟨c3b0, H⟩ | ⟨c3b0, H⟩
    ·replace H := sT H
     obtain ⟨c4, H⟩ := H
     have c4b0 := decide_eq_true c4
     clear c4
     have H' := ak H
     clear H
     have p101 : 0 ≤ (x4_1 : Int) := of_decide_eq_true asm
     have q101 : x4_1 < (l0.length : Int) := of_decide_eq_true asm
     obtain ⟨ad101, e101, hx101_0⟩ := Kd.at_int HR0.out x4_1 p101 q101
     cases e101
     replace hx101_0 := qI HB.out hx101_0
     replace p101 := eq_true p101
     replace q101 := eq_true q101
     go_wp2
     go_roundg k1
     case measure => have := HK1.out; omega
     case rel => exact ⟨(Go.bits .and .i64 (wrap64 ((wrap64 ((wrap64 (x3_1 * 131)) + (wrap64 (rd l0 x4_1)))) + 7)) 1073741823), (wrap64 (x4_1 + 1)), rs, rs, H', ⟨by have := HK1.out; omega⟩, ⟨bq⟩, ⟨by repeat (first | (with_reducible first | exact HBW.out | apply yN | apply yH | apply ye) | exact HBW.out)⟩⟩
    ·obtain ⟨rfl, rfl, rfl⟩ := oi3 H
     go_wp2_with (first | ((with_reducible refine zl (N := 31) rfl ?_); refine bx 31 #[.slice A0 l0.length c0, .int .i64 0, .int .i64 x3_1] 88 ?_; intro gb102 hg w5 hbox hb; have BK102 := ak (hbox); have GW102 := ak ((by rw [hg]; exact (zd (by repeat (first | (with_reducible first | exact HBW.out | apply yN | apply yH | apply ye) | exact HBW.out))) : w.heap.size ≤ gb102)); have GE102 := ak ((Nat.le_trans HW0.out (by rw [hg]; exact (zd (by repeat (first | (with_reducible first | exact HBW.out | apply yN | apply yH | apply ye) | exact HBW.out))) : w.heap.size ≤ gb102) : w0.heap.size ≤ gb102)); replace HBW := ak (zb HBW.out hb); replace HB := ak (zb bq hb); clear hb hbox hg))
     go_ret
     exact ⟨_, rfl, (show IsS88 w0 _ gb102 l0 0 x3_1 from ⟨_, _, by (with_reducible repeat (first | refine vr ?_ _ | refine xe ?_ | refine xY ?_ _)); exact BK102.out, GE102.out, HR0.out⟩), bq1 GE102.out, by repeat (first | (with_reducible first | exact HBW.out | apply yN | apply yH | apply ye | refine xb ?_ GW102.out) | exact HBW.out)⟩
   ·obtain ⟨rfl, rfl, rfl⟩ := oi3 H
    go_wp2_with (first | ((with_reducible refine zl (N := 31) rfl ?_); refine bx 31 #[.slice A0 l0.length c0, .int .i64 0, .int .i64 x3_1] 88 ?_; intro gb103 hg w6 hbox hb; have BK103 := ak (hbox); have GW103 := ak ((by rw [hg]; exact (zd (by repeat (first | (with_reducible first | exact HBW.out | apply yN | apply yH | apply ye) | exact HBW.out))) : w.heap.size ≤ gb103)); have GE103 := ak ((Nat.le_trans HW0.out (by rw [hg]; exact (zd (by repeat (first | (with_reducible first | exact HBW.out | apply yN | apply yH | apply ye) | exact HBW.out))) : w.heap.size ≤ gb103) : w0.heap.size ≤ gb103)); replace HBW := ak (zb HBW.out hb); replace HB := ak (zb bq hb); clear hb hbox hg))
    go_ret
    exact ⟨_, rfl, (show IsS88 w0 _ gb103 l0 0 x3_1 from ⟨_, _, by (with_reducible repeat (first | refine vr ?_ _ | refine xe ?_ | refine xY ?_ _)); exact BK103.out, GE103.out, HR0.out⟩), bq1 GE103.out, by repeat (first | (with_reducible first | exact HBW.out | apply yN | apply yH | apply ye | refine xb ?_ GW103.out) | exact HBW.out)⟩
def yT.f (s0_0 : List Int) (s0_1 : Int) (s0_2 : Int) : Option (Int × Int × Int) := if s0_1 < (s0_0.length : Int) then (if 0 ≤ s0_1 then (some (Go.bits .and .i64 (wrap64 ((Go.bits .and .i64 (Go.bits .xor .i64 ((wrap64 ((wrap64 (s0_2 * 6364136223846793005)) + 1442695040888963407)) / 8589934592) ((wrap64 ((wrap64 (s0_2 * 6364136223846793005)) + 1442695040888963407)) / 35184372088832)) 255) + (wrap64 (rd s0_0 s0_1)))) 255, wrap64 (s0_1 + 1), wrap64 ((wrap64 (s0_2 * 6364136223846793005)) + 1442695040888963407))) else (none)) else (some (Go.bits .and .i64 (Go.bits .xor .i64 ((wrap64 ((wrap64 (s0_2 * 6364136223846793005)) + 1442695040888963407)) / 8589934592) ((wrap64 ((wrap64 (s0_2 * 6364136223846793005)) + 1442695040888963407)) / 35184372088832)) 255, s0_1, wrap64 ((wrap64 (s0_2 * 6364136223846793005)) + 1442695040888963407)))
theorem yT.calls (g : Nat) (s0_0 : List Int) (s0_1 : Int) (s0_2 : Int) (r1 : Int) (r2 : Int) (r3 : Int) (w0 w : World) (hI : IsS88 w0 w g s0_0 s0_1 s0_2) (hB : Below w0.heap.size w0 w) (h : yT.f s0_0 s0_1 s0_2 = some (r1, r2, r3)) :
  Calls Tryz.prog 70 #[.pointer (some ⟨g, 0, none⟩)] w fun e w' => e = .returned (.int .i64 r1) ∧ IsS88 w0 w' g s0_0 r2 r3 ∧ Below w0.heap.size w0 w' ∧ KeepBut w w' g none := by
 have HI0 := ak hI
 have HK := ak (KeepBut.refl w g none)
 have HL := ak hB.size
 clear hI
 have HW0 := ak hB.size
 have HB := ak hB
 clear hB
 have H := h
 unfold yT.f at H
 clear h
 replace H := sd H
 rcases H with ⟨c2b0, H⟩ | ⟨c2b0, H⟩
 ·replace H := sT H
  obtain ⟨c3, H⟩ := H
  have c3b0 := decide_eq_true c3
  clear c3
  obtain ⟨rfl, rfl, rfl⟩ := oi3 H
  obtain ⟨ASz4_0, cSz4_0, HGz4, hgz4, HSz4_0⟩ := HI0.out
  have hcz4_0 := jL0 HGz4
  have hcz4_1 := jK0 HGz4
  have hcz4_2 := jJ0 HGz4
  have hfz4_1 := yS HGz4 1
  have hfz4_2 := yS HGz4 2
  clear HGz4 hgz4
  have p101 : 0 ≤ (s0_1 : Int) := of_decide_eq_true asm
  have q101 : s0_1 < (s0_0.length : Int) := of_decide_eq_true asm
  obtain ⟨ad101, e101, hx101_0⟩ := Kd.at_int HSz4_0 s0_1 p101 q101
  cases e101
  have hn101_0 : ad101.block ≠ g := Nat.ne_of_lt (Nat.lt_of_lt_of_le (by have := World.block_lt_of_cell? _ _ hx101_0; first | rwa [zG] at this | exact this) (zc HI0.out))
  replace hx101_0 := qI HB.out hx101_0
  replace hx101_0 := (yW (p := ⟨g, 2, none⟩) (by first | (rw [zG]; exact hn101_0) | (show (Addr.add _ _).block ≠ _; rw [zG]; exact hn101_0) | exact hn101_0) (.int .i64 (wrap64 ((wrap64 (s0_2 * 6364136223846793005)) + 1442695040888963407)))).trans hx101_0
  (try have hy101_0 := fun (n_ : Nat) => (show (((w.drewN n_).setCell ⟨g, 2, none⟩ (.int .i64 (wrap64 ((wrap64 (s0_2 * 6364136223846793005)) + 1442695040888963407))))).cell? _ = some _ from hx101_0))
  clear hn101_0
  replace p101 := eq_true p101
  replace q101 := eq_true q101
  go_enter Tryz.func70, Tryz.ntmps70
  go_wp2
  repeat (go_quiet (fail); try go_wp2)
  go_ret
  exact ⟨rv, zU HI0.out, bq1 (zc HI0.out), kq⟩
 ·obtain ⟨rfl, rfl, rfl⟩ := oi3 H
  obtain ⟨ASz5_0, cSz5_0, HGz5, hgz5, HSz5_0⟩ := HI0.out
  have hcz5_0 := jL0 HGz5
  have hcz5_1 := jK0 HGz5
  have hcz5_2 := jJ0 HGz5
  have hfz5_1 := yS HGz5 1
  have hfz5_2 := yS HGz5 2
  clear HGz5 hgz5
  go_enter Tryz.func70, Tryz.ntmps70
  go_wp2
  repeat (go_quiet (fail); try go_wp2)
  go_ret
  exact ⟨rv, zU HI0.out, bq1 (zc HI0.out), kq⟩
def zp.f (s0_0 : List Int) (s0_1 : Int) (s0_2 : Int) (a1 : Int) : Option (Int × Int × Int) := if a1 ≤ 0 then (some (0, s0_1, s0_2)) else (if a1 ≤ 256 then ((yT.f s0_0 s0_1 s0_2).bind fun bt101 => (if a1 = 0 then (none) else (some (Int.tmod bt101.1 a1, bt101.2.1, bt101.2.2)))) else ((yT.f s0_0 s0_1 s0_2).bind fun bt104 => ((yT.f s0_0 bt104.2.1 bt104.2.2).bind fun bt107 => ((yT.f s0_0 bt107.2.1 bt107.2.2).bind fun bt110 => ((yT.f s0_0 bt110.2.1 bt110.2.2).bind fun bt113 => (if a1 = 0 then (none) else (some (Int.tmod (wrap64 ((wrap64 ((wrap64 ((wrap64 (bt104.1 * 16777216)) + (wrap64 (bt107.1 * 65536)))) + (wrap64 (bt110.1 * 256)))) + bt113.1)) a1, bt113.2.1, bt113.2.2))))))))
theorem zp.calls (g : Nat) (s0_0 : List Int) (s0_1 : Int) (s0_2 : Int) (a1 : Int) (r1 : Int) (r2 : Int) (r3 : Int) (w0 w : World) (hI : IsS88 w0 w g s0_0 s0_1 s0_2) (hB : Below w0.heap.size w0 w) (h : zp.f s0_0 s0_1 s0_2 a1 = some (r1, r2, r3)) :
  Calls Tryz.prog 38 #[.pointer (some ⟨g, 0, none⟩), .int .i64 a1] w fun e w' => e = .returned (.int .i64 r1) ∧ IsS88 w0 w' g s0_0 r2 r3 ∧ Below w0.heap.size w0 w' ∧ KeepBut w w' g none := by
 have HI0 := ak hI
 have HK := ak (KeepBut.refl w g none)
 have HL := ak hB.size
 clear hI
 have HW0 := ak hB.size
 have HB := ak hB
 clear hB
 have H := h
 unfold zp.f at H
 clear h
 replace H := sd H
 rcases H with ⟨c3b0, H⟩ | ⟨c3b0, H⟩
 ·obtain ⟨rfl, rfl, rfl⟩ := oi3 H
  go_enter Tryz.func38, Tryz.ntmps38
  go_wp2
  go_ret
  exact ⟨rv, zU HI0.out, bq1 (zc HI0.out), kq⟩
 ·replace H := sd H
  rcases H with ⟨c4b0, H⟩ | ⟨c4b0, H⟩
  ·replace H := ob H
   obtain ⟨⟨t101, t102, t103⟩, A5, H⟩ := H
   try dsimp only at H
   replace H := sF H
   obtain ⟨c6, H⟩ := H
   obtain ⟨c6b0, c6b1⟩ := neT c6
   obtain ⟨rfl, rfl, rfl⟩ := oi3 H
   go_enter Tryz.func38, Tryz.ntmps38
   go_wp2_with (first | ((with_reducible refine za (f := 70) rfl ?_); refine cl 14 rfl Tryz.func70 #[.pointer (some ⟨g, 0, none⟩)] (yT.calls g s0_0 s0_1 s0_2 t101 t102 t103 w0 _ ?side1 ?side2 A5.out) ?_; (case side1 => exact zU HI0.out); (case side2 => exact bq1 (zc HI0.out)); rintro e w7 ⟨rfl, hi, hb, hk⟩; refine ⟨_, rfl, ?_⟩; replace HK := ak (KeepBut.trans kq hk (.inl rfl)); replace HB := ak (hb); replace HI0 := ak (hi); (try clear hb hk hi)))
   go_ret
   exact ⟨rv, zU HI0.out, bq1 (zc HI0.out), kq⟩
  ·replace H := ob H
   obtain ⟨⟨t104, t105, t106⟩, A8, H⟩ := H
   try dsimp only at H
   replace H := ob H
   obtain ⟨⟨t107, t108, t109⟩, A9, H⟩ := H
   try dsimp only at H
   replace H := ob H
   obtain ⟨⟨t110, t111, t112⟩, A10, H⟩ := H
   try dsimp only at H
   replace H := ob H
   obtain ⟨⟨t113, t114, t115⟩, A11, H⟩ := H
   try dsimp only at H
   replace H := sF H
   obtain ⟨c12, H⟩ := H
   obtain ⟨c12b0, c12b1⟩ := neT c12
   obtain ⟨rfl, rfl, rfl⟩ := oi3 H
   go_enter Tryz.func38, Tryz.ntmps38
   go_wp2_with (first | ((with_reducible refine za (f := 70) rfl ?_); refine cl 18 rfl Tryz.func70 #[.pointer (some ⟨g, 0, none⟩)] (yT.calls g s0_0 s0_1 s0_2 t104 t105 t106 w0 _ ?side1 ?side2 A8.out) ?_; (case side1 => exact zU HI0.out); (case side2 => exact bq1 (zc HI0.out)); rintro e w13 ⟨rfl, hi, hb, hk⟩; refine ⟨_, rfl, ?_⟩; replace HK := ak (KeepBut.trans kq hk (.inl rfl)); replace HB := ak (hb); replace HI0 := ak (hi); (try clear hb hk hi)) | ((with_reducible refine za (f := 70) rfl ?_); refine cl 20 rfl Tryz.func70 #[.pointer (some ⟨g, 0, none⟩)] (yT.calls g s0_0 t105 t106 t107 t108 t109 w0 _ ?side1 ?side2 A9.out) ?_; (case side1 => exact zU HI0.out); (case side2 => exact bq1 (zc HI0.out)); rintro e w14 ⟨rfl, hi, hb, hk⟩; refine ⟨_, rfl, ?_⟩; replace HK := ak (KeepBut.trans kq hk (.inl rfl)); replace HB := ak (hb); replace HI0 := ak (hi); (try clear hb hk hi)) | ((with_reducible refine za (f := 70) rfl ?_); refine cl 22 rfl Tryz.func70 #[.pointer (some ⟨g, 0, none⟩)] (yT.calls g s0_0 t108 t109 t110 t111 t112 w0 _ ?side1 ?side2 A10.out) ?_; (case side1 => exact zU HI0.out); (case side2 => exact bq1 (zc HI0.out)); rintro e w15 ⟨rfl, hi, hb, hk⟩; refine ⟨_, rfl, ?_⟩; replace HK := ak (KeepBut.trans kq hk (.inl rfl)); replace HB := ak (hb); replace HI0 := ak (hi); (try clear hb hk hi)) | ((with_reducible refine za (f := 70) rfl ?_); refine cl 24 rfl Tryz.func70 #[.pointer (some ⟨g, 0, none⟩)] (yT.calls g s0_0 t111 t112 t113 t114 t115 w0 _ ?side1 ?side2 A11.out) ?_; (case side1 => exact zU HI0.out); (case side2 => exact bq1 (zc HI0.out)); rintro e w16 ⟨rfl, hi, hb, hk⟩; refine ⟨_, rfl, ?_⟩; replace HK := ak (KeepBut.trans kq hk (.inl rfl)); replace HB := ak (hb); replace HI0 := ak (hi); (try clear hb hk hi)))
   go_ret
   exact ⟨rv, zU HI0.out, bq1 (zc HI0.out), kq⟩
def zB.f (s0_0 : List Int) (s0_1 : Int) (s0_2 : Int) (l1 : List ByteArray) : Option (ByteArray × Int × Int) := (zp.f s0_0 s0_1 s0_2 (l1.length : Int)).bind fun bt101 => (if 0 ≤ bt101.1 then (if bt101.1 < (l1.length : Int) then (some (rdOf ByteArray.empty l1 bt101.1, bt101.2.1, bt101.2.2)) else (none)) else (none))
theorem zB.calls (g : Nat) (s0_0 : List Int) (s0_1 : Int) (s0_2 : Int) (A1 : Option Addr) (c1 : Nat) (l1 : List ByteArray) (r1 : ByteArray) (r2 : Int) (r3 : Int) (w0 w : World) (hI : IsS88 w0 w g s0_0 s0_1 s0_2) (hB : Below w0.heap.size w0 w) (hr1 : Kd.C Kd.string w A1 l1.length l1) (hc1 : l1.length ≤ c1) (hf1 : ∀ ad, A1 = some ad → 0 < l1.length → ad.block ≠ g) (h : zB.f s0_0 s0_1 s0_2 l1 = some (r1, r2, r3)) :
  Calls Tryz.prog 41 #[.pointer (some ⟨g, 0, none⟩), .slice A1 l1.length c1] w fun e w' => e = .returned (.string r1) ∧ IsS88 w0 w' g s0_0 r2 r3 ∧ Below w0.heap.size w0 w' ∧ KeepBut w w' g none := by
 have HR1 := ak hr1
 have HC1 := ak hc1
 clear hr1 hc1
 have HI0 := ak hI
 have HK := ak (KeepBut.refl w g none)
 have HL := ak hB.size
 clear hI
 have HW0 := ak hB.size
 have HB := ak hB
 clear hB
 have H := h
 unfold zB.f at H
 clear h
 replace H := ob H
 obtain ⟨⟨t101, t102, t103⟩, A3, H⟩ := H
 try dsimp only at H
 replace H := sT H
 obtain ⟨c4, H⟩ := H
 have c4b0 := decide_eq_true c4
 clear c4
 replace H := sT H
 obtain ⟨c5, H⟩ := H
 have c5b0 := decide_eq_true c5
 clear c5
 obtain ⟨rfl, rfl, rfl⟩ := oi3 H
 go_enter Tryz.func41, Tryz.ntmps41
 go_wp2_with (first | ((with_reducible refine za (f := 38) rfl ?_); refine cl 9 rfl Tryz.func38 #[.pointer (some ⟨g, 0, none⟩), .int .i64 (l1.length : Int)] (zp.calls g s0_0 s0_1 s0_2 (l1.length : Int) t101 t102 t103 w0 _ ?side1 ?side2 A3.out) ?_; (case side1 => exact zU HI0.out); (case side2 => exact bq1 (zc HI0.out)); rintro e w6 ⟨rfl, hi, hb, hk⟩; refine ⟨_, rfl, ?_⟩; replace HK := ak (KeepBut.trans kq hk (.inl rfl)); replace HB := ak (hb); replace HI0 := ak (hi); (try clear hb hk hi); have p104 : 0 ≤ (t101 : Int) := of_decide_eq_true asm; have q104 : t101 < (l1.length : Int) := of_decide_eq_true asm; obtain ⟨ad104, e104, hx104_0⟩ := Kd.at_string HR1.out t101 p104 q104; cases e104; replace hx104_0 := xG0 HK.out hx104_0 (by first | (rw [zG]; exact hf1 _ rfl (by omega)) | exact hf1 _ rfl (by omega) | exact hf1 ad104 rfl (by omega)); replace p104 := eq_true p104; replace q104 := eq_true q104))
 go_ret
 exact ⟨rv, zU HI0.out, bq1 (zc HI0.out), kq⟩
def qE.f (s0_0 : List Int) (s0_1 : Int) (s0_2 : Int) : Option (ByteArray × Int × Int) := (zB.f s0_0 s0_1 s0_2 (([(⟨#[47]⟩ : ByteArray), (⟨#[47, 97]⟩ : ByteArray), (⟨#[47, 98]⟩ : ByteArray), (⟨#[47, 99]⟩ : ByteArray)] : List ByteArray))).bind fun bt104 => (some (bt104.1, bt104.2.1, bt104.2.2))
theorem qE.calls (g : Nat) (s0_0 : List Int) (s0_1 : Int) (s0_2 : Int) (r1 : ByteArray) (r2 : Int) (r3 : Int) (w0 w : World) (hI : IsS88 w0 w g s0_0 s0_1 s0_2) (hB : Below w0.heap.size w0 w) (h : qE.f s0_0 s0_1 s0_2 = some (r1, r2, r3)) :
  Calls Tryz.prog 65 #[.pointer (some ⟨g, 0, none⟩)] w fun e w' => e = .returned (.string r1) ∧ IsS88 w0 w' g s0_0 r2 r3 ∧ Below w0.heap.size w0 w' ∧ KeepBut w w' g none := by
 have HI0 := ak hI
 have HK := ak (KeepBut.refl w g none)
 have HL := ak hB.size
 clear hI
 have HW0 := ak hB.size
 have HB := ak hB
 clear hB
 have H := h
 unfold qE.f at H
 clear h
 obtain ⟨y101, hy101⟩ : ∃ y_ : List ByteArray, y_ = (([(⟨#[47]⟩ : ByteArray), (⟨#[47, 97]⟩ : ByteArray), (⟨#[47, 98]⟩ : ByteArray), (⟨#[47, 99]⟩ : ByteArray)] : List ByteArray)) := ⟨_, rfl⟩
 replace H : ((zB.f s0_0 s0_1 s0_2 y101).bind fun bt104 => (some (bt104.1, bt104.2.1, bt104.2.2))) = some (r1, r2, r3) := rhq hy101
 have Ny101 := ak hy101
 clear hy101
 replace H := ob H
 obtain ⟨⟨t104, t105, t106⟩, A2, H⟩ := H
 try dsimp only at H
 obtain ⟨rfl, rfl, rfl⟩ := oi3 H
 go_enter Tryz.func65, Tryz.ntmps65
 go_wp2_with (first | ((with_reducible refine zl (N := 4) rfl ?_); refine rS 9 4 Ny101.out ?_; intro v102 w3 ho4 hb; have HO103 := ak (Kd.R_lower ho4 (yi (w := w) (g := g) (row := none) kq)); replace HK := ak (KeepBut.trans kq (zF hb g none) (.inl rfl)); replace HB := ak (zb (bq1 (zc HI0.out)) hb); replace HI0 := ak (IsS88.below (zU HI0.out) hb); clear hb ho4; obtain ⟨Ao5, co5, eo5⟩ := Kd.R_slice HO103.out; subst eo5) | ((with_reducible refine za (f := 41) rfl ?_); refine cl 5 rfl Tryz.func41 #[.pointer (some ⟨g, 0, none⟩), .slice Ao5 y101.length co5] (zB.calls g s0_0 s0_1 s0_2 _ _ y101 t104 t105 t106 w0 _ ?side1 ?side2 ?side3 ?side4 ?side5 A2.out) ?_; (case side1 => exact zU HI0.out); (case side2 => exact bq1 (zc HI0.out)); (case side3 => exact cq (Kd.R_reads' HO103.out).2.2); (case side4 => exact (Kd.R_reads' HO103.out).2.1); (case side5 => exact xD (yp HI0.out HO103.out (by decide))); rintro e w6 ⟨rfl, hi, hb, hk⟩; refine ⟨_, rfl, ?_⟩; replace HO103 := ak (Kd.R_mono (Kd.R_keep (IsS88.apart (show IsS88 w0 _ g s0_0 s0_1 s0_2 from zU HI0.out) (rdq HO103.out) (by decide)) hk (fun _ h => h.2)) (fun _ h => h.1)); replace HK := ak (KeepBut.trans kq hk (.inl rfl)); replace HB := ak (hb); replace HI0 := ak (hi); (try clear hb hk hi)))
 go_ret
 exact ⟨rv, zU HI0.out, bq1 (zc HI0.out), kq⟩
def yZ.f (a0 : Int) (a1 : Int) (a2 : Int) : Option (Bool) := if a0 ≥ a1 then (some (decide (a0 ≤ a2))) else (some false)
theorem yZ.calls (a0 : Int) (a1 : Int) (a2 : Int) (r : Bool) (w : World) (h : yZ.f a0 a1 a2 = some r) :
  Calls Tryz.prog 34 #[.int .i64 a0, .int .i64 a1, .int .i64 a2] w fun e w' => e = .returned (.bool r) ∧ Drawn0 w w' := by
 have H : (if a0 ≥ a1 then (some (decide (a0 ≤ a2))) else (some false)) = some r := h
 clear h
 replace H := sd H
 rcases H with ⟨c4b0, H⟩ | ⟨c4b0, H⟩
 ·obtain rfl := oi1 H
  go_enter Tryz.func34, Tryz.ntmps34
  go_wp2
  go_ret
  exact ⟨rt, dr⟩
 ·obtain rfl := oi1 H
  go_enter Tryz.func34, Tryz.ntmps34
  go_wp2
  go_ret
  exact ⟨rt, dr⟩
def yw.l0 : Nat → Int → ByteArray → Bool → Option (ByteArray)
 | 0, _, _, _ => none
 | k + 1, x0, x3, x4 => if x0 = 0 then (if x4 = true then (if 1 + x3.size ≤ 9223372036854775807 then (some ((⟨#[45]⟩ : ByteArray) ++ x3)) else (none)) else (some x3)) else (if (Int.tmod x0 10) < 0 then ((some (([(wrap64 (48 + (wrap64 (-(Int.tmod x0 10))))) % 256] : List Int) : List Int)).bind fun y101 => (if (strOfNums y101).size + x3.size ≤ 9223372036854775807 then (yw.l0 k (wrap64 (Int.tdiv x0 10)) ((strOfNums y101) ++ x3) x4) else (none))) else ((some (([(wrap64 (48 + (Int.tmod x0 10))) % 256] : List Int) : List Int)).bind fun y104 => (if (strOfNums y104).size + x3.size ≤ 9223372036854775807 then (yw.l0 k (wrap64 (Int.tdiv x0 10)) ((strOfNums y104) ++ x3) x4) else (none))))
def yw.f (k : Nat) (a0 : Int) : Option (ByteArray) := if a0 = 0 then (some (⟨#[48]⟩ : ByteArray)) else (yw.l0 k a0 (⟨#[]⟩ : ByteArray) (decide (a0 < 0)))
theorem yw.mono_l : ∀ k, (∀ y0 y1 y2, LeO (yw.l0 k y0 y1 y2) (yw.l0 (k + 1) y0 y1 y2))
 | 0 => fun _ _ _ r h => by simp [yw.l0] at h
 | k + 1 => by
  have ih0 := yw.mono_l k
  ·intro y0 y1 y2
   unfold yw.l0
   exact mq1 ih0
theorem yw.mono : ∀ a0 k, LeO (yw.f k a0) (yw.f (k + 1) a0) := by
 intro a0 k
 have ih0 := yw.mono_l k
 unfold yw.f
 exact mq1 ih0
theorem yw.calls (k : Nat) (a0 : Int) (r : ByteArray) (w : World) (h : yw.f k a0 = some r) :
  Calls Tryz.prog 97 #[.int .i64 a0] w fun e w' => e = .returned (.string r) ∧ Below w.heap.size w w' := by
 have HB := ak (Below.refl w.heap.size w)
 have H := h
 unfold yw.f at H
 clear h
 replace H := se H
 rcases H with ⟨c2b0, c2b1, H⟩ | ⟨c2, c2b0, c2b1, H⟩
 ·obtain rfl := oi1 H
  go_enter Tryz.func97, Tryz.ntmps97
  go_wp2
  go_ret
  exact ⟨rv, bq⟩
 ·have H' := ak H
  clear H
  go_enter Tryz.func97, Tryz.ntmps97
  go_wp2
  go_loopg [0, 3] k (fun kq v0 v3 w' => ∃ (x0_1 : Int) (x3_1 : ByteArray), v0 = .int .i64 x0_1 ∧ v3 = .string x3_1 ∧ Aside0 (yw.l0 kq x0_1 x3_1 (decide (a0 < 0)) = some r) ∧ Aside0 (kq ≤ k) ∧ Aside0 (Below w.heap.size w w'))
  case atStart => exact ⟨(a0), ((⟨#[]⟩ : ByteArray)), rs, rs, H', ⟨Nat.le_refl _⟩, ⟨bq⟩⟩
  case round =>
   clear H'
   obtain ⟨x0_1, x3_1, rfl, rfl, HA, HK1, HB⟩ := hrel
   cases gk with
   | zero => exact absurd HA.out (by simp [yw.l0])
   | succ k1 =>
    have H := HA.out
    clear HA
    simp only [yw.l0] at H
    replace H := se H
    rcases H with ⟨c3b0, c3b1, H⟩ | ⟨c3, c3b0, c3b1, H⟩
    ·replace H := si H
     rcases H with ⟨c4, H⟩ | ⟨c4, H⟩
     ·have c4b0 : (decide (a0 < 0)) = true := c4
      try simp only [c4b0]
      clear c4
      replace H := sK H
      obtain ⟨c5, c5b0, c5b1, H⟩ := H
      obtain rfl := oi1 H
      go_wp2
      go_ret
      exact ⟨rv, bq⟩
     ·have c4b0 : (decide (a0 < 0)) = false := by simpa using c4
      try simp only [c4b0]
      clear c4
      obtain rfl := oi1 H
      go_wp2
      go_ret
      exact ⟨rv, bq⟩
    ·replace H := sd H
     rcases H with ⟨c6b0, H⟩ | ⟨c6b0, H⟩
     ·obtain ⟨y101, hy101⟩ : ∃ y_ : List Int, y_ = (([(wrap64 (48 + (wrap64 (-(Int.tmod x0_1 10))))) % 256] : List Int)) := ⟨_, rfl⟩
      replace H : (if (strOfNums y101).size + x3_1.size ≤ 9223372036854775807 then (yw.l0 k1 (wrap64 (Int.tdiv x0_1 10)) ((strOfNums y101) ++ x3_1) (decide (a0 < 0))) else (none)) = some r := rhq hy101
      have Ny101 := ak hy101
      clear hy101
      replace H := sK H
      obtain ⟨c7, c7b0, c7b1, H⟩ := H
      have H' := ak H
      clear H
      go_wp2_with (first | ((with_reducible refine zl (N := 21) rfl ?_); refine rI .u8 5 21 Ny101.out ?_; intro v102 w8 ho9 hb; have HO103 := ak (Kd.R_lower ho9 (zd bq)); replace HB := ak (zb bq hb); clear hb ho9; have hcv10 := qG (P := Tryz.prog) Tryz.underlying22 Tryz.underlying5 Tryz.underlying9 (Kd.own_of_R HO103.out)))
      go_roundg k1
      case measure => have := HK1.out; omega
      case rel => exact ⟨(wrap64 (Int.tdiv x0_1 10)), ((strOfNums y101) ++ x3_1), rs, rs, H', ⟨by have := HK1.out; omega⟩, ⟨bq⟩⟩
     ·obtain ⟨y104, hy104⟩ : ∃ y_ : List Int, y_ = (([(wrap64 (48 + (Int.tmod x0_1 10))) % 256] : List Int)) := ⟨_, rfl⟩
      replace H : (if (strOfNums y104).size + x3_1.size ≤ 9223372036854775807 then (yw.l0 k1 (wrap64 (Int.tdiv x0_1 10)) ((strOfNums y104) ++ x3_1) (decide (a0 < 0))) else (none)) = some r := rhq hy104
      have Ny104 := ak hy104
      clear hy104
      replace H := sK H
      obtain ⟨c11, c11b0, c11b1, H⟩ := H
      have H' := ak H
      clear H
      go_wp2_with (first | ((with_reducible refine zl (N := 21) rfl ?_); refine rI .u8 5 21 Ny104.out ?_; intro v105 w12 ho13 hb; have HO106 := ak (Kd.R_lower ho13 (zd bq)); replace HB := ak (zb bq hb); clear hb ho13; have hcv14 := qG (P := Tryz.prog) Tryz.underlying22 Tryz.underlying5 Tryz.underlying9 (Kd.own_of_R HO106.out)))
      go_roundg k1
      case measure => have := HK1.out; omega
      case rel => exact ⟨(wrap64 (Int.tdiv x0_1 10)), ((strOfNums y104) ++ x3_1), rs, rs, H', ⟨by have := HK1.out; omega⟩, ⟨bq⟩⟩
def xT.f (a0 : Int) : Option (Bool) := if (Int.tmod a0 4) = 0 then (if (Int.tmod a0 100) = 0 then (some ((Int.tmod a0 400) == 0)) else (some true)) else (some false)
theorem xT.calls (a0 : Int) (r : Bool) (w : World) (h : xT.f a0 = some r) :
  Calls Tryz.prog 142 #[.int .i64 a0] w fun e w' => e = .returned (.bool r) ∧ Drawn0 w w' := by
 have H := h
 unfold xT.f at H
 clear h
 replace H := se H
 rcases H with ⟨c2b0, c2b1, H⟩ | ⟨c2, c2b0, c2b1, H⟩
 ·replace H := se H
  rcases H with ⟨c3b0, c3b1, H⟩ | ⟨c3, c3b0, c3b1, H⟩
  ·obtain rfl := oi1 H
   go_enter Tryz.func142, Tryz.ntmps142
   go_wp2
   go_ret
   exact ⟨rt, dr⟩
  ·obtain rfl := oi1 H
   go_enter Tryz.func142, Tryz.ntmps142
   go_wp2
   go_ret
   exact ⟨rt, dr⟩
 ·obtain rfl := oi1 H
  go_enter Tryz.func142, Tryz.ntmps142
  go_wp2
  go_ret
  exact ⟨rt, dr⟩
def xO.f (a0 : Int) : Option (List Int) := (xT.f a0).bind fun t101 => (if t101 = true then (some (([31, 29, 31, 30, 31, 30, 31, 31, 30, 31, 30, 31] : List Int))) else (some (([31, 28, 31, 30, 31, 30, 31, 31, 30, 31, 30, 31] : List Int))))
theorem xO.calls (a0 : Int) (r : List Int) (w : World) (h : xO.f a0 = some r) :
  Calls Tryz.prog 141 #[.int .i64 a0] w fun e w' => ∃ v0_ : Value, e = .returned (v0_) ∧ Kd.R (Kd.int .i64) 3 w' w.heap.size (fun _ => True) v0_ r ∧ Below w.heap.size w w' := by
 have HB := ak (Below.refl w.heap.size w)
 have H := h
 unfold xO.f at H
 clear h
 replace H := ob H
 obtain ⟨t101, A2, H⟩ := H
 replace H := sb H
 rcases H with ⟨rfl, H⟩ | ⟨rfl, H⟩
 ·obtain ⟨y102, hy102⟩ : ∃ y_ : List Int, y_ = (([31, 29, 31, 30, 31, 30, 31, 31, 30, 31, 30, 31] : List Int)) := ⟨_, rfl⟩
  replace H : (some y102) = some r := rhq hy102
  have Ny102 := ak hy102
  clear hy102
  obtain rfl := oi1 H
  go_enter Tryz.func141, Tryz.ntmps141
  go_wp2_with (first | ((with_reducible refine za (f := 142) rfl ?_); refine cl 5 rfl Tryz.func142 #[.int .i64 a0] (xT.calls a0 true _ A2.out) ?_; rintro e w' ⟨rfl, ⟨nd, rfl⟩⟩; refine ⟨_, rfl, ?_⟩) | ((with_reducible refine zl (N := 7) rfl ?_); refine rI .i64 3 7 Ny102.out ?_; intro v103 w4 ho5 hb; have HO104 := ak (Kd.R_lower ho5 (zd bq)); replace HB := ak (zb bq hb); clear hb ho5))
  go_ret
  exact ⟨_, rv, by (with_reducible repeat (first | apply Kd.R_alloc | apply Kd.R_drewN | apply Kd.R_drew)); exact HO104.out, bq⟩
 ·obtain ⟨y105, hy105⟩ : ∃ y_ : List Int, y_ = (([31, 28, 31, 30, 31, 30, 31, 31, 30, 31, 30, 31] : List Int)) := ⟨_, rfl⟩
  replace H : (some y105) = some r := rhq hy105
  have Ny105 := ak hy105
  clear hy105
  obtain rfl := oi1 H
  go_enter Tryz.func141, Tryz.ntmps141
  go_wp2_with (first | ((with_reducible refine za (f := 142) rfl ?_); refine cl 5 rfl Tryz.func142 #[.int .i64 a0] (xT.calls a0 false _ A2.out) ?_; rintro e w' ⟨rfl, ⟨nd, rfl⟩⟩; refine ⟨_, rfl, ?_⟩) | ((with_reducible refine zl (N := 7) rfl ?_); refine rI .i64 3 7 Ny105.out ?_; intro v106 w6 ho7 hb; have HO107 := ak (Kd.R_lower ho7 (zd bq)); replace HB := ak (zb bq hb); clear hb ho7))
  go_ret
  exact ⟨_, rv, by (with_reducible repeat (first | apply Kd.R_alloc | apply Kd.R_drewN | apply Kd.R_drew)); exact HO107.out, bq⟩
mutual
def zv.j0 : Nat → Int → Int → Int → Bool → Option (Int)
 | 0, _, _, _, _ => none
 | k + 1, x0, x1, x2, x28 => if x28 = true then (some (-1)) else (zv.l0 k x0 x1 (wrap64 (x2 - 1)) 1970)
def zv.l0 : Nat → Int → Int → Int → Int → Option (Int)
 | 0, _, _, _, _ => none
 | k + 1, x0, x1, x7, x8 => if x8 < x0 then ((xT.f x8).bind fun t108 => (if t108 = true then (zv.l0 k x0 x1 (wrap64 ((wrap64 (x7 + 365)) + 1)) (wrap64 (x8 + 1))) else (zv.l0 k x0 x1 (wrap64 (x7 + 365)) (wrap64 (x8 + 1))))) else (zv.l1 k x0 x1 x7 1)
def zv.l1 : Nat → Int → Int → Int → Int → Option (Int)
 | 0, _, _, _, _ => none
 | k + 1, x0, x1, x7, x9 => if x9 < x1 then ((xO.f x0).bind fun t109 => (if 0 ≤ (wrap64 (x9 - 1)) then (if (wrap64 (x9 - 1)) < (t109.length : Int) then (zv.l1 k x0 x1 (wrap64 (x7 + (rd t109 (wrap64 (x9 - 1))))) (wrap64 (x9 + 1))) else (none)) else (none))) else (some x7)
end
def zv.f (k : Nat) (a0 : Int) (a1 : Int) (a2 : Int) : Option (Int) := (yZ.f a0 1970 2037).bind fun t101 => (if t101 = true then ((yZ.f a1 1 12).bind fun t102 => (if t102 = true then ((xO.f a0).bind fun t103 => (if 0 ≤ (wrap64 (a1 - 1)) then (if (wrap64 (a1 - 1)) < (t103.length : Int) then ((yZ.f a2 1 (rd t103 (wrap64 (a1 - 1)))).bind fun t107 => (zv.j0 k a0 a1 a2 (!t107))) else (none)) else (none))) else (zv.j0 k a0 a1 a2 true))) else (zv.j0 k a0 a1 a2 true))
theorem zv.mono_l : ∀ k, (∀ y0 y1 y2 y3, LeO (zv.j0 k y0 y1 y2 y3) (zv.j0 (k + 1) y0 y1 y2 y3)) ∧ (∀ y0 y1 y2 y3, LeO (zv.l0 k y0 y1 y2 y3) (zv.l0 (k + 1) y0 y1 y2 y3)) ∧ (∀ y0 y1 y2 y3, LeO (zv.l1 k y0 y1 y2 y3) (zv.l1 (k + 1) y0 y1 y2 y3))
 | 0 => ⟨fun _ _ _ _ r h => by simp [zv.j0] at h, fun _ _ _ _ r h => by simp [zv.l0] at h, fun _ _ _ _ r h => by simp [zv.l1] at h⟩
 | k + 1 => by
  obtain ⟨ih0, ih1, ih2⟩ := zv.mono_l k
  refine ⟨?_, ?_, ?_⟩
  ·intro y0 y1 y2 y3
   unfold zv.j0
   exact mq3 ih0 ih1 ih2
  ·intro y0 y1 y2 y3
   unfold zv.l0
   exact mq3 ih0 ih1 ih2
  ·intro y0 y1 y2 y3
   unfold zv.l1
   exact mq3 ih0 ih1 ih2
theorem zv.mono : ∀ a0 a1 a2 k, LeO (zv.f k a0 a1 a2) (zv.f (k + 1) a0 a1 a2) := by
 intro a0 a1 a2 k
 obtain ⟨ih0, ih1, ih2⟩ := zv.mono_l k
 unfold zv.f
 exact mq3 ih0 ih1 ih2
theorem zv.calls (k : Nat) (a0 : Int) (a1 : Int) (a2 : Int) (r : Int) (w : World) (h : zv.f k a0 a1 a2 = some r) :
  Calls Tryz.prog 122 #[.int .i64 a0, .int .i64 a1, .int .i64 a2] w fun e w' => e = .returned (.int .i64 r) ∧ Below w.heap.size w w' := by
 have HB := ak (Below.refl w.heap.size w)
 have H := h
 unfold zv.f at H
 clear h
 have HC4 := ak H
 clear H
 go_enter Tryz.func122, Tryz.ntmps122
 go_upto_region 1 with (fail)
 go_cut [28] (fun v28 wc => ∃ (kq : Nat) (x28_3 : Bool), v28 = .bool x28_3 ∧ Aside0 (zv.j0 kq a0 a1 a2 x28_3 = some r) ∧ Aside0 (kq ≤ k) ∧ Aside0 (Below w.heap.size w wc))
 case first =>
  have H := HC4.out
  clear HC4
  replace H := ob H
  obtain ⟨t101, A5, H⟩ := H
  replace H := sb H
  rcases H with ⟨rfl, H⟩ | ⟨rfl, H⟩
  ·replace H := ob H
   obtain ⟨t102, A7, H⟩ := H
   try dsimp only at H
   replace H := sb H
   rcases H with ⟨rfl, H⟩ | ⟨rfl, H⟩
   ·replace H := ob H
    obtain ⟨t103, A9, H⟩ := H
    try dsimp only at H
    obtain ⟨ji10, hji10⟩ : ∃ j_ : Int, (wrap64 (a1 - 1)) = j_ := ⟨_, rfl⟩
    replace H : (if 0 ≤ (ji10) then (if (ji10) < (t103.length : Int) then ((yZ.f a2 1 (rd t103 (ji10))).bind fun t107 => (zv.j0 k a0 a1 a2 (!t107))) else (none)) else (none)) = some r := by first | (rw [hji10] at H; exact H) | (simp only [hji10] at H ⊢; exact H)
    (try rw [hji10] at A5)
    (try rw [hji10] at A7)
    (try rw [hji10] at A9)
    have hji10w : (IntKind.i64.wrap (a1 - 1)) = ji10 := (i64_w _).trans hji10
    replace H := sT H
    obtain ⟨c11, H⟩ := H
    have c11b0 := decide_eq_true c11
    clear c11
    (first | rw [c11b0] | (simp only [i64_w, i32_w]; rw [c11b0]) | skip)
    replace H := sT H
    obtain ⟨c12, H⟩ := H
    have c12b0 := decide_eq_true c12
    clear c12
    replace H := ob H
    obtain ⟨t107, A13, H⟩ := H
    have H' := ak H
    clear H
    go_wp2_with (first | ((with_reducible refine za (f := 34) rfl ?_); refine cl 11 rfl Tryz.func34 #[.int .i64 a0, .int .i64 1970, .int .i64 2037] (yZ.calls a0 1970 2037 true _ A5.out) ?_; rintro e w' ⟨rfl, ⟨nd, rfl⟩⟩; refine ⟨_, rfl, ?_⟩) | (go_at_call 34; (with_reducible refine (yZ.calls a1 1 12 true _ A7.out).mono ?_); rintro e w' ⟨rfl, ⟨nd, rfl⟩⟩) | (go_at_call 141; (with_reducible refine (xO.calls a0 t103 _ A9.out).mono ?_); rintro e w14 ⟨v104, rfl, ho0, hb⟩; have HO105 := ak (Kd.R_lower ho0 (zd bq)); replace HB := ak (zb bq hb); (try clear hb ho0); obtain ⟨Ao15, co15, eo15⟩ := Kd.R_slice HO105.out; subst eo15; have p106 : 0 ≤ ((ji10) : Int) := of_decide_eq_true asm; have q106 : (ji10) < (t103.length : Int) := of_decide_eq_true asm; obtain ⟨ad106, e106, hx106_0⟩ := Kd.at_int (Kd.R_reads' HO105.out).2.2 (ji10) p106 q106; cases e106; replace p106 := eq_true p106; replace q106 := eq_true q106) | (go_at_call 34; (with_reducible refine (yZ.calls a2 1 (rd t103 (ji10)) t107 _ A13.out).mono ?_); rintro e w' ⟨rfl, ⟨nd, rfl⟩⟩))
    go_meet
    case rel => exact ⟨_, (!t107), rs, H', ⟨om⟩, ⟨bq⟩⟩
   ·have H' := ak H
    clear H
    go_wp2_with (first | ((with_reducible refine za (f := 34) rfl ?_); refine cl 11 rfl Tryz.func34 #[.int .i64 a0, .int .i64 1970, .int .i64 2037] (yZ.calls a0 1970 2037 true _ A5.out) ?_; rintro e w' ⟨rfl, ⟨nd, rfl⟩⟩; refine ⟨_, rfl, ?_⟩) | (go_at_call 34; (with_reducible refine (yZ.calls a1 1 12 false _ A7.out).mono ?_); rintro e w' ⟨rfl, ⟨nd, rfl⟩⟩))
    go_meet
    case rel => exact ⟨_, (true), rs, H', ⟨om⟩, ⟨bq⟩⟩
  ·have H' := ak H
   clear H
   go_wp2_with (first | ((with_reducible refine za (f := 34) rfl ?_); refine cl 11 rfl Tryz.func34 #[.int .i64 a0, .int .i64 1970, .int .i64 2037] (yZ.calls a0 1970 2037 false _ A5.out) ?_; rintro e w' ⟨rfl, ⟨nd, rfl⟩⟩; refine ⟨_, rfl, ?_⟩))
   go_meet
   case rel => exact ⟨_, (true), rs, H', ⟨om⟩, ⟨bq⟩⟩
 case rest =>
  clear HC4
  try clear q1
  try clear hx1
  try clear q10
  try clear hx10
  try clear hx106_0
  try clear q106
  obtain ⟨kq, x28_3, rfl, HA, HJ3, HB⟩ := hcut
  cases kq with
  | zero => exact absurd HA.out (by simp [zv.j0])
  | succ kj3 =>
   have H := HA.out
   clear HA
   simp only [zv.j0] at H
   replace H := sb H
   rcases H with ⟨rfl, H⟩ | ⟨rfl, H⟩
   ·obtain rfl := oi1 H
    go_wp2
    go_ret
    exact ⟨rv, bq⟩
   ·have H' := ak H
    clear H
    go_wp2
    go_loopg [7, 8] kj3 (fun kq v7 v8 w' => ∃ (x7_2 : Int) (x8_2 : Int), v7 = .int .i64 x7_2 ∧ v8 = .int .i64 x8_2 ∧ Aside0 (zv.l0 kq a0 a1 x7_2 x8_2 = some r) ∧ Aside0 (kq ≤ kj3) ∧ Aside0 (Below w.heap.size w w'))
    case atStart => exact ⟨(wrap64 (a2 - 1)), (1970), rs, rs, H', ⟨Nat.le_refl _⟩, ⟨bq⟩⟩
    case round =>
     clear H'
     try clear q1
     try clear hx1
     try clear q10
     try clear hx10
     try clear hx106_0
     try clear q1
     try clear q10
     try clear q106
     obtain ⟨x7_2, x8_2, rfl, rfl, HA, HK2, HB⟩ := hrel
     cases gk with
     | zero => exact absurd HA.out (by simp [zv.l0])
     | succ k2 =>
      have H := HA.out
      clear HA
      simp only [zv.l0] at H
      replace H := sd H
      rcases H with ⟨c17b0, H⟩ | ⟨c17b0, H⟩
      ·replace H := ob H
       obtain ⟨t108, A18, H⟩ := H
       replace H := sb H
       rcases H with ⟨rfl, H⟩ | ⟨rfl, H⟩
       ·have H' := ak H
        clear H
        go_wp2_with (first | ((with_reducible refine za (f := 142) rfl ?_); refine cl 39 rfl Tryz.func142 #[.int .i64 x8_2] (xT.calls x8_2 true _ A18.out) ?_; rintro e w' ⟨rfl, ⟨nd, rfl⟩⟩; refine ⟨_, rfl, ?_⟩))
        go_roundg k2
        case measure => have := HJ3.out; have := HK2.out; omega
        case rel => exact ⟨(wrap64 ((wrap64 (x7_2 + 365)) + 1)), (wrap64 (x8_2 + 1)), rs, rs, H', ⟨by have := HJ3.out; have := HK2.out; omega⟩, ⟨bq⟩⟩
       ·have H' := ak H
        clear H
        go_wp2_with (first | ((with_reducible refine za (f := 142) rfl ?_); refine cl 39 rfl Tryz.func142 #[.int .i64 x8_2] (xT.calls x8_2 false _ A18.out) ?_; rintro e w' ⟨rfl, ⟨nd, rfl⟩⟩; refine ⟨_, rfl, ?_⟩))
        go_roundg k2
        case measure => have := HJ3.out; have := HK2.out; omega
        case rel => exact ⟨(wrap64 (x7_2 + 365)), (wrap64 (x8_2 + 1)), rs, rs, H', ⟨by have := HJ3.out; have := HK2.out; omega⟩, ⟨bq⟩⟩
      ·have H' := ak H
       clear H
       go_wp2
       go_loopg [7, 9] k2 (fun kq v7 v9 w' => ∃ (x7_3 : Int) (x9_3 : Int), v7 = .int .i64 x7_3 ∧ v9 = .int .i64 x9_3 ∧ Aside0 (zv.l1 kq a0 a1 x7_3 x9_3 = some r) ∧ Aside0 (kq ≤ k2) ∧ Aside0 (Below w.heap.size w w'))
       case atStart => exact ⟨(x7_2), (1), rs, rs, H', ⟨Nat.le_refl _⟩, ⟨bq⟩⟩
       case round =>
        clear H'
        try clear q1
        try clear hx1
        try clear q10
        try clear hx10
        try clear hx106_0
        try clear q1
        try clear q10
        try clear q106
        obtain ⟨x7_3, x9_3, rfl, rfl, HA, HK3, HB⟩ := hrel
        cases gk with
        | zero => exact absurd HA.out (by simp [zv.l1])
        | succ k3 =>
         have H := HA.out
         clear HA
         simp only [zv.l1] at H
         replace H := sd H
         rcases H with ⟨c20b0, H⟩ | ⟨c20b0, H⟩
         ·replace H := ob H
          obtain ⟨t109, A21, H⟩ := H
          obtain ⟨ji22, hji22⟩ : ∃ j_ : Int, (wrap64 (x9_3 - 1)) = j_ := ⟨_, rfl⟩
          replace H : (if 0 ≤ (ji22) then (if (ji22) < (t109.length : Int) then (zv.l1 k3 a0 a1 (wrap64 (x7_3 + (rd t109 (ji22)))) (wrap64 (x9_3 + 1))) else (none)) else (none)) = some r := by first | (rw [hji22] at H; exact H) | (simp only [hji22] at H ⊢; exact H)
          (try rw [hji22] at A21)
          have hji22w : (IntKind.i64.wrap (x9_3 - 1)) = ji22 := (i64_w _).trans hji22
          replace H := sT H
          obtain ⟨c23, H⟩ := H
          have c23b0 := decide_eq_true c23
          clear c23
          replace H := sT H
          obtain ⟨c24, H⟩ := H
          have c24b0 := decide_eq_true c24
          clear c24
          have H' := ak H
          clear H
          go_wp2_with (first | ((with_reducible refine za (f := 141) rfl ?_); refine cl 49 rfl Tryz.func141 #[.int .i64 a0] (xO.calls a0 t109 _ A21.out) ?_; rintro e w25 ⟨v110, rfl, ho0, hb⟩; refine ⟨_, rfl, ?_⟩; have HO111 := ak (Kd.R_lower ho0 (zd bq)); replace HB := ak (zb bq hb); (try clear hb ho0); obtain ⟨Ao26, co26, eo26⟩ := Kd.R_slice HO111.out; subst eo26; have p112 : 0 ≤ ((ji22) : Int) := of_decide_eq_true asm; have q112 : (ji22) < (t109.length : Int) := of_decide_eq_true asm; obtain ⟨ad112, e112, hx112_0⟩ := Kd.at_int (Kd.R_reads' HO111.out).2.2 (ji22) p112 q112; cases e112; replace p112 := eq_true p112; replace q112 := eq_true q112))
          go_roundg k3
          case measure => have := HJ3.out; have := HK2.out; have := HK3.out; omega
          case rel => exact ⟨(wrap64 (x7_3 + (rd t109 (ji22)))), (wrap64 (x9_3 + 1)), (by first | rfl | (simp; done) | (simp only [← hji22] <;> (first | rfl | simp)) | (simp [*]; done)), rs, H', ⟨by have := HJ3.out; have := HK2.out; have := HK3.out; omega⟩, ⟨bq⟩⟩
         ·obtain rfl := oi1 H
          go_wp2
          go_ret
          exact ⟨rv, bq⟩
def yK.f (a0 : Int) : Option (ByteArray) := some (strOfNums (([(wrap64 (48 + (Int.tmod (wrap64 (Int.tdiv a0 10)) 10))) % 256, (wrap64 (48 + (Int.tmod a0 10))) % 256] : List Int)))
theorem yK.calls (a0 : Int) (r : ByteArray) (w : World) (h : yK.f a0 = some r) :
  Calls Tryz.prog 123 #[.int .i64 a0] w fun e w' => e = .returned (.string r) ∧ Below w.heap.size w w' := by
 have HB := ak (Below.refl w.heap.size w)
 have H := h
 unfold yK.f at H
 clear h
 obtain ⟨y101, hy101⟩ : ∃ y_ : List Int, y_ = (([(wrap64 (48 + (Int.tmod (wrap64 (Int.tdiv a0 10)) 10))) % 256, (wrap64 (48 + (Int.tmod a0 10))) % 256] : List Int)) := ⟨_, rfl⟩
 replace H : (some (strOfNums y101)) = some r := rhq hy101
 have Ny101 := ak hy101
 clear hy101
 obtain rfl := oi1 H
 go_enter Tryz.func123, Tryz.ntmps123
 go_wp2_with (first | ((with_reducible refine zl (N := 12) rfl ?_); refine rI .u8 5 12 Ny101.out ?_; intro v102 w2 ho3 hb; have HO103 := ak (Kd.R_lower ho3 (zd bq)); replace HB := ak (zb bq hb); clear hb ho3; have hcv4 := qG (P := Tryz.prog) Tryz.underlying22 Tryz.underlying5 Tryz.underlying9 (Kd.own_of_R HO103.out)))
 go_ret
 exact ⟨rv, bq⟩
mutual
def zm.j1 : Nat → Int → Int → Int → Int → Option (ByteArray)
 | 0, _, _, _, _ => none
 | k + 1, x0, x3, x4, x5 => zm.l1 k x0 x3 x4 x5
def zm.j3 : Nat → Int → Int → Int → Int → Option (ByteArray)
 | 0, _, _, _, _ => none
 | k + 1, x0, x3, x4, x5 => (zv.f k x4 x5 1).bind fun t104 => ((some (([(⟨#[84, 104, 117]⟩ : ByteArray), (⟨#[70, 114, 105]⟩ : ByteArray), (⟨#[83, 97, 116]⟩ : ByteArray), (⟨#[83, 117, 110]⟩ : ByteArray), (⟨#[77, 111, 110]⟩ : ByteArray), (⟨#[84, 117, 101]⟩ : ByteArray), (⟨#[87, 101, 100]⟩ : ByteArray)] : List ByteArray) : List ByteArray)).bind fun y105 => (if 0 ≤ (Int.tmod x3 7) then (if (Int.tmod x3 7) < (y105.length : Int) then ((some (([(⟨#[74, 97, 110]⟩ : ByteArray), (⟨#[70, 101, 98]⟩ : ByteArray), (⟨#[77, 97, 114]⟩ : ByteArray), (⟨#[65, 112, 114]⟩ : ByteArray), (⟨#[77, 97, 121]⟩ : ByteArray), (⟨#[74, 117, 110]⟩ : ByteArray), (⟨#[74, 117, 108]⟩ : ByteArray), (⟨#[65, 117, 103]⟩ : ByteArray), (⟨#[83, 101, 112]⟩ : ByteArray), (⟨#[79, 99, 116]⟩ : ByteArray), (⟨#[78, 111, 118]⟩ : ByteArray), (⟨#[68, 101, 99]⟩ : ByteArray)] : List ByteArray) : List ByteArray)).bind fun y109 => (if 0 ≤ (wrap64 (x5 - 1)) then (if (wrap64 (x5 - 1)) < (y109.length : Int) then (if (rdOf ByteArray.empty y105 (Int.tmod x3 7)).size + 2 ≤ 9223372036854775807 then ((yK.f (wrap64 ((wrap64 (x3 - t104)) + 1))).bind fun t113 => (if ((rdOf ByteArray.empty y105 (Int.tmod x3 7)) ++ (⟨#[44, 32]⟩ : ByteArray)).size + t113.size ≤ 9223372036854775807 then (if (((rdOf ByteArray.empty y105 (Int.tmod x3 7)) ++ (⟨#[44, 32]⟩ : ByteArray)) ++ t113).size + 1 ≤ 9223372036854775807 then (if ((((rdOf ByteArray.empty y105 (Int.tmod x3 7)) ++ (⟨#[44, 32]⟩ : ByteArray)) ++ t113) ++ (⟨#[32]⟩ : ByteArray)).size + (rdOf ByteArray.empty y109 (wrap64 (x5 - 1))).size ≤ 9223372036854775807 then (if (((((rdOf ByteArray.empty y105 (Int.tmod x3 7)) ++ (⟨#[44, 32]⟩ : ByteArray)) ++ t113) ++ (⟨#[32]⟩ : ByteArray)) ++ (rdOf ByteArray.empty y109 (wrap64 (x5 - 1)))).size + 1 ≤ 9223372036854775807 then ((yw.f k x4).bind fun t114 => (if ((((((rdOf ByteArray.empty y105 (Int.tmod x3 7)) ++ (⟨#[44, 32]⟩ : ByteArray)) ++ t113) ++ (⟨#[32]⟩ : ByteArray)) ++ (rdOf ByteArray.empty y109 (wrap64 (x5 - 1)))) ++ (⟨#[32]⟩ : ByteArray)).size + t114.size ≤ 9223372036854775807 then (if (((((((rdOf ByteArray.empty y105 (Int.tmod x3 7)) ++ (⟨#[44, 32]⟩ : ByteArray)) ++ t113) ++ (⟨#[32]⟩ : ByteArray)) ++ (rdOf ByteArray.empty y109 (wrap64 (x5 - 1)))) ++ (⟨#[32]⟩ : ByteArray)) ++ t114).size + 1 ≤ 9223372036854775807 then ((yK.f (Int.tmod (wrap64 (Int.tdiv x0 3600)) 24)).bind fun t115 => (if ((((((((rdOf ByteArray.empty y105 (Int.tmod x3 7)) ++ (⟨#[44, 32]⟩ : ByteArray)) ++ t113) ++ (⟨#[32]⟩ : ByteArray)) ++ (rdOf ByteArray.empty y109 (wrap64 (x5 - 1)))) ++ (⟨#[32]⟩ : ByteArray)) ++ t114) ++ (⟨#[32]⟩ : ByteArray)).size + t115.size ≤ 9223372036854775807 then (if (((((((((rdOf ByteArray.empty y105 (Int.tmod x3 7)) ++ (⟨#[44, 32]⟩ : ByteArray)) ++ t113) ++ (⟨#[32]⟩ : ByteArray)) ++ (rdOf ByteArray.empty y109 (wrap64 (x5 - 1)))) ++ (⟨#[32]⟩ : ByteArray)) ++ t114) ++ (⟨#[32]⟩ : ByteArray)) ++ t115).size + 1 ≤ 9223372036854775807 then ((yK.f (Int.tmod (wrap64 (Int.tdiv x0 60)) 60)).bind fun t116 => (if ((((((((((rdOf ByteArray.empty y105 (Int.tmod x3 7)) ++ (⟨#[44, 32]⟩ : ByteArray)) ++ t113) ++ (⟨#[32]⟩ : ByteArray)) ++ (rdOf ByteArray.empty y109 (wrap64 (x5 - 1)))) ++ (⟨#[32]⟩ : ByteArray)) ++ t114) ++ (⟨#[32]⟩ : ByteArray)) ++ t115) ++ (⟨#[58]⟩ : ByteArray)).size + t116.size ≤ 9223372036854775807 then (if (((((((((((rdOf ByteArray.empty y105 (Int.tmod x3 7)) ++ (⟨#[44, 32]⟩ : ByteArray)) ++ t113) ++ (⟨#[32]⟩ : ByteArray)) ++ (rdOf ByteArray.empty y109 (wrap64 (x5 - 1)))) ++ (⟨#[32]⟩ : ByteArray)) ++ t114) ++ (⟨#[32]⟩ : ByteArray)) ++ t115) ++ (⟨#[58]⟩ : ByteArray)) ++ t116).size + 1 ≤ 9223372036854775807 then ((yK.f (Int.tmod x0 60)).bind fun t117 => (if ((((((((((((rdOf ByteArray.empty y105 (Int.tmod x3 7)) ++ (⟨#[44, 32]⟩ : ByteArray)) ++ t113) ++ (⟨#[32]⟩ : ByteArray)) ++ (rdOf ByteArray.empty y109 (wrap64 (x5 - 1)))) ++ (⟨#[32]⟩ : ByteArray)) ++ t114) ++ (⟨#[32]⟩ : ByteArray)) ++ t115) ++ (⟨#[58]⟩ : ByteArray)) ++ t116) ++ (⟨#[58]⟩ : ByteArray)).size + t117.size ≤ 9223372036854775807 then (if (((((((((((((rdOf ByteArray.empty y105 (Int.tmod x3 7)) ++ (⟨#[44, 32]⟩ : ByteArray)) ++ t113) ++ (⟨#[32]⟩ : ByteArray)) ++ (rdOf ByteArray.empty y109 (wrap64 (x5 - 1)))) ++ (⟨#[32]⟩ : ByteArray)) ++ t114) ++ (⟨#[32]⟩ : ByteArray)) ++ t115) ++ (⟨#[58]⟩ : ByteArray)) ++ t116) ++ (⟨#[58]⟩ : ByteArray)) ++ t117).size + 4 ≤ 9223372036854775807 then (some ((((((((((((((rdOf ByteArray.empty y105 (Int.tmod x3 7)) ++ (⟨#[44, 32]⟩ : ByteArray)) ++ t113) ++ (⟨#[32]⟩ : ByteArray)) ++ (rdOf ByteArray.empty y109 (wrap64 (x5 - 1)))) ++ (⟨#[32]⟩ : ByteArray)) ++ t114) ++ (⟨#[32]⟩ : ByteArray)) ++ t115) ++ (⟨#[58]⟩ : ByteArray)) ++ t116) ++ (⟨#[58]⟩ : ByteArray)) ++ t117) ++ (⟨#[32, 71, 77, 84]⟩ : ByteArray))) else (none)) else (none))) else (none)) else (none))) else (none)) else (none))) else (none)) else (none))) else (none)) else (none)) else (none)) else (none))) else (none)) else (none)) else (none))) else (none)) else (none)))
def zm.l1 : Nat → Int → Int → Int → Int → Option (ByteArray)
 | 0, _, _, _, _ => none
 | k + 1, x0, x3, x4, x5 => if x5 < 12 then ((zv.f k x4 (wrap64 (x5 + 1)) 1).bind fun t103 => (if t103 ≤ x3 then (zm.l1 k x0 x3 x4 (wrap64 (x5 + 1))) else (zm.j3 k x0 x3 x4 x5))) else (zm.j3 k x0 x3 x4 x5)
def zm.l0 : Nat → Int → Int → Int → Int → Option (ByteArray)
 | 0, _, _, _, _ => none
 | k + 1, x0, x3, x4, x5 => if x4 < 2037 then ((zv.f k (wrap64 (x4 + 1)) 1 1).bind fun t102 => (if t102 ≤ x3 then (zm.l0 k x0 x3 (wrap64 (x4 + 1)) x5) else (zm.j1 k x0 x3 x4 x5))) else (zm.j1 k x0 x3 x4 x5)
end
def zm.f (k : Nat) (a0 : Int) : Option (ByteArray) := (yZ.f a0 0 2000000000).bind fun t101 => (if t101 = true then (zm.l0 k a0 (wrap64 (Int.tdiv a0 86400)) 1970 1) else (some (⟨#[]⟩ : ByteArray)))
theorem zm.mono_l : ∀ k, (∀ y0 y1 y2 y3, LeO (zm.j1 k y0 y1 y2 y3) (zm.j1 (k + 1) y0 y1 y2 y3)) ∧ (∀ y0 y1 y2 y3, LeO (zm.j3 k y0 y1 y2 y3) (zm.j3 (k + 1) y0 y1 y2 y3)) ∧ (∀ y0 y1 y2 y3, LeO (zm.l1 k y0 y1 y2 y3) (zm.l1 (k + 1) y0 y1 y2 y3)) ∧ (∀ y0 y1 y2 y3, LeO (zm.l0 k y0 y1 y2 y3) (zm.l0 (k + 1) y0 y1 y2 y3))
 | 0 => ⟨fun _ _ _ _ r h => by simp [zm.j1] at h, fun _ _ _ _ r h => by simp [zm.j3] at h, fun _ _ _ _ r h => by simp [zm.l1] at h, fun _ _ _ _ r h => by simp [zm.l0] at h⟩
 | k + 1 => by
  obtain ⟨ih0, ih1, ih2, ih3⟩ := zm.mono_l k
  refine ⟨?_, ?_, ?_, ?_⟩
  ·intro y0 y1 y2 y3
   unfold zm.j1
   exact mq6 ih0 ih1 ih2 ih3 zv.mono yw.mono
  ·intro y0 y1 y2 y3
   unfold zm.j3
   exact mq6 ih0 ih1 ih2 ih3 zv.mono yw.mono
  ·intro y0 y1 y2 y3
   unfold zm.l1
   exact mq6 ih0 ih1 ih2 ih3 zv.mono yw.mono
  ·intro y0 y1 y2 y3
   unfold zm.l0
   exact mq6 ih0 ih1 ih2 ih3 zv.mono yw.mono
theorem zm.mono : ∀ a0 k, LeO (zm.f k a0) (zm.f (k + 1) a0) := by
 intro a0 k
 obtain ⟨ih0, ih1, ih2, ih3⟩ := zm.mono_l k
 unfold zm.f
 exact mq6 ih0 ih1 ih2 ih3 zv.mono yw.mono
theorem zm.calls (k : Nat) (a0 : Int) (r : ByteArray) (w : World) (h : zm.f k a0 = some r) :
  Calls Tryz.prog 95 #[.int .i64 a0] w fun e w' => e = .returned (.string r) ∧ Below w.heap.size w w' := by
 have HB := ak (Below.refl w.heap.size w)
 have H := h
 unfold zm.f at H
 clear h
 replace H := ob H
 obtain ⟨t101, A2, H⟩ := H
 replace H := sb H
 rcases H with ⟨rfl, H⟩ | ⟨rfl, H⟩
 ·have HC4 := ak H
  clear H
  go_enter Tryz.func95, Tryz.ntmps95
  go_upto_block 0 with (first | ((with_reducible refine za (f := 34) rfl ?_); refine cl 10 rfl Tryz.func34 #[.int .i64 a0, .int .i64 0, .int .i64 2000000000] (yZ.calls a0 0 2000000000 true _ A2.out) ?_; rintro e w' ⟨rfl, ⟨nd, rfl⟩⟩; refine ⟨_, rfl, ?_⟩))
  (try simp only [Act.put, List.setIfInBounds_toArray, List.set_cons_zero, List.set_cons_succ])
  go_cut [4] (fun v4 wc => ∃ (kq : Nat) (x4_3 : Int), v4 = .int .i64 x4_3 ∧ Aside0 (zm.j1 kq a0 (wrap64 (Int.tdiv a0 86400)) x4_3 1 = some r) ∧ Aside0 (kq ≤ k) ∧ Aside0 (Below w.heap.size w wc))
  case first =>
   have H := HC4.out
   clear HC4
   have H' := ak H
   clear H
   go_wp2
   go_loopg [4] k (fun kq v4 w' => ∃ (x4_1 : Int), v4 = .int .i64 x4_1 ∧ Aside0 (zm.l0 kq a0 (wrap64 (Int.tdiv a0 86400)) x4_1 1 = some r) ∧ Aside0 (kq ≤ k) ∧ Aside0 (Below w.heap.size w w'))
   case atStart => exact ⟨(1970), rs, H', ⟨Nat.le_refl _⟩, ⟨bq⟩⟩
   case round =>
    clear H'
    obtain ⟨x4_1, rfl, HA, HK1, HB⟩ := hrel
    cases gk with
    | zero => exact absurd HA.out (by simp [zm.l0])
    | succ k1 =>
     have H := HA.out
     clear HA
     simp only [zm.l0] at H
     replace H := sd H
     rcases H with ⟨c5b0, H⟩ | ⟨c5b0, H⟩
     ·(first | rw [c5b0] | (simp only [i64_w, i32_w]; rw [c5b0]) | skip)
      replace H := ob H
      obtain ⟨t102, A6, H⟩ := H
      replace H := sd H
      rcases H with ⟨c7b0, H⟩ | ⟨c7b0, H⟩
      ·have H' := ak H
       clear H
       go_wp2_with (first | (go_at_call 122; (with_reducible refine (zv.calls k1 (wrap64 (x4_1 + 1)) 1 1 t102 _ A6.out).mono ?_); rintro e w8 ⟨rfl, hb⟩; replace HB := ak (zb bq hb); (try clear hb)))
       go_roundg k1
       case measure => have := HK1.out; omega
       case rel => exact ⟨(wrap64 (x4_1 + 1)), rs, H', ⟨by have := HK1.out; omega⟩, ⟨bq⟩⟩
      ·have H' := ak H
       clear H
       go_wp2_with (first | (go_at_call 122; (with_reducible refine (zv.calls k1 (wrap64 (x4_1 + 1)) 1 1 t102 _ A6.out).mono ?_); rintro e w9 ⟨rfl, hb⟩; replace HB := ak (zb bq hb); (try clear hb)))
       go_meet
       case rel => exact ⟨_, (x4_1), rs, H', ⟨by have := HK1.out; first | omega | exact Nat.le_refl _⟩, ⟨bq⟩⟩
     ·(first | rw [c5b0] | (simp only [i64_w, i32_w]; rw [c5b0]) | skip)
      have H' := ak H
      clear H
      go_wp2
      go_meet
      case rel => exact ⟨_, (x4_1), rs, H', ⟨by have := HK1.out; first | omega | exact Nat.le_refl _⟩, ⟨bq⟩⟩
  case rest =>
   clear HC4
   obtain ⟨kq, x4_3, rfl, HA, HJ3, HB⟩ := hcut
   cases kq with
   | zero => exact absurd HA.out (by simp [zm.j1])
   | succ kj3 =>
    have H := HA.out
    clear HA
    simp only [zm.j1] at H
    have HC10 := ak H
    clear H
    go_upto_block 2 with (fail)
    go_cut [5] (fun v5 wc => ∃ (kq : Nat) (x5_9 : Int), v5 = .int .i64 x5_9 ∧ Aside0 (zm.j3 kq a0 (wrap64 (Int.tdiv a0 86400)) x4_3 x5_9 = some r) ∧ Aside0 (kq ≤ kj3) ∧ Aside0 (Below w.heap.size w wc))
    case first =>
     have H := HC10.out
     clear HC10
     have H' := ak H
     clear H
     go_wp2
     go_loopg [5] kj3 (fun kq v5 w' => ∃ (x5_2 : Int), v5 = .int .i64 x5_2 ∧ Aside0 (zm.l1 kq a0 (wrap64 (Int.tdiv a0 86400)) x4_3 x5_2 = some r) ∧ Aside0 (kq ≤ kj3) ∧ Aside0 (Below w.heap.size w w'))
     case atStart => exact ⟨(1), rs, H', ⟨Nat.le_refl _⟩, ⟨bq⟩⟩
     case round =>
      clear H'
      obtain ⟨x5_2, rfl, HA, HK2, HB⟩ := hrel
      cases gk with
      | zero => exact absurd HA.out (by simp [zm.l1])
      | succ k2 =>
       have H := HA.out
       clear HA
       simp only [zm.l1] at H
       replace H := sd H
       rcases H with ⟨c11b0, H⟩ | ⟨c11b0, H⟩
       ·(first | rw [c11b0] | (simp only [i64_w, i32_w]; rw [c11b0]) | skip)
        replace H := ob H
        obtain ⟨t103, A12, H⟩ := H
        replace H := sd H
        rcases H with ⟨c13b0, H⟩ | ⟨c13b0, H⟩
        ·have H' := ak H
         clear H
         go_wp2_with (first | (go_at_call 122; (with_reducible refine (zv.calls k2 x4_3 (wrap64 (x5_2 + 1)) 1 t103 _ A12.out).mono ?_); rintro e w14 ⟨rfl, hb⟩; replace HB := ak (zb bq hb); (try clear hb)))
         go_roundg k2
         case measure => have := HJ3.out; have := HK2.out; omega
         case rel => exact ⟨(wrap64 (x5_2 + 1)), rs, H', ⟨by have := HJ3.out; have := HK2.out; omega⟩, ⟨bq⟩⟩
        ·have H' := ak H
         clear H
         go_wp2_with (first | (go_at_call 122; (with_reducible refine (zv.calls k2 x4_3 (wrap64 (x5_2 + 1)) 1 t103 _ A12.out).mono ?_); rintro e w15 ⟨rfl, hb⟩; replace HB := ak (zb bq hb); (try clear hb)))
         go_meet
         case rel => exact ⟨_, (x5_2), rs, H', ⟨by have := HJ3.out; have := HK2.out; first | omega | exact Nat.le_refl _⟩, ⟨bq⟩⟩
       ·(first | rw [c11b0] | (simp only [i64_w, i32_w]; rw [c11b0]) | skip)
        have H' := ak H
        clear H
        go_wp2
        go_meet
        case rel => exact ⟨_, (x5_2), rs, H', ⟨by have := HJ3.out; have := HK2.out; first | omega | exact Nat.le_refl _⟩, ⟨bq⟩⟩
    case rest =>
     clear HC10
     obtain ⟨kq, x5_9, rfl, HA, HJ9, HB⟩ := hcut
     cases kq with
     | zero => exact absurd HA.out (by simp [zm.j3])
     | succ kj9 =>
      have H := HA.out
      clear HA
      simp only [zm.j3] at H
      replace H := ob H
      obtain ⟨t104, A16, H⟩ := H
      obtain ⟨y105, hy105⟩ : ∃ y_ : List ByteArray, y_ = (([(⟨#[84, 104, 117]⟩ : ByteArray), (⟨#[70, 114, 105]⟩ : ByteArray), (⟨#[83, 97, 116]⟩ : ByteArray), (⟨#[83, 117, 110]⟩ : ByteArray), (⟨#[77, 111, 110]⟩ : ByteArray), (⟨#[84, 117, 101]⟩ : ByteArray), (⟨#[87, 101, 100]⟩ : ByteArray)] : List ByteArray)) := ⟨_, rfl⟩
      replace H : (if 0 ≤ (Int.tmod (wrap64 (Int.tdiv a0 86400)) 7) then (if (Int.tmod (wrap64 (Int.tdiv a0 86400)) 7) < (y105.length : Int) then ((some (([(⟨#[74, 97, 110]⟩ : ByteArray), (⟨#[70, 101, 98]⟩ : ByteArray), (⟨#[77, 97, 114]⟩ : ByteArray), (⟨#[65, 112, 114]⟩ : ByteArray), (⟨#[77, 97, 121]⟩ : ByteArray), (⟨#[74, 117, 110]⟩ : ByteArray), (⟨#[74, 117, 108]⟩ : ByteArray), (⟨#[65, 117, 103]⟩ : ByteArray), (⟨#[83, 101, 112]⟩ : ByteArray), (⟨#[79, 99, 116]⟩ : ByteArray), (⟨#[78, 111, 118]⟩ : ByteArray), (⟨#[68, 101, 99]⟩ : ByteArray)] : List ByteArray) : List ByteArray)).bind fun y109 => (if 0 ≤ (wrap64 (x5_9 - 1)) then (if (wrap64 (x5_9 - 1)) < (y109.length : Int) then (if (rdOf ByteArray.empty y105 (Int.tmod (wrap64 (Int.tdiv a0 86400)) 7)).size + 2 ≤ 9223372036854775807 then ((yK.f (wrap64 ((wrap64 ((wrap64 (Int.tdiv a0 86400)) - t104)) + 1))).bind fun t113 => (if ((rdOf ByteArray.empty y105 (Int.tmod (wrap64 (Int.tdiv a0 86400)) 7)) ++ (⟨#[44, 32]⟩ : ByteArray)).size + t113.size ≤ 9223372036854775807 then (if (((rdOf ByteArray.empty y105 (Int.tmod (wrap64 (Int.tdiv a0 86400)) 7)) ++ (⟨#[44, 32]⟩ : ByteArray)) ++ t113).size + 1 ≤ 9223372036854775807 then (if ((((rdOf ByteArray.empty y105 (Int.tmod (wrap64 (Int.tdiv a0 86400)) 7)) ++ (⟨#[44, 32]⟩ : ByteArray)) ++ t113) ++ (⟨#[32]⟩ : ByteArray)).size + (rdOf ByteArray.empty y109 (wrap64 (x5_9 - 1))).size ≤ 9223372036854775807 then (if (((((rdOf ByteArray.empty y105 (Int.tmod (wrap64 (Int.tdiv a0 86400)) 7)) ++ (⟨#[44, 32]⟩ : ByteArray)) ++ t113) ++ (⟨#[32]⟩ : ByteArray)) ++ (rdOf ByteArray.empty y109 (wrap64 (x5_9 - 1)))).size + 1 ≤ 9223372036854775807 then ((yw.f kj9 x4_3).bind fun t114 => (if ((((((rdOf ByteArray.empty y105 (Int.tmod (wrap64 (Int.tdiv a0 86400)) 7)) ++ (⟨#[44, 32]⟩ : ByteArray)) ++ t113) ++ (⟨#[32]⟩ : ByteArray)) ++ (rdOf ByteArray.empty y109 (wrap64 (x5_9 - 1)))) ++ (⟨#[32]⟩ : ByteArray)).size + t114.size ≤ 9223372036854775807 then (if (((((((rdOf ByteArray.empty y105 (Int.tmod (wrap64 (Int.tdiv a0 86400)) 7)) ++ (⟨#[44, 32]⟩ : ByteArray)) ++ t113) ++ (⟨#[32]⟩ : ByteArray)) ++ (rdOf ByteArray.empty y109 (wrap64 (x5_9 - 1)))) ++ (⟨#[32]⟩ : ByteArray)) ++ t114).size + 1 ≤ 9223372036854775807 then ((yK.f (Int.tmod (wrap64 (Int.tdiv a0 3600)) 24)).bind fun t115 => (if ((((((((rdOf ByteArray.empty y105 (Int.tmod (wrap64 (Int.tdiv a0 86400)) 7)) ++ (⟨#[44, 32]⟩ : ByteArray)) ++ t113) ++ (⟨#[32]⟩ : ByteArray)) ++ (rdOf ByteArray.empty y109 (wrap64 (x5_9 - 1)))) ++ (⟨#[32]⟩ : ByteArray)) ++ t114) ++ (⟨#[32]⟩ : ByteArray)).size + t115.size ≤ 9223372036854775807 then (if (((((((((rdOf ByteArray.empty y105 (Int.tmod (wrap64 (Int.tdiv a0 86400)) 7)) ++ (⟨#[44, 32]⟩ : ByteArray)) ++ t113) ++ (⟨#[32]⟩ : ByteArray)) ++ (rdOf ByteArray.empty y109 (wrap64 (x5_9 - 1)))) ++ (⟨#[32]⟩ : ByteArray)) ++ t114) ++ (⟨#[32]⟩ : ByteArray)) ++ t115).size + 1 ≤ 9223372036854775807 then ((yK.f (Int.tmod (wrap64 (Int.tdiv a0 60)) 60)).bind fun t116 => (if ((((((((((rdOf ByteArray.empty y105 (Int.tmod (wrap64 (Int.tdiv a0 86400)) 7)) ++ (⟨#[44, 32]⟩ : ByteArray)) ++ t113) ++ (⟨#[32]⟩ : ByteArray)) ++ (rdOf ByteArray.empty y109 (wrap64 (x5_9 - 1)))) ++ (⟨#[32]⟩ : ByteArray)) ++ t114) ++ (⟨#[32]⟩ : ByteArray)) ++ t115) ++ (⟨#[58]⟩ : ByteArray)).size + t116.size ≤ 9223372036854775807 then (if (((((((((((rdOf ByteArray.empty y105 (Int.tmod (wrap64 (Int.tdiv a0 86400)) 7)) ++ (⟨#[44, 32]⟩ : ByteArray)) ++ t113) ++ (⟨#[32]⟩ : ByteArray)) ++ (rdOf ByteArray.empty y109 (wrap64 (x5_9 - 1)))) ++ (⟨#[32]⟩ : ByteArray)) ++ t114) ++ (⟨#[32]⟩ : ByteArray)) ++ t115) ++ (⟨#[58]⟩ : ByteArray)) ++ t116).size + 1 ≤ 9223372036854775807 then ((yK.f (Int.tmod a0 60)).bind fun t117 => (if ((((((((((((rdOf ByteArray.empty y105 (Int.tmod (wrap64 (Int.tdiv a0 86400)) 7)) ++ (⟨#[44, 32]⟩ : ByteArray)) ++ t113) ++ (⟨#[32]⟩ : ByteArray)) ++ (rdOf ByteArray.empty y109 (wrap64 (x5_9 - 1)))) ++ (⟨#[32]⟩ : ByteArray)) ++ t114) ++ (⟨#[32]⟩ : ByteArray)) ++ t115) ++ (⟨#[58]⟩ : ByteArray)) ++ t116) ++ (⟨#[58]⟩ : ByteArray)).size + t117.size ≤ 9223372036854775807 then (if (((((((((((((rdOf ByteArray.empty y105 (Int.tmod (wrap64 (Int.tdiv a0 86400)) 7)) ++ (⟨#[44, 32]⟩ : ByteArray)) ++ t113) ++ (⟨#[32]⟩ : ByteArray)) ++ (rdOf ByteArray.empty y109 (wrap64 (x5_9 - 1)))) ++ (⟨#[32]⟩ : ByteArray)) ++ t114) ++ (⟨#[32]⟩ : ByteArray)) ++ t115) ++ (⟨#[58]⟩ : ByteArray)) ++ t116) ++ (⟨#[58]⟩ : ByteArray)) ++ t117).size + 4 ≤ 9223372036854775807 then (some ((((((((((((((rdOf ByteArray.empty y105 (Int.tmod (wrap64 (Int.tdiv a0 86400)) 7)) ++ (⟨#[44, 32]⟩ : ByteArray)) ++ t113) ++ (⟨#[32]⟩ : ByteArray)) ++ (rdOf ByteArray.empty y109 (wrap64 (x5_9 - 1)))) ++ (⟨#[32]⟩ : ByteArray)) ++ t114) ++ (⟨#[32]⟩ : ByteArray)) ++ t115) ++ (⟨#[58]⟩ : ByteArray)) ++ t116) ++ (⟨#[58]⟩ : ByteArray)) ++ t117) ++ (⟨#[32, 71, 77, 84]⟩ : ByteArray))) else (none)) else (none))) else (none)) else (none))) else (none)) else (none))) else (none)) else (none))) else (none)) else (none)) else (none)) else (none))) else (none)) else (none)) else (none))) else (none)) else (none)) = some r := rhq hy105
      have Ny105 := ak hy105
      clear hy105
      obtain ⟨ji17, hji17⟩ : ∃ j_ : Int, (Int.tmod (wrap64 (Int.tdiv a0 86400)) 7) = j_ := ⟨_, rfl⟩
      replace H : (if 0 ≤ (ji17) then (if (ji17) < (y105.length : Int) then ((some (([(⟨#[74, 97, 110]⟩ : ByteArray), (⟨#[70, 101, 98]⟩ : ByteArray), (⟨#[77, 97, 114]⟩ : ByteArray), (⟨#[65, 112, 114]⟩ : ByteArray), (⟨#[77, 97, 121]⟩ : ByteArray), (⟨#[74, 117, 110]⟩ : ByteArray), (⟨#[74, 117, 108]⟩ : ByteArray), (⟨#[65, 117, 103]⟩ : ByteArray), (⟨#[83, 101, 112]⟩ : ByteArray), (⟨#[79, 99, 116]⟩ : ByteArray), (⟨#[78, 111, 118]⟩ : ByteArray), (⟨#[68, 101, 99]⟩ : ByteArray)] : List ByteArray) : List ByteArray)).bind fun y109 => (if 0 ≤ (wrap64 (x5_9 - 1)) then (if (wrap64 (x5_9 - 1)) < (y109.length : Int) then (if (rdOf ByteArray.empty y105 (ji17)).size + 2 ≤ 9223372036854775807 then ((yK.f (wrap64 ((wrap64 ((wrap64 (Int.tdiv a0 86400)) - t104)) + 1))).bind fun t113 => (if ((rdOf ByteArray.empty y105 (ji17)) ++ (⟨#[44, 32]⟩ : ByteArray)).size + t113.size ≤ 9223372036854775807 then (if (((rdOf ByteArray.empty y105 (ji17)) ++ (⟨#[44, 32]⟩ : ByteArray)) ++ t113).size + 1 ≤ 9223372036854775807 then (if ((((rdOf ByteArray.empty y105 (ji17)) ++ (⟨#[44, 32]⟩ : ByteArray)) ++ t113) ++ (⟨#[32]⟩ : ByteArray)).size + (rdOf ByteArray.empty y109 (wrap64 (x5_9 - 1))).size ≤ 9223372036854775807 then (if (((((rdOf ByteArray.empty y105 (ji17)) ++ (⟨#[44, 32]⟩ : ByteArray)) ++ t113) ++ (⟨#[32]⟩ : ByteArray)) ++ (rdOf ByteArray.empty y109 (wrap64 (x5_9 - 1)))).size + 1 ≤ 9223372036854775807 then ((yw.f kj9 x4_3).bind fun t114 => (if ((((((rdOf ByteArray.empty y105 (ji17)) ++ (⟨#[44, 32]⟩ : ByteArray)) ++ t113) ++ (⟨#[32]⟩ : ByteArray)) ++ (rdOf ByteArray.empty y109 (wrap64 (x5_9 - 1)))) ++ (⟨#[32]⟩ : ByteArray)).size + t114.size ≤ 9223372036854775807 then (if (((((((rdOf ByteArray.empty y105 (ji17)) ++ (⟨#[44, 32]⟩ : ByteArray)) ++ t113) ++ (⟨#[32]⟩ : ByteArray)) ++ (rdOf ByteArray.empty y109 (wrap64 (x5_9 - 1)))) ++ (⟨#[32]⟩ : ByteArray)) ++ t114).size + 1 ≤ 9223372036854775807 then ((yK.f (Int.tmod (wrap64 (Int.tdiv a0 3600)) 24)).bind fun t115 => (if ((((((((rdOf ByteArray.empty y105 (ji17)) ++ (⟨#[44, 32]⟩ : ByteArray)) ++ t113) ++ (⟨#[32]⟩ : ByteArray)) ++ (rdOf ByteArray.empty y109 (wrap64 (x5_9 - 1)))) ++ (⟨#[32]⟩ : ByteArray)) ++ t114) ++ (⟨#[32]⟩ : ByteArray)).size + t115.size ≤ 9223372036854775807 then (if (((((((((rdOf ByteArray.empty y105 (ji17)) ++ (⟨#[44, 32]⟩ : ByteArray)) ++ t113) ++ (⟨#[32]⟩ : ByteArray)) ++ (rdOf ByteArray.empty y109 (wrap64 (x5_9 - 1)))) ++ (⟨#[32]⟩ : ByteArray)) ++ t114) ++ (⟨#[32]⟩ : ByteArray)) ++ t115).size + 1 ≤ 9223372036854775807 then ((yK.f (Int.tmod (wrap64 (Int.tdiv a0 60)) 60)).bind fun t116 => (if ((((((((((rdOf ByteArray.empty y105 (ji17)) ++ (⟨#[44, 32]⟩ : ByteArray)) ++ t113) ++ (⟨#[32]⟩ : ByteArray)) ++ (rdOf ByteArray.empty y109 (wrap64 (x5_9 - 1)))) ++ (⟨#[32]⟩ : ByteArray)) ++ t114) ++ (⟨#[32]⟩ : ByteArray)) ++ t115) ++ (⟨#[58]⟩ : ByteArray)).size + t116.size ≤ 9223372036854775807 then (if (((((((((((rdOf ByteArray.empty y105 (ji17)) ++ (⟨#[44, 32]⟩ : ByteArray)) ++ t113) ++ (⟨#[32]⟩ : ByteArray)) ++ (rdOf ByteArray.empty y109 (wrap64 (x5_9 - 1)))) ++ (⟨#[32]⟩ : ByteArray)) ++ t114) ++ (⟨#[32]⟩ : ByteArray)) ++ t115) ++ (⟨#[58]⟩ : ByteArray)) ++ t116).size + 1 ≤ 9223372036854775807 then ((yK.f (Int.tmod a0 60)).bind fun t117 => (if ((((((((((((rdOf ByteArray.empty y105 (ji17)) ++ (⟨#[44, 32]⟩ : ByteArray)) ++ t113) ++ (⟨#[32]⟩ : ByteArray)) ++ (rdOf ByteArray.empty y109 (wrap64 (x5_9 - 1)))) ++ (⟨#[32]⟩ : ByteArray)) ++ t114) ++ (⟨#[32]⟩ : ByteArray)) ++ t115) ++ (⟨#[58]⟩ : ByteArray)) ++ t116) ++ (⟨#[58]⟩ : ByteArray)).size + t117.size ≤ 9223372036854775807 then (if (((((((((((((rdOf ByteArray.empty y105 (ji17)) ++ (⟨#[44, 32]⟩ : ByteArray)) ++ t113) ++ (⟨#[32]⟩ : ByteArray)) ++ (rdOf ByteArray.empty y109 (wrap64 (x5_9 - 1)))) ++ (⟨#[32]⟩ : ByteArray)) ++ t114) ++ (⟨#[32]⟩ : ByteArray)) ++ t115) ++ (⟨#[58]⟩ : ByteArray)) ++ t116) ++ (⟨#[58]⟩ : ByteArray)) ++ t117).size + 4 ≤ 9223372036854775807 then (some ((((((((((((((rdOf ByteArray.empty y105 (ji17)) ++ (⟨#[44, 32]⟩ : ByteArray)) ++ t113) ++ (⟨#[32]⟩ : ByteArray)) ++ (rdOf ByteArray.empty y109 (wrap64 (x5_9 - 1)))) ++ (⟨#[32]⟩ : ByteArray)) ++ t114) ++ (⟨#[32]⟩ : ByteArray)) ++ t115) ++ (⟨#[58]⟩ : ByteArray)) ++ t116) ++ (⟨#[58]⟩ : ByteArray)) ++ t117) ++ (⟨#[32, 71, 77, 84]⟩ : ByteArray))) else (none)) else (none))) else (none)) else (none))) else (none)) else (none))) else (none)) else (none))) else (none)) else (none)) else (none)) else (none))) else (none)) else (none)) else (none))) else (none)) else (none)) = some r := by first | (rw [hji17] at H; exact H) | (simp only [hji17] at H ⊢; exact H)
      (try rw [hji17] at A16)
      replace H := sT H
      obtain ⟨c18, H⟩ := H
      have c18b0 := decide_eq_true c18
      clear c18
      replace H := sT H
      obtain ⟨c19, H⟩ := H
      have c19b0 := decide_eq_true c19
      clear c19
      obtain ⟨y109, hy109⟩ : ∃ y_ : List ByteArray, y_ = (([(⟨#[74, 97, 110]⟩ : ByteArray), (⟨#[70, 101, 98]⟩ : ByteArray), (⟨#[77, 97, 114]⟩ : ByteArray), (⟨#[65, 112, 114]⟩ : ByteArray), (⟨#[77, 97, 121]⟩ : ByteArray), (⟨#[74, 117, 110]⟩ : ByteArray), (⟨#[74, 117, 108]⟩ : ByteArray), (⟨#[65, 117, 103]⟩ : ByteArray), (⟨#[83, 101, 112]⟩ : ByteArray), (⟨#[79, 99, 116]⟩ : ByteArray), (⟨#[78, 111, 118]⟩ : ByteArray), (⟨#[68, 101, 99]⟩ : ByteArray)] : List ByteArray)) := ⟨_, rfl⟩
      replace H : (if 0 ≤ (wrap64 (x5_9 - 1)) then (if (wrap64 (x5_9 - 1)) < (y109.length : Int) then (if (rdOf ByteArray.empty y105 (ji17)).size + 2 ≤ 9223372036854775807 then ((yK.f (wrap64 ((wrap64 ((wrap64 (Int.tdiv a0 86400)) - t104)) + 1))).bind fun t113 => (if ((rdOf ByteArray.empty y105 (ji17)) ++ (⟨#[44, 32]⟩ : ByteArray)).size + t113.size ≤ 9223372036854775807 then (if (((rdOf ByteArray.empty y105 (ji17)) ++ (⟨#[44, 32]⟩ : ByteArray)) ++ t113).size + 1 ≤ 9223372036854775807 then (if ((((rdOf ByteArray.empty y105 (ji17)) ++ (⟨#[44, 32]⟩ : ByteArray)) ++ t113) ++ (⟨#[32]⟩ : ByteArray)).size + (rdOf ByteArray.empty y109 (wrap64 (x5_9 - 1))).size ≤ 9223372036854775807 then (if (((((rdOf ByteArray.empty y105 (ji17)) ++ (⟨#[44, 32]⟩ : ByteArray)) ++ t113) ++ (⟨#[32]⟩ : ByteArray)) ++ (rdOf ByteArray.empty y109 (wrap64 (x5_9 - 1)))).size + 1 ≤ 9223372036854775807 then ((yw.f kj9 x4_3).bind fun t114 => (if ((((((rdOf ByteArray.empty y105 (ji17)) ++ (⟨#[44, 32]⟩ : ByteArray)) ++ t113) ++ (⟨#[32]⟩ : ByteArray)) ++ (rdOf ByteArray.empty y109 (wrap64 (x5_9 - 1)))) ++ (⟨#[32]⟩ : ByteArray)).size + t114.size ≤ 9223372036854775807 then (if (((((((rdOf ByteArray.empty y105 (ji17)) ++ (⟨#[44, 32]⟩ : ByteArray)) ++ t113) ++ (⟨#[32]⟩ : ByteArray)) ++ (rdOf ByteArray.empty y109 (wrap64 (x5_9 - 1)))) ++ (⟨#[32]⟩ : ByteArray)) ++ t114).size + 1 ≤ 9223372036854775807 then ((yK.f (Int.tmod (wrap64 (Int.tdiv a0 3600)) 24)).bind fun t115 => (if ((((((((rdOf ByteArray.empty y105 (ji17)) ++ (⟨#[44, 32]⟩ : ByteArray)) ++ t113) ++ (⟨#[32]⟩ : ByteArray)) ++ (rdOf ByteArray.empty y109 (wrap64 (x5_9 - 1)))) ++ (⟨#[32]⟩ : ByteArray)) ++ t114) ++ (⟨#[32]⟩ : ByteArray)).size + t115.size ≤ 9223372036854775807 then (if (((((((((rdOf ByteArray.empty y105 (ji17)) ++ (⟨#[44, 32]⟩ : ByteArray)) ++ t113) ++ (⟨#[32]⟩ : ByteArray)) ++ (rdOf ByteArray.empty y109 (wrap64 (x5_9 - 1)))) ++ (⟨#[32]⟩ : ByteArray)) ++ t114) ++ (⟨#[32]⟩ : ByteArray)) ++ t115).size + 1 ≤ 9223372036854775807 then ((yK.f (Int.tmod (wrap64 (Int.tdiv a0 60)) 60)).bind fun t116 => (if ((((((((((rdOf ByteArray.empty y105 (ji17)) ++ (⟨#[44, 32]⟩ : ByteArray)) ++ t113) ++ (⟨#[32]⟩ : ByteArray)) ++ (rdOf ByteArray.empty y109 (wrap64 (x5_9 - 1)))) ++ (⟨#[32]⟩ : ByteArray)) ++ t114) ++ (⟨#[32]⟩ : ByteArray)) ++ t115) ++ (⟨#[58]⟩ : ByteArray)).size + t116.size ≤ 9223372036854775807 then (if (((((((((((rdOf ByteArray.empty y105 (ji17)) ++ (⟨#[44, 32]⟩ : ByteArray)) ++ t113) ++ (⟨#[32]⟩ : ByteArray)) ++ (rdOf ByteArray.empty y109 (wrap64 (x5_9 - 1)))) ++ (⟨#[32]⟩ : ByteArray)) ++ t114) ++ (⟨#[32]⟩ : ByteArray)) ++ t115) ++ (⟨#[58]⟩ : ByteArray)) ++ t116).size + 1 ≤ 9223372036854775807 then ((yK.f (Int.tmod a0 60)).bind fun t117 => (if ((((((((((((rdOf ByteArray.empty y105 (ji17)) ++ (⟨#[44, 32]⟩ : ByteArray)) ++ t113) ++ (⟨#[32]⟩ : ByteArray)) ++ (rdOf ByteArray.empty y109 (wrap64 (x5_9 - 1)))) ++ (⟨#[32]⟩ : ByteArray)) ++ t114) ++ (⟨#[32]⟩ : ByteArray)) ++ t115) ++ (⟨#[58]⟩ : ByteArray)) ++ t116) ++ (⟨#[58]⟩ : ByteArray)).size + t117.size ≤ 9223372036854775807 then (if (((((((((((((rdOf ByteArray.empty y105 (ji17)) ++ (⟨#[44, 32]⟩ : ByteArray)) ++ t113) ++ (⟨#[32]⟩ : ByteArray)) ++ (rdOf ByteArray.empty y109 (wrap64 (x5_9 - 1)))) ++ (⟨#[32]⟩ : ByteArray)) ++ t114) ++ (⟨#[32]⟩ : ByteArray)) ++ t115) ++ (⟨#[58]⟩ : ByteArray)) ++ t116) ++ (⟨#[58]⟩ : ByteArray)) ++ t117).size + 4 ≤ 9223372036854775807 then (some ((((((((((((((rdOf ByteArray.empty y105 (ji17)) ++ (⟨#[44, 32]⟩ : ByteArray)) ++ t113) ++ (⟨#[32]⟩ : ByteArray)) ++ (rdOf ByteArray.empty y109 (wrap64 (x5_9 - 1)))) ++ (⟨#[32]⟩ : ByteArray)) ++ t114) ++ (⟨#[32]⟩ : ByteArray)) ++ t115) ++ (⟨#[58]⟩ : ByteArray)) ++ t116) ++ (⟨#[58]⟩ : ByteArray)) ++ t117) ++ (⟨#[32, 71, 77, 84]⟩ : ByteArray))) else (none)) else (none))) else (none)) else (none))) else (none)) else (none))) else (none)) else (none))) else (none)) else (none)) else (none)) else (none))) else (none)) else (none)) else (none)) = some r := rhq hy109
      have Ny109 := ak hy109
      clear hy109
      obtain ⟨ji20, hji20⟩ : ∃ j_ : Int, (wrap64 (x5_9 - 1)) = j_ := ⟨_, rfl⟩
      replace H : (if 0 ≤ (ji20) then (if (ji20) < (y109.length : Int) then (if (rdOf ByteArray.empty y105 (ji17)).size + 2 ≤ 9223372036854775807 then ((yK.f (wrap64 ((wrap64 ((wrap64 (Int.tdiv a0 86400)) - t104)) + 1))).bind fun t113 => (if ((rdOf ByteArray.empty y105 (ji17)) ++ (⟨#[44, 32]⟩ : ByteArray)).size + t113.size ≤ 9223372036854775807 then (if (((rdOf ByteArray.empty y105 (ji17)) ++ (⟨#[44, 32]⟩ : ByteArray)) ++ t113).size + 1 ≤ 9223372036854775807 then (if ((((rdOf ByteArray.empty y105 (ji17)) ++ (⟨#[44, 32]⟩ : ByteArray)) ++ t113) ++ (⟨#[32]⟩ : ByteArray)).size + (rdOf ByteArray.empty y109 (ji20)).size ≤ 9223372036854775807 then (if (((((rdOf ByteArray.empty y105 (ji17)) ++ (⟨#[44, 32]⟩ : ByteArray)) ++ t113) ++ (⟨#[32]⟩ : ByteArray)) ++ (rdOf ByteArray.empty y109 (ji20))).size + 1 ≤ 9223372036854775807 then ((yw.f kj9 x4_3).bind fun t114 => (if ((((((rdOf ByteArray.empty y105 (ji17)) ++ (⟨#[44, 32]⟩ : ByteArray)) ++ t113) ++ (⟨#[32]⟩ : ByteArray)) ++ (rdOf ByteArray.empty y109 (ji20))) ++ (⟨#[32]⟩ : ByteArray)).size + t114.size ≤ 9223372036854775807 then (if (((((((rdOf ByteArray.empty y105 (ji17)) ++ (⟨#[44, 32]⟩ : ByteArray)) ++ t113) ++ (⟨#[32]⟩ : ByteArray)) ++ (rdOf ByteArray.empty y109 (ji20))) ++ (⟨#[32]⟩ : ByteArray)) ++ t114).size + 1 ≤ 9223372036854775807 then ((yK.f (Int.tmod (wrap64 (Int.tdiv a0 3600)) 24)).bind fun t115 => (if ((((((((rdOf ByteArray.empty y105 (ji17)) ++ (⟨#[44, 32]⟩ : ByteArray)) ++ t113) ++ (⟨#[32]⟩ : ByteArray)) ++ (rdOf ByteArray.empty y109 (ji20))) ++ (⟨#[32]⟩ : ByteArray)) ++ t114) ++ (⟨#[32]⟩ : ByteArray)).size + t115.size ≤ 9223372036854775807 then (if (((((((((rdOf ByteArray.empty y105 (ji17)) ++ (⟨#[44, 32]⟩ : ByteArray)) ++ t113) ++ (⟨#[32]⟩ : ByteArray)) ++ (rdOf ByteArray.empty y109 (ji20))) ++ (⟨#[32]⟩ : ByteArray)) ++ t114) ++ (⟨#[32]⟩ : ByteArray)) ++ t115).size + 1 ≤ 9223372036854775807 then ((yK.f (Int.tmod (wrap64 (Int.tdiv a0 60)) 60)).bind fun t116 => (if ((((((((((rdOf ByteArray.empty y105 (ji17)) ++ (⟨#[44, 32]⟩ : ByteArray)) ++ t113) ++ (⟨#[32]⟩ : ByteArray)) ++ (rdOf ByteArray.empty y109 (ji20))) ++ (⟨#[32]⟩ : ByteArray)) ++ t114) ++ (⟨#[32]⟩ : ByteArray)) ++ t115) ++ (⟨#[58]⟩ : ByteArray)).size + t116.size ≤ 9223372036854775807 then (if (((((((((((rdOf ByteArray.empty y105 (ji17)) ++ (⟨#[44, 32]⟩ : ByteArray)) ++ t113) ++ (⟨#[32]⟩ : ByteArray)) ++ (rdOf ByteArray.empty y109 (ji20))) ++ (⟨#[32]⟩ : ByteArray)) ++ t114) ++ (⟨#[32]⟩ : ByteArray)) ++ t115) ++ (⟨#[58]⟩ : ByteArray)) ++ t116).size + 1 ≤ 9223372036854775807 then ((yK.f (Int.tmod a0 60)).bind fun t117 => (if ((((((((((((rdOf ByteArray.empty y105 (ji17)) ++ (⟨#[44, 32]⟩ : ByteArray)) ++ t113) ++ (⟨#[32]⟩ : ByteArray)) ++ (rdOf ByteArray.empty y109 (ji20))) ++ (⟨#[32]⟩ : ByteArray)) ++ t114) ++ (⟨#[32]⟩ : ByteArray)) ++ t115) ++ (⟨#[58]⟩ : ByteArray)) ++ t116) ++ (⟨#[58]⟩ : ByteArray)).size + t117.size ≤ 9223372036854775807 then (if (((((((((((((rdOf ByteArray.empty y105 (ji17)) ++ (⟨#[44, 32]⟩ : ByteArray)) ++ t113) ++ (⟨#[32]⟩ : ByteArray)) ++ (rdOf ByteArray.empty y109 (ji20))) ++ (⟨#[32]⟩ : ByteArray)) ++ t114) ++ (⟨#[32]⟩ : ByteArray)) ++ t115) ++ (⟨#[58]⟩ : ByteArray)) ++ t116) ++ (⟨#[58]⟩ : ByteArray)) ++ t117).size + 4 ≤ 9223372036854775807 then (some ((((((((((((((rdOf ByteArray.empty y105 (ji17)) ++ (⟨#[44, 32]⟩ : ByteArray)) ++ t113) ++ (⟨#[32]⟩ : ByteArray)) ++ (rdOf ByteArray.empty y109 (ji20))) ++ (⟨#[32]⟩ : ByteArray)) ++ t114) ++ (⟨#[32]⟩ : ByteArray)) ++ t115) ++ (⟨#[58]⟩ : ByteArray)) ++ t116) ++ (⟨#[58]⟩ : ByteArray)) ++ t117) ++ (⟨#[32, 71, 77, 84]⟩ : ByteArray))) else (none)) else (none))) else (none)) else (none))) else (none)) else (none))) else (none)) else (none))) else (none)) else (none)) else (none)) else (none))) else (none)) else (none)) else (none)) = some r := by first | (rw [hji20] at H; exact H) | (simp only [hji20] at H ⊢; exact H)
      (try rw [hji20] at A16)
      have hji20w : (IntKind.i64.wrap (x5_9 - 1)) = ji20 := (i64_w _).trans hji20
      replace H := sT H
      obtain ⟨c21, H⟩ := H
      have c21b0 := decide_eq_true c21
      clear c21
      replace H := sT H
      obtain ⟨c22, H⟩ := H
      have c22b0 := decide_eq_true c22
      clear c22
      replace H := sK H
      obtain ⟨c23, c23b0, c23b1, H⟩ := H
      have c23b2 := sz c23
      replace H := ob H
      obtain ⟨t113, A24, H⟩ := H
      replace H := sK H
      obtain ⟨c25, c25b0, c25b1, H⟩ := H
      have c25b2 := sz c25
      try have c25b3 : (9223372036854775807 < (rdOf ByteArray.empty y105 (ji17)).size + 2 + (t113).size) = False := sz3 c25
      replace H := sK H
      obtain ⟨c26, c26b0, c26b1, H⟩ := H
      have c26b2 := sz c26
      try have c26b3 : (9223372036854775807 < (rdOf ByteArray.empty y105 (ji17)).size + 2 + (t113).size + 1) = False := sz3 c26
      replace H := sK H
      obtain ⟨c27, c27b0, c27b1, H⟩ := H
      have c27b2 := sz c27
      try have c27b3 : (9223372036854775807 < (rdOf ByteArray.empty y105 (ji17)).size + 2 + (t113).size + 1 + (rdOf ByteArray.empty y109 (ji20)).size) = False := sz3 c27
      replace H := sK H
      obtain ⟨c28, c28b0, c28b1, H⟩ := H
      have c28b2 := sz c28
      try have c28b3 : (9223372036854775807 < (rdOf ByteArray.empty y105 (ji17)).size + 2 + (t113).size + 1 + (rdOf ByteArray.empty y109 (ji20)).size + 1) = False := sz3 c28
      replace H := ob H
      obtain ⟨t114, A29, H⟩ := H
      replace H := sK H
      obtain ⟨c30, c30b0, c30b1, H⟩ := H
      have c30b2 := sz c30
      try have c30b3 : (9223372036854775807 < (rdOf ByteArray.empty y105 (ji17)).size + 2 + (t113).size + 1 + (rdOf ByteArray.empty y109 (ji20)).size + 1 + (t114).size) = False := sz3 c30
      replace H := sK H
      obtain ⟨c31, c31b0, c31b1, H⟩ := H
      have c31b2 := sz c31
      try have c31b3 : (9223372036854775807 < (rdOf ByteArray.empty y105 (ji17)).size + 2 + (t113).size + 1 + (rdOf ByteArray.empty y109 (ji20)).size + 1 + (t114).size + 1) = False := sz3 c31
      replace H := ob H
      obtain ⟨t115, A32, H⟩ := H
      replace H := sK H
      obtain ⟨c33, c33b0, c33b1, H⟩ := H
      have c33b2 := sz c33
      try have c33b3 : (9223372036854775807 < (rdOf ByteArray.empty y105 (ji17)).size + 2 + (t113).size + 1 + (rdOf ByteArray.empty y109 (ji20)).size + 1 + (t114).size + 1 + (t115).size) = False := sz3 c33
      replace H := sK H
      obtain ⟨c34, c34b0, c34b1, H⟩ := H
      have c34b2 := sz c34
      try have c34b3 : (9223372036854775807 < (rdOf ByteArray.empty y105 (ji17)).size + 2 + (t113).size + 1 + (rdOf ByteArray.empty y109 (ji20)).size + 1 + (t114).size + 1 + (t115).size + 1) = False := sz3 c34
      replace H := ob H
      obtain ⟨t116, A35, H⟩ := H
      replace H := sK H
      obtain ⟨c36, c36b0, c36b1, H⟩ := H
      have c36b2 := sz c36
      try have c36b3 : (9223372036854775807 < (rdOf ByteArray.empty y105 (ji17)).size + 2 + (t113).size + 1 + (rdOf ByteArray.empty y109 (ji20)).size + 1 + (t114).size + 1 + (t115).size + 1 + (t116).size) = False := sz3 c36
      replace H := sK H
      obtain ⟨c37, c37b0, c37b1, H⟩ := H
      have c37b2 := sz c37
      try have c37b3 : (9223372036854775807 < (rdOf ByteArray.empty y105 (ji17)).size + 2 + (t113).size + 1 + (rdOf ByteArray.empty y109 (ji20)).size + 1 + (t114).size + 1 + (t115).size + 1 + (t116).size + 1) = False := sz3 c37
      replace H := ob H
      obtain ⟨t117, A38, H⟩ := H
      replace H := sK H
      obtain ⟨c39, c39b0, c39b1, H⟩ := H
      have c39b2 := sz c39
      try have c39b3 : (9223372036854775807 < (rdOf ByteArray.empty y105 (ji17)).size + 2 + (t113).size + 1 + (rdOf ByteArray.empty y109 (ji20)).size + 1 + (t114).size + 1 + (t115).size + 1 + (t116).size + 1 + (t117).size) = False := sz3 c39
      replace H := sK H
      obtain ⟨c40, c40b0, c40b1, H⟩ := H
      have c40b2 := sz c40
      try have c40b3 : (9223372036854775807 < (rdOf ByteArray.empty y105 (ji17)).size + 2 + (t113).size + 1 + (rdOf ByteArray.empty y109 (ji20)).size + 1 + (t114).size + 1 + (t115).size + 1 + (t116).size + 1 + (t117).size + 4) = False := sz3 c40
      obtain rfl := oi1 H
      go_wp2_with (first | ((with_reducible refine za (f := 122) rfl ?_); refine cl 40 rfl Tryz.func122 #[.int .i64 x4_3, .int .i64 x5_9, .int .i64 1] (zv.calls kj9 x4_3 x5_9 1 t104 _ A16.out) ?_; rintro e w41 ⟨rfl, hb⟩; refine ⟨_, rfl, ?_⟩; replace HB := ak (zb bq hb); (try clear hb)) | ((with_reducible refine zl (N := 43) rfl ?_); refine rS 9 43 Ny105.out ?_; intro v106 w42 ho43 hb; have HO107 := ak (Kd.R_lower ho43 (zd bq)); replace HB := ak (zb bq hb); clear hb ho43; obtain ⟨Ao44, co44, eo44⟩ := Kd.R_slice HO107.out; subst eo44; have p108 : 0 ≤ ((ji17) : Int) := of_decide_eq_true asm; have q108 : (ji17) < (y105.length : Int) := of_decide_eq_true asm; obtain ⟨ad108, e108, hx108_0⟩ := Kd.at_string (Kd.R_reads' HO107.out).2.2 (ji17) p108 q108; cases e108; replace p108 := eq_true p108; replace q108 := eq_true q108) | ((with_reducible refine zl (N := 48) rfl ?_); refine rS 9 48 Ny109.out ?_; intro v110 w45 ho46 hb; have HO111 := ak (Kd.R_lower (Kd.R_new' ho46 (Kd.R_lt (rdq HO107.out))) (zd bq)); replace HO107 := ak (Kd.R_elder' (rdq HO107.out) (Kd.R_base ho46) hb); replace HB := ak (zb bq hb); clear hb ho46; obtain ⟨Ao47, co47, eo47⟩ := Kd.R_slice HO111.out; subst eo47; have p112 : 0 ≤ ((ji20) : Int) := of_decide_eq_true asm; have q112 : (ji20) < (y109.length : Int) := of_decide_eq_true asm; obtain ⟨ad112, e112, hx112_0⟩ := Kd.at_string (Kd.R_reads' HO111.out).2.2 (ji20) p112 q112; cases e112; replace p112 := eq_true p112; replace q112 := eq_true q112) | ((with_reducible refine za (f := 123) rfl ?_); refine cl 56 rfl Tryz.func123 #[.int .i64 (wrap64 ((wrap64 ((wrap64 (Int.tdiv a0 86400)) - t104)) + 1))] (yK.calls (wrap64 ((wrap64 ((wrap64 (Int.tdiv a0 86400)) - t104)) + 1)) t113 _ A24.out) ?_; rintro e w48 ⟨rfl, hb⟩; refine ⟨_, rfl, ?_⟩; replace HO107 := ak (Kd.R_below (rdq HO107.out) hb); replace HO111 := ak (Kd.R_below (rdq HO111.out) hb); replace HB := ak (zb bq hb); (try clear hb)) | ((with_reducible refine za (f := 97) rfl ?_); refine cl 63 rfl Tryz.func97 #[.int .i64 x4_3] (yw.calls kj9 x4_3 t114 _ A29.out) ?_; rintro e w49 ⟨rfl, hb⟩; refine ⟨_, rfl, ?_⟩; replace HO107 := ak (Kd.R_below (rdq HO107.out) hb); replace HO111 := ak (Kd.R_below (rdq HO111.out) hb); replace HB := ak (zb bq hb); (try clear hb)) | ((with_reducible refine za (f := 123) rfl ?_); refine cl 69 rfl Tryz.func123 #[.int .i64 (Int.tmod (wrap64 (Int.tdiv a0 3600)) 24)] (yK.calls (Int.tmod (wrap64 (Int.tdiv a0 3600)) 24) t115 _ A32.out) ?_; rintro e w50 ⟨rfl, hb⟩; refine ⟨_, rfl, ?_⟩; replace HO107 := ak (Kd.R_below (rdq HO107.out) hb); replace HO111 := ak (Kd.R_below (rdq HO111.out) hb); replace HB := ak (zb bq hb); (try clear hb)) | ((with_reducible refine za (f := 123) rfl ?_); refine cl 75 rfl Tryz.func123 #[.int .i64 (Int.tmod (wrap64 (Int.tdiv a0 60)) 60)] (yK.calls (Int.tmod (wrap64 (Int.tdiv a0 60)) 60) t116 _ A35.out) ?_; rintro e w51 ⟨rfl, hb⟩; refine ⟨_, rfl, ?_⟩; replace HO107 := ak (Kd.R_below (rdq HO107.out) hb); replace HO111 := ak (Kd.R_below (rdq HO111.out) hb); replace HB := ak (zb bq hb); (try clear hb)) | ((with_reducible refine za (f := 123) rfl ?_); refine cl 80 rfl Tryz.func123 #[.int .i64 (Int.tmod a0 60)] (yK.calls (Int.tmod a0 60) t117 _ A38.out) ?_; rintro e w52 ⟨rfl, hb⟩; refine ⟨_, rfl, ?_⟩; replace HO107 := ak (Kd.R_below (rdq HO107.out) hb); replace HO111 := ak (Kd.R_below (rdq HO111.out) hb); replace HB := ak (zb bq hb); (try clear hb)))
      go_ret
      exact ⟨by first | rfl | (simp [xy, xx] <;> rfl) | (simp only [← hji17, ← hji20]; first | rfl | (simp [xy, xx] <;> rfl)) | (simp [*, xy, xx] <;> rfl), bq⟩
 ·obtain rfl := oi1 H
  go_enter Tryz.func95, Tryz.ntmps95
  go_wp2_with (first | ((with_reducible refine za (f := 34) rfl ?_); refine cl 10 rfl Tryz.func34 #[.int .i64 a0, .int .i64 0, .int .i64 2000000000] (yZ.calls a0 0 2000000000 false _ A2.out) ?_; rintro e w' ⟨rfl, ⟨nd, rfl⟩⟩; refine ⟨_, rfl, ?_⟩))
  go_ret
  exact ⟨rv, bq⟩
def zR.j0 : Nat → Int → Bool → List Int → Int → Int → Option (ByteArray × ByteArray × Int × Int)
 | 0, _, _, _, _, _ => none
 | k + 1, x4, x5, x1000, x1001, x1002 => if x5 = true then ((zB.f x1000 x1001 x1002 (([(⟨#[109, 97, 120, 45, 97, 103, 101, 61, 49, 48]⟩ : ByteArray), (⟨#[110, 111, 45, 115, 116, 111, 114, 101]⟩ : ByteArray), (⟨#[110, 111, 45, 99, 97, 99, 104, 101]⟩ : ByteArray), (⟨#[112, 114, 105, 118, 97, 116, 101]⟩ : ByteArray), (⟨#[112, 117, 98, 108, 105, 99, 44, 32, 109, 97, 120, 45, 97, 103, 101, 61, 51]⟩ : ByteArray), (⟨#[115, 45, 109, 97, 120, 97, 103, 101, 61, 55, 44, 32, 109, 97, 120, 45, 97, 103, 101, 61, 49]⟩ : ByteArray), (⟨#[109, 117, 115, 116, 45, 114, 101, 118, 97, 108, 105, 100, 97, 116, 101]⟩ : ByteArray), (⟨#[109, 97, 120, 45, 115, 116, 97, 108, 101, 61, 53]⟩ : ByteArray), (⟨#[109, 105, 110, 45, 102, 114, 101, 115, 104, 61, 50]⟩ : ByteArray), (⟨#[111, 110, 108, 121, 45, 105, 102, 45, 99, 97, 99, 104, 101, 100]⟩ : ByteArray), (⟨#[109, 97, 120, 45, 97, 103, 101, 61, 48]⟩ : ByteArray), (⟨#[112, 117, 98, 108, 105, 99]⟩ : ByteArray)] : List ByteArray))).bind fun bt108 => (some ((⟨#[99, 97, 99, 104, 101, 45, 99, 111, 110, 116, 114, 111, 108]⟩ : ByteArray), bt108.1, bt108.2.1, bt108.2.2))) else (if x4 = 3 then ((zB.f x1000 x1001 x1002 (([(⟨#[97, 99, 99, 101, 112, 116]⟩ : ByteArray), (⟨#[42]⟩ : ByteArray), (⟨#[97, 99, 99, 101, 112, 116, 44, 32, 120, 45, 97]⟩ : ByteArray), (⟨#[120, 45, 97]⟩ : ByteArray)] : List ByteArray))).bind fun bt114 => (some ((⟨#[118, 97, 114, 121]⟩ : ByteArray), bt114.1, bt114.2.1, bt114.2.2))) else (if x4 = 4 then ((zB.f x1000 x1001 x1002 (([(⟨#[97]⟩ : ByteArray), (⟨#[98]⟩ : ByteArray), (⟨#[97, 44, 32, 98]⟩ : ByteArray), (⟨#[]⟩ : ByteArray)] : List ByteArray))).bind fun bt120 => (some ((⟨#[97, 99, 99, 101, 112, 116]⟩ : ByteArray), bt120.1, bt120.2.1, bt120.2.2))) else (if x4 = 5 then ((zB.f x1000 x1001 x1002 (([(⟨#[49]⟩ : ByteArray), (⟨#[50]⟩ : ByteArray)] : List ByteArray))).bind fun bt126 => (some ((⟨#[120, 45, 97]⟩ : ByteArray), bt126.1, bt126.2.1, bt126.2.2))) else (if x4 = 6 then ((zB.f x1000 x1001 x1002 (([(⟨#[34, 118, 49, 34]⟩ : ByteArray), (⟨#[34, 118, 50, 34]⟩ : ByteArray), (⟨#[87, 47, 34, 118, 49, 34]⟩ : ByteArray)] : List ByteArray))).bind fun bt132 => (some ((⟨#[101, 116, 97, 103]⟩ : ByteArray), bt132.1, bt132.2.1, bt132.2.2))) else (if x4 = 7 then ((zp.f x1000 x1001 x1002 60).bind fun bt135 => ((zm.f k bt135.1).bind fun t138 => (some ((⟨#[100, 97, 116, 101]⟩ : ByteArray), t138, bt135.2.1, bt135.2.2)))) else (if x4 = 8 then ((zB.f x1000 x1001 x1002 (([(⟨#[101, 120, 112, 105, 114, 101, 115]⟩ : ByteArray), (⟨#[108, 97, 115, 116, 45, 109, 111, 100, 105, 102, 105, 101, 100]⟩ : ByteArray)] : List ByteArray))).bind fun bt142 => ((zp.f x1000 bt142.2.1 bt142.2.2 60).bind fun bt145 => ((zm.f k bt145.1).bind fun t148 => (some (bt142.1, t148, bt145.2.1, bt145.2.2))))) else ((zB.f x1000 x1001 x1002 (([(⟨#[97, 103, 101]⟩ : ByteArray), (⟨#[120, 45, 98]⟩ : ByteArray), (⟨#[97, 117, 116, 104, 111, 114, 105, 122, 97, 116, 105, 111, 110]⟩ : ByteArray)] : List ByteArray))).bind fun bt152 => ((zB.f x1000 bt152.2.1 bt152.2.2 (([(⟨#[51]⟩ : ByteArray), (⟨#[48]⟩ : ByteArray), (⟨#[57, 57, 57, 57, 57, 57, 57, 57, 57, 57, 57]⟩ : ByteArray), (⟨#[120]⟩ : ByteArray)] : List ByteArray))).bind fun bt158 => (some (bt152.1, bt158.1, bt158.2.1, bt158.2.2))))))))))
def zR.f (k : Nat) (s0_0 : List Int) (s0_1 : Int) (s0_2 : Int) : Option (ByteArray × ByteArray × Int × Int) := (zp.f s0_0 s0_1 s0_2 10).bind fun bt102 => (if bt102.1 = 0 then (zR.j0 k bt102.1 (bt102.1 == 0) s0_0 bt102.2.1 bt102.2.2) else (if bt102.1 = 1 then (zR.j0 k bt102.1 (bt102.1 == 1) s0_0 bt102.2.1 bt102.2.2) else (zR.j0 k bt102.1 (bt102.1 == 2) s0_0 bt102.2.1 bt102.2.2)))
theorem zR.mono_l : ∀ k, (∀ y0 y1 y2 y3 y4, LeO (zR.j0 k y0 y1 y2 y3 y4) (zR.j0 (k + 1) y0 y1 y2 y3 y4))
 | 0 => fun _ _ _ _ _ r h => by simp [zR.j0] at h
 | k + 1 => by
  have ih0 := zR.mono_l k
  ·intro y0 y1 y2 y3 y4
   unfold zR.j0
   exact mq2 ih0 zm.mono
theorem zR.mono : ∀ a0 a1 a2 k, LeO (zR.f k a0 a1 a2) (zR.f (k + 1) a0 a1 a2) := by
 intro a0 a1 a2 k
 have ih0 := zR.mono_l k
 unfold zR.f
 exact mq2 ih0 zm.mono
theorem zR.calls (k : Nat) (g : Nat) (s0_0 : List Int) (s0_1 : Int) (s0_2 : Int) (r1 : ByteArray) (r2 : ByteArray) (r3 : Int) (r4 : Int) (w0 w : World) (hI : IsS88 w0 w g s0_0 s0_1 s0_2) (hB : Below w0.heap.size w0 w) (h : zR.f k s0_0 s0_1 s0_2 = some (r1, r2, r3, r4)) :
  Calls Tryz.prog 66 #[.pointer (some ⟨g, 0, none⟩)] w fun e w' => e = .returned (.agg #[.string r1, .string r2]) ∧ IsS88 w0 w' g s0_0 r3 r4 ∧ Below w0.heap.size w0 w' ∧ KeepBut w w' g none := by
 have hu55 := Tryz.underlying55
 have HI0 := ak hI
 have HK := ak (KeepBut.refl w g none)
 have HL := ak hB.size
 clear hI
 have HW0 := ak hB.size
 have HB := ak hB
 clear hB
 have H := h
 unfold zR.f at H
 clear h
 replace H := ob H
 obtain ⟨⟨t102, t103, t104⟩, A2, H⟩ := H
 try dsimp only at H
 have HC3 := ak H
 clear H
 go_enter Tryz.func66, Tryz.ntmps66
 go_upto_if 5 with (first | ((with_reducible refine zl (N := 2) rfl ?_); refine bx 2 #[.string ⟨#[]⟩, .string ⟨#[]⟩] 55 ?_; intro gb101 hg w4 hbox hb; have BK101 := ak (hbox); have GW101 := ak ((by rw [hg]; exact (yi (w := w) (g := g) (row := none) kq) : w.heap.size ≤ gb101)); have GE101 := ak ((Nat.le_trans HW0.out (by rw [hg]; exact (yi (w := w) (g := g) (row := none) kq) : w.heap.size ≤ gb101) : w0.heap.size ≤ gb101)); have NB0_101 := ak ((by rw [hg]; exact Nat.ne_of_lt (xE (show IsS88 w0 _ g s0_0 s0_1 s0_2 from zU HI0.out)) : g ≠ gb101)); have NB101_0 := ak NB0_101.out.symm; replace HK := ak (KeepBut.trans kq (zF hb g none) (.inl rfl)); replace HB := ak (zb (bq1 (zc HI0.out)) hb); replace HI0 := ak (IsS88.below (zU HI0.out) hb); clear hb hbox hg) | ((with_reducible refine za (f := 38) rfl ?_); refine cl 4 rfl Tryz.func38 #[.pointer (some ⟨g, 0, none⟩), .int .i64 10] (zp.calls g s0_0 s0_1 s0_2 10 t102 t103 t104 w0 _ ?side1 ?side2 A2.out) ?_; (case side1 => exact zS HI0.out NB0_101.out); (case side2 => exact bq2 (zc HI0.out) GE101.out); rintro e w5 ⟨rfl, hi, hb, hk⟩; refine ⟨_, rfl, ?_⟩; replace BK101 := ak (KeepBut.blk hk (blq BK101.out) NB101_0.out (by simp)); replace HK := ak (KeepBut.trans (kq1 GW101.out) hk (.inl rfl)); replace HB := ak (hb); replace HI0 := ak (hi); (try clear hb hk hi)))
 (try simp only [Act.put, List.setIfInBounds_toArray, List.set_cons_zero, List.set_cons_succ])
 go_cut [5] (fun v5 wc => ∃ (kq : Nat) (x5_2 : Bool), v5 = .bool x5_2 ∧ Aside0 (zR.j0 kq t102 x5_2 s0_0 t103 t104 = some (r1, r2, r3, r4)) ∧ Aside0 (kq ≤ k) ∧ Aside0 (wc.heap[gb101]? = some (.cells #[.string ⟨#[]⟩, .string ⟨#[]⟩] 55 (0, 0))) ∧ Aside0 (IsS88 w0 wc g s0_0 t103 t104) ∧ Aside0 (KeepBut w wc g none) ∧ Aside0 (Below w0.heap.size w0 wc))
 case first =>
  have H := HC3.out
  clear HC3
  replace H := se H
  rcases H with ⟨c6b0, c6b1, H⟩ | ⟨c6, c6b0, c6b1, H⟩
  ·(first | rw [c6b0] | (simp only [i64_w, i32_w]; rw [c6b0]) | skip)
   have H' := ak H
   clear H
   go_wp2
   go_meet
   case rel => exact ⟨_, ((t102 == 0)), rs, H', ⟨om⟩, ⟨blq BK101.out⟩, ⟨zS HI0.out NB0_101.out⟩, ⟨kq1 GW101.out⟩, ⟨bq2 (zc HI0.out) GE101.out⟩⟩
  ·(first | rw [c6b0] | (simp only [i64_w, i32_w]; rw [c6b0]) | skip)
   replace H := se H
   rcases H with ⟨c7b0, c7b1, H⟩ | ⟨c7, c7b0, c7b1, H⟩
   ·have H' := ak H
    clear H
    go_wp2
    go_meet
    case rel => exact ⟨_, ((t102 == 1)), rs, H', ⟨om⟩, ⟨blq BK101.out⟩, ⟨zS HI0.out NB0_101.out⟩, ⟨kq1 GW101.out⟩, ⟨bq2 (zc HI0.out) GE101.out⟩⟩
   ·have H' := ak H
    clear H
    go_wp2
    go_meet
    case rel => exact ⟨_, ((t102 == 2)), rs, H', ⟨om⟩, ⟨blq BK101.out⟩, ⟨zS HI0.out NB0_101.out⟩, ⟨kq1 GW101.out⟩, ⟨bq2 (zc HI0.out) GE101.out⟩⟩
 case rest =>
  clear HC3
  obtain ⟨kq, x5_2, rfl, HA, HJ2, BK101, HI0, HK, HB⟩ := hcut
  cases kq with
  | zero => exact absurd HA.out (by simp [zR.j0])
  | succ kj2 =>
   have H := HA.out
   clear HA
   simp only [zR.j0] at H
   replace H := sb H
   rcases H with ⟨rfl, H⟩ | ⟨rfl, H⟩
   ·obtain ⟨y105, hy105⟩ : ∃ y_ : List ByteArray, y_ = (([(⟨#[109, 97, 120, 45, 97, 103, 101, 61, 49, 48]⟩ : ByteArray), (⟨#[110, 111, 45, 115, 116, 111, 114, 101]⟩ : ByteArray), (⟨#[110, 111, 45, 99, 97, 99, 104, 101]⟩ : ByteArray), (⟨#[112, 114, 105, 118, 97, 116, 101]⟩ : ByteArray), (⟨#[112, 117, 98, 108, 105, 99, 44, 32, 109, 97, 120, 45, 97, 103, 101, 61, 51]⟩ : ByteArray), (⟨#[115, 45, 109, 97, 120, 97, 103, 101, 61, 55, 44, 32, 109, 97, 120, 45, 97, 103, 101, 61, 49]⟩ : ByteArray), (⟨#[109, 117, 115, 116, 45, 114, 101, 118, 97, 108, 105, 100, 97, 116, 101]⟩ : ByteArray), (⟨#[109, 97, 120, 45, 115, 116, 97, 108, 101, 61, 53]⟩ : ByteArray), (⟨#[109, 105, 110, 45, 102, 114, 101, 115, 104, 61, 50]⟩ : ByteArray), (⟨#[111, 110, 108, 121, 45, 105, 102, 45, 99, 97, 99, 104, 101, 100]⟩ : ByteArray), (⟨#[109, 97, 120, 45, 97, 103, 101, 61, 48]⟩ : ByteArray), (⟨#[112, 117, 98, 108, 105, 99]⟩ : ByteArray)] : List ByteArray)) := ⟨_, rfl⟩
    replace H : ((zB.f s0_0 t103 t104 y105).bind fun bt108 => (some ((⟨#[99, 97, 99, 104, 101, 45, 99, 111, 110, 116, 114, 111, 108]⟩ : ByteArray), bt108.1, bt108.2.1, bt108.2.2))) = some (r1, r2, r3, r4) := rhq hy105
    have Ny105 := ak hy105
    clear hy105
    replace H := ob H
    obtain ⟨⟨t108, t109, t110⟩, A9, H⟩ := H
    try dsimp only at H
    obtain ⟨rfl, rfl, rfl, rfl⟩ := oi4 H
    go_wp2_with (first | ((with_reducible refine zl (N := 10) rfl ?_); refine rS 9 10 Ny105.out ?_; intro v106 w10 ho11 hb; have HO107 := ak (Kd.R_lower ho11 (yi (w := w) (g := g) (row := none) (kq1 GW101.out))); replace BK101 := ak (ze (blq BK101.out) hb); replace HK := ak (KeepBut.trans (kq1 GW101.out) (zF hb g none) (.inl rfl)); replace HB := ak (zb (bq2 (zc HI0.out) GE101.out) hb); replace HI0 := ak (IsS88.below (zS HI0.out NB0_101.out) hb); clear hb ho11; obtain ⟨Ao12, co12, eo12⟩ := Kd.R_slice HO107.out; subst eo12) | ((with_reducible refine za (f := 41) rfl ?_); refine cl 11 rfl Tryz.func41 #[.pointer (some ⟨g, 0, none⟩), .slice Ao12 y105.length co12] (zB.calls g s0_0 t103 t104 _ _ y105 t108 t109 t110 w0 _ ?side1 ?side2 ?side3 ?side4 ?side5 A9.out) ?_; (case side1 => exact zS HI0.out NB0_101.out); (case side2 => exact bq2 (zc HI0.out) GE101.out); (case side3 => exact cq (Kd.R_reads' HO107.out).2.2); (case side4 => exact (Kd.R_reads' HO107.out).2.1); (case side5 => exact xD (yp HI0.out HO107.out (by decide))); rintro e w13 ⟨rfl, hi, hb, hk⟩; refine ⟨_, rfl, ?_⟩; replace BK101 := ak (KeepBut.blk hk (blq BK101.out) NB101_0.out (by simp)); replace HO107 := ak (Kd.R_mono (Kd.R_keep (IsS88.apart (show IsS88 w0 _ g s0_0 t103 t104 from zS HI0.out NB0_101.out) (rdq HO107.out) (by decide)) hk (fun _ h => h.2)) (fun _ h => h.1)); replace HK := ak (KeepBut.trans (kq1 GW101.out) hk (.inl rfl)); replace HB := ak (hb); replace HI0 := ak (hi); (try clear hb hk hi); have hnb14 := NB101_0.out; have hnc14 := NB0_101.out; obtain ⟨hcz15_0, hcz15_1, hfz15_0, hfz15_1⟩ := blk2 BK101.out))
    refine bodyPost_ret (results_cell_row rfl _ _ gb101 55 #[.string ⟨#[99, 97, 99, 104, 101, 45, 99, 111, 110, 116, 114, 111, 108]⟩, .string t108] (0, 0) _ rfl (blp0 BK101.out) Tryz.underlying55 rfl (by kernel_rfl)) rfl ?_
    exact ⟨rv, zS HI0.out NB0_101.out, bq2 (zc HI0.out) GE101.out, kq1 GW101.out⟩
   ·replace H := se H
    rcases H with ⟨c16b0, c16b1, H⟩ | ⟨c16, c16b0, c16b1, H⟩
    ·obtain ⟨y111, hy111⟩ : ∃ y_ : List ByteArray, y_ = (([(⟨#[97, 99, 99, 101, 112, 116]⟩ : ByteArray), (⟨#[42]⟩ : ByteArray), (⟨#[97, 99, 99, 101, 112, 116, 44, 32, 120, 45, 97]⟩ : ByteArray), (⟨#[120, 45, 97]⟩ : ByteArray)] : List ByteArray)) := ⟨_, rfl⟩
     replace H : ((zB.f s0_0 t103 t104 y111).bind fun bt114 => (some ((⟨#[118, 97, 114, 121]⟩ : ByteArray), bt114.1, bt114.2.1, bt114.2.2))) = some (r1, r2, r3, r4) := rhq hy111
     have Ny111 := ak hy111
     clear hy111
     replace H := ob H
     obtain ⟨⟨t114, t115, t116⟩, A17, H⟩ := H
     try dsimp only at H
     obtain ⟨rfl, rfl, rfl, rfl⟩ := oi4 H
     go_wp2_with (first | ((with_reducible refine zl (N := 16) rfl ?_); refine rS 9 16 Ny111.out ?_; intro v112 w18 ho19 hb; have HO113 := ak (Kd.R_lower ho19 (yi (w := w) (g := g) (row := none) (kq1 GW101.out))); replace BK101 := ak (ze (blq BK101.out) hb); replace HK := ak (KeepBut.trans (kq1 GW101.out) (zF hb g none) (.inl rfl)); replace HB := ak (zb (bq2 (zc HI0.out) GE101.out) hb); replace HI0 := ak (IsS88.below (zS HI0.out NB0_101.out) hb); clear hb ho19; obtain ⟨Ao20, co20, eo20⟩ := Kd.R_slice HO113.out; subst eo20) | ((with_reducible refine za (f := 41) rfl ?_); refine cl 17 rfl Tryz.func41 #[.pointer (some ⟨g, 0, none⟩), .slice Ao20 y111.length co20] (zB.calls g s0_0 t103 t104 _ _ y111 t114 t115 t116 w0 _ ?side1 ?side2 ?side3 ?side4 ?side5 A17.out) ?_; (case side1 => exact zS HI0.out NB0_101.out); (case side2 => exact bq2 (zc HI0.out) GE101.out); (case side3 => exact cq (Kd.R_reads' HO113.out).2.2); (case side4 => exact (Kd.R_reads' HO113.out).2.1); (case side5 => exact xD (yp HI0.out HO113.out (by decide))); rintro e w21 ⟨rfl, hi, hb, hk⟩; refine ⟨_, rfl, ?_⟩; replace BK101 := ak (KeepBut.blk hk (blq BK101.out) NB101_0.out (by simp)); replace HO113 := ak (Kd.R_mono (Kd.R_keep (IsS88.apart (show IsS88 w0 _ g s0_0 t103 t104 from zS HI0.out NB0_101.out) (rdq HO113.out) (by decide)) hk (fun _ h => h.2)) (fun _ h => h.1)); replace HK := ak (KeepBut.trans (kq1 GW101.out) hk (.inl rfl)); replace HB := ak (hb); replace HI0 := ak (hi); (try clear hb hk hi); have hnb22 := NB101_0.out; have hnc22 := NB0_101.out; obtain ⟨hcz23_0, hcz23_1, hfz23_0, hfz23_1⟩ := blk2 BK101.out))
     refine bodyPost_ret (results_cell_row rfl _ _ gb101 55 #[.string ⟨#[118, 97, 114, 121]⟩, .string t114] (0, 0) _ rfl (blp0 BK101.out) Tryz.underlying55 rfl (by kernel_rfl)) rfl ?_
     exact ⟨rv, zS HI0.out NB0_101.out, bq2 (zc HI0.out) GE101.out, kq1 GW101.out⟩
    ·replace H := se H
     rcases H with ⟨c24b0, c24b1, H⟩ | ⟨c24, c24b0, c24b1, H⟩
     ·obtain ⟨y117, hy117⟩ : ∃ y_ : List ByteArray, y_ = (([(⟨#[97]⟩ : ByteArray), (⟨#[98]⟩ : ByteArray), (⟨#[97, 44, 32, 98]⟩ : ByteArray), (⟨#[]⟩ : ByteArray)] : List ByteArray)) := ⟨_, rfl⟩
      replace H : ((zB.f s0_0 t103 t104 y117).bind fun bt120 => (some ((⟨#[97, 99, 99, 101, 112, 116]⟩ : ByteArray), bt120.1, bt120.2.1, bt120.2.2))) = some (r1, r2, r3, r4) := rhq hy117
      have Ny117 := ak hy117
      clear hy117
      replace H := ob H
      obtain ⟨⟨t120, t121, t122⟩, A25, H⟩ := H
      try dsimp only at H
      obtain ⟨rfl, rfl, rfl, rfl⟩ := oi4 H
      go_wp2_with (first | ((with_reducible refine zl (N := 22) rfl ?_); refine rS 9 22 Ny117.out ?_; intro v118 w26 ho27 hb; have HO119 := ak (Kd.R_lower ho27 (yi (w := w) (g := g) (row := none) (kq1 GW101.out))); replace BK101 := ak (ze (blq BK101.out) hb); replace HK := ak (KeepBut.trans (kq1 GW101.out) (zF hb g none) (.inl rfl)); replace HB := ak (zb (bq2 (zc HI0.out) GE101.out) hb); replace HI0 := ak (IsS88.below (zS HI0.out NB0_101.out) hb); clear hb ho27; obtain ⟨Ao28, co28, eo28⟩ := Kd.R_slice HO119.out; subst eo28) | ((with_reducible refine za (f := 41) rfl ?_); refine cl 23 rfl Tryz.func41 #[.pointer (some ⟨g, 0, none⟩), .slice Ao28 y117.length co28] (zB.calls g s0_0 t103 t104 _ _ y117 t120 t121 t122 w0 _ ?side1 ?side2 ?side3 ?side4 ?side5 A25.out) ?_; (case side1 => exact zS HI0.out NB0_101.out); (case side2 => exact bq2 (zc HI0.out) GE101.out); (case side3 => exact cq (Kd.R_reads' HO119.out).2.2); (case side4 => exact (Kd.R_reads' HO119.out).2.1); (case side5 => exact xD (yp HI0.out HO119.out (by decide))); rintro e w29 ⟨rfl, hi, hb, hk⟩; refine ⟨_, rfl, ?_⟩; replace BK101 := ak (KeepBut.blk hk (blq BK101.out) NB101_0.out (by simp)); replace HO119 := ak (Kd.R_mono (Kd.R_keep (IsS88.apart (show IsS88 w0 _ g s0_0 t103 t104 from zS HI0.out NB0_101.out) (rdq HO119.out) (by decide)) hk (fun _ h => h.2)) (fun _ h => h.1)); replace HK := ak (KeepBut.trans (kq1 GW101.out) hk (.inl rfl)); replace HB := ak (hb); replace HI0 := ak (hi); (try clear hb hk hi); have hnb30 := NB101_0.out; have hnc30 := NB0_101.out; obtain ⟨hcz31_0, hcz31_1, hfz31_0, hfz31_1⟩ := blk2 BK101.out))
      refine bodyPost_ret (results_cell_row rfl _ _ gb101 55 #[.string ⟨#[97, 99, 99, 101, 112, 116]⟩, .string t120] (0, 0) _ rfl (blp0 BK101.out) Tryz.underlying55 rfl (by kernel_rfl)) rfl ?_
      exact ⟨rv, zS HI0.out NB0_101.out, bq2 (zc HI0.out) GE101.out, kq1 GW101.out⟩
     ·replace H := se H
      rcases H with ⟨c32b0, c32b1, H⟩ | ⟨c32, c32b0, c32b1, H⟩
      ·obtain ⟨y123, hy123⟩ : ∃ y_ : List ByteArray, y_ = (([(⟨#[49]⟩ : ByteArray), (⟨#[50]⟩ : ByteArray)] : List ByteArray)) := ⟨_, rfl⟩
       replace H : ((zB.f s0_0 t103 t104 y123).bind fun bt126 => (some ((⟨#[120, 45, 97]⟩ : ByteArray), bt126.1, bt126.2.1, bt126.2.2))) = some (r1, r2, r3, r4) := rhq hy123
       have Ny123 := ak hy123
       clear hy123
       replace H := ob H
       obtain ⟨⟨t126, t127, t128⟩, A33, H⟩ := H
       try dsimp only at H
       obtain ⟨rfl, rfl, rfl, rfl⟩ := oi4 H
       go_wp2_with (first | ((with_reducible refine zl (N := 28) rfl ?_); refine rS 9 28 Ny123.out ?_; intro v124 w34 ho35 hb; have HO125 := ak (Kd.R_lower ho35 (yi (w := w) (g := g) (row := none) (kq1 GW101.out))); replace BK101 := ak (ze (blq BK101.out) hb); replace HK := ak (KeepBut.trans (kq1 GW101.out) (zF hb g none) (.inl rfl)); replace HB := ak (zb (bq2 (zc HI0.out) GE101.out) hb); replace HI0 := ak (IsS88.below (zS HI0.out NB0_101.out) hb); clear hb ho35; obtain ⟨Ao36, co36, eo36⟩ := Kd.R_slice HO125.out; subst eo36) | ((with_reducible refine za (f := 41) rfl ?_); refine cl 29 rfl Tryz.func41 #[.pointer (some ⟨g, 0, none⟩), .slice Ao36 y123.length co36] (zB.calls g s0_0 t103 t104 _ _ y123 t126 t127 t128 w0 _ ?side1 ?side2 ?side3 ?side4 ?side5 A33.out) ?_; (case side1 => exact zS HI0.out NB0_101.out); (case side2 => exact bq2 (zc HI0.out) GE101.out); (case side3 => exact cq (Kd.R_reads' HO125.out).2.2); (case side4 => exact (Kd.R_reads' HO125.out).2.1); (case side5 => exact xD (yp HI0.out HO125.out (by decide))); rintro e w37 ⟨rfl, hi, hb, hk⟩; refine ⟨_, rfl, ?_⟩; replace BK101 := ak (KeepBut.blk hk (blq BK101.out) NB101_0.out (by simp)); replace HO125 := ak (Kd.R_mono (Kd.R_keep (IsS88.apart (show IsS88 w0 _ g s0_0 t103 t104 from zS HI0.out NB0_101.out) (rdq HO125.out) (by decide)) hk (fun _ h => h.2)) (fun _ h => h.1)); replace HK := ak (KeepBut.trans (kq1 GW101.out) hk (.inl rfl)); replace HB := ak (hb); replace HI0 := ak (hi); (try clear hb hk hi); have hnb38 := NB101_0.out; have hnc38 := NB0_101.out; obtain ⟨hcz39_0, hcz39_1, hfz39_0, hfz39_1⟩ := blk2 BK101.out))
       refine bodyPost_ret (results_cell_row rfl _ _ gb101 55 #[.string ⟨#[120, 45, 97]⟩, .string t126] (0, 0) _ rfl (blp0 BK101.out) Tryz.underlying55 rfl (by kernel_rfl)) rfl ?_
       exact ⟨rv, zS HI0.out NB0_101.out, bq2 (zc HI0.out) GE101.out, kq1 GW101.out⟩
      ·replace H := se H
       rcases H with ⟨c40b0, c40b1, H⟩ | ⟨c40, c40b0, c40b1, H⟩
       ·obtain ⟨y129, hy129⟩ : ∃ y_ : List ByteArray, y_ = (([(⟨#[34, 118, 49, 34]⟩ : ByteArray), (⟨#[34, 118, 50, 34]⟩ : ByteArray), (⟨#[87, 47, 34, 118, 49, 34]⟩ : ByteArray)] : List ByteArray)) := ⟨_, rfl⟩
        replace H : ((zB.f s0_0 t103 t104 y129).bind fun bt132 => (some ((⟨#[101, 116, 97, 103]⟩ : ByteArray), bt132.1, bt132.2.1, bt132.2.2))) = some (r1, r2, r3, r4) := rhq hy129
        have Ny129 := ak hy129
        clear hy129
        replace H := ob H
        obtain ⟨⟨t132, t133, t134⟩, A41, H⟩ := H
        try dsimp only at H
        obtain ⟨rfl, rfl, rfl, rfl⟩ := oi4 H
        go_wp2_with (first | ((with_reducible refine zl (N := 34) rfl ?_); refine rS 9 34 Ny129.out ?_; intro v130 w42 ho43 hb; have HO131 := ak (Kd.R_lower ho43 (yi (w := w) (g := g) (row := none) (kq1 GW101.out))); replace BK101 := ak (ze (blq BK101.out) hb); replace HK := ak (KeepBut.trans (kq1 GW101.out) (zF hb g none) (.inl rfl)); replace HB := ak (zb (bq2 (zc HI0.out) GE101.out) hb); replace HI0 := ak (IsS88.below (zS HI0.out NB0_101.out) hb); clear hb ho43; obtain ⟨Ao44, co44, eo44⟩ := Kd.R_slice HO131.out; subst eo44) | ((with_reducible refine za (f := 41) rfl ?_); refine cl 35 rfl Tryz.func41 #[.pointer (some ⟨g, 0, none⟩), .slice Ao44 y129.length co44] (zB.calls g s0_0 t103 t104 _ _ y129 t132 t133 t134 w0 _ ?side1 ?side2 ?side3 ?side4 ?side5 A41.out) ?_; (case side1 => exact zS HI0.out NB0_101.out); (case side2 => exact bq2 (zc HI0.out) GE101.out); (case side3 => exact cq (Kd.R_reads' HO131.out).2.2); (case side4 => exact (Kd.R_reads' HO131.out).2.1); (case side5 => exact xD (yp HI0.out HO131.out (by decide))); rintro e w45 ⟨rfl, hi, hb, hk⟩; refine ⟨_, rfl, ?_⟩; replace BK101 := ak (KeepBut.blk hk (blq BK101.out) NB101_0.out (by simp)); replace HO131 := ak (Kd.R_mono (Kd.R_keep (IsS88.apart (show IsS88 w0 _ g s0_0 t103 t104 from zS HI0.out NB0_101.out) (rdq HO131.out) (by decide)) hk (fun _ h => h.2)) (fun _ h => h.1)); replace HK := ak (KeepBut.trans (kq1 GW101.out) hk (.inl rfl)); replace HB := ak (hb); replace HI0 := ak (hi); (try clear hb hk hi); have hnb46 := NB101_0.out; have hnc46 := NB0_101.out; obtain ⟨hcz47_0, hcz47_1, hfz47_0, hfz47_1⟩ := blk2 BK101.out))
        refine bodyPost_ret (results_cell_row rfl _ _ gb101 55 #[.string ⟨#[101, 116, 97, 103]⟩, .string t132] (0, 0) _ rfl (blp0 BK101.out) Tryz.underlying55 rfl (by kernel_rfl)) rfl ?_
        exact ⟨rv, zS HI0.out NB0_101.out, bq2 (zc HI0.out) GE101.out, kq1 GW101.out⟩
       ·replace H := se H
        rcases H with ⟨c48b0, c48b1, H⟩ | ⟨c48, c48b0, c48b1, H⟩
        ·replace H := ob H
         obtain ⟨⟨t135, t136, t137⟩, A49, H⟩ := H
         try dsimp only at H
         replace H := ob H
         obtain ⟨t138, A50, H⟩ := H
         obtain ⟨rfl, rfl, rfl, rfl⟩ := oi4 H
         go_wp2_with (first | ((with_reducible refine za (f := 38) rfl ?_); refine cl 40 rfl Tryz.func38 #[.pointer (some ⟨g, 0, none⟩), .int .i64 60] (zp.calls g s0_0 t103 t104 60 t135 t136 t137 w0 _ ?side1 ?side2 A49.out) ?_; (case side1 => exact zS HI0.out NB0_101.out); (case side2 => exact bq2 (zc HI0.out) GE101.out); rintro e w51 ⟨rfl, hi, hb, hk⟩; refine ⟨_, rfl, ?_⟩; replace BK101 := ak (KeepBut.blk hk (blq BK101.out) NB101_0.out (by simp)); replace HK := ak (KeepBut.trans (kq1 GW101.out) hk (.inl rfl)); replace HB := ak (hb); replace HI0 := ak (hi); (try clear hb hk hi)) | ((with_reducible refine za (f := 95) rfl ?_); refine cl 41 rfl Tryz.func95 #[.int .i64 t135] (zm.calls kj2 t135 t138 _ A50.out) ?_; rintro e w52 ⟨rfl, hb⟩; refine ⟨_, rfl, ?_⟩; replace BK101 := ak (ze (blq BK101.out) hb); replace HK := ak (KeepBut.trans (kq1 GW101.out) (zF hb g none) (.inl rfl)); replace HB := ak (zb (bq2 (zc HI0.out) GE101.out) hb); replace HI0 := ak (IsS88.below (zS HI0.out NB0_101.out) hb); (try clear hb); have hnb53 := NB101_0.out; have hnc53 := NB0_101.out; obtain ⟨hcz54_0, hcz54_1, hfz54_0, hfz54_1⟩ := blk2 BK101.out))
         refine bodyPost_ret (results_cell_row rfl _ _ gb101 55 #[.string ⟨#[100, 97, 116, 101]⟩, .string t138] (0, 0) _ rfl (blp0 BK101.out) Tryz.underlying55 rfl (by kernel_rfl)) rfl ?_
         exact ⟨rv, zS HI0.out NB0_101.out, bq2 (zc HI0.out) GE101.out, kq1 GW101.out⟩
        ·replace H := se H
         rcases H with ⟨c55b0, c55b1, H⟩ | ⟨c55, c55b0, c55b1, H⟩
         ·obtain ⟨y139, hy139⟩ : ∃ y_ : List ByteArray, y_ = (([(⟨#[101, 120, 112, 105, 114, 101, 115]⟩ : ByteArray), (⟨#[108, 97, 115, 116, 45, 109, 111, 100, 105, 102, 105, 101, 100]⟩ : ByteArray)] : List ByteArray)) := ⟨_, rfl⟩
          replace H : ((zB.f s0_0 t103 t104 y139).bind fun bt142 => ((zp.f s0_0 bt142.2.1 bt142.2.2 60).bind fun bt145 => ((zm.f kj2 bt145.1).bind fun t148 => (some (bt142.1, t148, bt145.2.1, bt145.2.2))))) = some (r1, r2, r3, r4) := rhq hy139
          have Ny139 := ak hy139
          clear hy139
          replace H := ob H
          obtain ⟨⟨t142, t143, t144⟩, A56, H⟩ := H
          try dsimp only at H
          replace H := ob H
          obtain ⟨⟨t145, t146, t147⟩, A57, H⟩ := H
          try dsimp only at H
          replace H := ob H
          obtain ⟨t148, A58, H⟩ := H
          obtain ⟨rfl, rfl, rfl, rfl⟩ := oi4 H
          go_wp2_with (first | ((with_reducible refine zl (N := 46) rfl ?_); refine rS 9 46 Ny139.out ?_; intro v140 w59 ho60 hb; have HO141 := ak (Kd.R_lower ho60 (yi (w := w) (g := g) (row := none) (kq1 GW101.out))); replace BK101 := ak (ze (blq BK101.out) hb); replace HK := ak (KeepBut.trans (kq1 GW101.out) (zF hb g none) (.inl rfl)); replace HB := ak (zb (bq2 (zc HI0.out) GE101.out) hb); replace HI0 := ak (IsS88.below (zS HI0.out NB0_101.out) hb); clear hb ho60; obtain ⟨Ao61, co61, eo61⟩ := Kd.R_slice HO141.out; subst eo61) | ((with_reducible refine za (f := 41) rfl ?_); refine cl 47 rfl Tryz.func41 #[.pointer (some ⟨g, 0, none⟩), .slice Ao61 y139.length co61] (zB.calls g s0_0 t103 t104 _ _ y139 t142 t143 t144 w0 _ ?side1 ?side2 ?side3 ?side4 ?side5 A56.out) ?_; (case side1 => exact zS HI0.out NB0_101.out); (case side2 => exact bq2 (zc HI0.out) GE101.out); (case side3 => exact cq (Kd.R_reads' HO141.out).2.2); (case side4 => exact (Kd.R_reads' HO141.out).2.1); (case side5 => exact xD (yp HI0.out HO141.out (by decide))); rintro e w62 ⟨rfl, hi, hb, hk⟩; refine ⟨_, rfl, ?_⟩; replace BK101 := ak (KeepBut.blk hk (blq BK101.out) NB101_0.out (by simp)); replace HO141 := ak (Kd.R_mono (Kd.R_keep (IsS88.apart (show IsS88 w0 _ g s0_0 t103 t104 from zS HI0.out NB0_101.out) (rdq HO141.out) (by decide)) hk (fun _ h => h.2)) (fun _ h => h.1)); replace HK := ak (KeepBut.trans (kq1 GW101.out) hk (.inl rfl)); replace HB := ak (hb); replace HI0 := ak (hi); (try clear hb hk hi)) | ((with_reducible refine za (f := 38) rfl ?_); refine cl 49 rfl Tryz.func38 #[.pointer (some ⟨g, 0, none⟩), .int .i64 60] (zp.calls g s0_0 t143 t144 60 t145 t146 t147 w0 _ ?side1 ?side2 A57.out) ?_; (case side1 => exact zS HI0.out NB0_101.out); (case side2 => exact bq2 (zc HI0.out) GE101.out); rintro e w63 ⟨rfl, hi, hb, hk⟩; refine ⟨_, rfl, ?_⟩; replace BK101 := ak (KeepBut.blk hk (blq BK101.out) NB101_0.out (by simp)); replace HO141 := ak (Kd.R_mono (Kd.R_keep (IsS88.apart (show IsS88 w0 _ g s0_0 t143 t144 from zS HI0.out NB0_101.out) (rdq HO141.out) (by decide)) hk (fun _ h => h.2)) (fun _ h => h.1)); replace HK := ak (KeepBut.trans (kq1 GW101.out) hk (.inl rfl)); replace HB := ak (hb); replace HI0 := ak (hi); (try clear hb hk hi)) | ((with_reducible refine za (f := 95) rfl ?_); refine cl 50 rfl Tryz.func95 #[.int .i64 t145] (zm.calls kj2 t145 t148 _ A58.out) ?_; rintro e w64 ⟨rfl, hb⟩; refine ⟨_, rfl, ?_⟩; replace HO141 := ak (Kd.R_below (rdq HO141.out) hb); replace BK101 := ak (ze (blq BK101.out) hb); replace HK := ak (KeepBut.trans (kq1 GW101.out) (zF hb g none) (.inl rfl)); replace HB := ak (zb (bq2 (zc HI0.out) GE101.out) hb); replace HI0 := ak (IsS88.below (zS HI0.out NB0_101.out) hb); (try clear hb); have hnb65 := NB101_0.out; have hnc65 := NB0_101.out; obtain ⟨hcz66_0, hcz66_1, hfz66_0, hfz66_1⟩ := blk2 BK101.out))
          refine bodyPost_ret (results_cell_row rfl _ _ gb101 55 #[.string t142, .string t148] (0, 0) _ rfl (blp0 BK101.out) Tryz.underlying55 rfl (by kernel_rfl)) rfl ?_
          exact ⟨rv, zS HI0.out NB0_101.out, bq2 (zc HI0.out) GE101.out, kq1 GW101.out⟩
         ·obtain ⟨y149, hy149⟩ : ∃ y_ : List ByteArray, y_ = (([(⟨#[97, 103, 101]⟩ : ByteArray), (⟨#[120, 45, 98]⟩ : ByteArray), (⟨#[97, 117, 116, 104, 111, 114, 105, 122, 97, 116, 105, 111, 110]⟩ : ByteArray)] : List ByteArray)) := ⟨_, rfl⟩
          replace H : ((zB.f s0_0 t103 t104 y149).bind fun bt152 => ((zB.f s0_0 bt152.2.1 bt152.2.2 (([(⟨#[51]⟩ : ByteArray), (⟨#[48]⟩ : ByteArray), (⟨#[57, 57, 57, 57, 57, 57, 57, 57, 57, 57, 57]⟩ : ByteArray), (⟨#[120]⟩ : ByteArray)] : List ByteArray))).bind fun bt158 => (some (bt152.1, bt158.1, bt158.2.1, bt158.2.2)))) = some (r1, r2, r3, r4) := rhq hy149
          have Ny149 := ak hy149
          clear hy149
          replace H := ob H
          obtain ⟨⟨t152, t153, t154⟩, A67, H⟩ := H
          try dsimp only at H
          obtain ⟨y155, hy155⟩ : ∃ y_ : List ByteArray, y_ = (([(⟨#[51]⟩ : ByteArray), (⟨#[48]⟩ : ByteArray), (⟨#[57, 57, 57, 57, 57, 57, 57, 57, 57, 57, 57]⟩ : ByteArray), (⟨#[120]⟩ : ByteArray)] : List ByteArray)) := ⟨_, rfl⟩
          replace H : ((zB.f s0_0 t153 t154 y155).bind fun bt158 => (some (t152, bt158.1, bt158.2.1, bt158.2.2))) = some (r1, r2, r3, r4) := rhq hy155
          have Ny155 := ak hy155
          clear hy155
          replace H := ob H
          obtain ⟨⟨t158, t159, t160⟩, A68, H⟩ := H
          try dsimp only at H
          obtain ⟨rfl, rfl, rfl, rfl⟩ := oi4 H
          go_wp2_with (first | ((with_reducible refine zl (N := 53) rfl ?_); refine rS 9 53 Ny149.out ?_; intro v150 w69 ho70 hb; have HO151 := ak (Kd.R_lower ho70 (yi (w := w) (g := g) (row := none) (kq1 GW101.out))); replace BK101 := ak (ze (blq BK101.out) hb); replace HK := ak (KeepBut.trans (kq1 GW101.out) (zF hb g none) (.inl rfl)); replace HB := ak (zb (bq2 (zc HI0.out) GE101.out) hb); replace HI0 := ak (IsS88.below (zS HI0.out NB0_101.out) hb); clear hb ho70; obtain ⟨Ao71, co71, eo71⟩ := Kd.R_slice HO151.out; subst eo71) | ((with_reducible refine za (f := 41) rfl ?_); refine cl 54 rfl Tryz.func41 #[.pointer (some ⟨g, 0, none⟩), .slice Ao71 y149.length co71] (zB.calls g s0_0 t103 t104 _ _ y149 t152 t153 t154 w0 _ ?side1 ?side2 ?side3 ?side4 ?side5 A67.out) ?_; (case side1 => exact zS HI0.out NB0_101.out); (case side2 => exact bq2 (zc HI0.out) GE101.out); (case side3 => exact cq (Kd.R_reads' HO151.out).2.2); (case side4 => exact (Kd.R_reads' HO151.out).2.1); (case side5 => exact xD (yp HI0.out HO151.out (by decide))); rintro e w72 ⟨rfl, hi, hb, hk⟩; refine ⟨_, rfl, ?_⟩; replace BK101 := ak (KeepBut.blk hk (blq BK101.out) NB101_0.out (by simp)); replace HO151 := ak (Kd.R_mono (Kd.R_keep (IsS88.apart (show IsS88 w0 _ g s0_0 t103 t104 from zS HI0.out NB0_101.out) (rdq HO151.out) (by decide)) hk (fun _ h => h.2)) (fun _ h => h.1)); replace HK := ak (KeepBut.trans (kq1 GW101.out) hk (.inl rfl)); replace HB := ak (hb); replace HI0 := ak (hi); (try clear hb hk hi)) | ((with_reducible refine zl (N := 56) rfl ?_); refine rS 9 56 Ny155.out ?_; intro v156 w73 ho74 hb; have HO157 := ak (Kd.R_lower (Kd.R_new' ho74 (Kd.R_lt (rdq HO151.out))) (yi (w := w) (g := g) (row := none) (kq1 GW101.out))); replace HO151 := ak (Kd.R_elder' (rdq HO151.out) (Kd.R_base ho74) hb); replace BK101 := ak (ze (blq BK101.out) hb); replace HK := ak (KeepBut.trans (kq1 GW101.out) (zF hb g none) (.inl rfl)); replace HB := ak (zb (bq2 (zc HI0.out) GE101.out) hb); replace HI0 := ak (IsS88.below (zS HI0.out NB0_101.out) hb); clear hb ho74; obtain ⟨Ao75, co75, eo75⟩ := Kd.R_slice HO157.out; subst eo75) | ((with_reducible refine za (f := 41) rfl ?_); refine cl 57 rfl Tryz.func41 #[.pointer (some ⟨g, 0, none⟩), .slice Ao75 y155.length co75] (zB.calls g s0_0 t153 t154 _ _ y155 t158 t159 t160 w0 _ ?side1 ?side2 ?side3 ?side4 ?side5 A68.out) ?_; (case side1 => exact zS HI0.out NB0_101.out); (case side2 => exact bq2 (zc HI0.out) GE101.out); (case side3 => exact cq (Kd.R_reads' HO157.out).2.2); (case side4 => exact (Kd.R_reads' HO157.out).2.1); (case side5 => exact xD (yp HI0.out HO157.out (by decide))); rintro e w76 ⟨rfl, hi, hb, hk⟩; refine ⟨_, rfl, ?_⟩; replace BK101 := ak (KeepBut.blk hk (blq BK101.out) NB101_0.out (by simp)); replace HO151 := ak (Kd.R_mono (Kd.R_keep (IsS88.apart (show IsS88 w0 _ g s0_0 t153 t154 from zS HI0.out NB0_101.out) (rdq HO151.out) (by decide)) hk (fun _ h => h.2)) (fun _ h => h.1)); replace HO157 := ak (Kd.R_mono (Kd.R_keep (IsS88.apart (show IsS88 w0 _ g s0_0 t153 t154 from zS HI0.out NB0_101.out) (rdq HO157.out) (by decide)) hk (fun _ h => h.2)) (fun _ h => h.1)); replace HK := ak (KeepBut.trans (kq1 GW101.out) hk (.inl rfl)); replace HB := ak (hb); replace HI0 := ak (hi); (try clear hb hk hi); have hnb77 := NB101_0.out; have hnc77 := NB0_101.out; obtain ⟨hcz78_0, hcz78_1, hfz78_0, hfz78_1⟩ := blk2 BK101.out))
          refine bodyPost_ret (results_cell_row rfl _ _ gb101 55 #[.string t152, .string t158] (0, 0) _ rfl (blp0 BK101.out) Tryz.underlying55 rfl (by kernel_rfl)) rfl ?_
          exact ⟨rv, zS HI0.out NB0_101.out, bq2 (zc HI0.out) GE101.out, kq1 GW101.out⟩
def zP.l0 : Nat → List Int → Int → Int → List Int → Int → Int → Option (ByteArray × Int × Int)
 | 0, _, _, _, _, _, _ => none
 | k + 1, x5, x6, x7, x1000, x1001, x1002 => if x7 > 0 then ((yT.f x1000 x1001 x1002).bind fun bt110 => (if x6 = 1 then (if x6 = 2 then (if x5.length < 140737488355328 then (zP.l0 k (x5 ++ [(wrap64 (97 + (Int.tmod (Int.tmod bt110.1 2) 4))) % 256]) x6 (wrap64 (x7 - 1)) x1000 bt110.2.1 bt110.2.2) else (none)) else (if x5.length < 140737488355328 then (zP.l0 k (x5 ++ [(Int.tmod bt110.1 2) % 256]) x6 (wrap64 (x7 - 1)) x1000 bt110.2.1 bt110.2.2) else (none))) else (if x6 = 2 then (if x5.length < 140737488355328 then (zP.l0 k (x5 ++ [(wrap64 (97 + (Int.tmod bt110.1 4))) % 256]) x6 (wrap64 (x7 - 1)) x1000 bt110.2.1 bt110.2.2) else (none)) else (if x5.length < 140737488355328 then (zP.l0 k (x5 ++ [(bt110.1) % 256]) x6 (wrap64 (x7 - 1)) x1000 bt110.2.1 bt110.2.2) else (none))))) else (some (strOfNums x5, x1001, x1002))
def zP.f (k : Nat) (s0_0 : List Int) (s0_1 : Int) (s0_2 : Int) (a1 : Int) : Option (ByteArray × Int × Int) := (zp.f s0_0 s0_1 s0_2 4).bind fun bt104 => ((zp.f s0_0 bt104.2.1 bt104.2.2 (wrap64 (a1 + 1))).bind fun bt107 => (zP.l0 k (([] : List Int)) bt104.1 bt107.1 s0_0 bt107.2.1 bt107.2.2))
theorem zP.mono_l : ∀ k, (∀ y0 y1 y2 y3 y4 y5, LeO (zP.l0 k y0 y1 y2 y3 y4 y5) (zP.l0 (k + 1) y0 y1 y2 y3 y4 y5))
 | 0 => fun _ _ _ _ _ _ r h => by simp [zP.l0] at h
 | k + 1 => by
  have ih0 := zP.mono_l k
  ·intro y0 y1 y2 y3 y4 y5
   unfold zP.l0
   exact mq1 ih0
theorem zP.mono : ∀ a0 a1 a2 a3 k, LeO (zP.f k a0 a1 a2 a3) (zP.f (k + 1) a0 a1 a2 a3) := by
 intro a0 a1 a2 a3 k
 have ih0 := zP.mono_l k
 unfold zP.f
 exact mq1 ih0
theorem zP.calls (k : Nat) (g : Nat) (s0_0 : List Int) (s0_1 : Int) (s0_2 : Int) (a1 : Int) (r1 : ByteArray) (r2 : Int) (r3 : Int) (w0 w : World) (hI : IsS88 w0 w g s0_0 s0_1 s0_2) (hB : Below w0.heap.size w0 w) (h : zP.f k s0_0 s0_1 s0_2 a1 = some (r1, r2, r3)) :
  Calls Tryz.prog 67 #[.pointer (some ⟨g, 0, none⟩), .int .i64 a1] w fun e w' => e = .returned (.string r1) ∧ IsS88 w0 w' g s0_0 r2 r3 ∧ Below w0.heap.size w0 w' ∧ KeepBut w w' g none := by
 have HI0 := ak hI
 have HK := ak (KeepBut.refl w g none)
 have HL := ak hB.size
 clear hI
 have HW0 := ak hB.size
 have HB := ak hB
 clear hB
 have H := h
 unfold zP.f at H
 clear h
 obtain ⟨y101, hy101⟩ : ∃ y_ : List Int, y_ = (([] : List Int)) := ⟨_, rfl⟩
 replace H : ((zp.f s0_0 s0_1 s0_2 4).bind fun bt104 => ((zp.f s0_0 bt104.2.1 bt104.2.2 (wrap64 (a1 + 1))).bind fun bt107 => (zP.l0 k y101 bt104.1 bt107.1 s0_0 bt107.2.1 bt107.2.2))) = some (r1, r2, r3) := rhq hy101
 have Ny101 := ak hy101
 clear hy101
 replace H := ob H
 obtain ⟨⟨t104, t105, t106⟩, A3, H⟩ := H
 try dsimp only at H
 replace H := ob H
 obtain ⟨⟨t107, t108, t109⟩, A4, H⟩ := H
 try dsimp only at H
 have H' := ak H
 clear H
 go_enter Tryz.func67, Tryz.ntmps67
 go_wp2_with (first | ((with_reducible refine zl (N := 9) rfl ?_); refine rI .u8 5 9 Ny101.out ?_; intro v102 w5 ho6 hb; have HO103 := ak (Kd.R_lower ho6 (yi (w := w) (g := g) (row := none) kq)); replace HK := ak (KeepBut.trans kq (zF hb g none) (.inl rfl)); replace HB := ak (zb (bq1 (zc HI0.out)) hb); replace HI0 := ak (IsS88.below (zU HI0.out) hb); clear hb ho6) | ((with_reducible refine za (f := 38) rfl ?_); refine cl 11 rfl Tryz.func38 #[.pointer (some ⟨g, 0, none⟩), .int .i64 4] (zp.calls g s0_0 s0_1 s0_2 4 t104 t105 t106 w0 _ ?side1 ?side2 A3.out) ?_; (case side1 => exact zU HI0.out); (case side2 => exact bq1 (zc HI0.out)); rintro e w7 ⟨rfl, hi, hb, hk⟩; refine ⟨_, rfl, ?_⟩; replace HO103 := ak (Kd.R_mono (Kd.R_keep (IsS88.apart (show IsS88 w0 _ g s0_0 s0_1 s0_2 from zU HI0.out) (rdq HO103.out) (by decide)) hk (fun _ h => h.2)) (fun _ h => h.1)); replace HK := ak (KeepBut.trans kq hk (.inl rfl)); replace HB := ak (hb); replace HI0 := ak (hi); (try clear hb hk hi)) | ((with_reducible refine za (f := 38) rfl ?_); refine cl 15 rfl Tryz.func38 #[.pointer (some ⟨g, 0, none⟩), .int .i64 (wrap64 (a1 + 1))] (zp.calls g s0_0 t105 t106 (wrap64 (a1 + 1)) t107 t108 t109 w0 _ ?side1 ?side2 A4.out) ?_; (case side1 => exact zU HI0.out); (case side2 => exact bq1 (zc HI0.out)); rintro e w8 ⟨rfl, hi, hb, hk⟩; refine ⟨_, rfl, ?_⟩; replace HO103 := ak (Kd.R_mono (Kd.R_keep (IsS88.apart (show IsS88 w0 _ g s0_0 t105 t106 from zU HI0.out) (rdq HO103.out) (by decide)) hk (fun _ h => h.2)) (fun _ h => h.1)); replace HK := ak (KeepBut.trans kq hk (.inl rfl)); replace HB := ak (hb); replace HI0 := ak (hi); (try clear hb hk hi)))
 go_loopg [5, 7] k (fun kq v5 v7 w' => ∃ (x5_1 : List Int) (x7_1 : Int) (x1001_1 : Int) (x1002_1 : Int), v7 = .int .i64 x7_1 ∧ Aside0 (zP.l0 kq x5_1 t104 x7_1 s0_0 x1001_1 x1002_1 = some (r1, r2, r3)) ∧ Aside0 (kq ≤ k) ∧ Aside0 (Kd.R (Kd.int .u8) 5 w' w.heap.size (fun _ => True) v5 x5_1) ∧ Aside0 (IsS88 w0 w' g s0_0 x1001_1 x1002_1) ∧ Aside0 (KeepBut w w' g none) ∧ Aside0 (Below w0.heap.size w0 w'))
 case atStart => exact ⟨(y101), (t107), (t108), (t109), rs, H', ⟨Nat.le_refl _⟩, ⟨rdq HO103.out⟩, ⟨zU HI0.out⟩, ⟨kq⟩, ⟨bq1 (zc HI0.out)⟩⟩
 case round =>
  clear H'
  obtain ⟨x5_1, x7_1, x1001_1, x1002_1, rfl, HA, HK1, HO_5, HI0, HK, HB⟩ := hrel
  cases gk with
  | zero => exact absurd HA.out (by simp [zP.l0])
  | succ k1 =>
   have H := HA.out
   clear HA
   simp only [zP.l0] at H
   replace H := sd H
   rcases H with ⟨c9b0, H⟩ | ⟨c9b0, H⟩
   ·replace H := ob H
    obtain ⟨⟨t110, t111, t112⟩, A10, H⟩ := H
    try dsimp only at H
    replace H := se H
    rcases H with ⟨c11b0, c11b1, H⟩ | ⟨c11, c11b0, c11b1, H⟩
    ·replace H := se H
     rcases H with ⟨c12b0, c12b1, H⟩ | ⟨c12, c12b0, c12b1, H⟩
     ·replace H := sT H
      obtain ⟨c13, H⟩ := H
      have LMc13 := ak c13
      clear c13
      obtain ⟨y113, hy113⟩ : ∃ y_ : List Int, y_ = (x5_1 ++ [(wrap64 (97 + (Int.tmod (Int.tmod t110 2) 4))) % 256]) := ⟨_, rfl⟩
      replace H : (zP.l0 k1 y113 t104 (wrap64 (x7_1 - 1)) s0_0 t111 t112) = some (r1, r2, r3) := rhq hy113
      have Ny113 := ak hy113
      clear hy113
      have H' := ak H
      clear H
      go_wp2_with (first | ((with_reducible refine za (f := 70) rfl ?_); refine cl 21 rfl Tryz.func70 #[.pointer (some ⟨g, 0, none⟩)] (yT.calls g s0_0 x1001_1 x1002_1 t110 t111 t112 w0 _ ?side1 ?side2 A10.out) ?_; (case side1 => exact zU HI0.out); (case side2 => exact bq1 (zc HI0.out)); rintro e w14 ⟨rfl, hi, hb, hk⟩; refine ⟨_, rfl, ?_⟩; replace HO_5 := ak (Kd.R_mono (Kd.R_keep (IsS88.apart (show IsS88 w0 _ g s0_0 x1001_1 x1002_1 from zU HI0.out) (rdq HO_5.out) (by decide)) hk (fun _ h => h.2)) (fun _ h => h.1)); replace HK := ak (KeepBut.trans kq hk (.inl rfl)); replace HB := ak (hb); replace HI0 := ak (hi); (try clear hb hk hi)) | ((with_reducible refine xi (b := .append) (xs := #[.tmp 31, .tmp 34]) rfl ?_); at_builtin; refine Kd.R_append (Kd.int .u8) w.heap.size rfl (.tmp 31) (.tmp 34) 22 5 (.int .u8 0) 1 rfl Tryz.underlying22 info5 rfl (by decide) (by omega) u5 x5_1 ((wrap64 (97 + (Int.tmod (Int.tmod t110 2) 4))) % 256) [.int .u8 ((wrap64 (97 + (Int.tmod (Int.tmod t110 2) 4))) % 256)] (fun _ => True) (fun _ => False) rfl rfl ?aP (fun _ hk => hk.elim) ?aF ?aO (Below.refl _ _) ?aS ?aL ?_; (case aP => exact rfl); (case aF => exact (fun _ _ => trivial)); (case aO => exact (rdq HO_5.out)); (case aS => exact (yi (w := w) (g := g) (row := none) kq)); (case aL => have := LMc13.out; omega); intro v114 w15 ho hb hg hat; rw [← Ny113.out] at ho; have HO115 := ak (ho); replace HB := ak (xZ (bq1 (zc HI0.out)) HL.out hb); replace HI0 := ak (IsS88.grown (zU HI0.out) hg (yp HI0.out HO_5.out (by decide))); replace HK := ak (KeepBut.trans kq (xr hg g) (Kd.R_base2 HO_5.out)); clear HO_5; clear ho hb hg hat))
      go_roundg k1
      case measure => have := HK1.out; omega
      case rel => exact ⟨(y113), (wrap64 (x7_1 - 1)), (t111), (t112), rs, H', ⟨by have := HK1.out; omega⟩, ⟨rdq HO115.out⟩, ⟨zU HI0.out⟩, ⟨kq⟩, ⟨bq1 (zc HI0.out)⟩⟩
     ·replace H := sT H
      obtain ⟨c16, H⟩ := H
      have LMc16 := ak c16
      clear c16
      obtain ⟨y116, hy116⟩ : ∃ y_ : List Int, y_ = (x5_1 ++ [(Int.tmod t110 2) % 256]) := ⟨_, rfl⟩
      replace H : (zP.l0 k1 y116 t104 (wrap64 (x7_1 - 1)) s0_0 t111 t112) = some (r1, r2, r3) := rhq hy116
      have Ny116 := ak hy116
      clear hy116
      have H' := ak H
      clear H
      go_wp2_with (first | ((with_reducible refine za (f := 70) rfl ?_); refine cl 21 rfl Tryz.func70 #[.pointer (some ⟨g, 0, none⟩)] (yT.calls g s0_0 x1001_1 x1002_1 t110 t111 t112 w0 _ ?side1 ?side2 A10.out) ?_; (case side1 => exact zU HI0.out); (case side2 => exact bq1 (zc HI0.out)); rintro e w17 ⟨rfl, hi, hb, hk⟩; refine ⟨_, rfl, ?_⟩; replace HO_5 := ak (Kd.R_mono (Kd.R_keep (IsS88.apart (show IsS88 w0 _ g s0_0 x1001_1 x1002_1 from zU HI0.out) (rdq HO_5.out) (by decide)) hk (fun _ h => h.2)) (fun _ h => h.1)); replace HK := ak (KeepBut.trans kq hk (.inl rfl)); replace HB := ak (hb); replace HI0 := ak (hi); (try clear hb hk hi)) | ((with_reducible refine xi (b := .append) (xs := #[.tmp 31, .tmp 34]) rfl ?_); at_builtin; refine Kd.R_append (Kd.int .u8) w.heap.size rfl (.tmp 31) (.tmp 34) 22 5 (.int .u8 0) 1 rfl Tryz.underlying22 info5 rfl (by decide) (by omega) u5 x5_1 ((Int.tmod t110 2) % 256) [.int .u8 ((Int.tmod t110 2) % 256)] (fun _ => True) (fun _ => False) rfl rfl ?aP (fun _ hk => hk.elim) ?aF ?aO (Below.refl _ _) ?aS ?aL ?_; (case aP => exact rfl); (case aF => exact (fun _ _ => trivial)); (case aO => exact (rdq HO_5.out)); (case aS => exact (yi (w := w) (g := g) (row := none) kq)); (case aL => have := LMc16.out; omega); intro v117 w18 ho hb hg hat; rw [← Ny116.out] at ho; have HO118 := ak (ho); replace HB := ak (xZ (bq1 (zc HI0.out)) HL.out hb); replace HI0 := ak (IsS88.grown (zU HI0.out) hg (yp HI0.out HO_5.out (by decide))); replace HK := ak (KeepBut.trans kq (xr hg g) (Kd.R_base2 HO_5.out)); clear HO_5; clear ho hb hg hat))
      go_roundg k1
      case measure => have := HK1.out; omega
      case rel => exact ⟨(y116), (wrap64 (x7_1 - 1)), (t111), (t112), rs, H', ⟨by have := HK1.out; omega⟩, ⟨rdq HO118.out⟩, ⟨zU HI0.out⟩, ⟨kq⟩, ⟨bq1 (zc HI0.out)⟩⟩
    ·replace H := se H
     rcases H with ⟨c19b0, c19b1, H⟩ | ⟨c19, c19b0, c19b1, H⟩
     ·replace H := sT H
      obtain ⟨c20, H⟩ := H
      have LMc20 := ak c20
      clear c20
      obtain ⟨y119, hy119⟩ : ∃ y_ : List Int, y_ = (x5_1 ++ [(wrap64 (97 + (Int.tmod t110 4))) % 256]) := ⟨_, rfl⟩
      replace H : (zP.l0 k1 y119 t104 (wrap64 (x7_1 - 1)) s0_0 t111 t112) = some (r1, r2, r3) := rhq hy119
      have Ny119 := ak hy119
      clear hy119
      have H' := ak H
      clear H
      go_wp2_with (first | ((with_reducible refine za (f := 70) rfl ?_); refine cl 21 rfl Tryz.func70 #[.pointer (some ⟨g, 0, none⟩)] (yT.calls g s0_0 x1001_1 x1002_1 t110 t111 t112 w0 _ ?side1 ?side2 A10.out) ?_; (case side1 => exact zU HI0.out); (case side2 => exact bq1 (zc HI0.out)); rintro e w21 ⟨rfl, hi, hb, hk⟩; refine ⟨_, rfl, ?_⟩; replace HO_5 := ak (Kd.R_mono (Kd.R_keep (IsS88.apart (show IsS88 w0 _ g s0_0 x1001_1 x1002_1 from zU HI0.out) (rdq HO_5.out) (by decide)) hk (fun _ h => h.2)) (fun _ h => h.1)); replace HK := ak (KeepBut.trans kq hk (.inl rfl)); replace HB := ak (hb); replace HI0 := ak (hi); (try clear hb hk hi)) | ((with_reducible refine xi (b := .append) (xs := #[.tmp 31, .tmp 34]) rfl ?_); at_builtin; refine Kd.R_append (Kd.int .u8) w.heap.size rfl (.tmp 31) (.tmp 34) 22 5 (.int .u8 0) 1 rfl Tryz.underlying22 info5 rfl (by decide) (by omega) u5 x5_1 ((wrap64 (97 + (Int.tmod t110 4))) % 256) [.int .u8 ((wrap64 (97 + (Int.tmod t110 4))) % 256)] (fun _ => True) (fun _ => False) rfl rfl ?aP (fun _ hk => hk.elim) ?aF ?aO (Below.refl _ _) ?aS ?aL ?_; (case aP => exact rfl); (case aF => exact (fun _ _ => trivial)); (case aO => exact (rdq HO_5.out)); (case aS => exact (yi (w := w) (g := g) (row := none) kq)); (case aL => have := LMc20.out; omega); intro v120 w22 ho hb hg hat; rw [← Ny119.out] at ho; have HO121 := ak (ho); replace HB := ak (xZ (bq1 (zc HI0.out)) HL.out hb); replace HI0 := ak (IsS88.grown (zU HI0.out) hg (yp HI0.out HO_5.out (by decide))); replace HK := ak (KeepBut.trans kq (xr hg g) (Kd.R_base2 HO_5.out)); clear HO_5; clear ho hb hg hat))
      go_roundg k1
      case measure => have := HK1.out; omega
      case rel => exact ⟨(y119), (wrap64 (x7_1 - 1)), (t111), (t112), rs, H', ⟨by have := HK1.out; omega⟩, ⟨rdq HO121.out⟩, ⟨zU HI0.out⟩, ⟨kq⟩, ⟨bq1 (zc HI0.out)⟩⟩
     ·replace H := sT H
      obtain ⟨c23, H⟩ := H
      have LMc23 := ak c23
      clear c23
      obtain ⟨y122, hy122⟩ : ∃ y_ : List Int, y_ = (x5_1 ++ [(t110) % 256]) := ⟨_, rfl⟩
      replace H : (zP.l0 k1 y122 t104 (wrap64 (x7_1 - 1)) s0_0 t111 t112) = some (r1, r2, r3) := rhq hy122
      have Ny122 := ak hy122
      clear hy122
      have H' := ak H
      clear H
      go_wp2_with (first | ((with_reducible refine za (f := 70) rfl ?_); refine cl 21 rfl Tryz.func70 #[.pointer (some ⟨g, 0, none⟩)] (yT.calls g s0_0 x1001_1 x1002_1 t110 t111 t112 w0 _ ?side1 ?side2 A10.out) ?_; (case side1 => exact zU HI0.out); (case side2 => exact bq1 (zc HI0.out)); rintro e w24 ⟨rfl, hi, hb, hk⟩; refine ⟨_, rfl, ?_⟩; replace HO_5 := ak (Kd.R_mono (Kd.R_keep (IsS88.apart (show IsS88 w0 _ g s0_0 x1001_1 x1002_1 from zU HI0.out) (rdq HO_5.out) (by decide)) hk (fun _ h => h.2)) (fun _ h => h.1)); replace HK := ak (KeepBut.trans kq hk (.inl rfl)); replace HB := ak (hb); replace HI0 := ak (hi); (try clear hb hk hi)) | ((with_reducible refine xi (b := .append) (xs := #[.tmp 31, .tmp 34]) rfl ?_); at_builtin; refine Kd.R_append (Kd.int .u8) w.heap.size rfl (.tmp 31) (.tmp 34) 22 5 (.int .u8 0) 1 rfl Tryz.underlying22 info5 rfl (by decide) (by omega) u5 x5_1 ((t110) % 256) [.int .u8 ((t110) % 256)] (fun _ => True) (fun _ => False) rfl rfl ?aP (fun _ hk => hk.elim) ?aF ?aO (Below.refl _ _) ?aS ?aL ?_; (case aP => exact rfl); (case aF => exact (fun _ _ => trivial)); (case aO => exact (rdq HO_5.out)); (case aS => exact (yi (w := w) (g := g) (row := none) kq)); (case aL => have := LMc23.out; omega); intro v123 w25 ho hb hg hat; rw [← Ny122.out] at ho; have HO124 := ak (ho); replace HB := ak (xZ (bq1 (zc HI0.out)) HL.out hb); replace HI0 := ak (IsS88.grown (zU HI0.out) hg (yp HI0.out HO_5.out (by decide))); replace HK := ak (KeepBut.trans kq (xr hg g) (Kd.R_base2 HO_5.out)); clear HO_5; clear ho hb hg hat))
      go_roundg k1
      case measure => have := HK1.out; omega
      case rel => exact ⟨(y122), (wrap64 (x7_1 - 1)), (t111), (t112), rs, H', ⟨by have := HK1.out; omega⟩, ⟨rdq HO124.out⟩, ⟨zU HI0.out⟩, ⟨kq⟩, ⟨bq1 (zc HI0.out)⟩⟩
   ·obtain ⟨rfl, rfl, rfl⟩ := oi3 H
    have hcv26 := qG (P := Tryz.prog) Tryz.underlying22 Tryz.underlying5 Tryz.underlying9 (Kd.own_of_R HO_5.out)
    go_wp2
    go_ret
    exact ⟨rv, zU HI0.out, bq1 (zc HI0.out), kq⟩
end Go.Proofs.YtbldejnlmpajeaaGreatDoor.QL
