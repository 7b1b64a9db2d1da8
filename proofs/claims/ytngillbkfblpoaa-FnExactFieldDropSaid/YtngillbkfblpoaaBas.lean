/- The words that the session's own contracts of functions use: plain meanings over numbers and lists. No program in sight. -/
import Derived.Test.YtngillbkfblpoaaAux
import Derived.Lib.Bytealg
import Derived.Lib.IndexMore
import Derived.Lib.Join
import Derived.Lib.SlTrimSet
import Derived.Lib.ItoaNum
import Derived.Lib.TrimByte
import Derived.Lib.Atoi
import Derived.Lib.SplitLaws
import Derived.Lib.AtoiAll
import Derived.Lib.AtoiTie
import Derived.Lib.AtoiAllCases
namespace Go.Proofs.Ytngillbkfblpoaa.Dom
set_option linter.unusedVariables false
set_option linter.unusedSimpArgs false
open Go.RowKit Go.Proofs.YtngillbkfblpoaaW.PrintWords Go.Proofs.YtngillbkfblpoaaW.PrintLast Go.Proofs.YtngillbkfblpoaaW.PrintMore Go.Proofs.Ytngillbkfblpoaa.Aux

/-- Where a byte stands first; -1 where it does not. -/
def idxB : List Int → Int → Int
  | [], _ => -1
  | b :: l, c => if b = c then 0 else if idxB l c = -1 then -1 else idxB l c + 1
theorem idxB_lib0 (l : List UInt8) (c : Int) (h0 : 0 ≤ c) (h1 : c < 256) : Lib.indexByte l c.toNat.toUInt8 = idxB (l.map fun b => (b.toNat : Int)) c := by
  induction l with
  | nil => rfl
  | cons b l ih =>
    have e : (b == c.toNat.toUInt8) = decide ((b.toNat : Int) = c) := by
      have hb := b.toNat_lt
      rw [Bool.eq_iff_iff, beq_iff_eq, decide_eq_true_eq, ← UInt8.toNat_inj]
      rw [show c.toNat.toUInt8.toNat = c.toNat from by simp [Nat.toUInt8]; omega]
      omega
    simp only [Lib.indexByte, List.map_cons, idxB, ih, e]
    by_cases hc : (b.toNat : Int) = c
    · simp [hc]
    · simp only [hc, decide_false, if_false, Bool.false_eq_true]
      by_cases h2 : idxB (l.map fun b => (b.toNat : Int)) c = -1
      · simp [h2]
      · simp [h2]
theorem idxB_lib (s : ByteArray) (c : Int) (h0 : 0 ≤ c) (h1 : c < 256) : Lib.indexByte s.data.toList c.toNat.toUInt8 = idxB (bytesOf s) c := idxB_lib0 _ c h0 h1
theorem idxB_ge (l : List Int) (c : Int) : -1 ≤ idxB l c ∧ idxB l c < l.length := by
  induction l with
  | nil => simp [idxB]
  | cons b l ih =>
    rw [idxB, List.length_cons]
    split
    · omega
    · split <;> omega
/-- A letter made small. -/
def lowC (c : Int) : Int := if 65 ≤ c ∧ c ≤ 90 then c + 32 else c
theorem lowC_range {c : Int} (h : 0 ≤ c ∧ c < 256) : 0 ≤ lowC c ∧ lowC c < 256 := by unfold lowC; omega
/-- Byte j of a text of which the first k bytes are made small. -/
def lowAt (s : ByteArray) (k j : Nat) : Int := if j < k then lowC (bt s j) else bt s j
/-- A byte of a token. -/
def tokC (c : Int) : Bool := decide (97 ≤ c ∧ c ≤ 122) || decide (65 ≤ c ∧ c ≤ 90) || decide (48 ≤ c ∧ c ≤ 57) || [33, 35, 36, 37, 38, 39, 42, 43, 45, 46, 94, 95, 96, 124, 126].contains c

/-- What holds of each byte holds of a number that is one. -/
theorem byte_all {P : Int → Prop} (h : ∀ n : Nat, n < 256 → P n) {c : Int} (h0 : 0 ≤ c) (h1 : c < 256) : P c := by
  obtain ⟨n, rfl⟩ := Int.eq_ofNat_of_zero_le h0
  exact h n (by omega)
/-- Where a text stands first in another; -1 where it does not. -/
def idxS : List Int → List Int → Int
  | [], sub => if sub.isEmpty then 0 else -1
  | b :: l, sub => if sub.isPrefixOf (b :: l) then 0 else if idxS l sub = -1 then -1 else idxS l sub + 1
/-- What stands ahead of a text's first place, what stands behind it, and whether it is there. -/
def cutL (l sep : List Int) : List Int × List Int × Bool :=
  if 0 ≤ idxS l sep then (l.take (idxS l sep).toNat, l.drop ((idxS l sep).toNat + sep.length), true) else (l, [], false)
theorem prefix_map : ∀ (p l : List UInt8), (p.map fun b => (b.toNat : Int)).isPrefixOf (l.map fun b => (b.toNat : Int)) = p.isPrefixOf l
  | [], l => by cases l <;> rfl
  | a :: p, [] => rfl
  | a :: p, b :: l => by
    simp only [List.map_cons, List.isPrefixOf_cons_cons, prefix_map p l]
    congr 1
    rw [Bool.eq_iff_iff, beq_iff_eq, beq_iff_eq, ← UInt8.toNat_inj]
    omega
theorem idxS_lib (l sub : List UInt8) : Lib.index l sub = idxS (l.map fun b => (b.toNat : Int)) (sub.map fun b => (b.toNat : Int)) := by
  induction l with
  | nil => cases sub <;> rfl
  | cons b l ih =>
    have e := prefix_map sub (b :: l)
    rw [List.map_cons] at e
    simp only [Lib.index, List.map_cons, idxS, ih, e]
    by_cases h : sub.isPrefixOf (b :: l) = true
    · simp [h]
    · by_cases h2 : idxS (l.map fun b => (b.toNat : Int)) (sub.map fun b => (b.toNat : Int)) = -1
      · simp [h, h2]
      · simp [h, h2]
theorem strOfNums_map (l : List UInt8) : strOfNums (l.map fun b => (b.toNat : Int)) = ⟨l.toArray⟩ := by
  unfold strOfNums
  rw [List.map_map]
  congr 2
  conv => rhs; rw [← List.map_id l]
  refine List.map_congr_left fun b _ => ?_
  simp
theorem cutL_lib (a b : ByteArray) : (⟨(Lib.cut a.data.toList b.data.toList).1.toArray⟩ : ByteArray) = strOfNums (cutL (bytesOf a) (bytesOf b)).1 ∧ (⟨(Lib.cut a.data.toList b.data.toList).2.1.toArray⟩ : ByteArray) = strOfNums (cutL (bytesOf a) (bytesOf b)).2.1 ∧ (Lib.cut a.data.toList b.data.toList).2.2 = (cutL (bytesOf a) (bytesOf b)).2.2 := by
  have e : idxS (bytesOf a) (bytesOf b) = Lib.index a.data.toList b.data.toList := (idxS_lib _ _).symm
  have hb : (bytesOf b).length = b.data.toList.length := by unfold bytesOf; rw [List.length_map]
  unfold cutL Lib.cut
  rw [e, hb]
  by_cases h : 0 ≤ Lib.index a.data.toList b.data.toList
  · rw [if_pos h, if_pos h]
    refine ⟨?_, ?_, rfl⟩
    · unfold bytesOf; rw [← List.map_take, strOfNums_map]
    · unfold bytesOf; rw [← List.map_drop, strOfNums_map]
  · rw [if_neg h, if_neg h]
    refine ⟨?_, rfl, rfl⟩
    unfold bytesOf; rw [strOfNums_map]
/-- Texts put together, with another between them. -/
def joinB (sep : ByteArray) : List ByteArray → ByteArray
  | [] => ⟨#[]⟩
  | x :: r => r.foldl (fun s v => s ++ sep ++ v) x
theorem joinB_snoc (sep : ByteArray) (l : List ByteArray) (v : ByteArray) (h : l ≠ []) : joinB sep (l ++ [v]) = joinB sep l ++ sep ++ v := by
  cases l with
  | nil => exact absurd rfl h
  | cons x r => simp only [joinB, List.cons_append, List.foldl_append, List.foldl_cons, List.foldl_nil]
theorem joinB_fold (sep : ByteArray) : ∀ (r : List ByteArray) (x : ByteArray), (r.foldl (fun s v => s ++ sep ++ v) x).data.toList = x.data.toList ++ Lib.joinTail sep.data.toList (r.map (·.data.toList))
  | [], x => by simp [Lib.joinTail]
  | v :: r, x => by
    rw [List.foldl_cons, joinB_fold sep r]
    simp [Lib.joinTail, ByteArray.data_append]
theorem joinB_lib (sep : ByteArray) (l : List ByteArray) : (⟨(Lib.join (l.map (·.data.toList)) sep.data.toList).toArray⟩ : ByteArray) = joinB sep l := by
  cases l with
  | nil => rfl
  | cons x r =>
    rw [List.map_cons, Lib.join_cons, joinB, ← joinB_fold]
theorem joinB_size (sep : ByteArray) (l : List ByteArray) : (joinB sep l).size ≤ (l.map fun v => v.size + sep.size).sum := by
  cases l with
  | nil => exact Nat.zero_le _
  | cons x r =>
    have key : ∀ (r : List ByteArray) (x : ByteArray), (r.foldl (fun s v => s ++ sep ++ v) x).size = x.size + (r.map fun v => v.size + sep.size).sum := by
      intro r
      induction r with
      | nil => simp
      | cons v r ih =>
        intro x
        rw [List.foldl_cons, ih, ByteArray.size_append, ByteArray.size_append, List.map_cons, List.sum_cons]
        omega
    rw [joinB, key, List.map_cons, List.sum_cons]
    omega
/-- Where a row of texts lies. -/
theorem row_form {w : World} {A : Option Addr} {x : ByteArray} {r : List ByteArray} (hC : Kd.string.C w A (x :: r).length (x :: r)) : ∃ g o, A = some ⟨g, o, none⟩ ∧ g < w.heap.size ∧ ∀ (j : Nat) v, (x :: r)[j]? = some v → w.cell? ⟨g, o + j, none⟩ = some (.string v) := by
  obtain ⟨ad, rfl, h0⟩ := Kd.at_string hC 0 (by omega) (by simp)
  obtain ⟨g, o, sp⟩ := ad
  have hsp : sp = none := by
    cases sp with
    | none => rfl
    | some s => simp [Addr.add, World.cell?] at h0; split at h0 <;> simp at h0
  subst hsp
  refine ⟨g, o, rfl, World.block_lt_of_cell? w _ h0, ?_⟩
  intro j v hv
  have hj : j < (x :: r).length := (List.getElem?_eq_some_iff.1 hv).1
  obtain ⟨ad', he, hc'⟩ := Kd.at_string hC (j : Int) (by omega) (by omega)
  injection he with he
  subst he
  rw [Int.toNat_natCast] at hc'
  have e1 : rdOf ByteArray.empty (x :: r) (j : Int) = v := by
    unfold rdOf
    rw [Int.toNat_natCast, List.getD_eq_getElem?_getD, hv]; rfl
  rw [e1] at hc'
  rw [← hc']
  unfold Addr.add
  split
  · rename_i h1; subst h1; rfl
  · rfl
/-- A blank or a tab. -/
def blkC (c : Int) : Bool := decide (c = 32) || decide (c = 9)
/-- A text without the blanks at its ends. -/
def trimC (l : List Int) : List Int := (l.reverse.dropWhile blkC).reverse.dropWhile blkC
def trimB (s : ByteArray) : ByteArray := strOfNums (trimC (bytesOf s))
theorem dropWhile_ends {α : Type} (p : α → Bool) : ∀ l : List α, (l.reverse.dropWhile p).reverse.dropWhile p = ((l.dropWhile p).reverse.dropWhile p).reverse
  | [] => rfl
  | a :: r => by
    have ih := dropWhile_ends p r
    rw [List.reverse_cons, List.dropWhile_append]
    by_cases ha : p a = true
    · have e : ∀ l, (a :: l).dropWhile p = l.dropWhile p := fun l => List.dropWhile_cons_of_pos ha
      rw [e r]
      by_cases he : (r.reverse.dropWhile p).isEmpty = true
      · rw [if_pos he, e [], ← ih, List.isEmpty_iff.1 he]
        rfl
      · rw [if_neg he, List.reverse_append, List.reverse_singleton, List.singleton_append, e, ih]
    · have e : ∀ l, (a :: l).dropWhile p = a :: l := fun l => List.dropWhile_cons_of_neg ha
      rw [e r, List.reverse_cons, List.dropWhile_append]
      by_cases he : (r.reverse.dropWhile p).isEmpty = true
      · rw [if_pos he, e [], List.reverse_singleton, e []]
      · rw [if_neg he, List.reverse_append, List.reverse_singleton, List.singleton_append, e]
theorem trim_lib (s : ByteArray) : (⟨(Lib.trimS s.data.toList (⟨#[32, 9]⟩ : ByteArray).data.toList).toArray⟩ : ByteArray) = trimB s := by
  have hc : (fun b : UInt8 => ([32, 9] : List UInt8).contains b) = blkC ∘ fun b : UInt8 => (b.toNat : Int) := by
    funext b
    simp only [Function.comp, blkC]
    rw [Bool.eq_iff_iff]
    simp only [List.contains_cons, List.contains_nil, Bool.or_false, Bool.or_eq_true, beq_iff_eq, decide_eq_true_eq]
    constructor
    · rintro (rfl | rfl) <;> decide
    · rintro (h | h)
      · exact Or.inl (UInt8.toNat_inj.1 (by simpa using (by exact_mod_cast h : b.toNat = 32)))
      · exact Or.inr (UInt8.toNat_inj.1 (by simpa using (by exact_mod_cast h : b.toNat = 9)))
  unfold trimB trimC Lib.trimS Lib.trimLeftS Lib.trimRightS bytesOf
  rw [show (⟨#[32, 9]⟩ : ByteArray).data.toList = [32, 9] from rfl, hc, ← List.map_reverse, List.dropWhile_map, ← List.map_reverse, List.dropWhile_map, strOfNums_map]

/-- The decimal digits of a number, ahead of what stands there. -/
def decL : Nat → Int → List Int → List Int
  | 0, _, acc => acc
  | f + 1, n, acc => if n > 0 then decL f (n / 10) ((48 + n % 10) :: acc) else acc
/-- A number's decimal numeral. -/
def decP (n : Int) : List Int := if n = 0 then [48] else if n < 0 then 45 :: decL 20 (-n) [] else decL 20 n []
def decB (n : Int) : ByteArray := strOfNums (decP n)
theorem decDigits_L : ∀ (f u : Nat) (acc : List Int), 0 < u → u < 10 ^ f → ((Lib.decDigits u).map fun b : UInt8 => (b.toNat : Int)) ++ acc = decL f (u : Int) acc
  | 0, u, acc, h0, h => by simp at h; omega
  | f + 1, u, acc, h0, h => by
    rw [decL, if_pos (by omega)]
    by_cases hu : u < 10
    · have e : (u : Int) / 10 = 0 := by omega
      have e2 : (u : Int) % 10 = u := by omega
      rw [Lib.decDigits, dif_pos hu, e, e2]
      have e3 : decL f 0 ((48 + (u : Int)) :: acc) = (48 + (u : Int)) :: acc := by cases f <;> simp [decL]
      rw [e3, List.map_singleton, List.singleton_append, UInt8.toNat_ofNat']
      congr 1
      omega
    · have ih := decDigits_L f (u / 10) ((48 + (u : Int) % 10) :: acc) (by omega) (by rw [Nat.pow_succ] at h; omega)
      rw [Lib.decDigits, dif_neg hu, List.map_append, List.map_singleton, List.append_assoc, List.singleton_append, UInt8.toNat_ofNat']
      have e : ((48 + u % 10) % 2 ^ 8 : Nat) = 48 + u % 10 := by omega
      rw [e]
      have e4 : (((48 + u % 10 : Nat)) : Int) = 48 + (u : Int) % 10 := by omega
      rw [e4, ih]
      congr 1
theorem itoa_lib (n : Int) (h0 : -9223372036854775808 ≤ n) (h1 : n ≤ 9223372036854775807) : (⟨(Lib.itoa n).toArray⟩ : ByteArray) = decB n := by
  rw [← strOfNums_map]
  unfold decB
  congr 1
  unfold Lib.itoa decP
  have hp : (10 : Nat) ^ 20 = 100000000000000000000 := by decide
  by_cases hz : n = 0
  · subst hz
    rw [if_neg (by decide), if_pos rfl]
    rw [Lib.decDigits, dif_pos (by decide)]
    rfl
  · rw [if_neg hz]
    by_cases hn : n < 0
    · rw [if_pos hn, if_pos hn, List.map_cons]
      have h := decDigits_L 20 n.natAbs [] (by omega) (by rw [hp]; omega)
      rw [List.append_nil] at h
      rw [h, show ((n.natAbs : Nat) : Int) = -n by omega]
      rfl
    · rw [if_neg hn, if_neg hn]
      have h := decDigits_L 20 n.toNat [] (by omega) (by rw [hp]; omega)
      rw [List.append_nil] at h
      rw [h, show ((n.toNat : Nat) : Int) = n by omega]
/-- A text without its first bytes that are c. -/
def cutC (c : Int) (l : List Int) : List Int := l.dropWhile fun b => decide (b = c)
theorem trimLeft_lib (s : ByteArray) (c : UInt8) : (⟨(Lib.trimLeftB s.data.toList c).toArray⟩ : ByteArray) = strOfNums (cutC (c.toNat : Int) (bytesOf s)) := by
  have hc : (fun b : UInt8 => b == c) = (fun b : Int => decide (b = (c.toNat : Int))) ∘ fun b : UInt8 => (b.toNat : Int) := by
    funext b
    simp only [Function.comp]
    rw [Bool.eq_iff_iff, beq_iff_eq, decide_eq_true_eq, ← UInt8.toNat_inj]
    omega
  unfold cutC Lib.trimLeftB bytesOf
  rw [hc, List.dropWhile_map, strOfNums_map]
/-- A text parted at each c. -/
def splC (c : Int) : List Int → List (List Int)
  | [] => [[]]
  | b :: l => if b = c then [] :: splC c l else match splC c l with
    | [] => [[b]]
    | h :: t => (b :: h) :: t
theorem splC_ne (c : Int) : ∀ l, splC c l ≠ []
  | [] => by simp [splC]
  | b :: l => by
    rw [splC]
    split
    · simp
    · split <;> simp
theorem splC_miss {c : Int} : ∀ {l : List Int}, c ∉ l → splC c l = [l]
  | [], _ => rfl
  | b :: l, h => by
    simp only [List.mem_cons, not_or] at h
    rw [splC, if_neg (fun e => h.1 e.symm), splC_miss h.2]
theorem splC_hit {c : Int} : ∀ {a : List Int} (r : List Int), c ∉ a → splC c (a ++ c :: r) = a :: splC c r
  | [], r, _ => by rw [List.nil_append, splC, if_pos rfl]
  | b :: a, r, h => by
    simp only [List.mem_cons, not_or] at h
    rw [List.cons_append, splC, if_neg (fun e => h.1 e.symm), splC_hit r h.2]
theorem splC_length : ∀ (l : List Int) (c : Int), (splC c l).length ≤ l.length + 1
  | [], c => by simp [splC]
  | b :: l, c => by
    have ih := splC_length l c
    rw [splC]
    split
    · simp; omega
    · split
      · simp
      · rename_i h t e
        rw [e] at ih
        simp at ih ⊢; omega
theorem splC_mem : ∀ (l : List Int) (c : Int), ∀ p ∈ splC c l, p.length ≤ l.length
  | [], c, p, hp => by simp [splC] at hp; subst hp; simp
  | b :: l, c, p, hp => by
    rw [splC] at hp
    split at hp
    · rcases List.mem_cons.1 hp with rfl | hp
      · simp
      · have := splC_mem l c p hp
        simp; omega
    · split at hp
      · simp at hp; subst hp; simp
      · rename_i h t e
        have ih := splC_mem l c
        rw [e] at ih
        rcases List.mem_cons.1 hp with rfl | hp
        · have := ih h List.mem_cons_self
          simp; omega
        · have := ih p (List.mem_cons_of_mem _ hp)
          simp; omega
theorem index_hit {c : UInt8} : ∀ {a : List UInt8} (r : List UInt8), c ∉ a → Lib.index (a ++ c :: r) [c] = (a.length : Int)
  | [], r, _ => by simp [Lib.index, List.isPrefixOf]
  | b :: a, r, h => by
    simp only [List.mem_cons, not_or] at h
    have ih := index_hit r h.2
    have hb : (c == b) = false := beq_eq_false_iff_ne.mpr h.1
    rw [List.cons_append, Lib.index, if_neg (by simp [List.isPrefixOf, hb]), ih, if_neg (by simp)]
    simp
theorem splC_libK {c : UInt8} : ∀ (k : Nat) (l : List UInt8), l.count c = k → (Lib.splitK [c] 0 k l).map (fun p => p.map fun b : UInt8 => (b.toNat : Int)) = splC (c.toNat : Int) (l.map fun b : UInt8 => (b.toNat : Int))
  | 0, l, h => by
    have hm : (c.toNat : Int) ∉ l.map fun b : UInt8 => (b.toNat : Int) := by
      intro hh
      obtain ⟨b, hb, e⟩ := List.mem_map.1 hh
      have e2 : b = c := UInt8.toNat_inj.1 (by exact_mod_cast e)
      subst e2
      exact absurd hb (List.count_eq_zero.1 h)
    rw [splC_miss hm]
    rfl
  | k + 1, l, h => by
    have hm : c ∈ l := List.count_pos_iff.1 (by omega)
    obtain ⟨a, r, rfl, ha⟩ := List.eq_append_cons_of_mem hm
    have hi := index_hit r ha
    have hc : r.count c = k := by
      rw [List.count_append, List.count_cons_self, List.count_eq_zero.2 ha] at h
      omega
    have ha' : (c.toNat : Int) ∉ a.map fun b : UInt8 => (b.toNat : Int) := by
      intro hh
      obtain ⟨b, hb, e⟩ := List.mem_map.1 hh
      have e2 : b = c := UInt8.toNat_inj.1 (by exact_mod_cast e)
      subst e2
      exact ha hb
    rw [Lib.splitK, hi, if_neg (by simp)]
    simp only [List.map_append, List.map_cons]
    rw [splC_hit _ ha', ← splC_libK k r hc]
    congr 1
    · simp
    · simp
theorem splC_lib (s : ByteArray) : Lib.splitB ⟨#[32]⟩ 0 (Lib.countB s ⟨#[32]⟩) s = (splC 32 (bytesOf s)).map strOfNums := by
  have hc : s.data.toList.count 32 = Lib.countB s ⟨#[32]⟩ := (Lib.count_one 32 s.data.toList).symm
  have h := splC_libK (c := 32) _ s.data.toList hc
  have hb := Lib.splitB_data ⟨#[32]⟩ 0 (Lib.countB s ⟨#[32]⟩) s
  have e : bytesOf s = s.data.toList.map fun b : UInt8 => (b.toNat : Int) := rfl
  rw [e, show (32 : Int) = ((32 : UInt8).toNat : Int) from rfl, ← h]
  rw [show ([32] : List UInt8) = (⟨#[32]⟩ : ByteArray).data.toList from rfl, ← hb, List.map_map, List.map_map]
  conv => lhs; rw [← List.map_id (Lib.splitB _ _ _ _)]
  refine List.map_congr_left fun b _ => ?_
  simp only [Function.comp, strOfNums_map]
  rfl
/-- A hex digit. -/
def hxn (c : Int) : Int := if c < 10 then 48 + c else 87 + c
/-- The hex digits of a number, ahead of what stands there. -/
def hexA : Nat → Int → List Int → List Int
  | 0, _, acc => acc
  | f + 1, u, acc => if 16 ≤ u then hexA f (u / 16) (hxn (u % 16) :: acc) else hxn u :: acc
theorem hexA_length : ∀ (f : Nat) (u : Int) (acc : List Int), (hexA f u acc).length ≤ f + acc.length
  | 0, u, acc => by simp [hexA]
  | f + 1, u, acc => by
    rw [hexA]
    split
    · have := hexA_length f (u / 16) (hxn (u % 16) :: acc)
      simp at this; omega
    · simp; omega
def hexNB (n : Int) : ByteArray := strOfNums (hexA 16 n [])

end Go.Proofs.Ytngillbkfblpoaa.Dom
