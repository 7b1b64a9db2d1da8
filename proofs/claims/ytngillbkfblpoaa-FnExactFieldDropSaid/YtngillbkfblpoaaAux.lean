/- Plain lemmas that the pure statements of this seat share: wrap-around, bytes of strings as lists of numbers, slices of lists, rounds. No program in sight. -/
import Derived.Test.YtngillbkfblpoaaWMore
import Derived.Laws.BitsLemmas
import Derived.Lib.Bytes
namespace Go.Proofs.Ytngillbkfblpoaa.Aux
set_option linter.unusedVariables false
set_option linter.unusedSimpArgs false
open Go.RowKit Go.Proofs.YtngillbkfblpoaaW.PrintWords Go.Proofs.YtngillbkfblpoaaW.PrintLast Go.Proofs.YtngillbkfblpoaaW.PrintMore

theorem wf_i64 {a : Int} (h : (Lit.int .i64 a).wf = true) : -9223372036854775808 ≤ a ∧ a ≤ 9223372036854775807 := by
  simp [Lit.wf, IntKind.min, IntKind.max, IntKind.signed, IntKind.bits] at h
  omega
theorem wrap_id {x : Int} (h : -9223372036854775808 ≤ x) (h' : x ≤ 9223372036854775807) : wrap64 x = x := by unfold wrap64; omega
theorem pow_le (b : Nat) (hb : 0 < b) {m n : Nat} (h : m ≤ n) : (b : Int) ^ m ≤ (b : Int) ^ n := by exact_mod_cast Nat.pow_le_pow_right hb h
theorem i64_pos (n : Int) (h₀ : 0 ≤ n) (h₁ : n < 2 ^ 63) : IntKind.i64.wrap n = n := by rw [IntKind.wrap_i64]; omega
theorem and15_u8 {x : Int} (h0 : 0 ≤ x) (h1 : x < 256) : Go.bits .and .u8 x 15 = x % 16 := bits_mask .u8 8 (by decide) wraps_u8 4 (by decide) x h0 h1
theorem and127 {x : Int} (h0 : 0 ≤ x) (h1 : x < 2 ^ 63) : Go.bits .and .i64 x 127 = x % 128 := bits_mask .i64 63 (by decide) i64_pos 7 (by decide) x h0 h1
theorem or128 {x : Int} (h0 : 0 ≤ x) (h1 : x < 128) : Go.bits .or .i64 x 128 = 128 + x := by
  have h := bits_join .i64 63 (by decide) i64_pos 7 128 x (by omega) (by decide) (by decide) h0 (by omega) (by omega)
  have c : Go.bits .or .i64 x 128 = Go.bits .or .i64 128 x := by
    obtain ⟨n, rfl⟩ := Int.eq_ofNat_of_zero_le h0
    have e := (bits_nat .i64 63 (by decide) i64_pos n 128 (by omega) (by decide)).2
    have e' := (bits_nat .i64 63 (by decide) i64_pos 128 n (by decide) (by omega)).2
    rw [Nat.or_comm] at e
    exact e.trans e'.symm
  rw [c, h]

theorem or256 {x y : Int} (h0 : 0 ≤ x) (h1 : x < 2 ^ 55) (h2 : 0 ≤ y) (h3 : y < 256) : Go.bits .or .i64 (x * 256) y = x * 256 + y :=
  bits_join .i64 63 (by decide) i64_pos 8 (x * 256) y (by omega) (by omega) (by omega) h2 (by omega) (by omega)
theorem or_add {x y : Int} (i : Nat) (hx : x < 2 ^ i) (h0 : 0 ≤ x) (y0 : 0 ≤ y) (h1 : y * 2 ^ i < 2 ^ 63) (hx' : x < 2 ^ 63) : Go.bits .or .i64 x (y * 2 ^ i) = x + y * 2 ^ i := by
  have hp : (0 : Int) < 2 ^ i := Int.pow_pos (by decide)
  have h2 : 0 ≤ y * 2 ^ i := Int.mul_nonneg y0 (by omega)
  have h := bits_join .i64 63 (by decide) i64_pos i (y * 2 ^ i) x h2 (Int.mul_emod_left _ _) h1 h0 hx hx'
  obtain ⟨n, rfl⟩ := Int.eq_ofNat_of_zero_le h0
  obtain ⟨m, hm⟩ := Int.eq_ofNat_of_zero_le h2
  rw [hm] at h h1 ⊢
  have e := (bits_nat .i64 63 (by decide) i64_pos n m (by omega) (by omega)).2
  have e' := (bits_nat .i64 63 (by decide) i64_pos m n (by omega) (by omega)).2
  rw [Nat.or_comm] at e
  rw [e.trans e'.symm, h, Int.add_comm]

/-! ### Strings as lists of numbers -/
theorem bytesOf_inj {a b : ByteArray} (h : bytesOf a = bytesOf b) : a = b := by
  have h1 : a.data.toList = b.data.toList := by
    unfold bytesOf at h
    refine List.map_inj_right (f := fun b : UInt8 => (b.toNat : Int)) (fun x y hxy => ?_) |>.1 h
    exact UInt8.toNat_inj.1 (by exact_mod_cast hxy)
  cases a; cases b
  simp only at h1
  simpa using h1
theorem toList_eq_iff {a b : ByteArray} : a.toList = b.toList ↔ a = b := by
  constructor
  · intro h
    rw [Lib.toList_data, Lib.toList_data] at h
    cases a; cases b
    simpa using h
  · rintro rfl; rfl
theorem bytesOf_range {s : ByteArray} {c : Int} (h : c ∈ bytesOf s) : 0 ≤ c ∧ c < 256 := by
  unfold bytesOf at h
  obtain ⟨b, _, rfl⟩ := List.mem_map.1 h
  have := b.toNat_lt
  omega
theorem bytesOf_strOfNums {xs : List Int} (h : ∀ c ∈ xs, 0 ≤ c ∧ c < 256) : bytesOf (strOfNums xs) = xs := by
  unfold bytesOf
  rw [strOfNums_data, List.map_map]
  conv => rhs; rw [← List.map_id xs]
  refine List.map_congr_left fun c hc => ?_
  have := h c hc
  simp
  omega
theorem strOfNums_bytesOf (s : ByteArray) : strOfNums (bytesOf s) = s := bytesOf_inj (bytesOf_strOfNums fun _ h => bytesOf_range h)
theorem bytesOf_append (a b : ByteArray) : bytesOf (a ++ b) = bytesOf a ++ bytesOf b := by
  unfold bytesOf
  rw [ByteArray.data_append, Array.toList_append, List.map_append]
theorem bytesOf_extract (s : ByteArray) (i j : Nat) : bytesOf (s.extract i j) = ((bytesOf s).take j).drop i := by
  unfold bytesOf
  rw [ByteArray.data_extract, Array.toList_extract, List.extract_eq_take_drop]
  simp [List.map_take, List.map_drop, List.drop_take]
theorem strOfNums_append (a b : List Int) : strOfNums (a ++ b) = strOfNums a ++ strOfNums b := by
  apply ByteArray.ext
  rw [ByteArray.data_append]
  simp [strOfNums]
theorem bt_eq (s : ByteArray) (i : Int) : bt s i = rd (bytesOf s) i := (rd_bytesOf s i).symm
theorem bt_get (s : ByteArray) (i : Nat) (h : i < (bytesOf s).length) : bt s (i : Int) = (bytesOf s)[i] := by
  rw [bt_eq]
  simp [rd, List.getD_eq_getElem?_getD, List.getElem?_eq_getElem h]
theorem drop_bt {s : ByteArray} {i : Int} (h0 : 0 ≤ i) (h1 : i < (s.size : Int)) : (bytesOf s).drop i.toNat = bt s i :: (bytesOf s).drop (i + 1).toNat := by
  have hl := bytesOf_length s
  obtain ⟨n, rfl⟩ := Int.eq_ofNat_of_zero_le h0
  have hn : n < (bytesOf s).length := by omega
  have e : ((n : Int) + 1).toNat = n + 1 := by omega
  rw [e, bt_get s n hn]
  exact List.drop_eq_getElem_cons hn
theorem drop_end {s : ByteArray} {i : Int} (h : (s.size : Int) ≤ i) : (bytesOf s).drop i.toNat = [] := by
  have hl := bytesOf_length s
  exact List.drop_eq_nil_of_le (by omega)
theorem bt_bound (s : ByteArray) (i : Int) : 0 ≤ bt s i ∧ bt s i < 256 := by
  have := bt_range s i
  omega
theorem bytes_frozen (w : World) (e : TypeId) (s : ByteArray) (j : Nat) (hj : j < s.size) : (Lib.bytesWorld w e s).frozen? ⟨w.heap.size, j, none⟩ = false := by
  simp [World.frozen?, Lib.bytesWorld_at_new, Lib.bytesCells]
  omega
theorem row_step {W : World} {g k n : Nat} {f f' : Nat → Int} {c : Int} (hc : ∀ j, j < n → W.cell? ⟨g, j, none⟩ = some (.int .u8 (f j)) ∧ W.frozen? ⟨g, j, none⟩ = false) (hk : k < n) (hfk : f' k = c) (hne : ∀ j, j ≠ k → f' j = f j) :
    ∀ j, j < n → (W.setCell ⟨g, k, none⟩ (.int .u8 c)).cell? ⟨g, j, none⟩ = some (.int .u8 (f' j)) ∧ (W.setCell ⟨g, k, none⟩ (.int .u8 c)).frozen? ⟨g, j, none⟩ = false := by
  intro j hj
  refine ⟨?_, (World.frozen?_setCell _ _ _ _).trans (hc j hj).2⟩
  by_cases e : j = k
  · subst e
    rw [hfk]
    apply World.cell?_setCell_same
    exact (hc j hj).1
  · rw [hne j e, ← (hc j hj).1]
    apply World.cell?_setCell_other
    intro h; injection h with _ h2 _; exact e h2.symm
/-! ### Lists of anything, at whole-number places -/
theorem rd_append_left (xs ys : List Int) (i : Int) (h0 : 0 ≤ i) (h : i < xs.length) : rd (xs ++ ys) i = rd xs i := by
  unfold rd
  rw [List.getD_eq_getElem?_getD, List.getD_eq_getElem?_getD, List.getElem?_append_left (by omega)]
theorem drop_rd {xs : List Int} {i : Int} (h0 : 0 ≤ i) (h1 : i < (xs.length : Int)) : xs.drop i.toNat = rd xs i :: xs.drop (i + 1).toNat := by
  obtain ⟨n, rfl⟩ := Int.eq_ofNat_of_zero_le h0
  have hn : n < xs.length := by omega
  have e : ((n : Int) + 1).toNat = n + 1 := by omega
  rw [e]
  simp only [rd, Int.toNat_natCast, List.getD_eq_getElem?_getD, List.getElem?_eq_getElem hn, Option.getD_some]
  exact List.drop_eq_getElem_cons hn
theorem drop_rdOf {α : Type} {d : α} {xs : List α} {i : Int} (h0 : 0 ≤ i) (h1 : i < (xs.length : Int)) : xs.drop i.toNat = rdOf d xs i :: xs.drop (i + 1).toNat := by
  obtain ⟨n, rfl⟩ := Int.eq_ofNat_of_zero_le h0
  have hn : n < xs.length := by omega
  have e : ((n : Int) + 1).toNat = n + 1 := by omega
  rw [e]
  simp only [rdOf, Int.toNat_natCast, List.getD_eq_getElem?_getD, List.getElem?_eq_getElem hn, Option.getD_some]
  exact List.drop_eq_getElem_cons hn
theorem drop_nil {α : Type} {xs : List α} {i : Int} (h : (xs.length : Int) ≤ i) : xs.drop i.toNat = [] := List.drop_eq_nil_of_le (by omega)
/-! ### Rounds -/
theorem ev_some {α : Type} {g : Nat → Option α} {r : α} (h : ∀ k, g k = some r) : Ev g r := ⟨0, fun k _ => h k⟩
theorem ev_last {α : Type} {g : Nat → Option α} {r : α} (h : ∀ k, g (k + 1) = some r) : Ev g r := Ev.step h (Ev.now r)
theorem ev_bind {α β : Type} {g : Nat → Option α} {f : α → Nat → Option β} {a : α} {r : β} (h : Ev g a) (k : Ev (f a) r) : Ev (fun n => (g n).bind (fun x => f x n)) r := Ev.bind (f := fun n x => f x n) h k
theorem ev_if_pos {α : Type} {c : Prop} [Decidable c] {g f : Nat → Option α} {r : α} (h : c) (k : Ev g r) : Ev (fun n => if c then g n else f n) r := by
  simpa only [if_pos h] using k
theorem ev_if_neg {α : Type} {c : Prop} [Decidable c] {g f : Nat → Option α} {r : α} (h : ¬c) (k : Ev f r) : Ev (fun n => if c then g n else f n) r := by
  simpa only [if_neg h] using k
theorem ev_ite {α : Type} {c : Prop} [Decidable c] {g f : Nat → Option α} {r s : α} (h : c → Ev g r) (k : ¬c → Ev f s) : Ev (fun n => if c then g n else f n) (if c then r else s) := by
  by_cases hc : c
  · simpa only [if_pos hc] using h hc
  · simpa only [if_neg hc] using k hc
theorem ev_eq {α : Type} {g : Nat → Option α} {r s : α} (h : Ev g r) (e : r = s) : Ev g s := e ▸ h

end Go.Proofs.Ytngillbkfblpoaa.Aux
