/- A contract of our own for the function strconv_FormatInt of the program or the library. -/
import Derived.Test.YtjldfmkpdkhnnaaDoorProg
import Derived.Below
import Derived.Deep.Draws
import Derived.Deep.AppendLies
import Derived.Maps.AppendAt
import Derived.OwnWalk
import Derived.Laws.BytesArg
import Derived.Laws.MakeOwn
import Derived.Laws.OwnMore
import Derived.Deep.OwnRows
import Derived.Tactics
import Derived.Lib.ConvBytes
import Derived.Laws.Slices
import Derived.WalkKit
import Derived.KernelRfl
import Derived.RowKit3
import Derived.Deep.LoopGhost
import Derived.Deep.QuietTactic
import Derived.BigQuiet
import Derived.WideLaws
import Derived.Deep.DeepCutAuto
import Derived.Deep.CutBlock
import Derived.Deep.RegionHeld3
import Derived.Laws.Rows
import Derived.Lib.AppendStr
import Derived.ArgAppend
import Derived.Laws.IdiomCopy
import Derived.OrdersHeld
import Derived.Laws.BitsLemmas
import Derived.RowKit
import Derived.Test.YtjldfmkpdkhnnaaDoorBas
import Derived.Test.YtjldfmkpdkhnnaaDoorSq
import Derived.Test.YtjldfmkpdkhnnaaDoorExt
import Derived.Test.YtjldfmkpdkhnnaaDoorWWords
import Derived.Test.YtjldfmkpdkhnnaaDoorWLast
import Derived.Test.YtjldfmkpdkhnnaaDoorWTab
import Derived.Test.YtjldfmkpdkhnnaaDoorWFour
import Derived.Test.YtjldfmkpdkhnnaaDoorWQPut
import Derived.Test.YtjldfmkpdkhnnaaDoorWApart
import Derived.Test.YtjldfmkpdkhnnaaDoorWArr
import Derived.Test.YtjldfmkpdkhnnaaDoorWZeros
import Derived.Test.YtjldfmkpdkhnnaaDoorWFoot
import Derived.Test.YtjldfmkpdkhnnaaDoorWKept
import Derived.Test.YtjldfmkpdkhnnaaDoorWShare
import Derived.Test.YtjldfmkpdkhnnaaDoorWN
import Derived.Test.YtjldfmkpdkhnnaaDoorWFootNe
import Derived.Test.YtjldfmkpdkhnnaaDoorWAt
import Derived.Test.YtjldfmkpdkhnnaaDoorWEqStruct
import Derived.Test.YtjldfmkpdkhnnaaDoorWRepsOne
import Derived.Test.YtjldfmkpdkhnnaaDoorWInv
import Derived.Test.YtjldfmkpdkhnnaaDoorWInvWords
import Derived.Test.YtjldfmkpdkhnnaaDoorWGuard
import Derived.Test.YtjldfmkpdkhnnaaDoorWNEv
import Derived.Test.YtjldfmkpdkhnnaaDoorWMore
import Derived.Test.YtjldfmkpdkhnnaaDoorGlob
import Derived.Lib.Strings
import Derived.Laws.BytesArg
namespace Go.Proofs.YtjldfmkpdkhnnaaDoor.Ext
open Go.RowKit Go.Proofs.YtjldfmkpdkhnnaaDoorW.PrintWords Go.Proofs.YtjldfmkpdkhnnaaDoorW.PrintLast Go.Proofs.YtjldfmkpdkhnnaaDoorW.PrintMore Go.Proofs.YtjldfmkpdkhnnaaDoor.Aux Go.Proofs.YtjldfmkpdkhnnaaDoor.Dom Go.Proofs.YtjldfmkpdkhnnaaDoor.Glob
attribute [local go_sem] max2_int min2_int max_two min_two max_three min_three max_four min_four
set_option linter.unusedVariables false
set_option linter.unusedSimpArgs false
def strconv_FormatInt.f (a0 : Int) (a1 : Int) : Option ByteArray := if 0 ≤ a0 ∧ a0 ≤ 9223372036854775807 ∧ a1 = 16 then some (hexNB a0) else none
set_option maxHeartbeats 4000000 in
theorem strconv_FormatInt.pow2 (w : World) : Calls Tryd.prog 171 #[.int .i64 16] w fun e w' => e = .returned (.bool true) ∧ w' = w := by
  go_enter Tryd.func171, Tryd.ntmps171
  go_wp2
  go_ret
  exact ⟨rfl, rfl⟩
set_option maxHeartbeats 4000000 in
theorem strconv_FormatInt.tz64 (w : World) (hG : GTz w) : Calls Tryd.prog 180 #[.int .u64 16] w fun e w' => e = .returned (.int .i64 4) ∧ w' = w := by
  have hc := hG.at16
  have hx : IntKind.u64.wrap (bits BinOp.and IntKind.u64 16 (IntKind.u64.wrap (-16)) * 285870213051353865) / 288230376151711744 = 15 := by decide +kernel
  go_enter Tryd.func180, Tryd.ntmps180
  go_wp2
  go_ret
  exact ⟨rfl, rfl⟩
set_option maxHeartbeats 4000000 in
theorem strconv_FormatInt.tz (w : World) (hG : GTz w) : Calls Tryd.prog 172 #[.int .u64 16] w fun e w' => e = .returned (.int .i64 4) ∧ w' = w := by
  go_enter Tryd.func172, Tryd.ntmps172
  go_wp2_with (go_at_call 180; refine (strconv_FormatInt.tz64 _ hG).mono ?_; rintro e w' ⟨rfl, rfl⟩)
  go_ret
  exact ⟨rfl, rfl⟩
theorem strconv_FormatInt.dig {c : Int} (h0 : 0 ≤ c) (h1 : c < 16) : bt (⟨#[48, 49, 50, 51, 52, 53, 54, 55, 56, 57, 97, 98, 99, 100, 101, 102, 103, 104, 105, 106, 107, 108, 109, 110, 111, 112, 113, 114, 115, 116, 117, 118, 119, 120, 121, 122]⟩ : ByteArray) c = hxn c := by
  have : c = 0 ∨ c = 1 ∨ c = 2 ∨ c = 3 ∨ c = 4 ∨ c = 5 ∨ c = 6 ∨ c = 7 ∨ c = 8 ∨ c = 9 ∨ c = 10 ∨ c = 11 ∨ c = 12 ∨ c = 13 ∨ c = 14 ∨ c = 15 := by omega
  rcases this with rfl | rfl | rfl | rfl | rfl | rfl | rfl | rfl | rfl | rfl | rfl | rfl | rfl | rfl | rfl | rfl <;> rfl
/-- Byte j of the room, the digits so far at its end. -/
def strconv_FormatInt.rm (i : Nat) (acc : List Int) (j : Nat) : Int := if j < i then 0 else acc.getD (j - i) 0
theorem strconv_FormatInt.u64_pos (n : Int) (h0 : 0 ≤ n) (h1 : n < 2 ^ 63) : IntKind.u64.wrap n = n := by rw [IntKind.wrap_u64]; omega
theorem strconv_FormatInt.mask {u : Int} (h0 : 0 ≤ u) (h1 : u ≤ 9223372036854775807) : bits BinOp.and IntKind.u64 u 15 = u % 16 := bits_mask .u64 63 (by decide) strconv_FormatInt.u64_pos 4 (by decide) u h0 (by omega)
theorem strconv_FormatInt.put {W : World} {g i : Nat} {acc : List Int} {c : Int} (hc : ∀ j, j < 65 → W.cell? ⟨g, j, none⟩ = some (.int .u8 (strconv_FormatInt.rm (i + 1) acc j)) ∧ W.frozen? ⟨g, j, none⟩ = false) (hi : i < 65) :
    ∀ j, j < 65 → (W.setCell ⟨g, i, none⟩ (.int .u8 c)).cell? ⟨g, j, none⟩ = some (.int .u8 (strconv_FormatInt.rm i (c :: acc) j)) ∧ (W.setCell ⟨g, i, none⟩ (.int .u8 c)).frozen? ⟨g, j, none⟩ = false := by
  intro j hj
  refine ⟨?_, (World.frozen?_setCell _ _ _ _).trans (hc j hj).2⟩
  by_cases e : j = i
  · subst e
    rw [show strconv_FormatInt.rm j (c :: acc) j = c by simp [strconv_FormatInt.rm]]
    apply World.cell?_setCell_same
    exact (hc j hj).1
  · have hr : strconv_FormatInt.rm i (c :: acc) j = strconv_FormatInt.rm (i + 1) acc j := by
      unfold strconv_FormatInt.rm
      by_cases h : j < i
      · rw [if_pos h, if_pos (by omega)]
      · rw [if_neg h, if_neg (by omega), show j - i = (j - (i + 1)) + 1 by omega, List.getD_cons_succ]
    rw [hr, ← (hc j hj).1]
    apply World.cell?_setCell_other
    intro h; injection h with _ h2 _; exact e h2.symm
set_option maxHeartbeats 8000000 in
set_option maxRecDepth 100000 in
theorem strconv_FormatInt.fb (a0 : Int) (h0 : 0 ≤ a0) (h1 : a0 ≤ 9223372036854775807) (w : World) (hG : GTz w) : Calls Tryd.prog 152 #[.slice none 0 0, .int .u64 a0, .int .i64 16, .bool false, .bool false] w fun e w' => e = .returned (.tuple #[.slice none 0 0, .string (hexNB a0)]) ∧ Below w.heap.size w w' := by
  have HG := Aside0.mk hG
  clear hG
  go_enter Tryd.func152, Tryd.ntmps152
  go_wp2_with (first | (go_at_call 171; refine (strconv_FormatInt.pow2 _).mono ?_; rintro e w' ⟨rfl, rfl⟩) | (go_at_call 172; refine (strconv_FormatInt.tz _ ?hg).mono ?_; (case hg => exact GTz.of_below HG.out (below_alloc (Below.refl _ _) _)); rintro e w' ⟨rfl, rfl⟩))
  have hcell0 : ∀ j : Nat, j < 65 → (w.alloc (.cells Tryd.zeroCells161 161)).cell? ⟨w.heap.size, j, none⟩ = some (.int .u8 (strconv_FormatInt.rm 65 [] j)) ∧ (w.alloc (.cells Tryd.zeroCells161 161)).frozen? ⟨w.heap.size, j, none⟩ = false := by
    intro j hj
    refine ⟨?_, World.frozen?_alloc_at _ _ _ _ rfl⟩
    rw [World.cell?_alloc_at _ _ _ _ rfl, strconv_FormatInt.rm, if_pos hj]
    rw [show Tryd.zeroCells161 = Array.replicate 65 (.int .u8 0) from by kernel_rfl]
    simp [hj]
  have hbelow : Below w.heap.size w (w.alloc (.cells Tryd.zeroCells161 161)) := below_alloc (Below.refl _ _) _
  have hsz0 : w.heap.size < (w.alloc (.cells Tryd.zeroCells161 161)).heap.size := World.block_lt_of_cell? _ _ (hcell0 0 (by decide)).1
  have hp16 : (16 : Int) ^ 16 = 18446744073709551616 := by decide
  generalize w.alloc (.cells Tryd.zeroCells161 161) = w0 at hcell0 hbelow hsz0 ⊢
  go_loopw [1, 13] (fun v1 v13 wr => ∃ (u : Int) (i : Nat) (acc : List Int), v1 = .int .u64 u ∧ v13 = .int .i64 i ∧ 0 ≤ u ∧ u ≤ 9223372036854775807 ∧ acc.length + i = 65 ∧ 50 ≤ i ∧ u < 16 ^ (i - 49) ∧ hexA (i - 49) u acc = hexA 16 a0 [] ∧ (∀ j : Nat, j < 65 → wr.cell? ⟨w.heap.size, j, none⟩ = some (.int .u8 (strconv_FormatInt.rm i acc j)) ∧ wr.frozen? ⟨w.heap.size, j, none⟩ = false) ∧ Below w.heap.size w wr ∧ w.heap.size < wr.heap.size) (fun _ v13 _ => (intOf v13).toNat)
  case atStart => exact ⟨a0, 65, [], rfl, rfl, h0, h1, rfl, by decide, by rw [show 65 - 49 = 16 from rfl, hp16]; omega, rfl, hcell0, hbelow, hsz0⟩
  case round =>
    obtain ⟨u, i, acc, rfl, rfl, u0, u1, hl, hi50, hu, he, hc, hb, hsz⟩ := hrel
    obtain ⟨i, rfl⟩ : ∃ m, i = m + 1 := ⟨i - 1, by omega⟩
    have hi : i < 65 := by omega
    obtain ⟨hci, hfi⟩ := hc i hi
    have w1 : ((i + 1 : Nat) : Int) - 1 = (i : Int) := by omega
    have w2 : IntKind.i64.wrap (i : Int) = (i : Int) := by rw [IntKind.wrap_i64]; omega
    have p1 : (0 ≤ (i : Int)) = True := eq_true (by omega)
    have p2 : ((i : Int) < 65) = True := eq_true (by omega)
    by_cases h16 : 16 ≤ u
    · have d16 : decide (16 ≤ u) = true := decide_eq_true h16
      have hm := strconv_FormatInt.mask u0 u1
      have hd := strconv_FormatInt.dig (c := u % 16) (by omega) (by omega)
      have hx := bt_at (⟨#[48, 49, 50, 51, 52, 53, 54, 55, 56, 57, 97, 98, 99, 100, 101, 102, 103, 104, 105, 106, 107, 108, 109, 110, 111, 112, 113, 114, 115, 116, 117, 118, 119, 120, 121, 122]⟩ : ByteArray) (u % 16)
      rw [hd] at hx
      have q1 : (0 ≤ u % 16) = True := eq_true (by omega)
      have q2 : (u % 16 < 36) = True := eq_true (by omega)
      have hHc := Aside0.mk hc
      have hHb := Aside0.mk hb
      have hHu := Aside0.mk hu
      have hHe := Aside0.mk he
      clear hc hb hu he hcell0 hbelow hd
      go_wp2
      go_roundw
      case measure => simp [intOf]
      case rel =>
        have he' := hHe.out
        have hu' := hHu.out
        have hi51 : 51 ≤ i + 1 := by
          rcases Nat.lt_or_ge 50 (i + 1) with h | h
          · omega
          · exfalso
            rw [show i + 1 - 49 = 1 by omega] at hu'
            simp at hu'
            omega
        rw [show i + 1 - 49 = (i - 49) + 1 by omega, hexA, if_pos h16] at he'
        rw [show i + 1 - 49 = (i - 49) + 1 by omega, Int.pow_succ] at hu'
        exact ⟨u / 16, i, hxn (u % 16) :: acc, rfl, rfl, by omega, by omega, by simp; omega, by omega, by omega, he', strconv_FormatInt.put hHc.out hi, hHb.out.setCell (Nat.le_refl _) _, by simpa [World.setCell] using hsz⟩
    · have d16 : decide (16 ≤ u) = false := decide_eq_false h16
      have hd := strconv_FormatInt.dig (c := u) u0 (by omega)
      have hx := bt_at (⟨#[48, 49, 50, 51, 52, 53, 54, 55, 56, 57, 97, 98, 99, 100, 101, 102, 103, 104, 105, 106, 107, 108, 109, 110, 111, 112, 113, 114, 115, 116, 117, 118, 119, 120, 121, 122]⟩ : ByteArray) u
      rw [hd] at hx
      have q1 : (0 ≤ u) = True := eq_true (by omega)
      have q2 : (u < 36) = True := eq_true (by omega)
      have p3 : ((i : Int) ≤ 65) = True := eq_true (by omega)
      have hres : hexNB a0 = strOfNums (hxn u :: acc) := by
        unfold hexNB
        rw [← he, show i + 1 - 49 = (i - 49) + 1 by omega, hexA, if_neg h16]
      have hlen : (hxn u :: acc).length = 65 - i := by simp; omega
      have hput := strconv_FormatInt.put (c := hxn u) hc hi
      have kc : ∀ cp : Nat, (convert 30 9 (.slice (some ⟨w.heap.size, i, none⟩) (65 - i) cp)).run Tryd.prog (wr.setCell ⟨w.heap.size, i, none⟩ (.int .u8 (hxn u))) = .ok (.string (hexNB a0)) (wr.setCell ⟨w.heap.size, i, none⟩ (.int .u8 (hxn u))) := by
        intro cp
        rw [hres]
        refine run_convert_bytes_arg _ 30 5 Tryd.underlying30 Tryd.underlying5 w.heap.size i (65 - i) cp _ hlen (fun z hz => ?_) 9 Tryd.underlying9
        rw [(hput (i + z) (by omega)).1, strconv_FormatInt.rm, if_neg (by omega), show i + z - i = z by omega]
      have hHb := Aside0.mk hb
      have hHp := Aside0.mk hput
      clear hc hb hu he hcell0 hbelow hd hput hlen
      go_wp2
      go_ret2
      exact ⟨rfl, hHb.out.setCell (Nat.le_refl _) _⟩
set_option maxHeartbeats 4000000 in
theorem strconv_FormatInt.inner (a0 : Int) (h0 : 0 ≤ a0) (h1 : a0 ≤ 9223372036854775807) (w : World) (hG : GTz w) : Calls Tryd.prog 122 #[.int .i64 a0, .int .i64 16] w fun e w' => e = .returned (.string (hexNB a0)) ∧ Below w.heap.size w w' := by
  have hw := strconv_FormatInt.u64_pos a0 h0 (by omega)
  have hn : decide (a0 < 0) = false := decide_eq_false (by omega)
  go_enter Tryd.func122, Tryd.ntmps122
  go_wp2_with (go_at_call 152; refine (strconv_FormatInt.fb a0 h0 h1 _ hG).mono ?_; rintro e w' ⟨rfl, hb⟩)
  go_ret
  exact ⟨rfl, hb⟩
set_option maxHeartbeats 4000000 in
theorem strconv_FormatInt.calls (a0 : Int) (a1 : Int) (r : ByteArray) (w : World) (hGTz : GTz w) (h : strconv_FormatInt.f a0 a1 = some r) :
    Calls Tryd.prog 92 #[.int .i64 a0, .int .i64 a1] w fun e w' => e = .returned (.string r) ∧ Below w.heap.size w w' := by
  have hs : 0 ≤ a0 ∧ a0 ≤ 9223372036854775807 ∧ a1 = 16 := by
    unfold strconv_FormatInt.f at h
    split at h
    · assumption
    · cases h
  unfold strconv_FormatInt.f at h
  rw [if_pos hs] at h
  have h := Option.some.inj h
  subst h
  obtain ⟨h0, h1, rfl⟩ := hs
  go_enter Tryd.func92, Tryd.ntmps92
  go_wp2_with (go_at_call 122; refine (strconv_FormatInt.inner a0 h0 h1 _ hGTz).mono ?_; rintro e w' ⟨rfl, hb⟩)
  go_ret
  exact ⟨rfl, hb⟩

end Go.Proofs.YtjldfmkpdkhnnaaDoor.Ext
