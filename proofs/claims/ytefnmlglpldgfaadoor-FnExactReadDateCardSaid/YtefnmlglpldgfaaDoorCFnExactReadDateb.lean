-- Written by this session's own program (a turn of the kit's print, with contracts of the session's own where the print has none).
import Derived.Test.YtefnmlglpldgfaaDoorEstringsSplit
import Derived.Test.YtefnmlglpldgfaaDoorCFnExactReadDatea
namespace Go.Proofs.YtefnmlglpldgfaaDoor.QL
open Go.RowKit Go.Proofs.YtefnmlglpldgfaaDoorW.PrintWords Go.Proofs.YtefnmlglpldgfaaDoorW.PrintLast Go.Proofs.YtefnmlglpldgfaaDoorW.PrintMore Go.Proofs.YtefnmlglpldgfaaDoor.Aux Go.Proofs.YtefnmlglpldgfaaDoor.Dom Go.Proofs.YtefnmlglpldgfaaDoor.Ext Go.Proofs.YtefnmlglpldgfaaDoor.Glob
attribute [local go_sem] max2_int min2_int max_two min_two max_three min_three max_four min_four   -- for this text's walks alone
set_option linter.unusedVariables false
set_option linter.unusedSimpArgs false

/-! ### slices_Index_string_string: function 84 -/
def slices_Index_string_string.l0 : Nat → List ByteArray → ByteArray → Int → Int → Option (Int)
 | 0, _, _, _, _ => none
 | k + 1, x0, x1, x7, x8 => if x8 < x7 then (if 0 ≤ x8 then (if x8 < (x0.length : Int) then (if x1.toList = (rdOf ByteArray.empty x0 x8).toList then (some x8) else (slices_Index_string_string.l0 k x0 x1 x7 (wrap64 (x8 + 1)))) else (none)) else (none)) else (some (-1))
def slices_Index_string_string.f (k : Nat) (l0 : List ByteArray) (a1 : ByteArray) : Option (Int) := slices_Index_string_string.l0 k l0 a1 (l0.length : Int) 0
theorem slices_Index_string_string.mono_l : ∀ k, (∀ y0 y1 y2 y3, LeO (slices_Index_string_string.l0 k y0 y1 y2 y3) (slices_Index_string_string.l0 (k + 1) y0 y1 y2 y3))
 | 0 => fun _ _ _ _ r h => by simp [slices_Index_string_string.l0] at h
 | k + 1 => by
  have ih0 := slices_Index_string_string.mono_l k
  ·intro y0 y1 y2 y3
   unfold slices_Index_string_string.l0
   repeat' first
   | (with_reducible exact ih0 _ _ _ _)
   | (with_reducible exact LeO.refl _)
   | (with_reducible exact LeO.none _)
   | (with_reducible refine LeO.ite ?_ ?_)
   | (with_reducible refine LeO.bind ?_ (fun _ => ?_))
   | exact ih0 _ _ _ _
   | exact LeO.none _
   | refine LeO.ite ?_ ?_
   | refine LeO.bind ?_ (fun _ => ?_)
theorem slices_Index_string_string.mono : ∀ a0 a1 k, LeO (slices_Index_string_string.f k a0 a1) (slices_Index_string_string.f (k + 1) a0 a1) := by
 intro a0 a1 k
 have ih0 := slices_Index_string_string.mono_l k
 unfold slices_Index_string_string.f
 repeat' first
   | (with_reducible exact ih0 _ _ _ _)
   | (with_reducible exact LeO.refl _)
   | (with_reducible exact LeO.none _)
   | (with_reducible refine LeO.ite ?_ ?_)
   | (with_reducible refine LeO.bind ?_ (fun _ => ?_))
   | exact ih0 _ _ _ _
   | exact LeO.none _
   | refine LeO.ite ?_ ?_
   | refine LeO.bind ?_ (fun _ => ?_)
set_option maxHeartbeats 8000000 in
set_option maxRecDepth 100000 in
theorem slices_Index_string_string.calls (k : Nat) (A0 : Option Addr) (c0 : Nat) (l0 : List ByteArray) (a1 : ByteArray) (r : Int) (w : World) (hr0 : Kd.C Kd.string w A0 l0.length l0) (hc0 : l0.length ≤ c0) (h : slices_Index_string_string.f k l0 a1 = some r) :
  Calls Tryd.prog 84 #[.slice A0 l0.length c0, .string a1] w fun e w' => e = .returned (.int .i64 r) ∧ Drawn0 w w' := by
 have HR0 := Aside0.mk hr0
 have HC0 := Aside0.mk hc0
 clear hr0 hc0
 have H : (slices_Index_string_string.l0 k l0 a1 (l0.length : Int) 0) = some r := h
 clear h
 have H' := Aside0.mk H
 clear H
 go_enter Tryd.func84, Tryd.ntmps84
 go_wp2
 go_loopg [8] k (fun kq v8 w' => ∃ (x8_1 : Int), v8 = .int .i64 x8_1 ∧ Aside0 (slices_Index_string_string.l0 kq l0 a1 (l0.length : Int) x8_1 = some r) ∧ Aside0 (kq ≤ k) ∧ Drawn0 w w')
 case atStart => exact ⟨(0), (by first | rfl | (simp; done) | (simp [*]; done)), H', ⟨Nat.le_refl _⟩, by repeat (first | exact Drawn0.refl _ | apply Drawn0.step)⟩
 case round =>
  clear H'
  try clear p2
  obtain ⟨x8_1, rfl, HA, HK1, ⟨m1, rfl⟩⟩ := hrel
  cases gk with
  | zero => exact absurd HA.out (by simp [slices_Index_string_string.l0])
  | succ k1 =>
   have H := HA.out
   clear HA
   simp only [slices_Index_string_string.l0] at H
   by_cases c3 : x8_1 < (l0.length : Int)
   ·rw [if_pos c3] at H
    have c3b0 : decide (x8_1 < (l0.length : Int)) = true := decide_eq_true c3
    clear c3
    by_cases c4 : 0 ≤ x8_1
    ·rw [if_pos c4] at H
     have c4b0 : decide (0 ≤ x8_1) = true := decide_eq_true c4
     clear c4
     by_cases c5 : x8_1 < (l0.length : Int)
     ·rw [if_pos c5] at H
      have c5b0 : decide (x8_1 < (l0.length : Int)) = true := decide_eq_true c5
      clear c5
      by_cases c6 : a1.toList = (rdOf ByteArray.empty l0 x8_1).toList
      ·rw [if_pos c6] at H
       have c6b0 : (a1.toList == (rdOf ByteArray.empty l0 x8_1).toList) = true := beq_iff_eq.mpr c6
       have c6b1 : (a1.toList != (rdOf ByteArray.empty l0 x8_1).toList) = false := bne_eq_false_iff_eq.mpr c6
       clear c6
       obtain rfl := Option.some.inj H
       have p101 : 0 ≤ (x8_1 : Int) := of_decide_eq_true asm
       have q101 : x8_1 < (l0.length : Int) := of_decide_eq_true asm
       obtain ⟨ad101, e101, hx101_0⟩ := Kd.at_string HR0.out x8_1 p101 q101
       cases e101
       replace p101 := eq_true p101
       replace q101 := eq_true q101
       go_wp2
       go_ret
       exact ⟨by first | rfl | (simp; done) | (simp [*]; done) | (simp; generalize ByteArray.toList _ = L_; cases L_ <;> rfl), by repeat (first | exact Drawn0.refl _ | apply Drawn0.step)⟩
      ·rw [if_neg c6] at H
       have c6b0 : (a1.toList == (rdOf ByteArray.empty l0 x8_1).toList) = false := beq_eq_false_iff_ne.mpr c6
       have c6b1 : (a1.toList != (rdOf ByteArray.empty l0 x8_1).toList) = true := bne_iff_ne.mpr c6
       have H' := Aside0.mk H
       clear H
       have p101 : 0 ≤ (x8_1 : Int) := of_decide_eq_true asm
       have q101 : x8_1 < (l0.length : Int) := of_decide_eq_true asm
       obtain ⟨ad101, e101, hx101_0⟩ := Kd.at_string HR0.out x8_1 p101 q101
       cases e101
       replace p101 := eq_true p101
       replace q101 := eq_true q101
       go_wp2
       go_roundg k1
       case measure => have := HK1.out; omega
       case rel => exact ⟨(wrap64 (x8_1 + 1)), (by first | rfl | (simp; done) | (simp [*]; done)), H', ⟨by have := HK1.out; omega⟩, by repeat (first | exact Drawn0.refl _ | apply Drawn0.step)⟩
     ·rw [if_neg c5] at H
      exact absurd H (by simp)
    ·rw [if_neg c4] at H
     exact absurd H (by simp)
   ·rw [if_neg c3] at H
    have c3b0 : decide (x8_1 < (l0.length : Int)) = false := decide_eq_false c3
    clear c3
    obtain rfl := Option.some.inj H
    go_wp2
    go_ret
    exact ⟨by first | rfl | (simp; done) | (simp [*]; done) | (simp; generalize ByteArray.toList _ = L_; cases L_ <;> rfl), by repeat (first | exact Drawn0.refl _ | apply Drawn0.step)⟩

end Go.Proofs.YtefnmlglpldgfaaDoor.QL

namespace Go.Proofs.YtefnmlglpldgfaaDoor.QL
open Go.RowKit Go.Proofs.YtefnmlglpldgfaaDoorW.PrintWords Go.Proofs.YtefnmlglpldgfaaDoorW.PrintLast Go.Proofs.YtefnmlglpldgfaaDoorW.PrintMore Go.Proofs.YtefnmlglpldgfaaDoor.Aux Go.Proofs.YtefnmlglpldgfaaDoor.Dom Go.Proofs.YtefnmlglpldgfaaDoor.Ext Go.Proofs.YtefnmlglpldgfaaDoor.Glob
attribute [local go_sem] max2_int min2_int max_two min_two max_three min_three max_four min_four   -- for this text's walks alone
set_option linter.unusedVariables false
set_option linter.unusedSimpArgs false

/-! ### impl_ReadDate: function 34 -/
def impl_ReadDate.j0 : Nat → ByteArray → List ByteArray → Bool → Option (Int × Bool)
 | 0, _, _, _ => none
 | k + 1, x0, x4, x31 => if x31 = true then (some (0, false)) else (if 4 < (x4.length : Int) then (if 3 < (x4.length : Int) then ((impl_number.f k (rdOf ByteArray.empty x4 3)).bind fun t108 => ((impl_months.f).bind fun t109 => (if 2 < (x4.length : Int) then ((slices_Index_string_string.f k t109 (rdOf ByteArray.empty x4 2)).bind fun t113 => (if 1 < (x4.length : Int) then ((impl_number.f k (rdOf ByteArray.empty x4 1)).bind fun t115 => ((impl_DaysOf.f k t108 (wrap64 (t113 + 1)) t115).bind fun t116 => (if t116 < 0 then (some (0, false)) else (if 0 ≤ 2 then (if 2 ≤ ((rdOf ByteArray.empty x4 4).size : Int) then ((impl_number.f k ((rdOf ByteArray.empty x4 4).extract 0 2)).bind fun t117 => (if 3 ≤ 5 then (if 5 ≤ ((rdOf ByteArray.empty x4 4).size : Int) then ((impl_number.f k ((rdOf ByteArray.empty x4 4).extract 3 5)).bind fun t118 => (if 6 ≤ ((rdOf ByteArray.empty x4 4).size : Int) then ((impl_number.f k ((rdOf ByteArray.empty x4 4).extract 6 (rdOf ByteArray.empty x4 4).size)).bind fun t119 => ((impl_ShowDate.f k (wrap64 ((wrap64 ((wrap64 ((wrap64 (t116 * 86400)) + (wrap64 (3600 * t117)))) + (wrap64 (60 * t118)))) + t119))).bind fun t120 => (if t120.toList = x0.toList then (some (wrap64 ((wrap64 ((wrap64 ((wrap64 (t116 * 86400)) + (wrap64 (3600 * t117)))) + (wrap64 (60 * t118)))) + t119), true)) else (some (0, false))))) else (none))) else (none)) else (none))) else (none)) else (none))))) else (none))) else (none)))) else (none)) else (none))
def impl_ReadDate.f (k : Nat) (a0 : ByteArray) : Option (Int × Bool) := (strings_Split.f a0 (⟨#[32]⟩ : ByteArray)).bind fun t101 => (if (t101.length : Int) = 6 then (if (a0.size : Int) = 29 then (if 4 < (t101.length : Int) then (if ((rdOf ByteArray.empty t101 4).size : Int) = 8 then (if 3 < (t101.length : Int) then (impl_ReadDate.j0 k a0 t101 (((rdOf ByteArray.empty t101 3).size : Int) != 4)) else (none)) else (impl_ReadDate.j0 k a0 t101 true)) else (none)) else (impl_ReadDate.j0 k a0 t101 true)) else (impl_ReadDate.j0 k a0 t101 true))
theorem impl_ReadDate.mono_l : ∀ k, (∀ y0 y1 y2, LeO (impl_ReadDate.j0 k y0 y1 y2) (impl_ReadDate.j0 (k + 1) y0 y1 y2))
 | 0 => fun _ _ _ r h => by simp [impl_ReadDate.j0] at h
 | k + 1 => by
  have ih0 := impl_ReadDate.mono_l k
  ·intro y0 y1 y2
   unfold impl_ReadDate.j0
   repeat' first
   | (with_reducible exact ih0 _ _ _)
   | (with_reducible exact impl_DaysOf.mono _ _ _ _)
   | (with_reducible exact impl_ShowDate.mono _ _)
   | (with_reducible exact impl_number.mono _ _)
   | (with_reducible exact slices_Index_string_string.mono _ _ _)
   | (with_reducible exact LeO.refl _)
   | (with_reducible exact LeO.none _)
   | (with_reducible refine LeO.ite ?_ ?_)
   | (with_reducible refine LeO.bind ?_ (fun _ => ?_))
   | exact ih0 _ _ _
   | exact impl_DaysOf.mono _ _ _ _
   | exact impl_ShowDate.mono _ _
   | exact impl_number.mono _ _
   | exact slices_Index_string_string.mono _ _ _
   | exact LeO.none _
   | refine LeO.ite ?_ ?_
   | refine LeO.bind ?_ (fun _ => ?_)
theorem impl_ReadDate.mono : ∀ a0 k, LeO (impl_ReadDate.f k a0) (impl_ReadDate.f (k + 1) a0) := by
 intro a0 k
 have ih0 := impl_ReadDate.mono_l k
 unfold impl_ReadDate.f
 repeat' first
   | (with_reducible exact ih0 _ _ _)
   | (with_reducible exact impl_DaysOf.mono _ _ _ _)
   | (with_reducible exact impl_ShowDate.mono _ _)
   | (with_reducible exact impl_number.mono _ _)
   | (with_reducible exact slices_Index_string_string.mono _ _ _)
   | (with_reducible exact LeO.refl _)
   | (with_reducible exact LeO.none _)
   | (with_reducible refine LeO.ite ?_ ?_)
   | (with_reducible refine LeO.bind ?_ (fun _ => ?_))
   | exact ih0 _ _ _
   | exact impl_DaysOf.mono _ _ _ _
   | exact impl_ShowDate.mono _ _
   | exact impl_number.mono _ _
   | exact slices_Index_string_string.mono _ _ _
   | exact LeO.none _
   | refine LeO.ite ?_ ?_
   | refine LeO.bind ?_ (fun _ => ?_)
def impl_ReadDate.T5 : Bool × List (List Nat × List Nat) := (true, [([], []), ([0], [0]), ([1], [1]), ([2], [2]), ([3], []), ([], []), ([5], [5]), ([6], [6]), ([4, 7, 4], [4, 7]), ([8], [8]), ([], []), ([10], [10]), ([11], [11]), ([12, 8], [12]), ([3, 9, 13, 13], [3, 9, 13]), ([14, 14, 0, 1, 2, 3, 4, 5, 6, 7, 8, 9, 10, 11, 12, 13, 14], [14])])
def impl_ReadDate.B5 : List Nat := [0, 1, 3, 7, 15, 0, 32, 96, 255, 511, 0, 1024, 3072, 7679, 16383, 32767]
theorem impl_ReadDate.tab5 : rtab .any (opsOf Tryd.f34 5) = impl_ReadDate.T5 := by kernel_rfl
theorem impl_ReadDate.bits5 : waitsOk impl_ReadDate.T5.2 impl_ReadDate.B5 = true := by kernel_rfl
def impl_ReadDate.T8 : Bool × List (List Nat × List Nat) := (true, [([], []), ([0], [0]), ([], []), ([2], [2]), ([3], [3]), ([4], [4]), ([1, 5], [1, 5]), ([], []), ([7], [7]), ([8, 4], [8]), ([9], [9]), ([6, 10], [6, 10]), ([], []), ([12], [12]), ([13, 9], [13]), ([11, 14], [11, 14]), ([15, 14, 0, 1, 2, 3, 4, 5, 6, 7, 8, 9, 10, 11, 12, 13, 14, 15], [15])])
def impl_ReadDate.B8 : List Nat := [0, 1, 0, 4, 12, 28, 63, 0, 128, 412, 924, 2047, 0, 4096, 13212, 32767, 65535]
theorem impl_ReadDate.tab8 : rtab .any (opsOf Tryd.f34 8) = impl_ReadDate.T8 := by kernel_rfl
theorem impl_ReadDate.bits8 : waitsOk impl_ReadDate.T8.2 impl_ReadDate.B8 = true := by kernel_rfl
set_option maxHeartbeats 8000000 in
set_option maxRecDepth 100000 in
theorem impl_ReadDate.calls (k : Nat) (a0 : ByteArray) (r1 : Int) (r2 : Bool) (w : World) (hGErr : GErr w) (hGMax : GMax w) (hGPow : GPow w) (h : impl_ReadDate.f k a0 = some (r1, r2)) :
  Calls Tryd.prog 34 #[.string a0] w fun e w' => e = .returned (.tuple #[.int .i64 r1, .bool r2]) ∧ Below w.heap.size w w' := by
 have HGErr := Aside0.mk hGErr
 clear hGErr
 have HGMax := Aside0.mk hGMax
 clear hGMax
 have HGPow := Aside0.mk hGPow
 clear hGPow
 have HB := Aside0.mk (Below.refl w.heap.size w)
 have H : ((strings_Split.f a0 (⟨#[32]⟩ : ByteArray)).bind fun t101 => (if (t101.length : Int) = 6 then (if (a0.size : Int) = 29 then (if 4 < (t101.length : Int) then (if ((rdOf ByteArray.empty t101 4).size : Int) = 8 then (if 3 < (t101.length : Int) then (impl_ReadDate.j0 k a0 t101 (((rdOf ByteArray.empty t101 3).size : Int) != 4)) else (none)) else (impl_ReadDate.j0 k a0 t101 true)) else (none)) else (impl_ReadDate.j0 k a0 t101 true)) else (impl_ReadDate.j0 k a0 t101 true))) = some (r1, r2) := h
 clear h
 replace H := Option.bind_eq_some_iff.mp H
 obtain ⟨t101, A20, H⟩ := H
 try dsimp only at H
 have A2 := Aside0.mk A20
 clear A20
 have HC3 := Aside0.mk H
 clear H
 go_enter Tryd.func34, Tryd.ntmps34
 go_upto_region 2 with (first | ((with_reducible refine gate_callee (f := 81) rfl ?_); refine goesL_ (some 9) rfl rfl Tryd.func81 (by kernel_rfl) rfl #[.string a0, .string (⟨#[32]⟩ : ByteArray)] rfl am ?_; (with_reducible refine (strings_Split.calls a0 (⟨#[32]⟩ : ByteArray) t101 _ ?side1 A2.out).mono ?_); (case side1 => refine GMax.of_below HGMax.out ?_; repeat (first | (with_reducible first | exact HB.out | apply below_alloc | apply pw_below_drewN | apply below_drew1) | exact HB.out)); rintro e w4 ⟨v102, rfl, ho0, hb⟩; refine ⟨_, rfl, ?_⟩; have n0_ := Aside0.mk (Kd.R_lower ho0 (below_size bq)); have n1_ := Aside0.mk (below_step bq hb); clear HB; have HO103 := n0_; have HB := n1_; clear n0_ n1_; (try clear hb); (try clear hb2); (try clear hk); (try clear hi); (try clear ho0)))
 (try simp only [Act.put, List.setIfInBounds_toArray, List.set_cons_zero, List.set_cons_succ])
 go_cut [31] (fun v31 wc => ∃ (kq : Nat) (x31_2 : Bool), v31 = .bool x31_2 ∧ Aside0 (impl_ReadDate.j0 kq a0 t101 x31_2 = some (r1, r2)) ∧ Aside0 (kq ≤ k) ∧ Aside0 (Kd.R Kd.string 9 wc w.heap.size (fun _ => True) v102 t101) ∧ Aside0 (Below w.heap.size w wc))
 case first =>
  have H := HC3.out
  clear HC3
  by_cases c5 : (t101.length : Int) = 6
  ·rw [if_pos c5] at H
   have c5b0 : ((t101.length : Int) == 6) = true := beq_iff_eq.mpr c5
   have c5b1 : ((t101.length : Int) != 6) = false := bne_eq_false_iff_eq.mpr c5
   clear c5
   (first | rw [c5b0] | (simp only [i64_w, i32_w]; rw [c5b0]) | skip)
   by_cases c6 : (a0.size : Int) = 29
   ·rw [if_pos c6] at H
    have c6b0 : ((a0.size : Int) == 29) = true := beq_iff_eq.mpr c6
    have c6b1 : ((a0.size : Int) != 29) = false := bne_eq_false_iff_eq.mpr c6
    clear c6
    by_cases c7 : 4 < (t101.length : Int)
    ·rw [if_pos c7] at H
     have c7b0 : decide (4 < (t101.length : Int)) = true := decide_eq_true c7
     have c7b1 : decide (4 < t101.length) = true := decide_eq_true (by omega)
     clear c7
     by_cases c8 : ((rdOf ByteArray.empty t101 4).size : Int) = 8
     ·rw [if_pos c8] at H
      have c8b0 : (((rdOf ByteArray.empty t101 4).size : Int) == 8) = true := beq_iff_eq.mpr c8
      have c8b1 : (((rdOf ByteArray.empty t101 4).size : Int) != 8) = false := bne_eq_false_iff_eq.mpr c8
      clear c8
      by_cases c9 : 3 < (t101.length : Int)
      ·rw [if_pos c9] at H
       have c9b0 : decide (3 < (t101.length : Int)) = true := decide_eq_true c9
       have c9b1 : decide (3 < t101.length) = true := decide_eq_true (by omega)
       clear c9
       have H' := Aside0.mk H
       clear H
       obtain ⟨Ao10, co10, eo10⟩ := Kd.R_slice HO103.out
       subst eo10
       have p104 : 0 ≤ (4 : Int) := (by omega)
       have q104 : 4 < (t101.length : Int) := of_decide_eq_true asm
       obtain ⟨ad104, e104, hx104_0⟩ := Kd.at_string (Kd.R_reads' HO103.out).2.2 4 p104 q104
       cases e104
       (try simp only [show (4 : Int).toNat = 4 from rfl, Nat.reduceMul, Nat.reduceEqDiff, Go.Addr.add, ↓reduceIte] at hx104_0)
       have qi104 : (4 < t101.length) = True := eq_true (by omega)
       (try rw [show ((4 : Int)).toNat = 4 from rfl] at hx104_0)
       replace p104 := eq_true p104
       replace q104 := eq_true q104
       have p105 : 0 ≤ (3 : Int) := (by omega)
       have q105 : 3 < (t101.length : Int) := of_decide_eq_true asm
       obtain ⟨ad105, e105, hx105_0⟩ := Kd.at_string (Kd.R_reads' HO103.out).2.2 3 p105 q105
       obtain rfl : ad104 = ad105 := (by injection e105)
       (try simp only [show (3 : Int).toNat = 3 from rfl, Nat.reduceMul, Nat.reduceEqDiff, Go.Addr.add, ↓reduceIte] at hx105_0)
       have qi105 : (3 < t101.length) = True := eq_true (by omega)
       (try rw [show ((3 : Int)).toNat = 3 from rfl] at hx105_0)
       replace p105 := eq_true p105
       replace q105 := eq_true q105
       go_wp2
       go_meet
       case rel => exact ⟨_, ((((rdOf ByteArray.empty t101 3).size : Int) != 4)), (by first | rfl | (simp; done) | (simp [*]; done)), H', ⟨by first | omega | exact Nat.le_refl _⟩, ⟨by (with_reducible repeat (first | apply Kd.R_alloc | apply Kd.R_drewN | apply Kd.R_drew)); exact HO103.out⟩, ⟨by repeat (first | (with_reducible first | exact HB.out | apply below_alloc | apply pw_below_drewN | apply below_drew1) | exact HB.out)⟩⟩
      ·rw [if_neg c9] at H
       exact absurd H (by simp)
     ·rw [if_neg c8] at H
      have c8b0 : (((rdOf ByteArray.empty t101 4).size : Int) == 8) = false := beq_eq_false_iff_ne.mpr c8
      have c8b1 : (((rdOf ByteArray.empty t101 4).size : Int) != 8) = true := bne_iff_ne.mpr c8
      have H' := Aside0.mk H
      clear H
      obtain ⟨Ao11, co11, eo11⟩ := Kd.R_slice HO103.out
      subst eo11
      have p104 : 0 ≤ (4 : Int) := (by omega)
      have q104 : 4 < (t101.length : Int) := of_decide_eq_true asm
      obtain ⟨ad104, e104, hx104_0⟩ := Kd.at_string (Kd.R_reads' HO103.out).2.2 4 p104 q104
      cases e104
      (try simp only [show (4 : Int).toNat = 4 from rfl, Nat.reduceMul, Nat.reduceEqDiff, Go.Addr.add, ↓reduceIte] at hx104_0)
      have qi104 : (4 < t101.length) = True := eq_true (by omega)
      (try rw [show ((4 : Int)).toNat = 4 from rfl] at hx104_0)
      replace p104 := eq_true p104
      replace q104 := eq_true q104
      go_wp2
      go_meet
      case rel => exact ⟨_, (true), (by first | rfl | (simp; done) | (simp [*]; done)), H', ⟨by first | omega | exact Nat.le_refl _⟩, ⟨by (with_reducible repeat (first | apply Kd.R_alloc | apply Kd.R_drewN | apply Kd.R_drew)); exact HO103.out⟩, ⟨by repeat (first | (with_reducible first | exact HB.out | apply below_alloc | apply pw_below_drewN | apply below_drew1) | exact HB.out)⟩⟩
    ·rw [if_neg c7] at H
     exact absurd H (by simp)
   ·rw [if_neg c6] at H
    have c6b0 : ((a0.size : Int) == 29) = false := beq_eq_false_iff_ne.mpr c6
    have c6b1 : ((a0.size : Int) != 29) = true := bne_iff_ne.mpr c6
    have H' := Aside0.mk H
    clear H
    obtain ⟨Ao12, co12, eo12⟩ := Kd.R_slice HO103.out
    subst eo12
    go_wp2
    go_meet
    case rel => exact ⟨_, (true), (by first | rfl | (simp; done) | (simp [*]; done)), H', ⟨by first | omega | exact Nat.le_refl _⟩, ⟨by (with_reducible repeat (first | apply Kd.R_alloc | apply Kd.R_drewN | apply Kd.R_drew)); exact HO103.out⟩, ⟨by repeat (first | (with_reducible first | exact HB.out | apply below_alloc | apply pw_below_drewN | apply below_drew1) | exact HB.out)⟩⟩
  ·rw [if_neg c5] at H
   have c5b0 : ((t101.length : Int) == 6) = false := beq_eq_false_iff_ne.mpr c5
   have c5b1 : ((t101.length : Int) != 6) = true := bne_iff_ne.mpr c5
   (first | rw [c5b0] | (simp only [i64_w, i32_w]; rw [c5b0]) | skip)
   have H' := Aside0.mk H
   clear H
   obtain ⟨Ao13, co13, eo13⟩ := Kd.R_slice HO103.out
   subst eo13
   go_wp2
   go_meet
   case rel => exact ⟨_, (true), (by first | rfl | (simp; done) | (simp [*]; done)), H', ⟨by first | omega | exact Nat.le_refl _⟩, ⟨by (with_reducible repeat (first | apply Kd.R_alloc | apply Kd.R_drewN | apply Kd.R_drew)); exact HO103.out⟩, ⟨by repeat (first | (with_reducible first | exact HB.out | apply below_alloc | apply pw_below_drewN | apply below_drew1) | exact HB.out)⟩⟩
 case rest =>
  clear HC3
  try clear p1
  try clear q1
  try clear hx1
  try clear qi1
  try clear p2
  try clear c3
  try clear c5
  try clear c5b0
  try clear c5b1
  try clear c6
  try clear c6b0
  try clear c6b1
  try clear c7
  try clear c7b0
  try clear c7b1
  try clear c8
  try clear c8b0
  try clear c8b1
  try clear c9
  try clear c9b0
  try clear c9b1
  try clear p10
  try clear q10
  try clear hx10
  try clear qi10
  try clear hx104_0
  try clear hx105_0
  try clear p104
  try clear p105
  try clear q104
  try clear q105
  obtain ⟨kq, x31_2, rfl, HA, HJ2, HO_4, HB⟩ := hcut
  cases kq with
  | zero => exact absurd HA.out (by simp [impl_ReadDate.j0])
  | succ kj2 =>
   have H := HA.out
   clear HA
   simp only [impl_ReadDate.j0] at H
   by_cases c14 : x31_2 = true
   ·subst c14
    rw [if_pos rfl] at H
    simp only [Option.some.injEq, Prod.mk.injEq] at H
    obtain ⟨rfl, rfl⟩ := H
    go_wp2
    go_ret2
    exact ⟨by first | rfl | (simp [errW_none, errW_some] <;> rfl) | (simp [*, errW_none, errW_some] <;> rfl), bq⟩
   ·replace c14 := Bool.eq_false_iff.mpr c14
    subst c14
    rw [if_neg (show ¬ (false = true) by decide)] at H
    by_cases c15 : 4 < (t101.length : Int)
    ·rw [if_pos c15] at H
     have c15b0 : decide (4 < (t101.length : Int)) = true := decide_eq_true c15
     have c15b1 : decide (4 < t101.length) = true := decide_eq_true (by omega)
     clear c15
     by_cases c16 : 3 < (t101.length : Int)
     ·rw [if_pos c16] at H
      have c16b0 : decide (3 < (t101.length : Int)) = true := decide_eq_true c16
      have c16b1 : decide (3 < t101.length) = true := decide_eq_true (by omega)
      clear c16
      replace H := Option.bind_eq_some_iff.mp H
      obtain ⟨t108, A170, H⟩ := H
      try dsimp only at H
      have A17 := Aside0.mk A170
      clear A170
      replace H := Option.bind_eq_some_iff.mp H
      obtain ⟨t109, A180, H⟩ := H
      try dsimp only at H
      have A18 := Aside0.mk A180
      clear A180
      by_cases c19 : 2 < (t101.length : Int)
      ·rw [if_pos c19] at H
       have c19b0 : decide (2 < (t101.length : Int)) = true := decide_eq_true c19
       have c19b1 : decide (2 < t101.length) = true := decide_eq_true (by omega)
       clear c19
       replace H := Option.bind_eq_some_iff.mp H
       obtain ⟨t113, A200, H⟩ := H
       try dsimp only at H
       have A20 := Aside0.mk A200
       clear A200
       by_cases c21 : 1 < (t101.length : Int)
       ·rw [if_pos c21] at H
        have c21b0 : decide (1 < (t101.length : Int)) = true := decide_eq_true c21
        have c21b1 : decide (1 < t101.length) = true := decide_eq_true (by omega)
        clear c21
        replace H := Option.bind_eq_some_iff.mp H
        obtain ⟨t115, A220, H⟩ := H
        try dsimp only at H
        have A22 := Aside0.mk A220
        clear A220
        replace H := Option.bind_eq_some_iff.mp H
        obtain ⟨t116, A230, H⟩ := H
        try dsimp only at H
        have A23 := Aside0.mk A230
        clear A230
        by_cases c24 : t116 < 0
        ·rw [if_pos c24] at H
         have c24b0 : decide (t116 < 0) = true := decide_eq_true c24
         clear c24
         simp only [Option.some.injEq, Prod.mk.injEq] at H
         obtain ⟨rfl, rfl⟩ := H
         obtain ⟨Ao25, co25, eo25⟩ := Kd.R_slice HO_4.out
         subst eo25
         have p106 : 0 ≤ (4 : Int) := (by omega)
         have q106 : 4 < (t101.length : Int) := of_decide_eq_true asm
         obtain ⟨ad106, e106, hx106_0⟩ := Kd.at_string (Kd.R_reads' HO_4.out).2.2 4 p106 q106
         cases e106
         (try simp only [show (4 : Int).toNat = 4 from rfl, Nat.reduceMul, Nat.reduceEqDiff, Go.Addr.add, ↓reduceIte] at hx106_0)
         have qi106 : (4 < t101.length) = True := eq_true (by omega)
         (try rw [show ((4 : Int)).toNat = 4 from rfl] at hx106_0)
         replace p106 := eq_true p106
         replace q106 := eq_true q106
         try go_wp2
         have n0_ := Aside0.mk (Kd.R_drew HO_4.out)
         have n1_ := Aside0.mk (below_drew1 HB.out)
         clear HO_4
         clear HB
         have HO_4 := n0_
         have HB := n1_
         clear n0_ n1_
         have p107 : 0 ≤ (3 : Int) := (by omega)
         have q107 : 3 < (t101.length : Int) := of_decide_eq_true asm
         obtain ⟨ad107, e107, hx107_0⟩ := Kd.at_string (Kd.R_reads' HO_4.out).2.2 3 p107 q107
         obtain rfl : ad106 = ad107 := (by injection e107)
         (try simp only [show (3 : Int).toNat = 3 from rfl, Nat.reduceMul, Nat.reduceEqDiff, Go.Addr.add, ↓reduceIte] at hx107_0)
         have qi107 : (3 < t101.length) = True := eq_true (by omega)
         (try rw [show ((3 : Int)).toNat = 3 from rfl] at hx107_0)
         replace p107 := eq_true p107
         replace q107 := eq_true q107
         have p112 : 0 ≤ (2 : Int) := (by omega)
         have q112 : 2 < (t101.length : Int) := of_decide_eq_true asm
         obtain ⟨ad112, e112, hx112_0⟩ := Kd.at_string (Kd.R_reads' HO_4.out).2.2 2 p112 q112
         obtain rfl : ad106 = ad112 := (by injection e112)
         (try simp only [show (2 : Int).toNat = 2 from rfl, Nat.reduceMul, Nat.reduceEqDiff, Go.Addr.add, ↓reduceIte] at hx112_0)
         have qi112 : (2 < t101.length) = True := eq_true (by omega)
         (try rw [show ((2 : Int)).toNat = 2 from rfl] at hx112_0)
         replace p112 := eq_true p112
         replace q112 := eq_true q112
         have p114 : 0 ≤ (1 : Int) := (by omega)
         have q114 : 1 < (t101.length : Int) := of_decide_eq_true asm
         obtain ⟨ad114, e114, hx114_0⟩ := Kd.at_string (Kd.R_reads' HO_4.out).2.2 1 p114 q114
         obtain rfl : ad106 = ad114 := (by injection e114)
         (try simp only [show (1 : Int).toNat = 1 from rfl, Nat.reduceMul, Nat.reduceEqDiff, Go.Addr.add, ↓reduceIte] at hx114_0)
         have qi114 : (1 < t101.length) = True := eq_true (by omega)
         (try rw [show ((1 : Int)).toNat = 1 from rfl] at hx114_0)
         replace p114 := eq_true p114
         replace q114 := eq_true q114
         refine start_ (n := 16) (S := fun w' => w'.cell? ⟨ad106.block, ad106.off + 3, none⟩ = some (.string (rdOf ByteArray.empty t101 3)) ∧ w'.cell? ⟨ad106.block, ad106.off + 2, none⟩ = some (.string (rdOf ByteArray.empty t101 2)) ∧ w'.cell? ⟨ad106.block, ad106.off + 1, none⟩ = some (.string (rdOf ByteArray.empty t101 1))) (ds := []) (Array.replicate 16 false) (by kernel_rfl) rfl rfl ⟨hx107_0, hx112_0, hx114_0⟩ (fun hHeld => ?_); refine with_tabW impl_ReadDate.tab5 impl_ReadDate.bits5 (fun HT_ HW_ => ?_)
         generalize wc.drew = w26 at HO_4 HB hx107_0 hx112_0 hx114_0 hHeld ⊢
         refine pu 0 35 HT_ ?_
         refine pu 1 36 HT_ ?_
         refine pu 5 40 HT_ ?_
         refine pu 6 41 HT_ ?_
         refine pu 10 45 HT_ ?_
         refine pu 11 46 HT_ ?_
         refine tk 2 37 HT_ HW_ hHeld ?_ (hy := by rintro w' ⟨s0, s1, s2⟩; go_simp; with_reducible rfl)
         refine tk 7 42 HT_ HW_ hHeld ?_ (hy := by rintro w' ⟨s0, s1, s2⟩; go_simp; with_reducible rfl)
         refine tk 12 47 HT_ HW_ hHeld ?_ (hy := by rintro w' ⟨s0, s1, s2⟩; go_simp; with_reducible rfl)
         refine on1 3 38 HT_ (fun K hK => ?_)
         refine goes_ Tryd.func83 (by kernel_rfl) rfl #[.string (rdOf ByteArray.empty t101 3)] (by rfl) rfl rfl am ?_
         with_reducible refine (impl_number.calls kj2 (rdOf ByteArray.empty t101 3) t108 _ ?side1 A17.out).mono ?_
         (case side1 => refine GErr.of_below HGErr.out ?_; repeat (first | (with_reducible first | exact HB.out | apply below_alloc | apply pw_below_drewN | apply below_drew1) | exact HB.out))
         rintro e w27 ⟨rfl, hb⟩
         have HS0_ := (hb.cell (World.block_lt_of_cell? _ _ (hHeld.1))).trans (hHeld.1)
         have HS1_ := (hb.cell (World.block_lt_of_cell? _ _ (hHeld.2.1))).trans (hHeld.2.1)
         have HS2_ := (hb.cell (World.block_lt_of_cell? _ _ (hHeld.2.2))).trans (hHeld.2.2)
         refine ⟨_, rfl, ?_⟩
         have n0_ := Aside0.mk (Kd.R_below (by (with_reducible repeat (first | apply Kd.R_alloc | apply Kd.R_drewN | apply Kd.R_drew)); exact HO_4.out) hb)
         have n1_ := Aside0.mk (below_step bq hb)
         clear HO_4
         clear HB
         have HO_4 := n0_
         have HB := n1_
         clear n0_ n1_
         (try clear hb)
         (try clear hb2)
         (try clear hk)
         (try clear hi)
         refine hK.out _ _ ⟨HS0_, HS1_, HS2_⟩ (fun hHeld => ?_)
         clear hK K
         refine nrm 38 ?_
         refine on1 4 39 HT_ (fun K hK => ?_)
         refine goes_ Tryd.func58 (by kernel_rfl) rfl #[] (by rfl) rfl rfl am ?_
         with_reducible refine (impl_months.calls  t109 _ A18.out).mono ?_
         rintro e w28 ⟨v110, rfl, ho0, hb⟩
         have HS0_ := (hb.cell (World.block_lt_of_cell? _ _ (hHeld.1))).trans (hHeld.1)
         have HS1_ := (hb.cell (World.block_lt_of_cell? _ _ (hHeld.2.1))).trans (hHeld.2.1)
         have HS2_ := (hb.cell (World.block_lt_of_cell? _ _ (hHeld.2.2))).trans (hHeld.2.2)
         refine ⟨_, rfl, ?_⟩
         have n0_ := Aside0.mk (Kd.R_elder' (by (with_reducible repeat (first | apply Kd.R_alloc | apply Kd.R_drewN | apply Kd.R_drew)); exact HO_4.out) (Kd.R_base ho0) hb)
         have n1_ := Aside0.mk (Kd.R_lower (Kd.R_new' ho0 (Kd.R_lt (by (with_reducible repeat (first | apply Kd.R_alloc | apply Kd.R_drewN | apply Kd.R_drew)); exact HO_4.out))) (below_size bq))
         have n2_ := Aside0.mk (below_step bq hb)
         clear HO_4
         clear HB
         have HO_4 := n0_
         have HO111 := n1_
         have HB := n2_
         clear n0_ n1_ n2_
         (try clear hb)
         (try clear hb2)
         (try clear hk)
         (try clear hi)
         (try clear ho0)
         obtain ⟨Ao29, co29, eo29⟩ := Kd.R_slice HO111.out
         (first | subst eo29 | (injection eo29 with f1_ f2_ f3_; have f4_ := f1_.symm; have f5_ := f3_.symm; clear f1_ f2_ f3_; subst f4_; subst f5_))
         refine hK.out _ _ ⟨HS0_, HS1_, HS2_⟩ (fun hHeld => ?_)
         clear hK K
         refine nrm 39 ?_
         refine on1 8 43 HT_ (fun K hK => ?_)
         refine goes_ Tryd.func84 (by kernel_rfl) rfl #[.slice Ao29 t109.length co29, .string (rdOf ByteArray.empty t101 2)] (by rfl) rfl rfl am ?_
         with_reducible refine (slices_Index_string_string.calls kj2 _ _ t109 (rdOf ByteArray.empty t101 2) t113 _ ?side1 ?side2 A20.out).mono ?_
         (case side1 => repeat (first | exact (Kd.R_reads' HO111.out).2.2 | (with_reducible refine Kd.C_alloc ?_ _) | (with_reducible refine Kd.C_drewN ?_ _) | (with_reducible refine Kd.C_drew ?_)))
         (case side2 => exact (Kd.R_reads' HO111.out).2.1)
         rintro e w' ⟨rfl, ⟨nd, rfl⟩⟩
         refine ⟨_, rfl, ?_⟩
         refine hK.out _ _ ⟨hHeld.1, hHeld.2.1, hHeld.2.2⟩ (fun hHeld => ?_)
         clear hK K
         refine nrm 43 ?_
         refine pu 9 44 HT_ ?_
         refine on1 13 48 HT_ (fun K hK => ?_)
         refine goes_ Tryd.func83 (by kernel_rfl) rfl #[.string (rdOf ByteArray.empty t101 1)] (by rfl) rfl rfl am ?_
         with_reducible refine (impl_number.calls kj2 (rdOf ByteArray.empty t101 1) t115 _ ?side1 A22.out).mono ?_
         (case side1 => refine GErr.of_below HGErr.out ?_; repeat (first | (with_reducible first | exact HB.out | apply below_alloc | apply pw_below_drewN | apply below_drew1) | exact HB.out))
         rintro e w30 ⟨rfl, hb⟩
         have HS0_ := (hb.cell (World.block_lt_of_cell? _ _ (hHeld.1))).trans (hHeld.1)
         have HS1_ := (hb.cell (World.block_lt_of_cell? _ _ (hHeld.2.1))).trans (hHeld.2.1)
         have HS2_ := (hb.cell (World.block_lt_of_cell? _ _ (hHeld.2.2))).trans (hHeld.2.2)
         refine ⟨_, rfl, ?_⟩
         have n0_ := Aside0.mk (Kd.R_below (by (with_reducible repeat (first | apply Kd.R_alloc | apply Kd.R_drewN | apply Kd.R_drew)); exact HO_4.out) hb)
         have n1_ := Aside0.mk (Kd.R_below (by (with_reducible repeat (first | apply Kd.R_alloc | apply Kd.R_drewN | apply Kd.R_drew)); exact HO111.out) hb)
         have n2_ := Aside0.mk (below_step bq hb)
         clear HO_4
         clear HO111
         clear HB
         have HO_4 := n0_
         have HO111 := n1_
         have HB := n2_
         clear n0_ n1_ n2_
         (try clear hb)
         (try clear hb2)
         (try clear hk)
         (try clear hi)
         refine hK.out _ _ ⟨HS0_, HS1_, HS2_⟩ (fun hHeld => ?_)
         clear hK K
         refine nrm 48 ?_
         refine on1 14 49 HT_ (fun K hK => ?_)
         refine goes_ Tryd.func82 (by kernel_rfl) rfl #[.int .i64 t108, .int .i64 (wrap64 (t113 + 1)), .int .i64 t115] (by rfl) rfl rfl am ?_
         with_reducible refine (impl_DaysOf.calls kj2 t108 (wrap64 (t113 + 1)) t115 t116 _ A23.out).mono ?_
         rintro e w31 ⟨rfl, hb⟩
         have HS0_ := (hb.cell (World.block_lt_of_cell? _ _ (hHeld.1))).trans (hHeld.1)
         have HS1_ := (hb.cell (World.block_lt_of_cell? _ _ (hHeld.2.1))).trans (hHeld.2.1)
         have HS2_ := (hb.cell (World.block_lt_of_cell? _ _ (hHeld.2.2))).trans (hHeld.2.2)
         refine ⟨_, rfl, ?_⟩
         have n0_ := Aside0.mk (Kd.R_below (by (with_reducible repeat (first | apply Kd.R_alloc | apply Kd.R_drewN | apply Kd.R_drew)); exact HO_4.out) hb)
         have n1_ := Aside0.mk (Kd.R_below (by (with_reducible repeat (first | apply Kd.R_alloc | apply Kd.R_drewN | apply Kd.R_drew)); exact HO111.out) hb)
         have n2_ := Aside0.mk (below_step bq hb)
         clear HO_4
         clear HO111
         clear HB
         have HO_4 := n0_
         have HO111 := n1_
         have HB := n2_
         clear n0_ n1_ n2_
         (try clear hb)
         (try clear hb2)
         (try clear hk)
         (try clear hi)
         refine hK.out _ _ ⟨HS0_, HS1_, HS2_⟩ (fun hHeld => ?_)
         clear hK K
         refine nrm 49 ?_
         refine pu 15 6 HT_ ?_
         refine done_ (done_of HT_.out (by kernel_rfl)) ?_
         try go_wp2
         go_ret2
         exact ⟨by first | rfl | (simp [errW_none, errW_some] <;> rfl) | (simp [*, errW_none, errW_some] <;> rfl), bq⟩
        ·rw [if_neg c24] at H
         have c24b0 : decide (t116 < 0) = false := decide_eq_false c24
         clear c24
         by_cases c32 : 0 ≤ 2
         ·rw [if_pos c32] at H
          have c32b0 := eq_true c32
          have c32b1 : decide (0 ≤ 2) = true := decide_eq_true c32
          clear c32
          by_cases c33 : 2 ≤ ((rdOf ByteArray.empty t101 4).size : Int)
          ·rw [if_pos c33] at H
           have c33b0 := eq_true c33
           have c33b1 : decide (2 ≤ ((rdOf ByteArray.empty t101 4).size : Int)) = true := decide_eq_true c33
           clear c33
           replace H := Option.bind_eq_some_iff.mp H
           obtain ⟨t117, A340, H⟩ := H
           try dsimp only at H
           have A34 := Aside0.mk A340
           clear A340
           by_cases c35 : 3 ≤ 5
           ·rw [if_pos c35] at H
            have c35b0 := eq_true c35
            have c35b1 : decide (3 ≤ 5) = true := decide_eq_true c35
            clear c35
            by_cases c36 : 5 ≤ ((rdOf ByteArray.empty t101 4).size : Int)
            ·rw [if_pos c36] at H
             have c36b0 := eq_true c36
             have c36b1 : decide (5 ≤ ((rdOf ByteArray.empty t101 4).size : Int)) = true := decide_eq_true c36
             clear c36
             replace H := Option.bind_eq_some_iff.mp H
             obtain ⟨t118, A370, H⟩ := H
             try dsimp only at H
             have A37 := Aside0.mk A370
             clear A370
             by_cases c38 : 6 ≤ ((rdOf ByteArray.empty t101 4).size : Int)
             ·rw [if_pos c38] at H
              have c38b0 := eq_true c38
              have c38b1 : decide (6 ≤ ((rdOf ByteArray.empty t101 4).size : Int)) = true := decide_eq_true c38
              clear c38
              replace H := Option.bind_eq_some_iff.mp H
              obtain ⟨t119, A390, H⟩ := H
              try dsimp only at H
              have A39 := Aside0.mk A390
              clear A390
              replace H := Option.bind_eq_some_iff.mp H
              obtain ⟨t120, A400, H⟩ := H
              try dsimp only at H
              have A40 := Aside0.mk A400
              clear A400
              by_cases c41 : t120.toList = a0.toList
              ·rw [if_pos c41] at H
               have c41b0 : (t120.toList == a0.toList) = true := beq_iff_eq.mpr c41
               have c41b1 : (t120.toList != a0.toList) = false := bne_eq_false_iff_eq.mpr c41
               clear c41
               simp only [Option.some.injEq, Prod.mk.injEq] at H
               obtain ⟨rfl, rfl⟩ := H
               obtain ⟨Ao42, co42, eo42⟩ := Kd.R_slice HO_4.out
               subst eo42
               have p106 : 0 ≤ (4 : Int) := (by omega)
               have q106 : 4 < (t101.length : Int) := of_decide_eq_true asm
               obtain ⟨ad106, e106, hx106_0⟩ := Kd.at_string (Kd.R_reads' HO_4.out).2.2 4 p106 q106
               cases e106
               (try simp only [show (4 : Int).toNat = 4 from rfl, Nat.reduceMul, Nat.reduceEqDiff, Go.Addr.add, ↓reduceIte] at hx106_0)
               have qi106 : (4 < t101.length) = True := eq_true (by omega)
               (try rw [show ((4 : Int)).toNat = 4 from rfl] at hx106_0)
               replace p106 := eq_true p106
               replace q106 := eq_true q106
               try go_wp2
               have n0_ := Aside0.mk (Kd.R_drew HO_4.out)
               have n1_ := Aside0.mk (below_drew1 HB.out)
               clear HO_4
               clear HB
               have HO_4 := n0_
               have HB := n1_
               clear n0_ n1_
               have p107 : 0 ≤ (3 : Int) := (by omega)
               have q107 : 3 < (t101.length : Int) := of_decide_eq_true asm
               obtain ⟨ad107, e107, hx107_0⟩ := Kd.at_string (Kd.R_reads' HO_4.out).2.2 3 p107 q107
               obtain rfl : ad106 = ad107 := (by injection e107)
               (try simp only [show (3 : Int).toNat = 3 from rfl, Nat.reduceMul, Nat.reduceEqDiff, Go.Addr.add, ↓reduceIte] at hx107_0)
               have qi107 : (3 < t101.length) = True := eq_true (by omega)
               (try rw [show ((3 : Int)).toNat = 3 from rfl] at hx107_0)
               replace p107 := eq_true p107
               replace q107 := eq_true q107
               have p112 : 0 ≤ (2 : Int) := (by omega)
               have q112 : 2 < (t101.length : Int) := of_decide_eq_true asm
               obtain ⟨ad112, e112, hx112_0⟩ := Kd.at_string (Kd.R_reads' HO_4.out).2.2 2 p112 q112
               obtain rfl : ad106 = ad112 := (by injection e112)
               (try simp only [show (2 : Int).toNat = 2 from rfl, Nat.reduceMul, Nat.reduceEqDiff, Go.Addr.add, ↓reduceIte] at hx112_0)
               have qi112 : (2 < t101.length) = True := eq_true (by omega)
               (try rw [show ((2 : Int)).toNat = 2 from rfl] at hx112_0)
               replace p112 := eq_true p112
               replace q112 := eq_true q112
               have p114 : 0 ≤ (1 : Int) := (by omega)
               have q114 : 1 < (t101.length : Int) := of_decide_eq_true asm
               obtain ⟨ad114, e114, hx114_0⟩ := Kd.at_string (Kd.R_reads' HO_4.out).2.2 1 p114 q114
               obtain rfl : ad106 = ad114 := (by injection e114)
               (try simp only [show (1 : Int).toNat = 1 from rfl, Nat.reduceMul, Nat.reduceEqDiff, Go.Addr.add, ↓reduceIte] at hx114_0)
               have qi114 : (1 < t101.length) = True := eq_true (by omega)
               (try rw [show ((1 : Int)).toNat = 1 from rfl] at hx114_0)
               replace p114 := eq_true p114
               replace q114 := eq_true q114
               refine start_ (n := 16) (S := fun w' => w'.cell? ⟨ad106.block, ad106.off + 3, none⟩ = some (.string (rdOf ByteArray.empty t101 3)) ∧ w'.cell? ⟨ad106.block, ad106.off + 2, none⟩ = some (.string (rdOf ByteArray.empty t101 2)) ∧ w'.cell? ⟨ad106.block, ad106.off + 1, none⟩ = some (.string (rdOf ByteArray.empty t101 1))) (ds := []) (Array.replicate 16 false) (by kernel_rfl) rfl rfl ⟨hx107_0, hx112_0, hx114_0⟩ (fun hHeld => ?_); refine with_tabW impl_ReadDate.tab5 impl_ReadDate.bits5 (fun HT_ HW_ => ?_)
               generalize wc.drew = w43 at HO_4 HB hx107_0 hx112_0 hx114_0 hHeld ⊢
               refine pu 0 35 HT_ ?_
               refine pu 1 36 HT_ ?_
               refine pu 5 40 HT_ ?_
               refine pu 6 41 HT_ ?_
               refine pu 10 45 HT_ ?_
               refine pu 11 46 HT_ ?_
               refine tk 2 37 HT_ HW_ hHeld ?_ (hy := by rintro w' ⟨s0, s1, s2⟩; go_simp; with_reducible rfl)
               refine tk 7 42 HT_ HW_ hHeld ?_ (hy := by rintro w' ⟨s0, s1, s2⟩; go_simp; with_reducible rfl)
               refine tk 12 47 HT_ HW_ hHeld ?_ (hy := by rintro w' ⟨s0, s1, s2⟩; go_simp; with_reducible rfl)
               refine on1 3 38 HT_ (fun K hK => ?_)
               refine goes_ Tryd.func83 (by kernel_rfl) rfl #[.string (rdOf ByteArray.empty t101 3)] (by rfl) rfl rfl am ?_
               with_reducible refine (impl_number.calls kj2 (rdOf ByteArray.empty t101 3) t108 _ ?side1 A17.out).mono ?_
               (case side1 => refine GErr.of_below HGErr.out ?_; repeat (first | (with_reducible first | exact HB.out | apply below_alloc | apply pw_below_drewN | apply below_drew1) | exact HB.out))
               rintro e w44 ⟨rfl, hb⟩
               have HS0_ := (hb.cell (World.block_lt_of_cell? _ _ (hHeld.1))).trans (hHeld.1)
               have HS1_ := (hb.cell (World.block_lt_of_cell? _ _ (hHeld.2.1))).trans (hHeld.2.1)
               have HS2_ := (hb.cell (World.block_lt_of_cell? _ _ (hHeld.2.2))).trans (hHeld.2.2)
               refine ⟨_, rfl, ?_⟩
               have n0_ := Aside0.mk (Kd.R_below (by (with_reducible repeat (first | apply Kd.R_alloc | apply Kd.R_drewN | apply Kd.R_drew)); exact HO_4.out) hb)
               have n1_ := Aside0.mk (below_step bq hb)
               clear HO_4
               clear HB
               have HO_4 := n0_
               have HB := n1_
               clear n0_ n1_
               (try clear hb)
               (try clear hb2)
               (try clear hk)
               (try clear hi)
               refine hK.out _ _ ⟨HS0_, HS1_, HS2_⟩ (fun hHeld => ?_)
               clear hK K
               refine nrm 38 ?_
               refine on1 4 39 HT_ (fun K hK => ?_)
               refine goes_ Tryd.func58 (by kernel_rfl) rfl #[] (by rfl) rfl rfl am ?_
               with_reducible refine (impl_months.calls  t109 _ A18.out).mono ?_
               rintro e w45 ⟨v110, rfl, ho0, hb⟩
               have HS0_ := (hb.cell (World.block_lt_of_cell? _ _ (hHeld.1))).trans (hHeld.1)
               have HS1_ := (hb.cell (World.block_lt_of_cell? _ _ (hHeld.2.1))).trans (hHeld.2.1)
               have HS2_ := (hb.cell (World.block_lt_of_cell? _ _ (hHeld.2.2))).trans (hHeld.2.2)
               refine ⟨_, rfl, ?_⟩
               have n0_ := Aside0.mk (Kd.R_elder' (by (with_reducible repeat (first | apply Kd.R_alloc | apply Kd.R_drewN | apply Kd.R_drew)); exact HO_4.out) (Kd.R_base ho0) hb)
               have n1_ := Aside0.mk (Kd.R_lower (Kd.R_new' ho0 (Kd.R_lt (by (with_reducible repeat (first | apply Kd.R_alloc | apply Kd.R_drewN | apply Kd.R_drew)); exact HO_4.out))) (below_size bq))
               have n2_ := Aside0.mk (below_step bq hb)
               clear HO_4
               clear HB
               have HO_4 := n0_
               have HO111 := n1_
               have HB := n2_
               clear n0_ n1_ n2_
               (try clear hb)
               (try clear hb2)
               (try clear hk)
               (try clear hi)
               (try clear ho0)
               obtain ⟨Ao46, co46, eo46⟩ := Kd.R_slice HO111.out
               (first | subst eo46 | (injection eo46 with f1_ f2_ f3_; have f4_ := f1_.symm; have f5_ := f3_.symm; clear f1_ f2_ f3_; subst f4_; subst f5_))
               refine hK.out _ _ ⟨HS0_, HS1_, HS2_⟩ (fun hHeld => ?_)
               clear hK K
               refine nrm 39 ?_
               refine on1 8 43 HT_ (fun K hK => ?_)
               refine goes_ Tryd.func84 (by kernel_rfl) rfl #[.slice Ao46 t109.length co46, .string (rdOf ByteArray.empty t101 2)] (by rfl) rfl rfl am ?_
               with_reducible refine (slices_Index_string_string.calls kj2 _ _ t109 (rdOf ByteArray.empty t101 2) t113 _ ?side1 ?side2 A20.out).mono ?_
               (case side1 => repeat (first | exact (Kd.R_reads' HO111.out).2.2 | (with_reducible refine Kd.C_alloc ?_ _) | (with_reducible refine Kd.C_drewN ?_ _) | (with_reducible refine Kd.C_drew ?_)))
               (case side2 => exact (Kd.R_reads' HO111.out).2.1)
               rintro e w' ⟨rfl, ⟨nd, rfl⟩⟩
               refine ⟨_, rfl, ?_⟩
               refine hK.out _ _ ⟨hHeld.1, hHeld.2.1, hHeld.2.2⟩ (fun hHeld => ?_)
               clear hK K
               refine nrm 43 ?_
               refine pu 9 44 HT_ ?_
               refine on1 13 48 HT_ (fun K hK => ?_)
               refine goes_ Tryd.func83 (by kernel_rfl) rfl #[.string (rdOf ByteArray.empty t101 1)] (by rfl) rfl rfl am ?_
               with_reducible refine (impl_number.calls kj2 (rdOf ByteArray.empty t101 1) t115 _ ?side1 A22.out).mono ?_
               (case side1 => refine GErr.of_below HGErr.out ?_; repeat (first | (with_reducible first | exact HB.out | apply below_alloc | apply pw_below_drewN | apply below_drew1) | exact HB.out))
               rintro e w47 ⟨rfl, hb⟩
               have HS0_ := (hb.cell (World.block_lt_of_cell? _ _ (hHeld.1))).trans (hHeld.1)
               have HS1_ := (hb.cell (World.block_lt_of_cell? _ _ (hHeld.2.1))).trans (hHeld.2.1)
               have HS2_ := (hb.cell (World.block_lt_of_cell? _ _ (hHeld.2.2))).trans (hHeld.2.2)
               refine ⟨_, rfl, ?_⟩
               have n0_ := Aside0.mk (Kd.R_below (by (with_reducible repeat (first | apply Kd.R_alloc | apply Kd.R_drewN | apply Kd.R_drew)); exact HO_4.out) hb)
               have n1_ := Aside0.mk (Kd.R_below (by (with_reducible repeat (first | apply Kd.R_alloc | apply Kd.R_drewN | apply Kd.R_drew)); exact HO111.out) hb)
               have n2_ := Aside0.mk (below_step bq hb)
               clear HO_4
               clear HO111
               clear HB
               have HO_4 := n0_
               have HO111 := n1_
               have HB := n2_
               clear n0_ n1_ n2_
               (try clear hb)
               (try clear hb2)
               (try clear hk)
               (try clear hi)
               refine hK.out _ _ ⟨HS0_, HS1_, HS2_⟩ (fun hHeld => ?_)
               clear hK K
               refine nrm 48 ?_
               refine on1 14 49 HT_ (fun K hK => ?_)
               refine goes_ Tryd.func82 (by kernel_rfl) rfl #[.int .i64 t108, .int .i64 (wrap64 (t113 + 1)), .int .i64 t115] (by rfl) rfl rfl am ?_
               with_reducible refine (impl_DaysOf.calls kj2 t108 (wrap64 (t113 + 1)) t115 t116 _ A23.out).mono ?_
               rintro e w48 ⟨rfl, hb⟩
               have HS0_ := (hb.cell (World.block_lt_of_cell? _ _ (hHeld.1))).trans (hHeld.1)
               have HS1_ := (hb.cell (World.block_lt_of_cell? _ _ (hHeld.2.1))).trans (hHeld.2.1)
               have HS2_ := (hb.cell (World.block_lt_of_cell? _ _ (hHeld.2.2))).trans (hHeld.2.2)
               refine ⟨_, rfl, ?_⟩
               have n0_ := Aside0.mk (Kd.R_below (by (with_reducible repeat (first | apply Kd.R_alloc | apply Kd.R_drewN | apply Kd.R_drew)); exact HO_4.out) hb)
               have n1_ := Aside0.mk (Kd.R_below (by (with_reducible repeat (first | apply Kd.R_alloc | apply Kd.R_drewN | apply Kd.R_drew)); exact HO111.out) hb)
               have n2_ := Aside0.mk (below_step bq hb)
               clear HO_4
               clear HO111
               clear HB
               have HO_4 := n0_
               have HO111 := n1_
               have HB := n2_
               clear n0_ n1_ n2_
               (try clear hb)
               (try clear hb2)
               (try clear hk)
               (try clear hi)
               refine hK.out _ _ ⟨HS0_, HS1_, HS2_⟩ (fun hHeld => ?_)
               clear hK K
               refine nrm 49 ?_
               refine pu 15 6 HT_ ?_
               refine done_ (done_of HT_.out (by kernel_rfl)) ?_
               try go_wp2
               have n0_ := Aside0.mk (Kd.R_drew HO_4.out)
               have n1_ := Aside0.mk (Kd.R_drew HO111.out)
               have n2_ := Aside0.mk (below_drew1 HB.out)
               clear HO_4
               clear HO111
               clear HB
               have HO_4 := n0_
               have HO111 := n1_
               have HB := n2_
               clear n0_ n1_ n2_
               refine start_ (n := 17) (S := fun w' => True) (ds := []) (Array.replicate 17 false) (by kernel_rfl) rfl rfl trivial (fun hHeld => ?_); refine with_tabW impl_ReadDate.tab8 impl_ReadDate.bits8 (fun HT_ HW_ => ?_)
               generalize w48.drew = w49 at HO_4 HO111 HB hHeld ⊢
               refine pu 0 52 HT_ ?_
               refine pu 1 53 HT_ ?_
               refine pu 2 54 HT_ ?_
               refine pu 3 55 HT_ ?_
               refine pu 7 59 HT_ ?_
               refine pu 8 60 HT_ ?_
               refine pu 12 64 HT_ ?_
               refine pu 13 65 HT_ ?_
               refine on1 4 56 HT_ (fun K hK => ?_)
               refine goes_ Tryd.func83 (by kernel_rfl) rfl #[.string ((rdOf ByteArray.empty t101 4).extract 0 2)] (by rfl) rfl rfl am ?_
               with_reducible refine (impl_number.calls kj2 ((rdOf ByteArray.empty t101 4).extract 0 2) t117 _ ?side1 A34.out).mono ?_
               (case side1 => refine GErr.of_below HGErr.out ?_; repeat (first | (with_reducible first | exact HB.out | apply below_alloc | apply pw_below_drewN | apply below_drew1) | exact HB.out))
               rintro e w50 ⟨rfl, hb⟩
               refine ⟨_, rfl, ?_⟩
               have n0_ := Aside0.mk (Kd.R_below (by (with_reducible repeat (first | apply Kd.R_alloc | apply Kd.R_drewN | apply Kd.R_drew)); exact HO_4.out) hb)
               have n1_ := Aside0.mk (Kd.R_below (by (with_reducible repeat (first | apply Kd.R_alloc | apply Kd.R_drewN | apply Kd.R_drew)); exact HO111.out) hb)
               have n2_ := Aside0.mk (below_step bq hb)
               clear HO_4
               clear HO111
               clear HB
               have HO_4 := n0_
               have HO111 := n1_
               have HB := n2_
               clear n0_ n1_ n2_
               (try clear hb)
               (try clear hb2)
               (try clear hk)
               (try clear hi)
               refine hK.out _ _ trivial (fun hHeld => ?_)
               clear hK K
               refine nrm 56 ?_
               refine pu 5 57 HT_ ?_
               refine pu 6 58 HT_ ?_
               refine on1 9 61 HT_ (fun K hK => ?_)
               refine goes_ Tryd.func83 (by kernel_rfl) rfl #[.string ((rdOf ByteArray.empty t101 4).extract 3 5)] (by rfl) rfl rfl am ?_
               with_reducible refine (impl_number.calls kj2 ((rdOf ByteArray.empty t101 4).extract 3 5) t118 _ ?side1 A37.out).mono ?_
               (case side1 => refine GErr.of_below HGErr.out ?_; repeat (first | (with_reducible first | exact HB.out | apply below_alloc | apply pw_below_drewN | apply below_drew1) | exact HB.out))
               rintro e w51 ⟨rfl, hb⟩
               refine ⟨_, rfl, ?_⟩
               have n0_ := Aside0.mk (Kd.R_below (by (with_reducible repeat (first | apply Kd.R_alloc | apply Kd.R_drewN | apply Kd.R_drew)); exact HO_4.out) hb)
               have n1_ := Aside0.mk (Kd.R_below (by (with_reducible repeat (first | apply Kd.R_alloc | apply Kd.R_drewN | apply Kd.R_drew)); exact HO111.out) hb)
               have n2_ := Aside0.mk (below_step bq hb)
               clear HO_4
               clear HO111
               clear HB
               have HO_4 := n0_
               have HO111 := n1_
               have HB := n2_
               clear n0_ n1_ n2_
               (try clear hb)
               (try clear hb2)
               (try clear hk)
               (try clear hi)
               refine hK.out _ _ trivial (fun hHeld => ?_)
               clear hK K
               refine nrm 61 ?_
               refine pu 10 62 HT_ ?_
               refine pu 11 63 HT_ ?_
               refine on1 14 66 HT_ (fun K hK => ?_)
               refine goes_ Tryd.func83 (by kernel_rfl) rfl #[.string ((rdOf ByteArray.empty t101 4).extract 6 (rdOf ByteArray.empty t101 4).size)] (by rfl) rfl rfl am ?_
               with_reducible refine (impl_number.calls kj2 ((rdOf ByteArray.empty t101 4).extract 6 (rdOf ByteArray.empty t101 4).size) t119 _ ?side1 A39.out).mono ?_
               (case side1 => refine GErr.of_below HGErr.out ?_; repeat (first | (with_reducible first | exact HB.out | apply below_alloc | apply pw_below_drewN | apply below_drew1) | exact HB.out))
               rintro e w52 ⟨rfl, hb⟩
               refine ⟨_, rfl, ?_⟩
               have n0_ := Aside0.mk (Kd.R_below (by (with_reducible repeat (first | apply Kd.R_alloc | apply Kd.R_drewN | apply Kd.R_drew)); exact HO_4.out) hb)
               have n1_ := Aside0.mk (Kd.R_below (by (with_reducible repeat (first | apply Kd.R_alloc | apply Kd.R_drewN | apply Kd.R_drew)); exact HO111.out) hb)
               have n2_ := Aside0.mk (below_step bq hb)
               clear HO_4
               clear HO111
               clear HB
               have HO_4 := n0_
               have HO111 := n1_
               have HB := n2_
               clear n0_ n1_ n2_
               (try clear hb)
               (try clear hb2)
               (try clear hk)
               (try clear hi)
               refine hK.out _ _ trivial (fun hHeld => ?_)
               clear hK K
               refine nrm 66 ?_
               refine pu 15 67 HT_ ?_
               refine pu 16 7 HT_ ?_
               refine done_ (done_of HT_.out (by kernel_rfl)) ?_
               try go_wp2_with (first | ((with_reducible refine gate_callee (f := 17) rfl ?_); refine goesL_ (some 69) rfl rfl Tryd.func17 (by kernel_rfl) rfl #[.int .i64 (wrap64 ((wrap64 ((wrap64 ((wrap64 (t116 * 86400)) + (wrap64 (3600 * t117)))) + (wrap64 (60 * t118)))) + t119))] rfl am ?_; (with_reducible refine (impl_ShowDate.calls kj2 (wrap64 ((wrap64 ((wrap64 ((wrap64 (t116 * 86400)) + (wrap64 (3600 * t117)))) + (wrap64 (60 * t118)))) + t119)) t120 _ ?side1 A40.out).mono ?_); (case side1 => refine GPow.of_below HGPow.out ?_; repeat (first | (with_reducible first | exact HB.out | apply below_alloc | apply pw_below_drewN | apply below_drew1) | exact HB.out)); rintro e w53 ⟨rfl, hb⟩; refine ⟨_, rfl, ?_⟩; have n0_ := Aside0.mk (Kd.R_below (by (with_reducible repeat (first | apply Kd.R_alloc | apply Kd.R_drewN | apply Kd.R_drew)); exact HO_4.out) hb); have n1_ := Aside0.mk (Kd.R_below (by (with_reducible repeat (first | apply Kd.R_alloc | apply Kd.R_drewN | apply Kd.R_drew)); exact HO111.out) hb); have n2_ := Aside0.mk (below_step bq hb); clear HO_4; clear HO111; clear HB; have HO_4 := n0_; have HO111 := n1_; have HB := n2_; clear n0_ n1_ n2_; (try clear hb); (try clear hb2); (try clear hk); (try clear hi)))
               go_ret2
               exact ⟨by first | rfl | (simp [errW_none, errW_some] <;> rfl) | (simp [*, errW_none, errW_some] <;> rfl), bq⟩
              ·rw [if_neg c41] at H
               have c41b0 : (t120.toList == a0.toList) = false := beq_eq_false_iff_ne.mpr c41
               have c41b1 : (t120.toList != a0.toList) = true := bne_iff_ne.mpr c41
               simp only [Option.some.injEq, Prod.mk.injEq] at H
               obtain ⟨rfl, rfl⟩ := H
               obtain ⟨Ao54, co54, eo54⟩ := Kd.R_slice HO_4.out
               subst eo54
               have p106 : 0 ≤ (4 : Int) := (by omega)
               have q106 : 4 < (t101.length : Int) := of_decide_eq_true asm
               obtain ⟨ad106, e106, hx106_0⟩ := Kd.at_string (Kd.R_reads' HO_4.out).2.2 4 p106 q106
               cases e106
               (try simp only [show (4 : Int).toNat = 4 from rfl, Nat.reduceMul, Nat.reduceEqDiff, Go.Addr.add, ↓reduceIte] at hx106_0)
               have qi106 : (4 < t101.length) = True := eq_true (by omega)
               (try rw [show ((4 : Int)).toNat = 4 from rfl] at hx106_0)
               replace p106 := eq_true p106
               replace q106 := eq_true q106
               try go_wp2
               have n0_ := Aside0.mk (Kd.R_drew HO_4.out)
               have n1_ := Aside0.mk (below_drew1 HB.out)
               clear HO_4
               clear HB
               have HO_4 := n0_
               have HB := n1_
               clear n0_ n1_
               have p107 : 0 ≤ (3 : Int) := (by omega)
               have q107 : 3 < (t101.length : Int) := of_decide_eq_true asm
               obtain ⟨ad107, e107, hx107_0⟩ := Kd.at_string (Kd.R_reads' HO_4.out).2.2 3 p107 q107
               obtain rfl : ad106 = ad107 := (by injection e107)
               (try simp only [show (3 : Int).toNat = 3 from rfl, Nat.reduceMul, Nat.reduceEqDiff, Go.Addr.add, ↓reduceIte] at hx107_0)
               have qi107 : (3 < t101.length) = True := eq_true (by omega)
               (try rw [show ((3 : Int)).toNat = 3 from rfl] at hx107_0)
               replace p107 := eq_true p107
               replace q107 := eq_true q107
               have p112 : 0 ≤ (2 : Int) := (by omega)
               have q112 : 2 < (t101.length : Int) := of_decide_eq_true asm
               obtain ⟨ad112, e112, hx112_0⟩ := Kd.at_string (Kd.R_reads' HO_4.out).2.2 2 p112 q112
               obtain rfl : ad106 = ad112 := (by injection e112)
               (try simp only [show (2 : Int).toNat = 2 from rfl, Nat.reduceMul, Nat.reduceEqDiff, Go.Addr.add, ↓reduceIte] at hx112_0)
               have qi112 : (2 < t101.length) = True := eq_true (by omega)
               (try rw [show ((2 : Int)).toNat = 2 from rfl] at hx112_0)
               replace p112 := eq_true p112
               replace q112 := eq_true q112
               have p114 : 0 ≤ (1 : Int) := (by omega)
               have q114 : 1 < (t101.length : Int) := of_decide_eq_true asm
               obtain ⟨ad114, e114, hx114_0⟩ := Kd.at_string (Kd.R_reads' HO_4.out).2.2 1 p114 q114
               obtain rfl : ad106 = ad114 := (by injection e114)
               (try simp only [show (1 : Int).toNat = 1 from rfl, Nat.reduceMul, Nat.reduceEqDiff, Go.Addr.add, ↓reduceIte] at hx114_0)
               have qi114 : (1 < t101.length) = True := eq_true (by omega)
               (try rw [show ((1 : Int)).toNat = 1 from rfl] at hx114_0)
               replace p114 := eq_true p114
               replace q114 := eq_true q114
               refine start_ (n := 16) (S := fun w' => w'.cell? ⟨ad106.block, ad106.off + 3, none⟩ = some (.string (rdOf ByteArray.empty t101 3)) ∧ w'.cell? ⟨ad106.block, ad106.off + 2, none⟩ = some (.string (rdOf ByteArray.empty t101 2)) ∧ w'.cell? ⟨ad106.block, ad106.off + 1, none⟩ = some (.string (rdOf ByteArray.empty t101 1))) (ds := []) (Array.replicate 16 false) (by kernel_rfl) rfl rfl ⟨hx107_0, hx112_0, hx114_0⟩ (fun hHeld => ?_); refine with_tabW impl_ReadDate.tab5 impl_ReadDate.bits5 (fun HT_ HW_ => ?_)
               generalize wc.drew = w55 at HO_4 HB hx107_0 hx112_0 hx114_0 hHeld ⊢
               refine pu 0 35 HT_ ?_
               refine pu 1 36 HT_ ?_
               refine pu 5 40 HT_ ?_
               refine pu 6 41 HT_ ?_
               refine pu 10 45 HT_ ?_
               refine pu 11 46 HT_ ?_
               refine tk 2 37 HT_ HW_ hHeld ?_ (hy := by rintro w' ⟨s0, s1, s2⟩; go_simp; with_reducible rfl)
               refine tk 7 42 HT_ HW_ hHeld ?_ (hy := by rintro w' ⟨s0, s1, s2⟩; go_simp; with_reducible rfl)
               refine tk 12 47 HT_ HW_ hHeld ?_ (hy := by rintro w' ⟨s0, s1, s2⟩; go_simp; with_reducible rfl)
               refine on1 3 38 HT_ (fun K hK => ?_)
               refine goes_ Tryd.func83 (by kernel_rfl) rfl #[.string (rdOf ByteArray.empty t101 3)] (by rfl) rfl rfl am ?_
               with_reducible refine (impl_number.calls kj2 (rdOf ByteArray.empty t101 3) t108 _ ?side1 A17.out).mono ?_
               (case side1 => refine GErr.of_below HGErr.out ?_; repeat (first | (with_reducible first | exact HB.out | apply below_alloc | apply pw_below_drewN | apply below_drew1) | exact HB.out))
               rintro e w56 ⟨rfl, hb⟩
               have HS0_ := (hb.cell (World.block_lt_of_cell? _ _ (hHeld.1))).trans (hHeld.1)
               have HS1_ := (hb.cell (World.block_lt_of_cell? _ _ (hHeld.2.1))).trans (hHeld.2.1)
               have HS2_ := (hb.cell (World.block_lt_of_cell? _ _ (hHeld.2.2))).trans (hHeld.2.2)
               refine ⟨_, rfl, ?_⟩
               have n0_ := Aside0.mk (Kd.R_below (by (with_reducible repeat (first | apply Kd.R_alloc | apply Kd.R_drewN | apply Kd.R_drew)); exact HO_4.out) hb)
               have n1_ := Aside0.mk (below_step bq hb)
               clear HO_4
               clear HB
               have HO_4 := n0_
               have HB := n1_
               clear n0_ n1_
               (try clear hb)
               (try clear hb2)
               (try clear hk)
               (try clear hi)
               refine hK.out _ _ ⟨HS0_, HS1_, HS2_⟩ (fun hHeld => ?_)
               clear hK K
               refine nrm 38 ?_
               refine on1 4 39 HT_ (fun K hK => ?_)
               refine goes_ Tryd.func58 (by kernel_rfl) rfl #[] (by rfl) rfl rfl am ?_
               with_reducible refine (impl_months.calls  t109 _ A18.out).mono ?_
               rintro e w57 ⟨v110, rfl, ho0, hb⟩
               have HS0_ := (hb.cell (World.block_lt_of_cell? _ _ (hHeld.1))).trans (hHeld.1)
               have HS1_ := (hb.cell (World.block_lt_of_cell? _ _ (hHeld.2.1))).trans (hHeld.2.1)
               have HS2_ := (hb.cell (World.block_lt_of_cell? _ _ (hHeld.2.2))).trans (hHeld.2.2)
               refine ⟨_, rfl, ?_⟩
               have n0_ := Aside0.mk (Kd.R_elder' (by (with_reducible repeat (first | apply Kd.R_alloc | apply Kd.R_drewN | apply Kd.R_drew)); exact HO_4.out) (Kd.R_base ho0) hb)
               have n1_ := Aside0.mk (Kd.R_lower (Kd.R_new' ho0 (Kd.R_lt (by (with_reducible repeat (first | apply Kd.R_alloc | apply Kd.R_drewN | apply Kd.R_drew)); exact HO_4.out))) (below_size bq))
               have n2_ := Aside0.mk (below_step bq hb)
               clear HO_4
               clear HB
               have HO_4 := n0_
               have HO111 := n1_
               have HB := n2_
               clear n0_ n1_ n2_
               (try clear hb)
               (try clear hb2)
               (try clear hk)
               (try clear hi)
               (try clear ho0)
               obtain ⟨Ao58, co58, eo58⟩ := Kd.R_slice HO111.out
               (first | subst eo58 | (injection eo58 with f1_ f2_ f3_; have f4_ := f1_.symm; have f5_ := f3_.symm; clear f1_ f2_ f3_; subst f4_; subst f5_))
               refine hK.out _ _ ⟨HS0_, HS1_, HS2_⟩ (fun hHeld => ?_)
               clear hK K
               refine nrm 39 ?_
               refine on1 8 43 HT_ (fun K hK => ?_)
               refine goes_ Tryd.func84 (by kernel_rfl) rfl #[.slice Ao58 t109.length co58, .string (rdOf ByteArray.empty t101 2)] (by rfl) rfl rfl am ?_
               with_reducible refine (slices_Index_string_string.calls kj2 _ _ t109 (rdOf ByteArray.empty t101 2) t113 _ ?side1 ?side2 A20.out).mono ?_
               (case side1 => repeat (first | exact (Kd.R_reads' HO111.out).2.2 | (with_reducible refine Kd.C_alloc ?_ _) | (with_reducible refine Kd.C_drewN ?_ _) | (with_reducible refine Kd.C_drew ?_)))
               (case side2 => exact (Kd.R_reads' HO111.out).2.1)
               rintro e w' ⟨rfl, ⟨nd, rfl⟩⟩
               refine ⟨_, rfl, ?_⟩
               refine hK.out _ _ ⟨hHeld.1, hHeld.2.1, hHeld.2.2⟩ (fun hHeld => ?_)
               clear hK K
               refine nrm 43 ?_
               refine pu 9 44 HT_ ?_
               refine on1 13 48 HT_ (fun K hK => ?_)
               refine goes_ Tryd.func83 (by kernel_rfl) rfl #[.string (rdOf ByteArray.empty t101 1)] (by rfl) rfl rfl am ?_
               with_reducible refine (impl_number.calls kj2 (rdOf ByteArray.empty t101 1) t115 _ ?side1 A22.out).mono ?_
               (case side1 => refine GErr.of_below HGErr.out ?_; repeat (first | (with_reducible first | exact HB.out | apply below_alloc | apply pw_below_drewN | apply below_drew1) | exact HB.out))
               rintro e w59 ⟨rfl, hb⟩
               have HS0_ := (hb.cell (World.block_lt_of_cell? _ _ (hHeld.1))).trans (hHeld.1)
               have HS1_ := (hb.cell (World.block_lt_of_cell? _ _ (hHeld.2.1))).trans (hHeld.2.1)
               have HS2_ := (hb.cell (World.block_lt_of_cell? _ _ (hHeld.2.2))).trans (hHeld.2.2)
               refine ⟨_, rfl, ?_⟩
               have n0_ := Aside0.mk (Kd.R_below (by (with_reducible repeat (first | apply Kd.R_alloc | apply Kd.R_drewN | apply Kd.R_drew)); exact HO_4.out) hb)
               have n1_ := Aside0.mk (Kd.R_below (by (with_reducible repeat (first | apply Kd.R_alloc | apply Kd.R_drewN | apply Kd.R_drew)); exact HO111.out) hb)
               have n2_ := Aside0.mk (below_step bq hb)
               clear HO_4
               clear HO111
               clear HB
               have HO_4 := n0_
               have HO111 := n1_
               have HB := n2_
               clear n0_ n1_ n2_
               (try clear hb)
               (try clear hb2)
               (try clear hk)
               (try clear hi)
               refine hK.out _ _ ⟨HS0_, HS1_, HS2_⟩ (fun hHeld => ?_)
               clear hK K
               refine nrm 48 ?_
               refine on1 14 49 HT_ (fun K hK => ?_)
               refine goes_ Tryd.func82 (by kernel_rfl) rfl #[.int .i64 t108, .int .i64 (wrap64 (t113 + 1)), .int .i64 t115] (by rfl) rfl rfl am ?_
               with_reducible refine (impl_DaysOf.calls kj2 t108 (wrap64 (t113 + 1)) t115 t116 _ A23.out).mono ?_
               rintro e w60 ⟨rfl, hb⟩
               have HS0_ := (hb.cell (World.block_lt_of_cell? _ _ (hHeld.1))).trans (hHeld.1)
               have HS1_ := (hb.cell (World.block_lt_of_cell? _ _ (hHeld.2.1))).trans (hHeld.2.1)
               have HS2_ := (hb.cell (World.block_lt_of_cell? _ _ (hHeld.2.2))).trans (hHeld.2.2)
               refine ⟨_, rfl, ?_⟩
               have n0_ := Aside0.mk (Kd.R_below (by (with_reducible repeat (first | apply Kd.R_alloc | apply Kd.R_drewN | apply Kd.R_drew)); exact HO_4.out) hb)
               have n1_ := Aside0.mk (Kd.R_below (by (with_reducible repeat (first | apply Kd.R_alloc | apply Kd.R_drewN | apply Kd.R_drew)); exact HO111.out) hb)
               have n2_ := Aside0.mk (below_step bq hb)
               clear HO_4
               clear HO111
               clear HB
               have HO_4 := n0_
               have HO111 := n1_
               have HB := n2_
               clear n0_ n1_ n2_
               (try clear hb)
               (try clear hb2)
               (try clear hk)
               (try clear hi)
               refine hK.out _ _ ⟨HS0_, HS1_, HS2_⟩ (fun hHeld => ?_)
               clear hK K
               refine nrm 49 ?_
               refine pu 15 6 HT_ ?_
               refine done_ (done_of HT_.out (by kernel_rfl)) ?_
               try go_wp2
               have n0_ := Aside0.mk (Kd.R_drew HO_4.out)
               have n1_ := Aside0.mk (Kd.R_drew HO111.out)
               have n2_ := Aside0.mk (below_drew1 HB.out)
               clear HO_4
               clear HO111
               clear HB
               have HO_4 := n0_
               have HO111 := n1_
               have HB := n2_
               clear n0_ n1_ n2_
               refine start_ (n := 17) (S := fun w' => True) (ds := []) (Array.replicate 17 false) (by kernel_rfl) rfl rfl trivial (fun hHeld => ?_); refine with_tabW impl_ReadDate.tab8 impl_ReadDate.bits8 (fun HT_ HW_ => ?_)
               generalize w60.drew = w61 at HO_4 HO111 HB hHeld ⊢
               refine pu 0 52 HT_ ?_
               refine pu 1 53 HT_ ?_
               refine pu 2 54 HT_ ?_
               refine pu 3 55 HT_ ?_
               refine pu 7 59 HT_ ?_
               refine pu 8 60 HT_ ?_
               refine pu 12 64 HT_ ?_
               refine pu 13 65 HT_ ?_
               refine on1 4 56 HT_ (fun K hK => ?_)
               refine goes_ Tryd.func83 (by kernel_rfl) rfl #[.string ((rdOf ByteArray.empty t101 4).extract 0 2)] (by rfl) rfl rfl am ?_
               with_reducible refine (impl_number.calls kj2 ((rdOf ByteArray.empty t101 4).extract 0 2) t117 _ ?side1 A34.out).mono ?_
               (case side1 => refine GErr.of_below HGErr.out ?_; repeat (first | (with_reducible first | exact HB.out | apply below_alloc | apply pw_below_drewN | apply below_drew1) | exact HB.out))
               rintro e w62 ⟨rfl, hb⟩
               refine ⟨_, rfl, ?_⟩
               have n0_ := Aside0.mk (Kd.R_below (by (with_reducible repeat (first | apply Kd.R_alloc | apply Kd.R_drewN | apply Kd.R_drew)); exact HO_4.out) hb)
               have n1_ := Aside0.mk (Kd.R_below (by (with_reducible repeat (first | apply Kd.R_alloc | apply Kd.R_drewN | apply Kd.R_drew)); exact HO111.out) hb)
               have n2_ := Aside0.mk (below_step bq hb)
               clear HO_4
               clear HO111
               clear HB
               have HO_4 := n0_
               have HO111 := n1_
               have HB := n2_
               clear n0_ n1_ n2_
               (try clear hb)
               (try clear hb2)
               (try clear hk)
               (try clear hi)
               refine hK.out _ _ trivial (fun hHeld => ?_)
               clear hK K
               refine nrm 56 ?_
               refine pu 5 57 HT_ ?_
               refine pu 6 58 HT_ ?_
               refine on1 9 61 HT_ (fun K hK => ?_)
               refine goes_ Tryd.func83 (by kernel_rfl) rfl #[.string ((rdOf ByteArray.empty t101 4).extract 3 5)] (by rfl) rfl rfl am ?_
               with_reducible refine (impl_number.calls kj2 ((rdOf ByteArray.empty t101 4).extract 3 5) t118 _ ?side1 A37.out).mono ?_
               (case side1 => refine GErr.of_below HGErr.out ?_; repeat (first | (with_reducible first | exact HB.out | apply below_alloc | apply pw_below_drewN | apply below_drew1) | exact HB.out))
               rintro e w63 ⟨rfl, hb⟩
               refine ⟨_, rfl, ?_⟩
               have n0_ := Aside0.mk (Kd.R_below (by (with_reducible repeat (first | apply Kd.R_alloc | apply Kd.R_drewN | apply Kd.R_drew)); exact HO_4.out) hb)
               have n1_ := Aside0.mk (Kd.R_below (by (with_reducible repeat (first | apply Kd.R_alloc | apply Kd.R_drewN | apply Kd.R_drew)); exact HO111.out) hb)
               have n2_ := Aside0.mk (below_step bq hb)
               clear HO_4
               clear HO111
               clear HB
               have HO_4 := n0_
               have HO111 := n1_
               have HB := n2_
               clear n0_ n1_ n2_
               (try clear hb)
               (try clear hb2)
               (try clear hk)
               (try clear hi)
               refine hK.out _ _ trivial (fun hHeld => ?_)
               clear hK K
               refine nrm 61 ?_
               refine pu 10 62 HT_ ?_
               refine pu 11 63 HT_ ?_
               refine on1 14 66 HT_ (fun K hK => ?_)
               refine goes_ Tryd.func83 (by kernel_rfl) rfl #[.string ((rdOf ByteArray.empty t101 4).extract 6 (rdOf ByteArray.empty t101 4).size)] (by rfl) rfl rfl am ?_
               with_reducible refine (impl_number.calls kj2 ((rdOf ByteArray.empty t101 4).extract 6 (rdOf ByteArray.empty t101 4).size) t119 _ ?side1 A39.out).mono ?_
               (case side1 => refine GErr.of_below HGErr.out ?_; repeat (first | (with_reducible first | exact HB.out | apply below_alloc | apply pw_below_drewN | apply below_drew1) | exact HB.out))
               rintro e w64 ⟨rfl, hb⟩
               refine ⟨_, rfl, ?_⟩
               have n0_ := Aside0.mk (Kd.R_below (by (with_reducible repeat (first | apply Kd.R_alloc | apply Kd.R_drewN | apply Kd.R_drew)); exact HO_4.out) hb)
               have n1_ := Aside0.mk (Kd.R_below (by (with_reducible repeat (first | apply Kd.R_alloc | apply Kd.R_drewN | apply Kd.R_drew)); exact HO111.out) hb)
               have n2_ := Aside0.mk (below_step bq hb)
               clear HO_4
               clear HO111
               clear HB
               have HO_4 := n0_
               have HO111 := n1_
               have HB := n2_
               clear n0_ n1_ n2_
               (try clear hb)
               (try clear hb2)
               (try clear hk)
               (try clear hi)
               refine hK.out _ _ trivial (fun hHeld => ?_)
               clear hK K
               refine nrm 66 ?_
               refine pu 15 67 HT_ ?_
               refine pu 16 7 HT_ ?_
               refine done_ (done_of HT_.out (by kernel_rfl)) ?_
               try go_wp2_with (first | ((with_reducible refine gate_callee (f := 17) rfl ?_); refine goesL_ (some 69) rfl rfl Tryd.func17 (by kernel_rfl) rfl #[.int .i64 (wrap64 ((wrap64 ((wrap64 ((wrap64 (t116 * 86400)) + (wrap64 (3600 * t117)))) + (wrap64 (60 * t118)))) + t119))] rfl am ?_; (with_reducible refine (impl_ShowDate.calls kj2 (wrap64 ((wrap64 ((wrap64 ((wrap64 (t116 * 86400)) + (wrap64 (3600 * t117)))) + (wrap64 (60 * t118)))) + t119)) t120 _ ?side1 A40.out).mono ?_); (case side1 => refine GPow.of_below HGPow.out ?_; repeat (first | (with_reducible first | exact HB.out | apply below_alloc | apply pw_below_drewN | apply below_drew1) | exact HB.out)); rintro e w65 ⟨rfl, hb⟩; refine ⟨_, rfl, ?_⟩; have n0_ := Aside0.mk (Kd.R_below (by (with_reducible repeat (first | apply Kd.R_alloc | apply Kd.R_drewN | apply Kd.R_drew)); exact HO_4.out) hb); have n1_ := Aside0.mk (Kd.R_below (by (with_reducible repeat (first | apply Kd.R_alloc | apply Kd.R_drewN | apply Kd.R_drew)); exact HO111.out) hb); have n2_ := Aside0.mk (below_step bq hb); clear HO_4; clear HO111; clear HB; have HO_4 := n0_; have HO111 := n1_; have HB := n2_; clear n0_ n1_ n2_; (try clear hb); (try clear hb2); (try clear hk); (try clear hi)))
               go_ret2
               exact ⟨by first | rfl | (simp [errW_none, errW_some] <;> rfl) | (simp [*, errW_none, errW_some] <;> rfl), bq⟩
             ·rw [if_neg c38] at H
              exact absurd H (by simp)
            ·rw [if_neg c36] at H
             exact absurd H (by simp)
           ·rw [if_neg c35] at H
            exact absurd H (by simp)
          ·rw [if_neg c33] at H
           exact absurd H (by simp)
         ·rw [if_neg c32] at H
          exact absurd H (by simp)
       ·rw [if_neg c21] at H
        exact absurd H (by simp)
      ·rw [if_neg c19] at H
       exact absurd H (by simp)
     ·rw [if_neg c16] at H
      exact absurd H (by simp)
    ·rw [if_neg c15] at H
     exact absurd H (by simp)

end Go.Proofs.YtefnmlglpldgfaaDoor.QL

namespace Go.Proofs.YtefnmlglpldgfaaDoor.QL
open Go.RowKit Go.Proofs.YtefnmlglpldgfaaDoorW.PrintWords Go.Proofs.YtefnmlglpldgfaaDoorW.PrintLast Go.Proofs.YtefnmlglpldgfaaDoorW.PrintMore Go.Proofs.YtefnmlglpldgfaaDoor.Aux Go.Proofs.YtefnmlglpldgfaaDoor.Dom Go.Proofs.YtefnmlglpldgfaaDoor.Ext Go.Proofs.YtefnmlglpldgfaaDoor.Glob
attribute [local go_sem] max2_int min2_int max_two min_two max_three min_three max_four min_four   -- for this text's walks alone
set_option linter.unusedVariables false
set_option linter.unusedSimpArgs false

/-! ### laws_FnExactReadDate: function 9 -/
def laws_FnExactReadDate.f (k : Nat) (a0 : ByteArray) : Option (Bool) := if (a0.size : Int) > 1048576 then (some true) else ((spec_ReadDate.f k a0).bind fun bt101 => ((impl_ReadDate.f k a0).bind fun bt103 => (if bt103.1 = bt101.1 then (if (bt103.2 != bt101.2) = true then (some false) else (some true)) else (some false))))
theorem laws_FnExactReadDate.mono : ∀ a0 k, LeO (laws_FnExactReadDate.f k a0) (laws_FnExactReadDate.f (k + 1) a0) := by
 intro a0 k
 unfold laws_FnExactReadDate.f
 repeat' first
   | (with_reducible exact impl_ReadDate.mono _ _)
   | (with_reducible exact spec_ReadDate.mono _ _)
   | (with_reducible exact LeO.refl _)
   | (with_reducible exact LeO.none _)
   | (with_reducible refine LeO.ite ?_ ?_)
   | (with_reducible refine LeO.bind ?_ (fun _ => ?_))
   | exact impl_ReadDate.mono _ _
   | exact spec_ReadDate.mono _ _
   | exact LeO.none _
   | refine LeO.ite ?_ ?_
   | refine LeO.bind ?_ (fun _ => ?_)
set_option maxHeartbeats 8000000 in
set_option maxRecDepth 100000 in
theorem laws_FnExactReadDate.calls (k : Nat) (a0 : ByteArray) (r : Bool) (w : World) (hGErr : GErr w) (hGMax : GMax w) (hGPow : GPow w) (h : laws_FnExactReadDate.f k a0 = some r) :
  Calls Tryd.prog 9 #[.string a0] w fun e w' => e = .returned (.bool r) ∧ Below w.heap.size w w' := by
 have HGErr := Aside0.mk hGErr
 clear hGErr
 have HGMax := Aside0.mk hGMax
 clear hGMax
 have HGPow := Aside0.mk hGPow
 clear hGPow
 have HB := Aside0.mk (Below.refl w.heap.size w)
 have H : (if (a0.size : Int) > 1048576 then (some true) else ((spec_ReadDate.f k a0).bind fun bt101 => ((impl_ReadDate.f k a0).bind fun bt103 => (if bt103.1 = bt101.1 then (if (bt103.2 != bt101.2) = true then (some false) else (some true)) else (some false))))) = some r := h
 clear h
 by_cases c2 : (a0.size : Int) > 1048576
 ·rw [if_pos c2] at H
  have c2b0 : decide (1048576 < (a0.size : Int)) = true := decide_eq_true c2
  have c2b1 : decide (1048576 < a0.size) = true := decide_eq_true (by omega)
  clear c2
  obtain rfl := Option.some.inj H
  go_enter Tryd.func9, Tryd.ntmps9
  go_wp2
  go_ret
  exact ⟨by first | rfl | (simp [errW_none, errW_some] <;> rfl) | (simp [*, errW_none, errW_some] <;> rfl), bq⟩
 ·rw [if_neg c2] at H
  have c2b0 : decide (1048576 < (a0.size : Int)) = false := decide_eq_false c2
  have c2b1 : decide (1048576 < a0.size) = false := decide_eq_false (by omega)
  clear c2
  replace H := Option.bind_eq_some_iff.mp H
  obtain ⟨⟨t101, t102⟩, A30, H⟩ := H
  try dsimp only at H
  have A3 := Aside0.mk A30
  clear A30
  replace H := Option.bind_eq_some_iff.mp H
  obtain ⟨⟨t103, t104⟩, A40, H⟩ := H
  try dsimp only at H
  have A4 := Aside0.mk A40
  clear A40
  by_cases c5 : t103 = t101
  ·rw [if_pos c5] at H
   have c5b0 : (t103 == t101) = true := beq_iff_eq.mpr c5
   have c5b1 : (t103 != t101) = false := bne_eq_false_iff_eq.mpr c5
   clear c5
   by_cases c6 : (t104 != t102) = true
   ·rw [if_pos c6] at H
    have c6b0 : (t104 != t102) = true := c6
    (try (have c6b1 : decide (t104 = t102) = false := by simpa using c6))
    (try (have c6b2 : (t104 == t102) = false := by simpa using c6))
    (try (have c6b3 : ¬ (t104 = t102) := by simpa using c6))
    clear c6
    obtain rfl := Option.some.inj H
    go_enter Tryd.func9, Tryd.ntmps9
    go_wp2_with (first | ((with_reducible refine gate_callee (f := 33) rfl ?_); refine goesL_ (some 12) rfl rfl Tryd.func33 (by kernel_rfl) rfl #[.string a0] rfl am ?_; (with_reducible refine (spec_ReadDate.calls k a0 t101 t102 _ A3.out).mono ?_); rintro e w7 ⟨rfl, hb⟩; refine ⟨_, rfl, ?_⟩; have n0_ := Aside0.mk (below_step bq hb); clear HB; have HB := n0_; clear n0_; (try clear hb); (try clear hb2); (try clear hk); (try clear hi)) | ((with_reducible refine gate_callee (f := 34) rfl ?_); refine goesL_ (some 17) rfl rfl Tryd.func34 (by kernel_rfl) rfl #[.string a0] rfl am ?_; (with_reducible refine (impl_ReadDate.calls k a0 t103 t104 _ ?side1 ?side2 ?side3 A4.out).mono ?_); (case side1 => refine GErr.of_below HGErr.out ?_; repeat (first | (with_reducible first | exact HB.out | apply below_alloc | apply pw_below_drewN | apply below_drew1) | exact HB.out)); (case side2 => refine GMax.of_below HGMax.out ?_; repeat (first | (with_reducible first | exact HB.out | apply below_alloc | apply pw_below_drewN | apply below_drew1) | exact HB.out)); (case side3 => refine GPow.of_below HGPow.out ?_; repeat (first | (with_reducible first | exact HB.out | apply below_alloc | apply pw_below_drewN | apply below_drew1) | exact HB.out)); rintro e w8 ⟨rfl, hb⟩; refine ⟨_, rfl, ?_⟩; have n0_ := Aside0.mk (below_step bq hb); clear HB; have HB := n0_; clear n0_; (try clear hb); (try clear hb2); (try clear hk); (try clear hi)))
    go_ret
    exact ⟨by first | rfl | (simp [errW_none, errW_some] <;> rfl) | (simp [*, errW_none, errW_some] <;> rfl), bq⟩
   ·rw [if_neg c6] at H
    have c6b0 : (t104 != t102) = false := by simpa using c6
    (try (have c6b1 : decide (t104 = t102) = true := by simpa using c6))
    (try (have c6b2 : (t104 == t102) = true := by simpa using c6))
    clear c6
    obtain rfl := Option.some.inj H
    go_enter Tryd.func9, Tryd.ntmps9
    go_wp2_with (first | ((with_reducible refine gate_callee (f := 33) rfl ?_); refine goesL_ (some 12) rfl rfl Tryd.func33 (by kernel_rfl) rfl #[.string a0] rfl am ?_; (with_reducible refine (spec_ReadDate.calls k a0 t101 t102 _ A3.out).mono ?_); rintro e w9 ⟨rfl, hb⟩; refine ⟨_, rfl, ?_⟩; have n0_ := Aside0.mk (below_step bq hb); clear HB; have HB := n0_; clear n0_; (try clear hb); (try clear hb2); (try clear hk); (try clear hi)) | ((with_reducible refine gate_callee (f := 34) rfl ?_); refine goesL_ (some 17) rfl rfl Tryd.func34 (by kernel_rfl) rfl #[.string a0] rfl am ?_; (with_reducible refine (impl_ReadDate.calls k a0 t103 t104 _ ?side1 ?side2 ?side3 A4.out).mono ?_); (case side1 => refine GErr.of_below HGErr.out ?_; repeat (first | (with_reducible first | exact HB.out | apply below_alloc | apply pw_below_drewN | apply below_drew1) | exact HB.out)); (case side2 => refine GMax.of_below HGMax.out ?_; repeat (first | (with_reducible first | exact HB.out | apply below_alloc | apply pw_below_drewN | apply below_drew1) | exact HB.out)); (case side3 => refine GPow.of_below HGPow.out ?_; repeat (first | (with_reducible first | exact HB.out | apply below_alloc | apply pw_below_drewN | apply below_drew1) | exact HB.out)); rintro e w10 ⟨rfl, hb⟩; refine ⟨_, rfl, ?_⟩; have n0_ := Aside0.mk (below_step bq hb); clear HB; have HB := n0_; clear n0_; (try clear hb); (try clear hb2); (try clear hk); (try clear hi)))
    go_ret
    exact ⟨by first | rfl | (simp [errW_none, errW_some] <;> rfl) | (simp [*, errW_none, errW_some] <;> rfl), bq⟩
  ·rw [if_neg c5] at H
   have c5b0 : (t103 == t101) = false := beq_eq_false_iff_ne.mpr c5
   have c5b1 : (t103 != t101) = true := bne_iff_ne.mpr c5
   obtain rfl := Option.some.inj H
   go_enter Tryd.func9, Tryd.ntmps9
   go_wp2_with (first | ((with_reducible refine gate_callee (f := 33) rfl ?_); refine goesL_ (some 12) rfl rfl Tryd.func33 (by kernel_rfl) rfl #[.string a0] rfl am ?_; (with_reducible refine (spec_ReadDate.calls k a0 t101 t102 _ A3.out).mono ?_); rintro e w11 ⟨rfl, hb⟩; refine ⟨_, rfl, ?_⟩; have n0_ := Aside0.mk (below_step bq hb); clear HB; have HB := n0_; clear n0_; (try clear hb); (try clear hb2); (try clear hk); (try clear hi)) | ((with_reducible refine gate_callee (f := 34) rfl ?_); refine goesL_ (some 17) rfl rfl Tryd.func34 (by kernel_rfl) rfl #[.string a0] rfl am ?_; (with_reducible refine (impl_ReadDate.calls k a0 t103 t104 _ ?side1 ?side2 ?side3 A4.out).mono ?_); (case side1 => refine GErr.of_below HGErr.out ?_; repeat (first | (with_reducible first | exact HB.out | apply below_alloc | apply pw_below_drewN | apply below_drew1) | exact HB.out)); (case side2 => refine GMax.of_below HGMax.out ?_; repeat (first | (with_reducible first | exact HB.out | apply below_alloc | apply pw_below_drewN | apply below_drew1) | exact HB.out)); (case side3 => refine GPow.of_below HGPow.out ?_; repeat (first | (with_reducible first | exact HB.out | apply below_alloc | apply pw_below_drewN | apply below_drew1) | exact HB.out)); rintro e w12 ⟨rfl, hb⟩; refine ⟨_, rfl, ?_⟩; have n0_ := Aside0.mk (below_step bq hb); clear HB; have HB := n0_; clear n0_; (try clear hb); (try clear hb2); (try clear hk); (try clear hi)))
   go_ret
   exact ⟨by first | rfl | (simp [errW_none, errW_some] <;> rfl) | (simp [*, errW_none, errW_some] <;> rfl), bq⟩

end Go.Proofs.YtefnmlglpldgfaaDoor.QL
