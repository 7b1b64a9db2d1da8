/- The program's Lifetime returns what the reference's returns, for all answers (those that hold more than 2^20 fields and bytes are let by). -/
import Derived.Test.YtjldfmkpdkhnnaaGreatDoorProg
import Derived.Below
import Derived.Deep.Draws
import Derived.Deep.AppendLies
import Derived.Maps.AppendAt
import Derived.OwnWalk
import Derived.Laws.BytesArg
import Derived.Laws.MakeOwn
import Derived.Laws.OwnMore
import Derived.Deep.OwnRows
import Derived.Tactics
import Derived.Lib.ConvBytes
import Derived.Laws.Slices
import Derived.WalkKit
import Derived.KernelRfl
import Derived.RowKit3
import Derived.Deep.LoopGhost
import Derived.Deep.QuietTactic
import Derived.BigQuiet
import Derived.WideLaws
import Derived.Deep.DeepCutAuto
import Derived.Deep.CutBlock
import Derived.Deep.RegionHeld3
import Derived.Laws.Rows
import Derived.Lib.AppendStr
import Derived.ArgAppend
import Derived.Laws.IdiomCopy
import Derived.OrdersHeld
import Derived.Laws.BitsLemmas
import Derived.RowKit
import Derived.Test.YtjldfmkpdkhnnaaGreatDoorCFnExactLifetimea
set_option linter.unusedVariables false
set_option linter.unusedSimpArgs false
namespace Go.Proofs.YtjldfmkpdkhnnaaGreatDoor.QL
open Go.RowKit Go.Proofs.YtjldfmkpdkhnnaaGreatDoorW.PrintWords Go.Proofs.YtjldfmkpdkhnnaaGreatDoorW.PrintLast Go.Proofs.YtjldfmkpdkhnnaaGreatDoorW.PrintMore Go.Proofs.YtjldfmkpdkhnnaaGreatDoor.Aux Go.Proofs.YtjldfmkpdkhnnaaGreatDoor.Dom Go.Proofs.YtjldfmkpdkhnnaaGreatDoor.Ext Go.Proofs.YtjldfmkpdkhnnaaGreatDoor.Glob
attribute [local go_sem] max2_int min2_int max_two min_two max_three min_three max_four min_four   -- for this text's walks alone

def laws_eqFieldS.l0 : Nat → List (S99) → List (S99) → Int → Option (Bool)
 | 0, _, _, _ => none
 | k + 1, x0, x1, x5 => if x5 < (x0.length : Int) then (if 0 ≤ x5 then (if x5 < (x1.length : Int) then ((laws_eqField.f ((rd_T99 x0 x5).f0) ((rd_T99 x0 x5).f1) ((rd_T99 x1 x5).f0) ((rd_T99 x1 x5).f1)).bind fun t103 => (if t103 = true then (laws_eqFieldS.l0 k x0 x1 (wrap64 (x5 + 1))) else (some false))) else (none)) else (none)) else (some true)
def laws_eqFieldS.f (k : Nat) (l0 : List (S99)) (l1 : List (S99)) : Option (Bool) := if (l0.length : Int) = (l1.length : Int) then (laws_eqFieldS.l0 k l0 l1 0) else (some false)
theorem laws_eqFieldS.mono_l : ∀ k, (∀ y0 y1 y2, LeO (laws_eqFieldS.l0 k y0 y1 y2) (laws_eqFieldS.l0 (k + 1) y0 y1 y2))
 | 0 => fun _ _ _ r h => by simp [laws_eqFieldS.l0] at h
 | k + 1 => by
  have ih0 := laws_eqFieldS.mono_l k
  ·intro y0 y1 y2
   unfold laws_eqFieldS.l0
   repeat' first
   | (with_reducible exact ih0 _ _ _)
   | (with_reducible exact LeO.refl _)
   | (with_reducible exact LeO.none _)
   | (with_reducible refine LeO.ite ?_ ?_)
   | (with_reducible refine LeO.bind ?_ (fun _ => ?_))
   | exact ih0 _ _ _
   | exact LeO.none _
   | refine LeO.ite ?_ ?_
   | refine LeO.bind ?_ (fun _ => ?_)
theorem laws_eqFieldS.mono : ∀ a0 a1 k, LeO (laws_eqFieldS.f k a0 a1) (laws_eqFieldS.f (k + 1) a0 a1) := by
 intro a0 a1 k
 have ih0 := laws_eqFieldS.mono_l k
 unfold laws_eqFieldS.f
 repeat' first
   | (with_reducible exact ih0 _ _ _)
   | (with_reducible exact LeO.refl _)
   | (with_reducible exact LeO.none _)
   | (with_reducible refine LeO.ite ?_ ?_)
   | (with_reducible refine LeO.bind ?_ (fun _ => ?_))
   | exact ih0 _ _ _
   | exact LeO.none _
   | refine LeO.ite ?_ ?_
   | refine LeO.bind ?_ (fun _ => ?_)
def laws_eqFieldS.T6 : Bool × List (List Nat × List Nat) := (true, [([], []), ([], []), ([0, 1], [0, 1]), ([2], [2]), ([], []), ([], []), ([4, 5], [4, 5]), ([6], [6]), ([3, 7], [3, 7]), ([8], [8])])
def laws_eqFieldS.B6 : List Nat := [0, 0, 3, 7, 0, 0, 48, 112, 255, 511]
theorem laws_eqFieldS.tab6 : rtab .any (opsOf Tryz.f53 6) = laws_eqFieldS.T6 := by kernel_rfl
theorem laws_eqFieldS.bits6 : waitsOk laws_eqFieldS.T6.2 laws_eqFieldS.B6 = true := by kernel_rfl
set_option maxHeartbeats 8000000 in
set_option maxRecDepth 100000 in
theorem laws_eqFieldS.calls (k : Nat) (A0 : Option Addr) (c0 : Nat) (l0 : List (S99)) (A1 : Option Addr) (c1 : Nat) (l1 : List (S99)) (r : Bool) (w : World) (hr0 : Kd.C k99 w A0 l0.length l0) (hc0 : l0.length ≤ c0) (hr1 : Kd.C k99 w A1 l1.length l1) (hc1 : l1.length ≤ c1) (h : laws_eqFieldS.f k l0 l1 = some r) :
  Calls Tryz.prog 53 #[.slice A0 l0.length c0, .slice A1 l1.length c1] w fun e w' => e = .returned (.bool r) ∧ Below w.heap.size w w' := by
 have hu99 := Tryz.underlying99
 have HR0 := Aside0.mk hr0
 have HC0 := Aside0.mk hc0
 clear hr0 hc0
 have HR1 := Aside0.mk hr1
 have HC1 := Aside0.mk hc1
 clear hr1 hc1
 have HB := Aside0.mk (Below.refl w.heap.size w)
 have H : (if (l0.length : Int) = (l1.length : Int) then (laws_eqFieldS.l0 k l0 l1 0) else (some false)) = some r := h
 clear h
 by_cases c3 : (l0.length : Int) = (l1.length : Int)
 ·rw [if_pos c3] at H
  have c3b0 : ((l0.length : Int) == (l1.length : Int)) = true := beq_iff_eq.mpr c3
  have c3b1 : ((l0.length : Int) != (l1.length : Int)) = false := bne_eq_false_iff_eq.mpr c3
  have c3b2 : (l0.length == l1.length) = true := by first | simpa using c3 | (simp at c3 ⊢; omega)
  clear c3
  have H' := Aside0.mk H
  clear H
  go_enter Tryz.func53, Tryz.ntmps53
  go_wp2
  go_loopg [5] k (fun kq v5 w' => ∃ (x5_1 : Int), v5 = .int .i64 x5_1 ∧ Aside0 (laws_eqFieldS.l0 kq l0 l1 x5_1 = some r) ∧ Aside0 (kq ≤ k) ∧ Aside0 (Below w.heap.size w w'))
  case atStart => exact ⟨(0), (by first | rfl | (simp; done) | (simp [*]; done)), H', ⟨Nat.le_refl _⟩, ⟨by repeat (first | (with_reducible first | exact HB.out | apply below_alloc | apply pw_below_drewN | apply below_drew1) | exact HB.out)⟩⟩
  case round =>
   clear H'
   try clear c1
   try clear p2
   try clear c3
   try clear c3b0
   try clear c3b1
   try clear c3b2
   obtain ⟨x5_1, rfl, HA, HK1, HB⟩ := hrel
   cases gk with
   | zero => exact absurd HA.out (by simp [laws_eqFieldS.l0])
   | succ k1 =>
    have H := HA.out
    clear HA
    simp only [laws_eqFieldS.l0] at H
    by_cases c4 : x5_1 < (l0.length : Int)
    ·rw [if_pos c4] at H
     have c4b0 : decide (x5_1 < (l0.length : Int)) = true := decide_eq_true c4
     clear c4
     by_cases c5 : 0 ≤ x5_1
     ·rw [if_pos c5] at H
      have c5b0 : decide (0 ≤ x5_1) = true := decide_eq_true c5
      clear c5
      by_cases c6 : x5_1 < (l1.length : Int)
      ·rw [if_pos c6] at H
       have c6b0 : decide (x5_1 < (l1.length : Int)) = true := decide_eq_true c6
       clear c6
       replace H := Option.bind_eq_some_iff.mp H
       obtain ⟨t103, A70, H⟩ := H
       try dsimp only at H
       have A7 := Aside0.mk A70
       clear A70
       by_cases c8 : t103 = true
       ·subst c8
        rw [if_pos rfl] at H
        have H' := Aside0.mk H
        clear H
        try go_wp2
        have n0_ := Aside0.mk (below_drew1 HB.out)
        clear HB
        have HB := n0_
        clear n0_
        have p101 : 0 ≤ (x5_1 : Int) := of_decide_eq_true asm
        have q101 : x5_1 < (l0.length : Int) := of_decide_eq_true asm
        obtain ⟨ad101, e101, hx101_0, hx101_1⟩ := at_T99 HR0.out x5_1 p101 q101
        have hw101_1 := hx101_1
        have hw101_0 := hx101_0
        cases e101
        replace hx101_0 := (HB.out.cell (World.block_lt_of_cell? w _ hx101_0)).trans hx101_0
        replace hx101_1 := (HB.out.cell (World.block_lt_of_cell? w _ hx101_1)).trans hx101_1
        replace p101 := eq_true p101
        replace q101 := eq_true q101
        have p102 : 0 ≤ (x5_1 : Int) := of_decide_eq_true asm
        have q102 : x5_1 < (l1.length : Int) := of_decide_eq_true asm
        obtain ⟨ad102, e102, hx102_0, hx102_1⟩ := at_T99 HR1.out x5_1 p102 q102
        have hw102_1 := hx102_1
        have hw102_0 := hx102_0
        cases e102
        replace hx102_0 := (HB.out.cell (World.block_lt_of_cell? w _ hx102_0)).trans hx102_0
        replace hx102_1 := (HB.out.cell (World.block_lt_of_cell? w _ hx102_1)).trans hx102_1
        replace p102 := eq_true p102
        replace q102 := eq_true q102
        refine start_ (n := 10) (S := fun w' => w'.cell? (ad101.add ((x5_1).toNat * 2)) = some (.string ((rd_T99 l0 x5_1).f0)) ∧ w'.cell? ⟨(ad101.add ((x5_1).toNat * 2)).block, (ad101.add ((x5_1).toNat * 2)).off + 1, none⟩ = some (.string ((rd_T99 l0 x5_1).f1)) ∧ w'.cell? (ad102.add ((x5_1).toNat * 2)) = some (.string ((rd_T99 l1 x5_1).f0)) ∧ w'.cell? ⟨(ad102.add ((x5_1).toNat * 2)).block, (ad102.add ((x5_1).toNat * 2)).off + 1, none⟩ = some (.string ((rd_T99 l1 x5_1).f1))) (ds := []) (Array.replicate 10 false) (by kernel_rfl) rfl rfl ⟨((HB.out.cell (World.block_lt_of_cell? w _ hw101_0)).trans hw101_0), ((HB.out.cell (World.block_lt_of_cell? w _ hw101_1)).trans hw101_1), ((HB.out.cell (World.block_lt_of_cell? w _ hw102_0)).trans hw102_0), ((HB.out.cell (World.block_lt_of_cell? w _ hw102_1)).trans hw102_1)⟩ (fun hHeld => ?_); refine with_tabW laws_eqFieldS.tab6 laws_eqFieldS.bits6 (fun HT_ HW_ => ?_)
        generalize wr.drew = w9 at HB hx101_0 hx101_1 hx102_0 hx102_1 hHeld ⊢
        refine pu 0 17 HT_ ?_
        refine pu 1 18 HT_ ?_
        refine pu 2 19 HT_ ?_
        refine pu 4 21 HT_ ?_
        refine pu 5 22 HT_ ?_
        refine pu 6 23 HT_ ?_
        refine tk 3 20 HT_ HW_ hHeld ?_ (hy := by rintro w' ⟨s0, s1, s2, s3⟩; go_simp; with_reducible rfl)
        refine tk 7 24 HT_ HW_ hHeld ?_ (hy := by rintro w' ⟨s0, s1, s2, s3⟩; go_simp; with_reducible rfl)
        refine on1 8 25 HT_ (fun K hK => ?_)
        refine goes_ Tryz.func98 (by kernel_rfl) rfl #[.agg #[.string ((rd_T99 l0 x5_1).f0), .string ((rd_T99 l0 x5_1).f1)], .agg #[.string ((rd_T99 l1 x5_1).f0), .string ((rd_T99 l1 x5_1).f1)]] (by rfl) rfl rfl am ?_
        with_reducible refine (laws_eqField.calls ((rd_T99 l0 x5_1).f0) ((rd_T99 l0 x5_1).f1) ((rd_T99 l1 x5_1).f0) ((rd_T99 l1 x5_1).f1) true _ A7.out).mono ?_
        rintro e w10 ⟨rfl, hb⟩
        refine ⟨_, rfl, ?_⟩
        have n0_ := Aside0.mk (below_step bq hb)
        clear HB
        have HB := n0_
        clear n0_
        (try clear hb)
        (try clear hb2)
        (try clear hk)
        (try clear hi)
        refine hK.out _ _ ⟨((HB.out.cell (World.block_lt_of_cell? w _ hw101_0)).trans hw101_0), ((HB.out.cell (World.block_lt_of_cell? w _ hw101_1)).trans hw101_1), ((HB.out.cell (World.block_lt_of_cell? w _ hw102_0)).trans hw102_0), ((HB.out.cell (World.block_lt_of_cell? w _ hw102_1)).trans hw102_1)⟩ (fun hHeld => ?_)
        clear hK K
        refine nrm 25 ?_
        refine pu 9 26 HT_ ?_
        refine done_ (done_of HT_.out (by kernel_rfl)) ?_
        try go_wp2
        go_roundg k1
        case measure => have := HK1.out; omega
        case rel => exact ⟨(wrap64 (x5_1 + 1)), (by first | rfl | (simp; done) | (simp [*]; done)), H', ⟨by have := HK1.out; omega⟩, ⟨by repeat (first | (with_reducible first | exact HB.out | apply below_alloc | apply pw_below_drewN | apply below_drew1) | exact HB.out)⟩⟩
       ·replace c8 := Bool.eq_false_iff.mpr c8
        subst c8
        rw [if_neg (show ¬ (false = true) by decide)] at H
        obtain rfl := Option.some.inj H
        try go_wp2
        have n0_ := Aside0.mk (below_drew1 HB.out)
        clear HB
        have HB := n0_
        clear n0_
        have p101 : 0 ≤ (x5_1 : Int) := of_decide_eq_true asm
        have q101 : x5_1 < (l0.length : Int) := of_decide_eq_true asm
        obtain ⟨ad101, e101, hx101_0, hx101_1⟩ := at_T99 HR0.out x5_1 p101 q101
        have hw101_1 := hx101_1
        have hw101_0 := hx101_0
        cases e101
        replace hx101_0 := (HB.out.cell (World.block_lt_of_cell? w _ hx101_0)).trans hx101_0
        replace hx101_1 := (HB.out.cell (World.block_lt_of_cell? w _ hx101_1)).trans hx101_1
        replace p101 := eq_true p101
        replace q101 := eq_true q101
        have p102 : 0 ≤ (x5_1 : Int) := of_decide_eq_true asm
        have q102 : x5_1 < (l1.length : Int) := of_decide_eq_true asm
        obtain ⟨ad102, e102, hx102_0, hx102_1⟩ := at_T99 HR1.out x5_1 p102 q102
        have hw102_1 := hx102_1
        have hw102_0 := hx102_0
        cases e102
        replace hx102_0 := (HB.out.cell (World.block_lt_of_cell? w _ hx102_0)).trans hx102_0
        replace hx102_1 := (HB.out.cell (World.block_lt_of_cell? w _ hx102_1)).trans hx102_1
        replace p102 := eq_true p102
        replace q102 := eq_true q102
        refine start_ (n := 10) (S := fun w' => w'.cell? (ad101.add ((x5_1).toNat * 2)) = some (.string ((rd_T99 l0 x5_1).f0)) ∧ w'.cell? ⟨(ad101.add ((x5_1).toNat * 2)).block, (ad101.add ((x5_1).toNat * 2)).off + 1, none⟩ = some (.string ((rd_T99 l0 x5_1).f1)) ∧ w'.cell? (ad102.add ((x5_1).toNat * 2)) = some (.string ((rd_T99 l1 x5_1).f0)) ∧ w'.cell? ⟨(ad102.add ((x5_1).toNat * 2)).block, (ad102.add ((x5_1).toNat * 2)).off + 1, none⟩ = some (.string ((rd_T99 l1 x5_1).f1))) (ds := []) (Array.replicate 10 false) (by kernel_rfl) rfl rfl ⟨((HB.out.cell (World.block_lt_of_cell? w _ hw101_0)).trans hw101_0), ((HB.out.cell (World.block_lt_of_cell? w _ hw101_1)).trans hw101_1), ((HB.out.cell (World.block_lt_of_cell? w _ hw102_0)).trans hw102_0), ((HB.out.cell (World.block_lt_of_cell? w _ hw102_1)).trans hw102_1)⟩ (fun hHeld => ?_); refine with_tabW laws_eqFieldS.tab6 laws_eqFieldS.bits6 (fun HT_ HW_ => ?_)
        generalize wr.drew = w11 at HB hx101_0 hx101_1 hx102_0 hx102_1 hHeld ⊢
        refine pu 0 17 HT_ ?_
        refine pu 1 18 HT_ ?_
        refine pu 2 19 HT_ ?_
        refine pu 4 21 HT_ ?_
        refine pu 5 22 HT_ ?_
        refine pu 6 23 HT_ ?_
        refine tk 3 20 HT_ HW_ hHeld ?_ (hy := by rintro w' ⟨s0, s1, s2, s3⟩; go_simp; with_reducible rfl)
        refine tk 7 24 HT_ HW_ hHeld ?_ (hy := by rintro w' ⟨s0, s1, s2, s3⟩; go_simp; with_reducible rfl)
        refine on1 8 25 HT_ (fun K hK => ?_)
        refine goes_ Tryz.func98 (by kernel_rfl) rfl #[.agg #[.string ((rd_T99 l0 x5_1).f0), .string ((rd_T99 l0 x5_1).f1)], .agg #[.string ((rd_T99 l1 x5_1).f0), .string ((rd_T99 l1 x5_1).f1)]] (by rfl) rfl rfl am ?_
        with_reducible refine (laws_eqField.calls ((rd_T99 l0 x5_1).f0) ((rd_T99 l0 x5_1).f1) ((rd_T99 l1 x5_1).f0) ((rd_T99 l1 x5_1).f1) false _ A7.out).mono ?_
        rintro e w12 ⟨rfl, hb⟩
        refine ⟨_, rfl, ?_⟩
        have n0_ := Aside0.mk (below_step bq hb)
        clear HB
        have HB := n0_
        clear n0_
        (try clear hb)
        (try clear hb2)
        (try clear hk)
        (try clear hi)
        refine hK.out _ _ ⟨((HB.out.cell (World.block_lt_of_cell? w _ hw101_0)).trans hw101_0), ((HB.out.cell (World.block_lt_of_cell? w _ hw101_1)).trans hw101_1), ((HB.out.cell (World.block_lt_of_cell? w _ hw102_0)).trans hw102_0), ((HB.out.cell (World.block_lt_of_cell? w _ hw102_1)).trans hw102_1)⟩ (fun hHeld => ?_)
        clear hK K
        refine nrm 25 ?_
        refine pu 9 26 HT_ ?_
        refine done_ (done_of HT_.out (by kernel_rfl)) ?_
        try go_wp2
        go_ret
        exact ⟨by first | rfl | (simp [errW_none, errW_some] <;> rfl) | (simp [*, errW_none, errW_some] <;> rfl), bq⟩
      ·rw [if_neg c6] at H
       exact absurd H (by simp)
     ·rw [if_neg c5] at H
      exact absurd H (by simp)
    ·rw [if_neg c4] at H
     have c4b0 : decide (x5_1 < (l0.length : Int)) = false := decide_eq_false c4
     clear c4
     obtain rfl := Option.some.inj H
     go_wp2
     go_ret
     exact ⟨by first | rfl | (simp [errW_none, errW_some] <;> rfl) | (simp [*, errW_none, errW_some] <;> rfl), bq⟩
 ·rw [if_neg c3] at H
  have c3b0 : ((l0.length : Int) == (l1.length : Int)) = false := beq_eq_false_iff_ne.mpr c3
  have c3b1 : ((l0.length : Int) != (l1.length : Int)) = true := bne_iff_ne.mpr c3
  have c3b2 : (l0.length == l1.length) = false := by first | simpa using c3 | (simp at c3 ⊢; omega)
  obtain rfl := Option.some.inj H
  go_enter Tryz.func53, Tryz.ntmps53
  go_wp2
  go_ret
  exact ⟨by first | rfl | (simp [errW_none, errW_some] <;> rfl) | (simp [*, errW_none, errW_some] <;> rfl), bq⟩

end Go.Proofs.YtjldfmkpdkhnnaaGreatDoor.QL

namespace Go.Proofs.YtjldfmkpdkhnnaaGreatDoor.QL
open Go.RowKit Go.Proofs.YtjldfmkpdkhnnaaGreatDoorW.PrintWords Go.Proofs.YtjldfmkpdkhnnaaGreatDoorW.PrintLast Go.Proofs.YtjldfmkpdkhnnaaGreatDoorW.PrintMore Go.Proofs.YtjldfmkpdkhnnaaGreatDoor.Aux Go.Proofs.YtjldfmkpdkhnnaaGreatDoor.Dom Go.Proofs.YtjldfmkpdkhnnaaGreatDoor.Ext Go.Proofs.YtjldfmkpdkhnnaaGreatDoor.Glob
attribute [local go_sem] max2_int min2_int max_two min_two max_three min_three max_four min_four   -- for this text's walks alone

def laws_eqResponse.f (k : Nat) (a0_0 : Int) (l0_1 : List (S99)) (a0_2 : ByteArray) (a1_0 : Int) (l1_1 : List (S99)) (a1_2 : ByteArray) : Option (Bool) := if a0_0 = a1_0 then ((laws_eqFieldS.f k l0_1 l1_1).bind fun t103 => (if t103 = true then (if a0_2.toList = a1_2.toList then (some true) else (some false)) else (some false))) else (some false)
theorem laws_eqResponse.mono : ∀ a0 a1 a2 a3 a4 a5 k, LeO (laws_eqResponse.f k a0 a1 a2 a3 a4 a5) (laws_eqResponse.f (k + 1) a0 a1 a2 a3 a4 a5) := by
 intro a0 a1 a2 a3 a4 a5 k
 unfold laws_eqResponse.f
 repeat' first
   | (with_reducible exact laws_eqFieldS.mono _ _ _)
   | (with_reducible exact LeO.refl _)
   | (with_reducible exact LeO.none _)
   | (with_reducible refine LeO.ite ?_ ?_)
   | (with_reducible refine LeO.bind ?_ (fun _ => ?_))
   | exact laws_eqFieldS.mono _ _ _
   | exact LeO.none _
   | refine LeO.ite ?_ ?_
   | refine LeO.bind ?_ (fun _ => ?_)
set_option maxHeartbeats 8000000 in
set_option maxRecDepth 100000 in
theorem laws_eqResponse.calls (k : Nat) (a0_0 : Int) (A0_1 : Option Addr) (c0_1 : Nat) (l0_1 : List (S99)) (a0_2 : ByteArray) (a1_0 : Int) (A1_1 : Option Addr) (c1_1 : Nat) (l1_1 : List (S99)) (a1_2 : ByteArray) (r : Bool) (w : World) (hr0_1 : Kd.C k99 w A0_1 l0_1.length l0_1) (hc0_1 : l0_1.length ≤ c0_1) (hr1_1 : Kd.C k99 w A1_1 l1_1.length l1_1) (hc1_1 : l1_1.length ≤ c1_1) (h : laws_eqResponse.f k a0_0 l0_1 a0_2 a1_0 l1_1 a1_2 = some r) :
  Calls Tryz.prog 13 #[.agg #[.int .i64 a0_0, .slice A0_1 l0_1.length c0_1, .string a0_2], .agg #[.int .i64 a1_0, .slice A1_1 l1_1.length c1_1, .string a1_2]] w fun e w' => e = .returned (.bool r) ∧ Below w.heap.size w w' := by
 have hu29 := Tryz.underlying29
 have HR0_1 := Aside0.mk hr0_1
 have HC0_1 := Aside0.mk hc0_1
 clear hr0_1 hc0_1
 have HR1_1 := Aside0.mk hr1_1
 have HC1_1 := Aside0.mk hc1_1
 clear hr1_1 hc1_1
 have HB := Aside0.mk (Below.refl w.heap.size w)
 have H : (if a0_0 = a1_0 then ((laws_eqFieldS.f k l0_1 l1_1).bind fun t103 => (if t103 = true then (if a0_2.toList = a1_2.toList then (some true) else (some false)) else (some false))) else (some false)) = some r := h
 clear h
 by_cases c3 : a0_0 = a1_0
 ·rw [if_pos c3] at H
  have c3b0 : (a0_0 == a1_0) = true := beq_iff_eq.mpr c3
  have c3b1 : (a0_0 != a1_0) = false := bne_eq_false_iff_eq.mpr c3
  clear c3
  replace H := Option.bind_eq_some_iff.mp H
  obtain ⟨t103, A40, H⟩ := H
  try dsimp only at H
  have A4 := Aside0.mk A40
  clear A40
  by_cases c5 : t103 = true
  ·subst c5
   rw [if_pos rfl] at H
   by_cases c6 : a0_2.toList = a1_2.toList
   ·rw [if_pos c6] at H
    have c6b0 : (a0_2.toList == a1_2.toList) = true := beq_iff_eq.mpr c6
    have c6b1 : (a0_2.toList != a1_2.toList) = false := bne_eq_false_iff_eq.mpr c6
    clear c6
    obtain rfl := Option.some.inj H
    go_enter Tryz.func13, Tryz.ntmps13
    go_wp2_with (first | ((with_reducible refine gate_dst (N := 2) rfl ?_); refine box_event ?hg (N := 2) ?hd (cs := #[.int .i64 a0_0, .slice A0_1 l0_1.length c0_1, .string a0_2]) (t := 29) ?hr ?_; (case hd => rfl); (case hg => rfl); (case hr => first | (go_simp; done) | (go_simp; rfl)); intro gb101 hg w7 hbox hb; have n0_ := Aside0.mk (below_step bq hb); have n1_ := Aside0.mk (hbox); have n2_ := Aside0.mk ((by rw [hg]; exact (below_size bq) : w.heap.size ≤ gb101)); have n3_ := Aside0.mk ((by rw [hg]; exact (below_size bq) : w.heap.size ≤ gb101)); clear HB; have HB := n0_; have BK101 := n1_; have GW101 := n2_; have GE101 := n3_; clear n0_ n1_ n2_ n3_; clear hb hbox hg) | ((with_reducible refine gate_dst (N := 3) rfl ?_); refine box_event ?hg (N := 3) ?hd (cs := #[.int .i64 a1_0, .slice A1_1 l1_1.length c1_1, .string a1_2]) (t := 29) ?hr ?_; (case hd => rfl); (case hg => rfl); (case hr => first | (go_simp; done) | (go_simp; rfl)); intro gb102 hg w8 hbox hb; have n0_ := Aside0.mk (blk_below (g := gb101) (o := .cells #[.int .i64 a0_0, .slice A0_1 l0_1.length c0_1, .string a0_2] 29 (0, 0)) (by (with_reducible repeat (first | refine blk_drewN ?_ _ | refine blk_drew ?_ | refine blk_alloc ?_ _)); exact BK101.out) hb); have n1_ := Aside0.mk (below_step (by repeat (first | (with_reducible first | exact HB.out | apply below_alloc | apply pw_below_drewN | apply below_drew1 | refine below_set ?_ GE101.out) | exact HB.out)) hb); have n2_ := Aside0.mk (hbox); have n3_ := Aside0.mk ((by rw [hg]; exact (below_size (by repeat (first | (with_reducible first | exact HB.out | apply below_alloc | apply pw_below_drewN | apply below_drew1 | refine below_set ?_ GE101.out) | exact HB.out))) : w.heap.size ≤ gb102)); have n4_ := Aside0.mk ((by rw [hg]; exact (below_size (by repeat (first | (with_reducible first | exact HB.out | apply below_alloc | apply pw_below_drewN | apply below_drew1 | refine below_set ?_ GE101.out) | exact HB.out))) : w.heap.size ≤ gb102)); have n5_ := Aside0.mk ((by rw [hg]; exact Nat.ne_of_lt (blk_lt (g := gb101) (o := .cells #[.int .i64 a0_0, .slice A0_1 l0_1.length c0_1, .string a0_2] 29 (0, 0)) (by (with_reducible repeat (first | refine blk_drewN ?_ _ | refine blk_drew ?_ | refine blk_alloc ?_ _)); exact BK101.out)) : gb101 ≠ gb102)); have n6_ := Aside0.mk ((by rw [hg]; exact Nat.ne_of_gt (blk_lt (g := gb101) (o := .cells #[.int .i64 a0_0, .slice A0_1 l0_1.length c0_1, .string a0_2] 29 (0, 0)) (by (with_reducible repeat (first | refine blk_drewN ?_ _ | refine blk_drew ?_ | refine blk_alloc ?_ _)); exact BK101.out)) : gb102 ≠ gb101)); clear BK101; clear HB; have BK101 := n0_; have HB := n1_; have BK102 := n2_; have GW102 := n3_; have GE102 := n4_; have NB101_102 := n5_; have NB102_101 := n6_; clear n0_ n1_ n2_ n3_ n4_ n5_ n6_; clear hb hbox hg; have hnb9 := NB101_102.out; have hnc9 := NB102_101.out; have hcz10_0 : w8.cell? ⟨gb101, 0, none⟩ = some (.int .i64 a0_0) := (blk_cell BK101.out 0).trans rfl; have hcz10_1 : w8.cell? ⟨gb101, 1, none⟩ = some (.slice A0_1 l0_1.length c0_1) := (blk_cell BK101.out 1).trans rfl; have hcz10_2 : w8.cell? ⟨gb101, 2, none⟩ = some (.string a0_2) := (blk_cell BK101.out 2).trans rfl; have hfz10_0 := blk_frozen BK101.out 0; have hfz10_1 := blk_frozen BK101.out 1; have hfz10_2 := blk_frozen BK101.out 2; have hcz11_0 : w8.cell? ⟨gb102, 0, none⟩ = some (.int .i64 a1_0) := (blk_cell BK102.out 0).trans rfl; have hcz11_1 : w8.cell? ⟨gb102, 1, none⟩ = some (.slice A1_1 l1_1.length c1_1) := (blk_cell BK102.out 1).trans rfl; have hcz11_2 : w8.cell? ⟨gb102, 2, none⟩ = some (.string a1_2) := (blk_cell BK102.out 2).trans rfl; have hfz11_0 := blk_frozen BK102.out 0; have hfz11_1 := blk_frozen BK102.out 1; have hfz11_2 := blk_frozen BK102.out 2) | ((with_reducible refine gate_callee (f := 53) rfl ?_); refine goesL_ (some 14) rfl rfl Tryz.func53 (by kernel_rfl) rfl #[.slice A0_1 l0_1.length c0_1, .slice A1_1 l1_1.length c1_1] rfl am ?_; (with_reducible refine (laws_eqFieldS.calls k _ _ l0_1 _ _ l1_1 true _ ?side1 ?side2 ?side3 ?side4 A4.out).mono ?_); (case side1 => repeat (first | exact (Kd.C_below HR0_1.out HB.out) | (with_reducible refine Kd.C_alloc ?_ _) | (with_reducible refine Kd.C_drewN ?_ _) | (with_reducible refine Kd.C_drew ?_))); (case side2 => exact HC0_1.out); (case side3 => repeat (first | exact (Kd.C_below HR1_1.out HB.out) | (with_reducible refine Kd.C_alloc ?_ _) | (with_reducible refine Kd.C_drewN ?_ _) | (with_reducible refine Kd.C_drew ?_))); (case side4 => exact HC1_1.out); rintro e w12 ⟨rfl, hb⟩; refine ⟨_, rfl, ?_⟩; have n0_ := Aside0.mk (blk_below (g := gb101) (o := .cells #[.int .i64 a0_0, .slice A0_1 l0_1.length c0_1, .string a0_2] 29 (0, 0)) (by (with_reducible repeat (first | refine blk_drewN ?_ _ | refine blk_drew ?_ | refine blk_alloc ?_ _)); exact BK101.out) hb); have n1_ := Aside0.mk (blk_below (g := gb102) (o := .cells #[.int .i64 a1_0, .slice A1_1 l1_1.length c1_1, .string a1_2] 29 (0, 0)) (by (with_reducible repeat (first | refine blk_drewN ?_ _ | refine blk_drew ?_ | refine blk_alloc ?_ _)); exact BK102.out) hb); have n2_ := Aside0.mk (below_step (by repeat (first | (with_reducible first | exact HB.out | apply below_alloc | apply pw_below_drewN | apply below_drew1 | refine below_set ?_ GE101.out | refine below_set ?_ GE102.out) | exact HB.out)) hb); clear BK101; clear BK102; clear HB; have BK101 := n0_; have BK102 := n1_; have HB := n2_; clear n0_ n1_ n2_; (try clear hb); (try clear hb2); (try clear hk); (try clear hi); have hcz13_0 : w12.cell? ⟨gb101, 0, none⟩ = some (.int .i64 a0_0) := (blk_cell BK101.out 0).trans rfl; have hcz13_1 : w12.cell? ⟨gb101, 1, none⟩ = some (.slice A0_1 l0_1.length c0_1) := (blk_cell BK101.out 1).trans rfl; have hcz13_2 : w12.cell? ⟨gb101, 2, none⟩ = some (.string a0_2) := (blk_cell BK101.out 2).trans rfl; have hfz13_0 := blk_frozen BK101.out 0; have hfz13_1 := blk_frozen BK101.out 1; have hfz13_2 := blk_frozen BK101.out 2; have hcz14_0 : w12.cell? ⟨gb102, 0, none⟩ = some (.int .i64 a1_0) := (blk_cell BK102.out 0).trans rfl; have hcz14_1 : w12.cell? ⟨gb102, 1, none⟩ = some (.slice A1_1 l1_1.length c1_1) := (blk_cell BK102.out 1).trans rfl; have hcz14_2 : w12.cell? ⟨gb102, 2, none⟩ = some (.string a1_2) := (blk_cell BK102.out 2).trans rfl; have hfz14_0 := blk_frozen BK102.out 0; have hfz14_1 := blk_frozen BK102.out 1; have hfz14_2 := blk_frozen BK102.out 2))
    go_ret
    exact ⟨by first | rfl | (simp [errW_none, errW_some] <;> rfl) | (simp [*, errW_none, errW_some] <;> rfl), by repeat (first | (with_reducible first | exact HB.out | apply below_alloc | apply pw_below_drewN | apply below_drew1 | refine below_set ?_ GE101.out | refine below_set ?_ GE102.out) | exact HB.out)⟩
   ·rw [if_neg c6] at H
    have c6b0 : (a0_2.toList == a1_2.toList) = false := beq_eq_false_iff_ne.mpr c6
    have c6b1 : (a0_2.toList != a1_2.toList) = true := bne_iff_ne.mpr c6
    obtain rfl := Option.some.inj H
    go_enter Tryz.func13, Tryz.ntmps13
    go_wp2_with (first | ((with_reducible refine gate_dst (N := 2) rfl ?_); refine box_event ?hg (N := 2) ?hd (cs := #[.int .i64 a0_0, .slice A0_1 l0_1.length c0_1, .string a0_2]) (t := 29) ?hr ?_; (case hd => rfl); (case hg => rfl); (case hr => first | (go_simp; done) | (go_simp; rfl)); intro gb101 hg w15 hbox hb; have n0_ := Aside0.mk (below_step bq hb); have n1_ := Aside0.mk (hbox); have n2_ := Aside0.mk ((by rw [hg]; exact (below_size bq) : w.heap.size ≤ gb101)); have n3_ := Aside0.mk ((by rw [hg]; exact (below_size bq) : w.heap.size ≤ gb101)); clear HB; have HB := n0_; have BK101 := n1_; have GW101 := n2_; have GE101 := n3_; clear n0_ n1_ n2_ n3_; clear hb hbox hg) | ((with_reducible refine gate_dst (N := 3) rfl ?_); refine box_event ?hg (N := 3) ?hd (cs := #[.int .i64 a1_0, .slice A1_1 l1_1.length c1_1, .string a1_2]) (t := 29) ?hr ?_; (case hd => rfl); (case hg => rfl); (case hr => first | (go_simp; done) | (go_simp; rfl)); intro gb102 hg w16 hbox hb; have n0_ := Aside0.mk (blk_below (g := gb101) (o := .cells #[.int .i64 a0_0, .slice A0_1 l0_1.length c0_1, .string a0_2] 29 (0, 0)) (by (with_reducible repeat (first | refine blk_drewN ?_ _ | refine blk_drew ?_ | refine blk_alloc ?_ _)); exact BK101.out) hb); have n1_ := Aside0.mk (below_step (by repeat (first | (with_reducible first | exact HB.out | apply below_alloc | apply pw_below_drewN | apply below_drew1 | refine below_set ?_ GE101.out) | exact HB.out)) hb); have n2_ := Aside0.mk (hbox); have n3_ := Aside0.mk ((by rw [hg]; exact (below_size (by repeat (first | (with_reducible first | exact HB.out | apply below_alloc | apply pw_below_drewN | apply below_drew1 | refine below_set ?_ GE101.out) | exact HB.out))) : w.heap.size ≤ gb102)); have n4_ := Aside0.mk ((by rw [hg]; exact (below_size (by repeat (first | (with_reducible first | exact HB.out | apply below_alloc | apply pw_below_drewN | apply below_drew1 | refine below_set ?_ GE101.out) | exact HB.out))) : w.heap.size ≤ gb102)); have n5_ := Aside0.mk ((by rw [hg]; exact Nat.ne_of_lt (blk_lt (g := gb101) (o := .cells #[.int .i64 a0_0, .slice A0_1 l0_1.length c0_1, .string a0_2] 29 (0, 0)) (by (with_reducible repeat (first | refine blk_drewN ?_ _ | refine blk_drew ?_ | refine blk_alloc ?_ _)); exact BK101.out)) : gb101 ≠ gb102)); have n6_ := Aside0.mk ((by rw [hg]; exact Nat.ne_of_gt (blk_lt (g := gb101) (o := .cells #[.int .i64 a0_0, .slice A0_1 l0_1.length c0_1, .string a0_2] 29 (0, 0)) (by (with_reducible repeat (first | refine blk_drewN ?_ _ | refine blk_drew ?_ | refine blk_alloc ?_ _)); exact BK101.out)) : gb102 ≠ gb101)); clear BK101; clear HB; have BK101 := n0_; have HB := n1_; have BK102 := n2_; have GW102 := n3_; have GE102 := n4_; have NB101_102 := n5_; have NB102_101 := n6_; clear n0_ n1_ n2_ n3_ n4_ n5_ n6_; clear hb hbox hg; have hnb17 := NB101_102.out; have hnc17 := NB102_101.out; have hcz18_0 : w16.cell? ⟨gb101, 0, none⟩ = some (.int .i64 a0_0) := (blk_cell BK101.out 0).trans rfl; have hcz18_1 : w16.cell? ⟨gb101, 1, none⟩ = some (.slice A0_1 l0_1.length c0_1) := (blk_cell BK101.out 1).trans rfl; have hcz18_2 : w16.cell? ⟨gb101, 2, none⟩ = some (.string a0_2) := (blk_cell BK101.out 2).trans rfl; have hfz18_0 := blk_frozen BK101.out 0; have hfz18_1 := blk_frozen BK101.out 1; have hfz18_2 := blk_frozen BK101.out 2; have hcz19_0 : w16.cell? ⟨gb102, 0, none⟩ = some (.int .i64 a1_0) := (blk_cell BK102.out 0).trans rfl; have hcz19_1 : w16.cell? ⟨gb102, 1, none⟩ = some (.slice A1_1 l1_1.length c1_1) := (blk_cell BK102.out 1).trans rfl; have hcz19_2 : w16.cell? ⟨gb102, 2, none⟩ = some (.string a1_2) := (blk_cell BK102.out 2).trans rfl; have hfz19_0 := blk_frozen BK102.out 0; have hfz19_1 := blk_frozen BK102.out 1; have hfz19_2 := blk_frozen BK102.out 2) | ((with_reducible refine gate_callee (f := 53) rfl ?_); refine goesL_ (some 14) rfl rfl Tryz.func53 (by kernel_rfl) rfl #[.slice A0_1 l0_1.length c0_1, .slice A1_1 l1_1.length c1_1] rfl am ?_; (with_reducible refine (laws_eqFieldS.calls k _ _ l0_1 _ _ l1_1 true _ ?side1 ?side2 ?side3 ?side4 A4.out).mono ?_); (case side1 => repeat (first | exact (Kd.C_below HR0_1.out HB.out) | (with_reducible refine Kd.C_alloc ?_ _) | (with_reducible refine Kd.C_drewN ?_ _) | (with_reducible refine Kd.C_drew ?_))); (case side2 => exact HC0_1.out); (case side3 => repeat (first | exact (Kd.C_below HR1_1.out HB.out) | (with_reducible refine Kd.C_alloc ?_ _) | (with_reducible refine Kd.C_drewN ?_ _) | (with_reducible refine Kd.C_drew ?_))); (case side4 => exact HC1_1.out); rintro e w20 ⟨rfl, hb⟩; refine ⟨_, rfl, ?_⟩; have n0_ := Aside0.mk (blk_below (g := gb101) (o := .cells #[.int .i64 a0_0, .slice A0_1 l0_1.length c0_1, .string a0_2] 29 (0, 0)) (by (with_reducible repeat (first | refine blk_drewN ?_ _ | refine blk_drew ?_ | refine blk_alloc ?_ _)); exact BK101.out) hb); have n1_ := Aside0.mk (blk_below (g := gb102) (o := .cells #[.int .i64 a1_0, .slice A1_1 l1_1.length c1_1, .string a1_2] 29 (0, 0)) (by (with_reducible repeat (first | refine blk_drewN ?_ _ | refine blk_drew ?_ | refine blk_alloc ?_ _)); exact BK102.out) hb); have n2_ := Aside0.mk (below_step (by repeat (first | (with_reducible first | exact HB.out | apply below_alloc | apply pw_below_drewN | apply below_drew1 | refine below_set ?_ GE101.out | refine below_set ?_ GE102.out) | exact HB.out)) hb); clear BK101; clear BK102; clear HB; have BK101 := n0_; have BK102 := n1_; have HB := n2_; clear n0_ n1_ n2_; (try clear hb); (try clear hb2); (try clear hk); (try clear hi); have hcz21_0 : w20.cell? ⟨gb101, 0, none⟩ = some (.int .i64 a0_0) := (blk_cell BK101.out 0).trans rfl; have hcz21_1 : w20.cell? ⟨gb101, 1, none⟩ = some (.slice A0_1 l0_1.length c0_1) := (blk_cell BK101.out 1).trans rfl; have hcz21_2 : w20.cell? ⟨gb101, 2, none⟩ = some (.string a0_2) := (blk_cell BK101.out 2).trans rfl; have hfz21_0 := blk_frozen BK101.out 0; have hfz21_1 := blk_frozen BK101.out 1; have hfz21_2 := blk_frozen BK101.out 2; have hcz22_0 : w20.cell? ⟨gb102, 0, none⟩ = some (.int .i64 a1_0) := (blk_cell BK102.out 0).trans rfl; have hcz22_1 : w20.cell? ⟨gb102, 1, none⟩ = some (.slice A1_1 l1_1.length c1_1) := (blk_cell BK102.out 1).trans rfl; have hcz22_2 : w20.cell? ⟨gb102, 2, none⟩ = some (.string a1_2) := (blk_cell BK102.out 2).trans rfl; have hfz22_0 := blk_frozen BK102.out 0; have hfz22_1 := blk_frozen BK102.out 1; have hfz22_2 := blk_frozen BK102.out 2))
    go_ret
    exact ⟨by first | rfl | (simp [errW_none, errW_some] <;> rfl) | (simp [*, errW_none, errW_some] <;> rfl), by repeat (first | (with_reducible first | exact HB.out | apply below_alloc | apply pw_below_drewN | apply below_drew1 | refine below_set ?_ GE101.out | refine below_set ?_ GE102.out) | exact HB.out)⟩
  ·replace c5 := Bool.eq_false_iff.mpr c5
   subst c5
   rw [if_neg (show ¬ (false = true) by decide)] at H
   obtain rfl := Option.some.inj H
   go_enter Tryz.func13, Tryz.ntmps13
   go_wp2_with (first | ((with_reducible refine gate_dst (N := 2) rfl ?_); refine box_event ?hg (N := 2) ?hd (cs := #[.int .i64 a0_0, .slice A0_1 l0_1.length c0_1, .string a0_2]) (t := 29) ?hr ?_; (case hd => rfl); (case hg => rfl); (case hr => first | (go_simp; done) | (go_simp; rfl)); intro gb101 hg w23 hbox hb; have n0_ := Aside0.mk (below_step bq hb); have n1_ := Aside0.mk (hbox); have n2_ := Aside0.mk ((by rw [hg]; exact (below_size bq) : w.heap.size ≤ gb101)); have n3_ := Aside0.mk ((by rw [hg]; exact (below_size bq) : w.heap.size ≤ gb101)); clear HB; have HB := n0_; have BK101 := n1_; have GW101 := n2_; have GE101 := n3_; clear n0_ n1_ n2_ n3_; clear hb hbox hg) | ((with_reducible refine gate_dst (N := 3) rfl ?_); refine box_event ?hg (N := 3) ?hd (cs := #[.int .i64 a1_0, .slice A1_1 l1_1.length c1_1, .string a1_2]) (t := 29) ?hr ?_; (case hd => rfl); (case hg => rfl); (case hr => first | (go_simp; done) | (go_simp; rfl)); intro gb102 hg w24 hbox hb; have n0_ := Aside0.mk (blk_below (g := gb101) (o := .cells #[.int .i64 a0_0, .slice A0_1 l0_1.length c0_1, .string a0_2] 29 (0, 0)) (by (with_reducible repeat (first | refine blk_drewN ?_ _ | refine blk_drew ?_ | refine blk_alloc ?_ _)); exact BK101.out) hb); have n1_ := Aside0.mk (below_step (by repeat (first | (with_reducible first | exact HB.out | apply below_alloc | apply pw_below_drewN | apply below_drew1 | refine below_set ?_ GE101.out) | exact HB.out)) hb); have n2_ := Aside0.mk (hbox); have n3_ := Aside0.mk ((by rw [hg]; exact (below_size (by repeat (first | (with_reducible first | exact HB.out | apply below_alloc | apply pw_below_drewN | apply below_drew1 | refine below_set ?_ GE101.out) | exact HB.out))) : w.heap.size ≤ gb102)); have n4_ := Aside0.mk ((by rw [hg]; exact (below_size (by repeat (first | (with_reducible first | exact HB.out | apply below_alloc | apply pw_below_drewN | apply below_drew1 | refine below_set ?_ GE101.out) | exact HB.out))) : w.heap.size ≤ gb102)); have n5_ := Aside0.mk ((by rw [hg]; exact Nat.ne_of_lt (blk_lt (g := gb101) (o := .cells #[.int .i64 a0_0, .slice A0_1 l0_1.length c0_1, .string a0_2] 29 (0, 0)) (by (with_reducible repeat (first | refine blk_drewN ?_ _ | refine blk_drew ?_ | refine blk_alloc ?_ _)); exact BK101.out)) : gb101 ≠ gb102)); have n6_ := Aside0.mk ((by rw [hg]; exact Nat.ne_of_gt (blk_lt (g := gb101) (o := .cells #[.int .i64 a0_0, .slice A0_1 l0_1.length c0_1, .string a0_2] 29 (0, 0)) (by (with_reducible repeat (first | refine blk_drewN ?_ _ | refine blk_drew ?_ | refine blk_alloc ?_ _)); exact BK101.out)) : gb102 ≠ gb101)); clear BK101; clear HB; have BK101 := n0_; have HB := n1_; have BK102 := n2_; have GW102 := n3_; have GE102 := n4_; have NB101_102 := n5_; have NB102_101 := n6_; clear n0_ n1_ n2_ n3_ n4_ n5_ n6_; clear hb hbox hg; have hnb25 := NB101_102.out; have hnc25 := NB102_101.out; have hcz26_0 : w24.cell? ⟨gb101, 0, none⟩ = some (.int .i64 a0_0) := (blk_cell BK101.out 0).trans rfl; have hcz26_1 : w24.cell? ⟨gb101, 1, none⟩ = some (.slice A0_1 l0_1.length c0_1) := (blk_cell BK101.out 1).trans rfl; have hcz26_2 : w24.cell? ⟨gb101, 2, none⟩ = some (.string a0_2) := (blk_cell BK101.out 2).trans rfl; have hfz26_0 := blk_frozen BK101.out 0; have hfz26_1 := blk_frozen BK101.out 1; have hfz26_2 := blk_frozen BK101.out 2; have hcz27_0 : w24.cell? ⟨gb102, 0, none⟩ = some (.int .i64 a1_0) := (blk_cell BK102.out 0).trans rfl; have hcz27_1 : w24.cell? ⟨gb102, 1, none⟩ = some (.slice A1_1 l1_1.length c1_1) := (blk_cell BK102.out 1).trans rfl; have hcz27_2 : w24.cell? ⟨gb102, 2, none⟩ = some (.string a1_2) := (blk_cell BK102.out 2).trans rfl; have hfz27_0 := blk_frozen BK102.out 0; have hfz27_1 := blk_frozen BK102.out 1; have hfz27_2 := blk_frozen BK102.out 2) | ((with_reducible refine gate_callee (f := 53) rfl ?_); refine goesL_ (some 14) rfl rfl Tryz.func53 (by kernel_rfl) rfl #[.slice A0_1 l0_1.length c0_1, .slice A1_1 l1_1.length c1_1] rfl am ?_; (with_reducible refine (laws_eqFieldS.calls k _ _ l0_1 _ _ l1_1 false _ ?side1 ?side2 ?side3 ?side4 A4.out).mono ?_); (case side1 => repeat (first | exact (Kd.C_below HR0_1.out HB.out) | (with_reducible refine Kd.C_alloc ?_ _) | (with_reducible refine Kd.C_drewN ?_ _) | (with_reducible refine Kd.C_drew ?_))); (case side2 => exact HC0_1.out); (case side3 => repeat (first | exact (Kd.C_below HR1_1.out HB.out) | (with_reducible refine Kd.C_alloc ?_ _) | (with_reducible refine Kd.C_drewN ?_ _) | (with_reducible refine Kd.C_drew ?_))); (case side4 => exact HC1_1.out); rintro e w28 ⟨rfl, hb⟩; refine ⟨_, rfl, ?_⟩; have n0_ := Aside0.mk (blk_below (g := gb101) (o := .cells #[.int .i64 a0_0, .slice A0_1 l0_1.length c0_1, .string a0_2] 29 (0, 0)) (by (with_reducible repeat (first | refine blk_drewN ?_ _ | refine blk_drew ?_ | refine blk_alloc ?_ _)); exact BK101.out) hb); have n1_ := Aside0.mk (blk_below (g := gb102) (o := .cells #[.int .i64 a1_0, .slice A1_1 l1_1.length c1_1, .string a1_2] 29 (0, 0)) (by (with_reducible repeat (first | refine blk_drewN ?_ _ | refine blk_drew ?_ | refine blk_alloc ?_ _)); exact BK102.out) hb); have n2_ := Aside0.mk (below_step (by repeat (first | (with_reducible first | exact HB.out | apply below_alloc | apply pw_below_drewN | apply below_drew1 | refine below_set ?_ GE101.out | refine below_set ?_ GE102.out) | exact HB.out)) hb); clear BK101; clear BK102; clear HB; have BK101 := n0_; have BK102 := n1_; have HB := n2_; clear n0_ n1_ n2_; (try clear hb); (try clear hb2); (try clear hk); (try clear hi)))
   go_ret
   exact ⟨by first | rfl | (simp [errW_none, errW_some] <;> rfl) | (simp [*, errW_none, errW_some] <;> rfl), by repeat (first | (with_reducible first | exact HB.out | apply below_alloc | apply pw_below_drewN | apply below_drew1 | refine below_set ?_ GE101.out | refine below_set ?_ GE102.out) | exact HB.out)⟩
 ·rw [if_neg c3] at H
  have c3b0 : (a0_0 == a1_0) = false := beq_eq_false_iff_ne.mpr c3
  have c3b1 : (a0_0 != a1_0) = true := bne_iff_ne.mpr c3
  obtain rfl := Option.some.inj H
  go_enter Tryz.func13, Tryz.ntmps13
  go_wp2_with (first | ((with_reducible refine gate_dst (N := 2) rfl ?_); refine box_event ?hg (N := 2) ?hd (cs := #[.int .i64 a0_0, .slice A0_1 l0_1.length c0_1, .string a0_2]) (t := 29) ?hr ?_; (case hd => rfl); (case hg => rfl); (case hr => first | (go_simp; done) | (go_simp; rfl)); intro gb101 hg w29 hbox hb; have n0_ := Aside0.mk (below_step bq hb); have n1_ := Aside0.mk (hbox); have n2_ := Aside0.mk ((by rw [hg]; exact (below_size bq) : w.heap.size ≤ gb101)); have n3_ := Aside0.mk ((by rw [hg]; exact (below_size bq) : w.heap.size ≤ gb101)); clear HB; have HB := n0_; have BK101 := n1_; have GW101 := n2_; have GE101 := n3_; clear n0_ n1_ n2_ n3_; clear hb hbox hg) | ((with_reducible refine gate_dst (N := 3) rfl ?_); refine box_event ?hg (N := 3) ?hd (cs := #[.int .i64 a1_0, .slice A1_1 l1_1.length c1_1, .string a1_2]) (t := 29) ?hr ?_; (case hd => rfl); (case hg => rfl); (case hr => first | (go_simp; done) | (go_simp; rfl)); intro gb102 hg w30 hbox hb; have n0_ := Aside0.mk (blk_below (g := gb101) (o := .cells #[.int .i64 a0_0, .slice A0_1 l0_1.length c0_1, .string a0_2] 29 (0, 0)) (by (with_reducible repeat (first | refine blk_drewN ?_ _ | refine blk_drew ?_ | refine blk_alloc ?_ _)); exact BK101.out) hb); have n1_ := Aside0.mk (below_step (by repeat (first | (with_reducible first | exact HB.out | apply below_alloc | apply pw_below_drewN | apply below_drew1 | refine below_set ?_ GE101.out) | exact HB.out)) hb); have n2_ := Aside0.mk (hbox); have n3_ := Aside0.mk ((by rw [hg]; exact (below_size (by repeat (first | (with_reducible first | exact HB.out | apply below_alloc | apply pw_below_drewN | apply below_drew1 | refine below_set ?_ GE101.out) | exact HB.out))) : w.heap.size ≤ gb102)); have n4_ := Aside0.mk ((by rw [hg]; exact (below_size (by repeat (first | (with_reducible first | exact HB.out | apply below_alloc | apply pw_below_drewN | apply below_drew1 | refine below_set ?_ GE101.out) | exact HB.out))) : w.heap.size ≤ gb102)); have n5_ := Aside0.mk ((by rw [hg]; exact Nat.ne_of_lt (blk_lt (g := gb101) (o := .cells #[.int .i64 a0_0, .slice A0_1 l0_1.length c0_1, .string a0_2] 29 (0, 0)) (by (with_reducible repeat (first | refine blk_drewN ?_ _ | refine blk_drew ?_ | refine blk_alloc ?_ _)); exact BK101.out)) : gb101 ≠ gb102)); have n6_ := Aside0.mk ((by rw [hg]; exact Nat.ne_of_gt (blk_lt (g := gb101) (o := .cells #[.int .i64 a0_0, .slice A0_1 l0_1.length c0_1, .string a0_2] 29 (0, 0)) (by (with_reducible repeat (first | refine blk_drewN ?_ _ | refine blk_drew ?_ | refine blk_alloc ?_ _)); exact BK101.out)) : gb102 ≠ gb101)); clear BK101; clear HB; have BK101 := n0_; have HB := n1_; have BK102 := n2_; have GW102 := n3_; have GE102 := n4_; have NB101_102 := n5_; have NB102_101 := n6_; clear n0_ n1_ n2_ n3_ n4_ n5_ n6_; clear hb hbox hg; have hnb31 := NB101_102.out; have hnc31 := NB102_101.out; have hcz32_0 : w30.cell? ⟨gb101, 0, none⟩ = some (.int .i64 a0_0) := (blk_cell BK101.out 0).trans rfl; have hcz32_1 : w30.cell? ⟨gb101, 1, none⟩ = some (.slice A0_1 l0_1.length c0_1) := (blk_cell BK101.out 1).trans rfl; have hcz32_2 : w30.cell? ⟨gb101, 2, none⟩ = some (.string a0_2) := (blk_cell BK101.out 2).trans rfl; have hfz32_0 := blk_frozen BK101.out 0; have hfz32_1 := blk_frozen BK101.out 1; have hfz32_2 := blk_frozen BK101.out 2; have hcz33_0 : w30.cell? ⟨gb102, 0, none⟩ = some (.int .i64 a1_0) := (blk_cell BK102.out 0).trans rfl; have hcz33_1 : w30.cell? ⟨gb102, 1, none⟩ = some (.slice A1_1 l1_1.length c1_1) := (blk_cell BK102.out 1).trans rfl; have hcz33_2 : w30.cell? ⟨gb102, 2, none⟩ = some (.string a1_2) := (blk_cell BK102.out 2).trans rfl; have hfz33_0 := blk_frozen BK102.out 0; have hfz33_1 := blk_frozen BK102.out 1; have hfz33_2 := blk_frozen BK102.out 2))
  go_ret
  exact ⟨by first | rfl | (simp [errW_none, errW_some] <;> rfl) | (simp [*, errW_none, errW_some] <;> rfl), by repeat (first | (with_reducible first | exact HB.out | apply below_alloc | apply pw_below_drewN | apply below_drew1 | refine below_set ?_ GE101.out | refine below_set ?_ GE102.out) | exact HB.out)⟩

end Go.Proofs.YtjldfmkpdkhnnaaGreatDoor.QL

namespace Go.Proofs.YtjldfmkpdkhnnaaGreatDoor.QL
open Go.RowKit Go.Proofs.YtjldfmkpdkhnnaaGreatDoorW.PrintWords Go.Proofs.YtjldfmkpdkhnnaaGreatDoorW.PrintLast Go.Proofs.YtjldfmkpdkhnnaaGreatDoorW.PrintMore Go.Proofs.YtjldfmkpdkhnnaaGreatDoor.Aux Go.Proofs.YtjldfmkpdkhnnaaGreatDoor.Dom Go.Proofs.YtjldfmkpdkhnnaaGreatDoor.Ext Go.Proofs.YtjldfmkpdkhnnaaGreatDoor.Glob
attribute [local go_sem] max2_int min2_int max_two min_two max_three min_three max_four min_four   -- for this text's walks alone

def spec_FieldGet.l0 : Nat → List (S99) → ByteArray → ByteArray → Bool → Int → Option (ByteArray × Bool)
 | 0, _, _, _, _, _ => none
 | k + 1, x0, x1, x6, x7, x8 => if x8 < (x0.length : Int) then (if 0 ≤ x8 then (if ((rd_T99 x0 x8).f0).toList = x1.toList then (if x7 = true then (if x6.size + 2 ≤ 9223372036854775807 then (if (x6 ++ (⟨#[44, 32]⟩ : ByteArray)).size + ((rd_T99 x0 x8).f1).size ≤ 9223372036854775807 then (spec_FieldGet.l0 k x0 x1 ((x6 ++ (⟨#[44, 32]⟩ : ByteArray)) ++ ((rd_T99 x0 x8).f1)) true (wrap64 (x8 + 1))) else (none)) else (none)) else (if x6.size + ((rd_T99 x0 x8).f1).size ≤ 9223372036854775807 then (spec_FieldGet.l0 k x0 x1 (x6 ++ ((rd_T99 x0 x8).f1)) true (wrap64 (x8 + 1))) else (none))) else (spec_FieldGet.l0 k x0 x1 x6 x7 (wrap64 (x8 + 1)))) else (none)) else (some (x6, x7))
def spec_FieldGet.f (k : Nat) (l0 : List (S99)) (a1 : ByteArray) : Option (ByteArray × Bool) := spec_FieldGet.l0 k l0 a1 (⟨#[]⟩ : ByteArray) false 0
theorem spec_FieldGet.mono_l : ∀ k, (∀ y0 y1 y2 y3 y4, LeO (spec_FieldGet.l0 k y0 y1 y2 y3 y4) (spec_FieldGet.l0 (k + 1) y0 y1 y2 y3 y4))
 | 0 => fun _ _ _ _ _ r h => by simp [spec_FieldGet.l0] at h
 | k + 1 => by
  have ih0 := spec_FieldGet.mono_l k
  ·intro y0 y1 y2 y3 y4
   unfold spec_FieldGet.l0
   repeat' first
   | (with_reducible exact ih0 _ _ _ _ _)
   | (with_reducible exact LeO.refl _)
   | (with_reducible exact LeO.none _)
   | (with_reducible refine LeO.ite ?_ ?_)
   | (with_reducible refine LeO.bind ?_ (fun _ => ?_))
   | exact ih0 _ _ _ _ _
   | exact LeO.none _
   | refine LeO.ite ?_ ?_
   | refine LeO.bind ?_ (fun _ => ?_)
theorem spec_FieldGet.mono : ∀ a0 a1 k, LeO (spec_FieldGet.f k a0 a1) (spec_FieldGet.f (k + 1) a0 a1) := by
 intro a0 a1 k
 have ih0 := spec_FieldGet.mono_l k
 unfold spec_FieldGet.f
 repeat' first
   | (with_reducible exact ih0 _ _ _ _ _)
   | (with_reducible exact LeO.refl _)
   | (with_reducible exact LeO.none _)
   | (with_reducible refine LeO.ite ?_ ?_)
   | (with_reducible refine LeO.bind ?_ (fun _ => ?_))
   | exact ih0 _ _ _ _ _
   | exact LeO.none _
   | refine LeO.ite ?_ ?_
   | refine LeO.bind ?_ (fun _ => ?_)
set_option maxHeartbeats 8000000 in
set_option maxRecDepth 100000 in
theorem spec_FieldGet.calls (k : Nat) (A0 : Option Addr) (c0 : Nat) (l0 : List (S99)) (a1 : ByteArray) (r1 : ByteArray) (r2 : Bool) (w : World) (hr0 : Kd.C k99 w A0 l0.length l0) (hc0 : l0.length ≤ c0) (h : spec_FieldGet.f k l0 a1 = some (r1, r2)) :
  Calls Tryz.prog 44 #[.slice A0 l0.length c0, .string a1] w fun e w' => e = .returned (.tuple #[.string r1, .bool r2]) ∧ Drawn0 w w' := by
 have HR0 := Aside0.mk hr0
 have HC0 := Aside0.mk hc0
 clear hr0 hc0
 have H : (spec_FieldGet.l0 k l0 a1 (⟨#[]⟩ : ByteArray) false 0) = some (r1, r2) := h
 clear h
 have H' := Aside0.mk H
 clear H
 go_enter Tryz.func44, Tryz.ntmps44
 go_wp2
 go_loopg [6, 7, 8] k (fun kq v6 v7 v8 w' => ∃ (x6_1 : ByteArray) (x7_1 : Bool) (x8_1 : Int), v6 = .string x6_1 ∧ v7 = .bool x7_1 ∧ v8 = .int .i64 x8_1 ∧ Aside0 (spec_FieldGet.l0 kq l0 a1 x6_1 x7_1 x8_1 = some (r1, r2)) ∧ Aside0 (kq ≤ k) ∧ Drawn0 w w')
 case atStart => exact ⟨((⟨#[]⟩ : ByteArray)), (false), (0), (by first | rfl | (simp; done) | (simp [*]; done)), (by first | rfl | (simp; done) | (simp [*]; done)), (by first | rfl | (simp; done) | (simp [*]; done)), H', ⟨Nat.le_refl _⟩, by repeat (first | exact Drawn0.refl _ | apply Drawn0.step)⟩
 case round =>
  clear H'
  try clear p2
  obtain ⟨x6_1, x7_1, x8_1, rfl, rfl, rfl, HA, HK1, ⟨m1, rfl⟩⟩ := hrel
  cases gk with
  | zero => exact absurd HA.out (by simp [spec_FieldGet.l0])
  | succ k1 =>
   have H := HA.out
   clear HA
   simp only [spec_FieldGet.l0] at H
   by_cases c3 : x8_1 < (l0.length : Int)
   ·rw [if_pos c3] at H
    have c3b0 : decide (x8_1 < (l0.length : Int)) = true := decide_eq_true c3
    clear c3
    by_cases c4 : 0 ≤ x8_1
    ·rw [if_pos c4] at H
     have c4b0 : decide (0 ≤ x8_1) = true := decide_eq_true c4
     clear c4
     by_cases c5 : ((rd_T99 l0 x8_1).f0).toList = a1.toList
     ·rw [if_pos c5] at H
      have c5b0 : (((rd_T99 l0 x8_1).f0).toList == a1.toList) = true := beq_iff_eq.mpr c5
      have c5b1 : (((rd_T99 l0 x8_1).f0).toList != a1.toList) = false := bne_eq_false_iff_eq.mpr c5
      clear c5
      by_cases c6 : x7_1 = true
      ·subst c6
       rw [if_pos rfl] at H
       by_cases c7 : x6_1.size + 2 ≤ 9223372036854775807
       ·rw [if_pos c7] at H
        have c7b0 := eq_true c7
        have c7b1 : decide (x6_1.size + 2 ≤ 9223372036854775807) = true := decide_eq_true c7
        try have c7b2 : (9223372036854775807 < x6_1.size + 2) = False := eq_false (Nat.not_lt.2 c7)
        by_cases c8 : (x6_1 ++ (⟨#[44, 32]⟩ : ByteArray)).size + ((rd_T99 l0 x8_1).f1).size ≤ 9223372036854775807
        ·rw [if_pos c8] at H
         have c8b0 := eq_true c8
         have c8b1 : decide ((x6_1 ++ (⟨#[44, 32]⟩ : ByteArray)).size + ((rd_T99 l0 x8_1).f1).size ≤ 9223372036854775807) = true := decide_eq_true c8
         try have c8b2 : (9223372036854775807 < (x6_1 ++ (⟨#[44, 32]⟩ : ByteArray)).size + ((rd_T99 l0 x8_1).f1).size) = False := eq_false (Nat.not_lt.2 c8)
         try have c8b3 : (9223372036854775807 < (x6_1).size + 2 + ((rd_T99 l0 x8_1).f1).size) = False := eq_false (Nat.not_lt.2 (by have h_ := c8; simp only [ByteArray.size_append] at h_; exact h_))
         have H' := Aside0.mk H
         clear H
         have p101 : 0 ≤ (x8_1 : Int) := of_decide_eq_true asm
         have q101 : x8_1 < (l0.length : Int) := of_decide_eq_true asm
         obtain ⟨ad101, e101, hx101_0, hx101_1⟩ := at_T99 HR0.out x8_1 p101 q101
         cases e101
         replace p101 := eq_true p101
         replace q101 := eq_true q101
         have p102 : 0 ≤ (x8_1 : Int) := of_decide_eq_true asm
         have q102 : x8_1 < (l0.length : Int) := of_decide_eq_true asm
         obtain ⟨ad102, e102, hx102_0, hx102_1⟩ := at_T99 HR0.out x8_1 p102 q102
         obtain rfl : ad101 = ad102 := (by injection e102)
         replace p102 := eq_true p102
         replace q102 := eq_true q102
         go_wp2
         go_roundg k1
         case measure => have := HK1.out; omega
         case rel => exact ⟨((x6_1 ++ (⟨#[44, 32]⟩ : ByteArray)) ++ ((rd_T99 l0 x8_1).f1)), (true), (wrap64 (x8_1 + 1)), (by first | rfl | (simp; done) | (simp [*]; done)), (by first | rfl | (simp; done) | (simp [*]; done)), (by first | rfl | (simp; done) | (simp [*]; done)), H', ⟨by have := HK1.out; omega⟩, by repeat (first | exact Drawn0.refl _ | apply Drawn0.step)⟩
        ·rw [if_neg c8] at H
         exact absurd H (by simp)
       ·rw [if_neg c7] at H
        exact absurd H (by simp)
      ·replace c6 := Bool.eq_false_iff.mpr c6
       subst c6
       rw [if_neg (show ¬ (false = true) by decide)] at H
       by_cases c9 : x6_1.size + ((rd_T99 l0 x8_1).f1).size ≤ 9223372036854775807
       ·rw [if_pos c9] at H
        have c9b0 := eq_true c9
        have c9b1 : decide (x6_1.size + ((rd_T99 l0 x8_1).f1).size ≤ 9223372036854775807) = true := decide_eq_true c9
        try have c9b2 : (9223372036854775807 < x6_1.size + ((rd_T99 l0 x8_1).f1).size) = False := eq_false (Nat.not_lt.2 c9)
        have H' := Aside0.mk H
        clear H
        have p101 : 0 ≤ (x8_1 : Int) := of_decide_eq_true asm
        have q101 : x8_1 < (l0.length : Int) := of_decide_eq_true asm
        obtain ⟨ad101, e101, hx101_0, hx101_1⟩ := at_T99 HR0.out x8_1 p101 q101
        cases e101
        replace p101 := eq_true p101
        replace q101 := eq_true q101
        have p103 : 0 ≤ (x8_1 : Int) := of_decide_eq_true asm
        have q103 : x8_1 < (l0.length : Int) := of_decide_eq_true asm
        obtain ⟨ad103, e103, hx103_0, hx103_1⟩ := at_T99 HR0.out x8_1 p103 q103
        obtain rfl : ad101 = ad103 := (by injection e103)
        replace p103 := eq_true p103
        replace q103 := eq_true q103
        go_wp2
        go_roundg k1
        case measure => have := HK1.out; omega
        case rel => exact ⟨(x6_1 ++ ((rd_T99 l0 x8_1).f1)), (true), (wrap64 (x8_1 + 1)), (by first | rfl | (simp; done) | (simp [*]; done)), (by first | rfl | (simp; done) | (simp [*]; done)), (by first | rfl | (simp; done) | (simp [*]; done)), H', ⟨by have := HK1.out; omega⟩, by repeat (first | exact Drawn0.refl _ | apply Drawn0.step)⟩
       ·rw [if_neg c9] at H
        exact absurd H (by simp)
     ·rw [if_neg c5] at H
      have c5b0 : (((rd_T99 l0 x8_1).f0).toList == a1.toList) = false := beq_eq_false_iff_ne.mpr c5
      have c5b1 : (((rd_T99 l0 x8_1).f0).toList != a1.toList) = true := bne_iff_ne.mpr c5
      have H' := Aside0.mk H
      clear H
      have p101 : 0 ≤ (x8_1 : Int) := of_decide_eq_true asm
      have q101 : x8_1 < (l0.length : Int) := of_decide_eq_true asm
      obtain ⟨ad101, e101, hx101_0, hx101_1⟩ := at_T99 HR0.out x8_1 p101 q101
      cases e101
      replace p101 := eq_true p101
      replace q101 := eq_true q101
      go_wp2
      go_roundg k1
      case measure => have := HK1.out; omega
      case rel => exact ⟨(x6_1), (x7_1), (wrap64 (x8_1 + 1)), (by first | rfl | (simp; done) | (simp [*]; done)), (by first | rfl | (simp; done) | (simp [*]; done)), (by first | rfl | (simp; done) | (simp [*]; done)), H', ⟨by have := HK1.out; omega⟩, by repeat (first | exact Drawn0.refl _ | apply Drawn0.step)⟩
    ·rw [if_neg c4] at H
     exact absurd H (by simp)
   ·rw [if_neg c3] at H
    have c3b0 : decide (x8_1 < (l0.length : Int)) = false := decide_eq_false c3
    clear c3
    simp only [Option.some.injEq, Prod.mk.injEq] at H
    obtain ⟨rfl, rfl⟩ := H
    go_wp2
    go_ret2
    exact ⟨by first | rfl | (simp; done) | (simp [*]; done) | (simp; generalize ByteArray.toList _ = L_; cases L_ <;> rfl), by repeat (first | exact Drawn0.refl _ | apply Drawn0.step)⟩

end Go.Proofs.YtjldfmkpdkhnnaaGreatDoor.QL

namespace Go.Proofs.YtjldfmkpdkhnnaaGreatDoor.QL
open Go.RowKit Go.Proofs.YtjldfmkpdkhnnaaGreatDoorW.PrintWords Go.Proofs.YtjldfmkpdkhnnaaGreatDoorW.PrintLast Go.Proofs.YtjldfmkpdkhnnaaGreatDoorW.PrintMore Go.Proofs.YtjldfmkpdkhnnaaGreatDoor.Aux Go.Proofs.YtjldfmkpdkhnnaaGreatDoor.Dom Go.Proofs.YtjldfmkpdkhnnaaGreatDoor.Ext Go.Proofs.YtjldfmkpdkhnnaaGreatDoor.Glob
attribute [local go_sem] max2_int min2_int max_two min_two max_three min_three max_four min_four   -- for this text's walks alone

def spec_l1In.f (a0 : Int) (a1 : Int) (a2 : Int) : Option (Bool) := if a0 ≥ a1 then (some (decide (a0 ≤ a2))) else (some false)
set_option maxHeartbeats 8000000 in
set_option maxRecDepth 100000 in
theorem spec_l1In.calls (a0 : Int) (a1 : Int) (a2 : Int) (r : Bool) (w : World) (h : spec_l1In.f a0 a1 a2 = some r) :
  Calls Tryz.prog 86 #[.int .i64 a0, .int .i64 a1, .int .i64 a2] w fun e w' => e = .returned (.bool r) ∧ Drawn0 w w' := by
 have H : (if a0 ≥ a1 then (some (decide (a0 ≤ a2))) else (some false)) = some r := h
 clear h
 by_cases c4 : a0 ≥ a1
 ·rw [if_pos c4] at H
  have c4b0 : decide (a1 ≤ a0) = true := decide_eq_true c4
  clear c4
  obtain rfl := Option.some.inj H
  go_enter Tryz.func86, Tryz.ntmps86
  go_wp2
  go_ret
  exact ⟨by first | rfl | (simp; done) | (simp [*]; done) | (simp; generalize ByteArray.toList _ = L_; cases L_ <;> rfl), by repeat (first | exact Drawn0.refl _ | apply Drawn0.step)⟩
 ·rw [if_neg c4] at H
  have c4b0 : decide (a1 ≤ a0) = false := decide_eq_false c4
  clear c4
  obtain rfl := Option.some.inj H
  go_enter Tryz.func86, Tryz.ntmps86
  go_wp2
  go_ret
  exact ⟨by first | rfl | (simp; done) | (simp [*]; done) | (simp; generalize ByteArray.toList _ = L_; cases L_ <;> rfl), by repeat (first | exact Drawn0.refl _ | apply Drawn0.step)⟩

end Go.Proofs.YtjldfmkpdkhnnaaGreatDoor.QL

namespace Go.Proofs.YtjldfmkpdkhnnaaGreatDoor.QL
open Go.RowKit Go.Proofs.YtjldfmkpdkhnnaaGreatDoorW.PrintWords Go.Proofs.YtjldfmkpdkhnnaaGreatDoorW.PrintLast Go.Proofs.YtjldfmkpdkhnnaaGreatDoorW.PrintMore Go.Proofs.YtjldfmkpdkhnnaaGreatDoor.Aux Go.Proofs.YtjldfmkpdkhnnaaGreatDoor.Dom Go.Proofs.YtjldfmkpdkhnnaaGreatDoor.Ext Go.Proofs.YtjldfmkpdkhnnaaGreatDoor.Glob
attribute [local go_sem] max2_int min2_int max_two min_two max_three min_three max_four min_four   -- for this text's walks alone

def spec_IsLeap.f (a0 : Int) : Option (Bool) := if (Int.tmod a0 4) = 0 then (if (Int.tmod a0 100) = 0 then (some ((Int.tmod a0 400) == 0)) else (some true)) else (some false)
set_option maxHeartbeats 8000000 in
set_option maxRecDepth 100000 in
theorem spec_IsLeap.calls (a0 : Int) (r : Bool) (w : World) (h : spec_IsLeap.f a0 = some r) :
  Calls Tryz.prog 169 #[.int .i64 a0] w fun e w' => e = .returned (.bool r) ∧ Drawn0 w w' := by
 have H : (if (Int.tmod a0 4) = 0 then (if (Int.tmod a0 100) = 0 then (some ((Int.tmod a0 400) == 0)) else (some true)) else (some false)) = some r := h
 clear h
 by_cases c2 : (Int.tmod a0 4) = 0
 ·rw [if_pos c2] at H
  have c2b0 : ((Int.tmod a0 4) == 0) = true := beq_iff_eq.mpr c2
  have c2b1 : ((Int.tmod a0 4) != 0) = false := bne_eq_false_iff_eq.mpr c2
  clear c2
  by_cases c3 : (Int.tmod a0 100) = 0
  ·rw [if_pos c3] at H
   have c3b0 : ((Int.tmod a0 100) == 0) = true := beq_iff_eq.mpr c3
   have c3b1 : ((Int.tmod a0 100) != 0) = false := bne_eq_false_iff_eq.mpr c3
   clear c3
   obtain rfl := Option.some.inj H
   go_enter Tryz.func169, Tryz.ntmps169
   go_wp2
   go_ret
   exact ⟨by first | rfl | (simp; done) | (simp [*]; done) | (simp; generalize ByteArray.toList _ = L_; cases L_ <;> rfl), by repeat (first | exact Drawn0.refl _ | apply Drawn0.step)⟩
  ·rw [if_neg c3] at H
   have c3b0 : ((Int.tmod a0 100) == 0) = false := beq_eq_false_iff_ne.mpr c3
   have c3b1 : ((Int.tmod a0 100) != 0) = true := bne_iff_ne.mpr c3
   obtain rfl := Option.some.inj H
   go_enter Tryz.func169, Tryz.ntmps169
   go_wp2
   go_ret
   exact ⟨by first | rfl | (simp; done) | (simp [*]; done) | (simp; generalize ByteArray.toList _ = L_; cases L_ <;> rfl), by repeat (first | exact Drawn0.refl _ | apply Drawn0.step)⟩
 ·rw [if_neg c2] at H
  have c2b0 : ((Int.tmod a0 4) == 0) = false := beq_eq_false_iff_ne.mpr c2
  have c2b1 : ((Int.tmod a0 4) != 0) = true := bne_iff_ne.mpr c2
  obtain rfl := Option.some.inj H
  go_enter Tryz.func169, Tryz.ntmps169
  go_wp2
  go_ret
  exact ⟨by first | rfl | (simp; done) | (simp [*]; done) | (simp; generalize ByteArray.toList _ = L_; cases L_ <;> rfl), by repeat (first | exact Drawn0.refl _ | apply Drawn0.step)⟩

end Go.Proofs.YtjldfmkpdkhnnaaGreatDoor.QL

namespace Go.Proofs.YtjldfmkpdkhnnaaGreatDoor.QL
open Go.RowKit Go.Proofs.YtjldfmkpdkhnnaaGreatDoorW.PrintWords Go.Proofs.YtjldfmkpdkhnnaaGreatDoorW.PrintLast Go.Proofs.YtjldfmkpdkhnnaaGreatDoorW.PrintMore Go.Proofs.YtjldfmkpdkhnnaaGreatDoor.Aux Go.Proofs.YtjldfmkpdkhnnaaGreatDoor.Dom Go.Proofs.YtjldfmkpdkhnnaaGreatDoor.Ext Go.Proofs.YtjldfmkpdkhnnaaGreatDoor.Glob
attribute [local go_sem] max2_int min2_int max_two min_two max_three min_three max_four min_four   -- for this text's walks alone

def spec_l4Months.f (a0 : Int) : Option (List Int) := (spec_IsLeap.f a0).bind fun t101 => (if t101 = true then (some (([31, 29, 31, 30, 31, 30, 31, 31, 30, 31, 30, 31] : List Int))) else (some (([31, 28, 31, 30, 31, 30, 31, 31, 30, 31, 30, 31] : List Int))))
set_option maxHeartbeats 8000000 in
set_option maxRecDepth 100000 in
theorem spec_l4Months.calls (a0 : Int) (r : List Int) (w : World) (h : spec_l4Months.f a0 = some r) :
  Calls Tryz.prog 168 #[.int .i64 a0] w fun e w' => ∃ v0_ : Value, e = .returned (v0_) ∧ Kd.R (Kd.int .i64) 3 w' w.heap.size (fun _ => True) v0_ r ∧ Below w.heap.size w w' := by
 have HB := Aside0.mk (Below.refl w.heap.size w)
 have H : ((spec_IsLeap.f a0).bind fun t101 => (if t101 = true then (some (([31, 29, 31, 30, 31, 30, 31, 31, 30, 31, 30, 31] : List Int))) else (some (([31, 28, 31, 30, 31, 30, 31, 31, 30, 31, 30, 31] : List Int))))) = some r := h
 clear h
 replace H := Option.bind_eq_some_iff.mp H
 obtain ⟨t101, A20, H⟩ := H
 try dsimp only at H
 have A2 := Aside0.mk A20
 clear A20
 by_cases c3 : t101 = true
 ·subst c3
  rw [if_pos rfl] at H
  obtain ⟨y102, hy102⟩ : ∃ y_ : List Int, y_ = (([31, 29, 31, 30, 31, 30, 31, 31, 30, 31, 30, 31] : List Int)) := ⟨_, rfl⟩
  replace H : (some y102) = some r := by first | (rw [hy102]; with_reducible exact H) | (have H2_ := (Option.bind_some _ _).symm.trans H; rw [hy102]; with_reducible exact H2_) | (have H2_ := (Option.bind_some _ _).symm.trans H; with_reducible exact H2_) | with_reducible exact H | (rw [hy102]; exact H) | exact H
  have Ny102 := Aside0.mk hy102
  clear hy102
  obtain rfl := Option.some.inj H
  go_enter Tryz.func168, Tryz.ntmps168
  go_wp2_with (first | ((with_reducible refine gate_callee (f := 169) rfl ?_); refine goesL_ (some 5) rfl rfl Tryz.func169 (by kernel_rfl) rfl #[.int .i64 a0] rfl am ?_; (with_reducible refine (spec_IsLeap.calls a0 true _ A2.out).mono ?_); rintro e w' ⟨rfl, ⟨nd, rfl⟩⟩; refine ⟨_, rfl, ?_⟩) | ((with_reducible refine gate_dst (N := 7) rfl ?_); refine Kd.R_lit (Kd.int .i64) _ 3 ?hg (N := 7) ?hd (xs := ([31, 29, 31, 30, 31, 30, 31, 31, 30, 31, 30, 31] : List Int)) (inner := [.int .i64 31, .int .i64 29, .int .i64 31, .int .i64 30, .int .i64 31, .int .i64 30, .int .i64 31, .int .i64 31, .int .i64 30, .int .i64 31, .int .i64 30, .int .i64 31]) (ok := fun _ => True) (okp := fun _ => True) ?hr ?hp (fun _ hk => hk) trivial (Below.refl _ _) (Nat.le_refl _) (by simp) ?_; (case hd => rfl); (case hg => rfl); (case hr => first | (go_simp; done) | (go_simp; rfl)); (case hp => exact (Reps.one (show Kd.M (Kd.int .i64) _ _ _ 31 [.int .i64 31] from rfl) (Reps.one (show Kd.M (Kd.int .i64) _ _ _ 29 [.int .i64 29] from rfl) (Reps.one (show Kd.M (Kd.int .i64) _ _ _ 31 [.int .i64 31] from rfl) (Reps.one (show Kd.M (Kd.int .i64) _ _ _ 30 [.int .i64 30] from rfl) (Reps.one (show Kd.M (Kd.int .i64) _ _ _ 31 [.int .i64 31] from rfl) (Reps.one (show Kd.M (Kd.int .i64) _ _ _ 30 [.int .i64 30] from rfl) (Reps.one (show Kd.M (Kd.int .i64) _ _ _ 31 [.int .i64 31] from rfl) (Reps.one (show Kd.M (Kd.int .i64) _ _ _ 31 [.int .i64 31] from rfl) (Reps.one (show Kd.M (Kd.int .i64) _ _ _ 30 [.int .i64 30] from rfl) (Reps.one (show Kd.M (Kd.int .i64) _ _ _ 31 [.int .i64 31] from rfl) (Reps.one (show Kd.M (Kd.int .i64) _ _ _ 30 [.int .i64 30] from rfl) (Reps.one (show Kd.M (Kd.int .i64) _ _ _ 31 [.int .i64 31] from rfl) (Reps.none _ _)))))))))))))); intro v103 w4 ho5 hb hg_ hnew_; clear hg_ hnew_; (first | rw [← Ny102.out] at ho5 | (simp only [Int.reduceToNat] at ho5; rw [← Ny102.out] at ho5)); have n0_ := Aside0.mk (Kd.R_lower ho5 (below_size bq)); have n1_ := Aside0.mk (below_step bq hb); clear HB; have HO104 := n0_; have HB := n1_; clear n0_ n1_; clear hb ho5))
  go_ret
  exact ⟨_, by first | rfl | (simp [errW_none, errW_some] <;> rfl) | (simp [*, errW_none, errW_some] <;> rfl), by (with_reducible repeat (first | apply Kd.R_alloc | apply Kd.R_drewN | apply Kd.R_drew)); exact HO104.out, bq⟩
 ·replace c3 := Bool.eq_false_iff.mpr c3
  subst c3
  rw [if_neg (show ¬ (false = true) by decide)] at H
  obtain ⟨y105, hy105⟩ : ∃ y_ : List Int, y_ = (([31, 28, 31, 30, 31, 30, 31, 31, 30, 31, 30, 31] : List Int)) := ⟨_, rfl⟩
  replace H : (some y105) = some r := by first | (rw [hy105]; with_reducible exact H) | (have H2_ := (Option.bind_some _ _).symm.trans H; rw [hy105]; with_reducible exact H2_) | (have H2_ := (Option.bind_some _ _).symm.trans H; with_reducible exact H2_) | with_reducible exact H | (rw [hy105]; exact H) | exact H
  have Ny105 := Aside0.mk hy105
  clear hy105
  obtain rfl := Option.some.inj H
  go_enter Tryz.func168, Tryz.ntmps168
  go_wp2_with (first | ((with_reducible refine gate_callee (f := 169) rfl ?_); refine goesL_ (some 5) rfl rfl Tryz.func169 (by kernel_rfl) rfl #[.int .i64 a0] rfl am ?_; (with_reducible refine (spec_IsLeap.calls a0 false _ A2.out).mono ?_); rintro e w' ⟨rfl, ⟨nd, rfl⟩⟩; refine ⟨_, rfl, ?_⟩) | ((with_reducible refine gate_dst (N := 7) rfl ?_); refine Kd.R_lit (Kd.int .i64) _ 3 ?hg (N := 7) ?hd (xs := ([31, 28, 31, 30, 31, 30, 31, 31, 30, 31, 30, 31] : List Int)) (inner := [.int .i64 31, .int .i64 28, .int .i64 31, .int .i64 30, .int .i64 31, .int .i64 30, .int .i64 31, .int .i64 31, .int .i64 30, .int .i64 31, .int .i64 30, .int .i64 31]) (ok := fun _ => True) (okp := fun _ => True) ?hr ?hp (fun _ hk => hk) trivial (Below.refl _ _) (Nat.le_refl _) (by simp) ?_; (case hd => rfl); (case hg => rfl); (case hr => first | (go_simp; done) | (go_simp; rfl)); (case hp => exact (Reps.one (show Kd.M (Kd.int .i64) _ _ _ 31 [.int .i64 31] from rfl) (Reps.one (show Kd.M (Kd.int .i64) _ _ _ 28 [.int .i64 28] from rfl) (Reps.one (show Kd.M (Kd.int .i64) _ _ _ 31 [.int .i64 31] from rfl) (Reps.one (show Kd.M (Kd.int .i64) _ _ _ 30 [.int .i64 30] from rfl) (Reps.one (show Kd.M (Kd.int .i64) _ _ _ 31 [.int .i64 31] from rfl) (Reps.one (show Kd.M (Kd.int .i64) _ _ _ 30 [.int .i64 30] from rfl) (Reps.one (show Kd.M (Kd.int .i64) _ _ _ 31 [.int .i64 31] from rfl) (Reps.one (show Kd.M (Kd.int .i64) _ _ _ 31 [.int .i64 31] from rfl) (Reps.one (show Kd.M (Kd.int .i64) _ _ _ 30 [.int .i64 30] from rfl) (Reps.one (show Kd.M (Kd.int .i64) _ _ _ 31 [.int .i64 31] from rfl) (Reps.one (show Kd.M (Kd.int .i64) _ _ _ 30 [.int .i64 30] from rfl) (Reps.one (show Kd.M (Kd.int .i64) _ _ _ 31 [.int .i64 31] from rfl) (Reps.none _ _)))))))))))))); intro v106 w6 ho7 hb hg_ hnew_; clear hg_ hnew_; (first | rw [← Ny105.out] at ho7 | (simp only [Int.reduceToNat] at ho7; rw [← Ny105.out] at ho7)); have n0_ := Aside0.mk (Kd.R_lower ho7 (below_size bq)); have n1_ := Aside0.mk (below_step bq hb); clear HB; have HO107 := n0_; have HB := n1_; clear n0_ n1_; clear hb ho7))
  go_ret
  exact ⟨_, by first | rfl | (simp [errW_none, errW_some] <;> rfl) | (simp [*, errW_none, errW_some] <;> rfl), by (with_reducible repeat (first | apply Kd.R_alloc | apply Kd.R_drewN | apply Kd.R_drew)); exact HO107.out, bq⟩

end Go.Proofs.YtjldfmkpdkhnnaaGreatDoor.QL

namespace Go.Proofs.YtjldfmkpdkhnnaaGreatDoor.QL
open Go.RowKit Go.Proofs.YtjldfmkpdkhnnaaGreatDoorW.PrintWords Go.Proofs.YtjldfmkpdkhnnaaGreatDoorW.PrintLast Go.Proofs.YtjldfmkpdkhnnaaGreatDoorW.PrintMore Go.Proofs.YtjldfmkpdkhnnaaGreatDoor.Aux Go.Proofs.YtjldfmkpdkhnnaaGreatDoor.Dom Go.Proofs.YtjldfmkpdkhnnaaGreatDoor.Ext Go.Proofs.YtjldfmkpdkhnnaaGreatDoor.Glob
attribute [local go_sem] max2_int min2_int max_two min_two max_three min_three max_four min_four   -- for this text's walks alone

mutual
def spec_DaysOf.j0 : Nat → Int → Int → Int → Bool → Option (Int)
 | 0, _, _, _, _ => none
 | k + 1, x0, x1, x2, x28 => if x28 = true then (some (-1)) else (spec_DaysOf.l0 k x0 x1 (wrap64 (x2 - 1)) 1970)
def spec_DaysOf.l0 : Nat → Int → Int → Int → Int → Option (Int)
 | 0, _, _, _, _ => none
 | k + 1, x0, x1, x7, x8 => if x8 < x0 then ((spec_IsLeap.f x8).bind fun t108 => (if t108 = true then (spec_DaysOf.l0 k x0 x1 (wrap64 ((wrap64 (x7 + 365)) + 1)) (wrap64 (x8 + 1))) else (spec_DaysOf.l0 k x0 x1 (wrap64 (x7 + 365)) (wrap64 (x8 + 1))))) else (spec_DaysOf.l1 k x0 x1 x7 1)
def spec_DaysOf.l1 : Nat → Int → Int → Int → Int → Option (Int)
 | 0, _, _, _, _ => none
 | k + 1, x0, x1, x7, x9 => if x9 < x1 then ((spec_l4Months.f x0).bind fun t109 => (if 0 ≤ (wrap64 (x9 - 1)) then (if (wrap64 (x9 - 1)) < (t109.length : Int) then (spec_DaysOf.l1 k x0 x1 (wrap64 (x7 + (rd t109 (wrap64 (x9 - 1))))) (wrap64 (x9 + 1))) else (none)) else (none))) else (some x7)
end
def spec_DaysOf.f (k : Nat) (a0 : Int) (a1 : Int) (a2 : Int) : Option (Int) := (spec_l1In.f a0 1970 2037).bind fun t101 => (if t101 = true then ((spec_l1In.f a1 1 12).bind fun t102 => (if t102 = true then ((spec_l4Months.f a0).bind fun t103 => (if 0 ≤ (wrap64 (a1 - 1)) then (if (wrap64 (a1 - 1)) < (t103.length : Int) then ((spec_l1In.f a2 1 (rd t103 (wrap64 (a1 - 1)))).bind fun t107 => (spec_DaysOf.j0 k a0 a1 a2 (!t107))) else (none)) else (none))) else (spec_DaysOf.j0 k a0 a1 a2 true))) else (spec_DaysOf.j0 k a0 a1 a2 true))
theorem spec_DaysOf.mono_l : ∀ k, (∀ y0 y1 y2 y3, LeO (spec_DaysOf.j0 k y0 y1 y2 y3) (spec_DaysOf.j0 (k + 1) y0 y1 y2 y3)) ∧ (∀ y0 y1 y2 y3, LeO (spec_DaysOf.l0 k y0 y1 y2 y3) (spec_DaysOf.l0 (k + 1) y0 y1 y2 y3)) ∧ (∀ y0 y1 y2 y3, LeO (spec_DaysOf.l1 k y0 y1 y2 y3) (spec_DaysOf.l1 (k + 1) y0 y1 y2 y3))
 | 0 => ⟨fun _ _ _ _ r h => by simp [spec_DaysOf.j0] at h, fun _ _ _ _ r h => by simp [spec_DaysOf.l0] at h, fun _ _ _ _ r h => by simp [spec_DaysOf.l1] at h⟩
 | k + 1 => by
  obtain ⟨ih0, ih1, ih2⟩ := spec_DaysOf.mono_l k
  refine ⟨?_, ?_, ?_⟩
  ·intro y0 y1 y2 y3
   unfold spec_DaysOf.j0
   repeat' first
   | (with_reducible exact ih0 _ _ _ _)
   | (with_reducible exact ih1 _ _ _ _)
   | (with_reducible exact ih2 _ _ _ _)
   | (with_reducible exact LeO.refl _)
   | (with_reducible exact LeO.none _)
   | (with_reducible refine LeO.ite ?_ ?_)
   | (with_reducible refine LeO.bind ?_ (fun _ => ?_))
   | exact ih0 _ _ _ _
   | exact ih1 _ _ _ _
   | exact ih2 _ _ _ _
   | exact LeO.none _
   | refine LeO.ite ?_ ?_
   | refine LeO.bind ?_ (fun _ => ?_)
  ·intro y0 y1 y2 y3
   unfold spec_DaysOf.l0
   repeat' first
   | (with_reducible exact ih0 _ _ _ _)
   | (with_reducible exact ih1 _ _ _ _)
   | (with_reducible exact ih2 _ _ _ _)
   | (with_reducible exact LeO.refl _)
   | (with_reducible exact LeO.none _)
   | (with_reducible refine LeO.ite ?_ ?_)
   | (with_reducible refine LeO.bind ?_ (fun _ => ?_))
   | exact ih0 _ _ _ _
   | exact ih1 _ _ _ _
   | exact ih2 _ _ _ _
   | exact LeO.none _
   | refine LeO.ite ?_ ?_
   | refine LeO.bind ?_ (fun _ => ?_)
  ·intro y0 y1 y2 y3
   unfold spec_DaysOf.l1
   repeat' first
   | (with_reducible exact ih0 _ _ _ _)
   | (with_reducible exact ih1 _ _ _ _)
   | (with_reducible exact ih2 _ _ _ _)
   | (with_reducible exact LeO.refl _)
   | (with_reducible exact LeO.none _)
   | (with_reducible refine LeO.ite ?_ ?_)
   | (with_reducible refine LeO.bind ?_ (fun _ => ?_))
   | exact ih0 _ _ _ _
   | exact ih1 _ _ _ _
   | exact ih2 _ _ _ _
   | exact LeO.none _
   | refine LeO.ite ?_ ?_
   | refine LeO.bind ?_ (fun _ => ?_)
theorem spec_DaysOf.mono : ∀ a0 a1 a2 k, LeO (spec_DaysOf.f k a0 a1 a2) (spec_DaysOf.f (k + 1) a0 a1 a2) := by
 intro a0 a1 a2 k
 obtain ⟨ih0, ih1, ih2⟩ := spec_DaysOf.mono_l k
 unfold spec_DaysOf.f
 repeat' first
   | (with_reducible exact ih0 _ _ _ _)
   | (with_reducible exact ih1 _ _ _ _)
   | (with_reducible exact ih2 _ _ _ _)
   | (with_reducible exact LeO.refl _)
   | (with_reducible exact LeO.none _)
   | (with_reducible refine LeO.ite ?_ ?_)
   | (with_reducible refine LeO.bind ?_ (fun _ => ?_))
   | exact ih0 _ _ _ _
   | exact ih1 _ _ _ _
   | exact ih2 _ _ _ _
   | exact LeO.none _
   | refine LeO.ite ?_ ?_
   | refine LeO.bind ?_ (fun _ => ?_)
set_option maxHeartbeats 8000000 in
set_option maxRecDepth 100000 in
theorem spec_DaysOf.calls (k : Nat) (a0 : Int) (a1 : Int) (a2 : Int) (r : Int) (w : World) (h : spec_DaysOf.f k a0 a1 a2 = some r) :
  Calls Tryz.prog 131 #[.int .i64 a0, .int .i64 a1, .int .i64 a2] w fun e w' => e = .returned (.int .i64 r) ∧ Below w.heap.size w w' := by
 have HB := Aside0.mk (Below.refl w.heap.size w)
 have H : ((spec_l1In.f a0 1970 2037).bind fun t101 => (if t101 = true then ((spec_l1In.f a1 1 12).bind fun t102 => (if t102 = true then ((spec_l4Months.f a0).bind fun t103 => (if 0 ≤ (wrap64 (a1 - 1)) then (if (wrap64 (a1 - 1)) < (t103.length : Int) then ((spec_l1In.f a2 1 (rd t103 (wrap64 (a1 - 1)))).bind fun t107 => (spec_DaysOf.j0 k a0 a1 a2 (!t107))) else (none)) else (none))) else (spec_DaysOf.j0 k a0 a1 a2 true))) else (spec_DaysOf.j0 k a0 a1 a2 true))) = some r := h
 clear h
 have HC4 := Aside0.mk H
 clear H
 go_enter Tryz.func131, Tryz.ntmps131
 go_upto_region 1 with (fail)
 go_cut [28] (fun v28 wc => ∃ (kq : Nat) (x28_3 : Bool), v28 = .bool x28_3 ∧ Aside0 (spec_DaysOf.j0 kq a0 a1 a2 x28_3 = some r) ∧ Aside0 (kq ≤ k) ∧ Aside0 (Below w.heap.size w wc))
 case first =>
  have H := HC4.out
  clear HC4
  replace H := Option.bind_eq_some_iff.mp H
  obtain ⟨t101, A50, H⟩ := H
  try dsimp only at H
  have A5 := Aside0.mk A50
  clear A50
  by_cases c6 : t101 = true
  ·subst c6
   rw [if_pos rfl] at H
   replace H := Option.bind_eq_some_iff.mp H
   obtain ⟨t102, A70, H⟩ := H
   try dsimp only at H
   have A7 := Aside0.mk A70
   clear A70
   by_cases c8 : t102 = true
   ·subst c8
    rw [if_pos rfl] at H
    replace H := Option.bind_eq_some_iff.mp H
    obtain ⟨t103, A90, H⟩ := H
    try dsimp only at H
    have A9 := Aside0.mk A90
    clear A90
    obtain ⟨ji10, hji10⟩ : ∃ j_ : Int, (wrap64 (a1 - 1)) = j_ := ⟨_, rfl⟩
    replace H : (if 0 ≤ (ji10) then (if (ji10) < (t103.length : Int) then ((spec_l1In.f a2 1 (rd t103 (ji10))).bind fun t107 => (spec_DaysOf.j0 k a0 a1 a2 (!t107))) else (none)) else (none)) = some r := by first | (rw [hji10] at H; exact H) | (simp only [hji10] at H ⊢; exact H)
    (try rw [hji10] at A5)
    (try rw [hji10] at A7)
    (try rw [hji10] at A9)
    have hji10w : (IntKind.i64.wrap (a1 - 1)) = ji10 := (i64_w _).trans hji10
    by_cases c11 : 0 ≤ (ji10)
    ·rw [if_pos c11] at H
     have c11b0 : decide (0 ≤ (ji10)) = true := decide_eq_true c11
     clear c11
     (first | rw [c11b0] | (simp only [i64_w, i32_w]; rw [c11b0]) | skip)
     by_cases c12 : (ji10) < (t103.length : Int)
     ·rw [if_pos c12] at H
      have c12b0 : decide ((ji10) < (t103.length : Int)) = true := decide_eq_true c12
      clear c12
      replace H := Option.bind_eq_some_iff.mp H
      obtain ⟨t107, A130, H⟩ := H
      try dsimp only at H
      have A13 := Aside0.mk A130
      clear A130
      have H' := Aside0.mk H
      clear H
      go_wp2_with (first | ((with_reducible refine gate_callee (f := 86) rfl ?_); refine goesL_ (some 11) rfl rfl Tryz.func86 (by kernel_rfl) rfl #[.int .i64 a0, .int .i64 1970, .int .i64 2037] rfl am ?_; (with_reducible refine (spec_l1In.calls a0 1970 2037 true _ A5.out).mono ?_); rintro e w' ⟨rfl, ⟨nd, rfl⟩⟩; refine ⟨_, rfl, ?_⟩) | (go_at_call 86; (with_reducible refine (spec_l1In.calls a1 1 12 true _ A7.out).mono ?_); rintro e w' ⟨rfl, ⟨nd, rfl⟩⟩) | (go_at_call 168; (with_reducible refine (spec_l4Months.calls a0 t103 _ A9.out).mono ?_); rintro e w14 ⟨v104, rfl, ho0, hb⟩; have n0_ := Aside0.mk (Kd.R_lower ho0 (below_size bq)); have n1_ := Aside0.mk (below_step bq hb); clear HB; have HO105 := n0_; have HB := n1_; clear n0_ n1_; (try clear hb); (try clear hb2); (try clear hk); (try clear hi); (try clear ho0); obtain ⟨Ao15, co15, eo15⟩ := Kd.R_slice HO105.out; subst eo15; have p106 : 0 ≤ ((ji10) : Int) := of_decide_eq_true asm; have q106 : (ji10) < (t103.length : Int) := of_decide_eq_true asm; obtain ⟨ad106, e106, hx106_0⟩ := Kd.at_int (Kd.R_reads' HO105.out).2.2 (ji10) p106 q106; cases e106; replace p106 := eq_true p106; replace q106 := eq_true q106) | (go_at_call 86; (with_reducible refine (spec_l1In.calls a2 1 (rd t103 (ji10)) t107 _ A13.out).mono ?_); rintro e w' ⟨rfl, ⟨nd, rfl⟩⟩))
      go_meet
      case rel => exact ⟨_, (!t107), (by first | rfl | (simp; done) | (simp [*]; done)), H', ⟨by first | omega | exact Nat.le_refl _⟩, ⟨by repeat (first | (with_reducible first | exact HB.out | apply below_alloc | apply pw_below_drewN | apply below_drew1) | exact HB.out)⟩⟩
     ·rw [if_neg c12] at H
      exact absurd H (by simp)
    ·rw [if_neg c11] at H
     exact absurd H (by simp)
   ·replace c8 := Bool.eq_false_iff.mpr c8
    subst c8
    rw [if_neg (show ¬ (false = true) by decide)] at H
    have H' := Aside0.mk H
    clear H
    go_wp2_with (first | ((with_reducible refine gate_callee (f := 86) rfl ?_); refine goesL_ (some 11) rfl rfl Tryz.func86 (by kernel_rfl) rfl #[.int .i64 a0, .int .i64 1970, .int .i64 2037] rfl am ?_; (with_reducible refine (spec_l1In.calls a0 1970 2037 true _ A5.out).mono ?_); rintro e w' ⟨rfl, ⟨nd, rfl⟩⟩; refine ⟨_, rfl, ?_⟩) | (go_at_call 86; (with_reducible refine (spec_l1In.calls a1 1 12 false _ A7.out).mono ?_); rintro e w' ⟨rfl, ⟨nd, rfl⟩⟩))
    go_meet
    case rel => exact ⟨_, (true), (by first | rfl | (simp; done) | (simp [*]; done)), H', ⟨by first | omega | exact Nat.le_refl _⟩, ⟨by repeat (first | (with_reducible first | exact HB.out | apply below_alloc | apply pw_below_drewN | apply below_drew1) | exact HB.out)⟩⟩
  ·replace c6 := Bool.eq_false_iff.mpr c6
   subst c6
   rw [if_neg (show ¬ (false = true) by decide)] at H
   have H' := Aside0.mk H
   clear H
   go_wp2_with (first | ((with_reducible refine gate_callee (f := 86) rfl ?_); refine goesL_ (some 11) rfl rfl Tryz.func86 (by kernel_rfl) rfl #[.int .i64 a0, .int .i64 1970, .int .i64 2037] rfl am ?_; (with_reducible refine (spec_l1In.calls a0 1970 2037 false _ A5.out).mono ?_); rintro e w' ⟨rfl, ⟨nd, rfl⟩⟩; refine ⟨_, rfl, ?_⟩))
   go_meet
   case rel => exact ⟨_, (true), (by first | rfl | (simp; done) | (simp [*]; done)), H', ⟨by first | omega | exact Nat.le_refl _⟩, ⟨by repeat (first | (with_reducible first | exact HB.out | apply below_alloc | apply pw_below_drewN | apply below_drew1) | exact HB.out)⟩⟩
 case rest =>
  clear HC4
  try clear c1
  try clear p1
  try clear q1
  try clear hx1
  try clear p2
  try clear c6
  try clear p6
  try clear c8
  try clear p10
  try clear q10
  try clear hx10
  try clear c11
  try clear c11b0
  try clear c12
  try clear c12b0
  try clear c13
  try clear hx106_0
  try clear p106
  try clear q106
  obtain ⟨kq, x28_3, rfl, HA, HJ3, HB⟩ := hcut
  cases kq with
  | zero => exact absurd HA.out (by simp [spec_DaysOf.j0])
  | succ kj3 =>
   have H := HA.out
   clear HA
   simp only [spec_DaysOf.j0] at H
   by_cases c16 : x28_3 = true
   ·subst c16
    rw [if_pos rfl] at H
    obtain rfl := Option.some.inj H
    go_wp2
    go_ret
    exact ⟨by first | rfl | (simp [errW_none, errW_some] <;> rfl) | (simp [*, errW_none, errW_some] <;> rfl), bq⟩
   ·replace c16 := Bool.eq_false_iff.mpr c16
    subst c16
    rw [if_neg (show ¬ (false = true) by decide)] at H
    have H' := Aside0.mk H
    clear H
    go_wp2
    go_loopg [7, 8] kj3 (fun kq v7 v8 w' => ∃ (x7_2 : Int) (x8_2 : Int), v7 = .int .i64 x7_2 ∧ v8 = .int .i64 x8_2 ∧ Aside0 (spec_DaysOf.l0 kq a0 a1 x7_2 x8_2 = some r) ∧ Aside0 (kq ≤ kj3) ∧ Aside0 (Below w.heap.size w w'))
    case atStart => exact ⟨(wrap64 (a2 - 1)), (1970), (by first | rfl | (simp; done) | (simp [*]; done)), (by first | rfl | (simp; done) | (simp [*]; done)), H', ⟨Nat.le_refl _⟩, ⟨by repeat (first | (with_reducible first | exact HB.out | apply below_alloc | apply pw_below_drewN | apply below_drew1) | exact HB.out)⟩⟩
    case round =>
     clear H'
     try clear c1
     try clear p1
     try clear q1
     try clear hx1
     try clear p2
     try clear c6
     try clear p6
     try clear c8
     try clear p10
     try clear q10
     try clear hx10
     try clear c11
     try clear c11b0
     try clear c12
     try clear c12b0
     try clear c13
     try clear c16
     try clear hx106_0
     try clear p1
     try clear p10
     try clear p106
     try clear p2
     try clear p6
     try clear q1
     try clear q10
     try clear q106
     obtain ⟨x7_2, x8_2, rfl, rfl, HA, HK2, HB⟩ := hrel
     cases gk with
     | zero => exact absurd HA.out (by simp [spec_DaysOf.l0])
     | succ k2 =>
      have H := HA.out
      clear HA
      simp only [spec_DaysOf.l0] at H
      by_cases c17 : x8_2 < a0
      ·rw [if_pos c17] at H
       have c17b0 : decide (x8_2 < a0) = true := decide_eq_true c17
       clear c17
       replace H := Option.bind_eq_some_iff.mp H
       obtain ⟨t108, A180, H⟩ := H
       try dsimp only at H
       have A18 := Aside0.mk A180
       clear A180
       by_cases c19 : t108 = true
       ·subst c19
        rw [if_pos rfl] at H
        have H' := Aside0.mk H
        clear H
        go_wp2_with (first | ((with_reducible refine gate_callee (f := 169) rfl ?_); refine goesL_ (some 39) rfl rfl Tryz.func169 (by kernel_rfl) rfl #[.int .i64 x8_2] rfl am ?_; (with_reducible refine (spec_IsLeap.calls x8_2 true _ A18.out).mono ?_); rintro e w' ⟨rfl, ⟨nd, rfl⟩⟩; refine ⟨_, rfl, ?_⟩))
        go_roundg k2
        case measure => have := HJ3.out; have := HK2.out; omega
        case rel => exact ⟨(wrap64 ((wrap64 (x7_2 + 365)) + 1)), (wrap64 (x8_2 + 1)), (by first | rfl | (simp; done) | (simp [*]; done)), (by first | rfl | (simp; done) | (simp [*]; done)), H', ⟨by have := HJ3.out; have := HK2.out; omega⟩, ⟨by repeat (first | (with_reducible first | exact HB.out | apply below_alloc | apply pw_below_drewN | apply below_drew1) | exact HB.out)⟩⟩
       ·replace c19 := Bool.eq_false_iff.mpr c19
        subst c19
        rw [if_neg (show ¬ (false = true) by decide)] at H
        have H' := Aside0.mk H
        clear H
        go_wp2_with (first | ((with_reducible refine gate_callee (f := 169) rfl ?_); refine goesL_ (some 39) rfl rfl Tryz.func169 (by kernel_rfl) rfl #[.int .i64 x8_2] rfl am ?_; (with_reducible refine (spec_IsLeap.calls x8_2 false _ A18.out).mono ?_); rintro e w' ⟨rfl, ⟨nd, rfl⟩⟩; refine ⟨_, rfl, ?_⟩))
        go_roundg k2
        case measure => have := HJ3.out; have := HK2.out; omega
        case rel => exact ⟨(wrap64 (x7_2 + 365)), (wrap64 (x8_2 + 1)), (by first | rfl | (simp; done) | (simp [*]; done)), (by first | rfl | (simp; done) | (simp [*]; done)), H', ⟨by have := HJ3.out; have := HK2.out; omega⟩, ⟨by repeat (first | (with_reducible first | exact HB.out | apply below_alloc | apply pw_below_drewN | apply below_drew1) | exact HB.out)⟩⟩
      ·rw [if_neg c17] at H
       have c17b0 : decide (x8_2 < a0) = false := decide_eq_false c17
       clear c17
       have H' := Aside0.mk H
       clear H
       go_wp2
       go_loopg [7, 9] k2 (fun kq v7 v9 w' => ∃ (x7_3 : Int) (x9_3 : Int), v7 = .int .i64 x7_3 ∧ v9 = .int .i64 x9_3 ∧ Aside0 (spec_DaysOf.l1 kq a0 a1 x7_3 x9_3 = some r) ∧ Aside0 (kq ≤ k2) ∧ Aside0 (Below w.heap.size w w'))
       case atStart => exact ⟨(x7_2), (1), (by first | rfl | (simp; done) | (simp [*]; done)), (by first | rfl | (simp; done) | (simp [*]; done)), H', ⟨Nat.le_refl _⟩, ⟨by repeat (first | (with_reducible first | exact HB.out | apply below_alloc | apply pw_below_drewN | apply below_drew1) | exact HB.out)⟩⟩
       case round =>
        clear H'
        try clear c1
        try clear p1
        try clear q1
        try clear hx1
        try clear p2
        try clear c6
        try clear p6
        try clear c8
        try clear p10
        try clear q10
        try clear hx10
        try clear c11
        try clear c11b0
        try clear c12
        try clear c12b0
        try clear c13
        try clear c16
        try clear c17
        try clear c17b0
        try clear c19
        try clear hx106_0
        try clear p1
        try clear p10
        try clear p106
        try clear p2
        try clear p6
        try clear q1
        try clear q10
        try clear q106
        obtain ⟨x7_3, x9_3, rfl, rfl, HA, HK3, HB⟩ := hrel
        cases gk with
        | zero => exact absurd HA.out (by simp [spec_DaysOf.l1])
        | succ k3 =>
         have H := HA.out
         clear HA
         simp only [spec_DaysOf.l1] at H
         by_cases c20 : x9_3 < a1
         ·rw [if_pos c20] at H
          have c20b0 : decide (x9_3 < a1) = true := decide_eq_true c20
          clear c20
          replace H := Option.bind_eq_some_iff.mp H
          obtain ⟨t109, A210, H⟩ := H
          try dsimp only at H
          have A21 := Aside0.mk A210
          clear A210
          obtain ⟨ji22, hji22⟩ : ∃ j_ : Int, (wrap64 (x9_3 - 1)) = j_ := ⟨_, rfl⟩
          replace H : (if 0 ≤ (ji22) then (if (ji22) < (t109.length : Int) then (spec_DaysOf.l1 k3 a0 a1 (wrap64 (x7_3 + (rd t109 (ji22)))) (wrap64 (x9_3 + 1))) else (none)) else (none)) = some r := by first | (rw [hji22] at H; exact H) | (simp only [hji22] at H ⊢; exact H)
          (try rw [hji22] at A21)
          have hji22w : (IntKind.i64.wrap (x9_3 - 1)) = ji22 := (i64_w _).trans hji22
          by_cases c23 : 0 ≤ (ji22)
          ·rw [if_pos c23] at H
           have c23b0 : decide (0 ≤ (ji22)) = true := decide_eq_true c23
           clear c23
           by_cases c24 : (ji22) < (t109.length : Int)
           ·rw [if_pos c24] at H
            have c24b0 : decide ((ji22) < (t109.length : Int)) = true := decide_eq_true c24
            clear c24
            have H' := Aside0.mk H
            clear H
            go_wp2_with (first | ((with_reducible refine gate_callee (f := 168) rfl ?_); refine goesL_ (some 49) rfl rfl Tryz.func168 (by kernel_rfl) rfl #[.int .i64 a0] rfl am ?_; (with_reducible refine (spec_l4Months.calls a0 t109 _ A21.out).mono ?_); rintro e w25 ⟨v110, rfl, ho0, hb⟩; refine ⟨_, rfl, ?_⟩; have n0_ := Aside0.mk (Kd.R_lower ho0 (below_size bq)); have n1_ := Aside0.mk (below_step bq hb); clear HB; have HO111 := n0_; have HB := n1_; clear n0_ n1_; (try clear hb); (try clear hb2); (try clear hk); (try clear hi); (try clear ho0); obtain ⟨Ao26, co26, eo26⟩ := Kd.R_slice HO111.out; subst eo26; have p112 : 0 ≤ ((ji22) : Int) := of_decide_eq_true asm; have q112 : (ji22) < (t109.length : Int) := of_decide_eq_true asm; obtain ⟨ad112, e112, hx112_0⟩ := Kd.at_int (Kd.R_reads' HO111.out).2.2 (ji22) p112 q112; cases e112; replace p112 := eq_true p112; replace q112 := eq_true q112))
            go_roundg k3
            case measure => have := HJ3.out; have := HK2.out; have := HK3.out; omega
            case rel => exact ⟨(wrap64 (x7_3 + (rd t109 (ji22)))), (wrap64 (x9_3 + 1)), (by first | rfl | (simp; done) | (simp only [← hji22] <;> (first | rfl | simp)) | (simp [*]; done)), (by first | rfl | (simp; done) | (simp [*]; done)), H', ⟨by have := HJ3.out; have := HK2.out; have := HK3.out; omega⟩, ⟨by repeat (first | (with_reducible first | exact HB.out | apply below_alloc | apply pw_below_drewN | apply below_drew1) | exact HB.out)⟩⟩
           ·rw [if_neg c24] at H
            exact absurd H (by simp)
          ·rw [if_neg c23] at H
           exact absurd H (by simp)
         ·rw [if_neg c20] at H
          have c20b0 : decide (x9_3 < a1) = false := decide_eq_false c20
          clear c20
          obtain rfl := Option.some.inj H
          go_wp2
          go_ret
          exact ⟨by first | rfl | (simp [errW_none, errW_some] <;> rfl) | (simp [*, errW_none, errW_some] <;> rfl), bq⟩

end Go.Proofs.YtjldfmkpdkhnnaaGreatDoor.QL

namespace Go.Proofs.YtjldfmkpdkhnnaaGreatDoor.QL
open Go.RowKit Go.Proofs.YtjldfmkpdkhnnaaGreatDoorW.PrintWords Go.Proofs.YtjldfmkpdkhnnaaGreatDoorW.PrintLast Go.Proofs.YtjldfmkpdkhnnaaGreatDoorW.PrintMore Go.Proofs.YtjldfmkpdkhnnaaGreatDoor.Aux Go.Proofs.YtjldfmkpdkhnnaaGreatDoor.Dom Go.Proofs.YtjldfmkpdkhnnaaGreatDoor.Ext Go.Proofs.YtjldfmkpdkhnnaaGreatDoor.Glob
attribute [local go_sem] max2_int min2_int max_two min_two max_three min_three max_four min_four   -- for this text's walks alone

def spec_l4Two.f (a0 : Int) : Option (ByteArray) := some (strOfNums (([(wrap64 (48 + (Int.tmod (wrap64 (Int.tdiv a0 10)) 10))) % 256, (wrap64 (48 + (Int.tmod a0 10))) % 256] : List Int)))
set_option maxHeartbeats 8000000 in
set_option maxRecDepth 100000 in
theorem spec_l4Two.calls (a0 : Int) (r : ByteArray) (w : World) (h : spec_l4Two.f a0 = some r) :
  Calls Tryz.prog 152 #[.int .i64 a0] w fun e w' => e = .returned (.string r) ∧ Below w.heap.size w w' := by
 have HB := Aside0.mk (Below.refl w.heap.size w)
 have H : (some (strOfNums (([(wrap64 (48 + (Int.tmod (wrap64 (Int.tdiv a0 10)) 10))) % 256, (wrap64 (48 + (Int.tmod a0 10))) % 256] : List Int)))) = some r := h
 clear h
 obtain ⟨y101, hy101⟩ : ∃ y_ : List Int, y_ = (([(wrap64 (48 + (Int.tmod (wrap64 (Int.tdiv a0 10)) 10))) % 256, (wrap64 (48 + (Int.tmod a0 10))) % 256] : List Int)) := ⟨_, rfl⟩
 replace H : (some (strOfNums y101)) = some r := by first | (rw [hy101]; with_reducible exact H) | (have H2_ := (Option.bind_some _ _).symm.trans H; rw [hy101]; with_reducible exact H2_) | (have H2_ := (Option.bind_some _ _).symm.trans H; with_reducible exact H2_) | with_reducible exact H | (rw [hy101]; exact H) | exact H
 have Ny101 := Aside0.mk hy101
 clear hy101
 obtain rfl := Option.some.inj H
 go_enter Tryz.func152, Tryz.ntmps152
 go_wp2_with (first | ((with_reducible refine gate_dst (N := 12) rfl ?_); refine Kd.R_lit (Kd.int .u8) _ 5 ?hg (N := 12) ?hd (xs := ([(wrap64 (48 + (Int.tmod (wrap64 (Int.tdiv a0 10)) 10))) % 256, (wrap64 (48 + (Int.tmod a0 10))) % 256] : List Int)) (inner := [.int .u8 ((wrap64 (48 + (Int.tmod (wrap64 (Int.tdiv a0 10)) 10))) % 256), .int .u8 ((wrap64 (48 + (Int.tmod a0 10))) % 256)]) (ok := fun _ => True) (okp := fun _ => True) ?hr ?hp (fun _ hk => hk) trivial (Below.refl _ _) (Nat.le_refl _) (by simp) ?_; (case hd => rfl); (case hg => rfl); (case hr => first | (go_simp; done) | (go_simp; rfl)); (case hp => exact (Reps.one (show Kd.M (Kd.int .u8) _ _ _ ((wrap64 (48 + (Int.tmod (wrap64 (Int.tdiv a0 10)) 10))) % 256) [.int .u8 ((wrap64 (48 + (Int.tmod (wrap64 (Int.tdiv a0 10)) 10))) % 256)] from rfl) (Reps.one (show Kd.M (Kd.int .u8) _ _ _ ((wrap64 (48 + (Int.tmod a0 10))) % 256) [.int .u8 ((wrap64 (48 + (Int.tmod a0 10))) % 256)] from rfl) (Reps.none _ _)))); intro v102 w2 ho3 hb hg_ hnew_; clear hg_ hnew_; (first | rw [← Ny101.out] at ho3 | (simp only [Int.reduceToNat] at ho3; rw [← Ny101.out] at ho3)); have n0_ := Aside0.mk (Kd.R_lower ho3 (below_size bq)); have n1_ := Aside0.mk (below_step bq hb); clear HB; have HO103 := n0_; have HB := n1_; clear n0_ n1_; clear hb ho3; have hcv4 := own_string (P := Tryz.prog) Tryz.underlying37 Tryz.underlying5 Tryz.underlying9 (Kd.own_of_R HO103.out)))
 go_ret
 exact ⟨by first | rfl | (simp [errW_none, errW_some] <;> rfl) | (simp [*, errW_none, errW_some] <;> rfl), bq⟩

end Go.Proofs.YtjldfmkpdkhnnaaGreatDoor.QL

namespace Go.Proofs.YtjldfmkpdkhnnaaGreatDoor.QL
open Go.RowKit Go.Proofs.YtjldfmkpdkhnnaaGreatDoorW.PrintWords Go.Proofs.YtjldfmkpdkhnnaaGreatDoorW.PrintLast Go.Proofs.YtjldfmkpdkhnnaaGreatDoorW.PrintMore Go.Proofs.YtjldfmkpdkhnnaaGreatDoor.Aux Go.Proofs.YtjldfmkpdkhnnaaGreatDoor.Dom Go.Proofs.YtjldfmkpdkhnnaaGreatDoor.Ext Go.Proofs.YtjldfmkpdkhnnaaGreatDoor.Glob
attribute [local go_sem] max2_int min2_int max_two min_two max_three min_three max_four min_four   -- for this text's walks alone

def spec_Dec.l0 : Nat → Int → ByteArray → Bool → Option (ByteArray)
 | 0, _, _, _ => none
 | k + 1, x0, x3, x4 => if x0 = 0 then (if x4 = true then (if 1 + x3.size ≤ 9223372036854775807 then (some ((⟨#[45]⟩ : ByteArray) ++ x3)) else (none)) else (some x3)) else (if (Int.tmod x0 10) < 0 then ((some (([(wrap64 (48 + (wrap64 (-(Int.tmod x0 10))))) % 256] : List Int) : List Int)).bind fun y101 => (if (strOfNums y101).size + x3.size ≤ 9223372036854775807 then (spec_Dec.l0 k (wrap64 (Int.tdiv x0 10)) ((strOfNums y101) ++ x3) x4) else (none))) else ((some (([(wrap64 (48 + (Int.tmod x0 10))) % 256] : List Int) : List Int)).bind fun y104 => (if (strOfNums y104).size + x3.size ≤ 9223372036854775807 then (spec_Dec.l0 k (wrap64 (Int.tdiv x0 10)) ((strOfNums y104) ++ x3) x4) else (none))))
def spec_Dec.f (k : Nat) (a0 : Int) : Option (ByteArray) := if a0 = 0 then (some (⟨#[48]⟩ : ByteArray)) else (spec_Dec.l0 k a0 (⟨#[]⟩ : ByteArray) (decide (a0 < 0)))
theorem spec_Dec.mono_l : ∀ k, (∀ y0 y1 y2, LeO (spec_Dec.l0 k y0 y1 y2) (spec_Dec.l0 (k + 1) y0 y1 y2))
 | 0 => fun _ _ _ r h => by simp [spec_Dec.l0] at h
 | k + 1 => by
  have ih0 := spec_Dec.mono_l k
  ·intro y0 y1 y2
   unfold spec_Dec.l0
   repeat' first
   | (with_reducible exact ih0 _ _ _)
   | (with_reducible exact LeO.refl _)
   | (with_reducible exact LeO.none _)
   | (with_reducible refine LeO.ite ?_ ?_)
   | (with_reducible refine LeO.bind ?_ (fun _ => ?_))
   | exact ih0 _ _ _
   | exact LeO.none _
   | refine LeO.ite ?_ ?_
   | refine LeO.bind ?_ (fun _ => ?_)
theorem spec_Dec.mono : ∀ a0 k, LeO (spec_Dec.f k a0) (spec_Dec.f (k + 1) a0) := by
 intro a0 k
 have ih0 := spec_Dec.mono_l k
 unfold spec_Dec.f
 repeat' first
   | (with_reducible exact ih0 _ _ _)
   | (with_reducible exact LeO.refl _)
   | (with_reducible exact LeO.none _)
   | (with_reducible refine LeO.ite ?_ ?_)
   | (with_reducible refine LeO.bind ?_ (fun _ => ?_))
   | exact ih0 _ _ _
   | exact LeO.none _
   | refine LeO.ite ?_ ?_
   | refine LeO.bind ?_ (fun _ => ?_)
set_option maxHeartbeats 8000000 in
set_option maxRecDepth 100000 in
theorem spec_Dec.calls (k : Nat) (a0 : Int) (r : ByteArray) (w : World) (h : spec_Dec.f k a0 = some r) :
  Calls Tryz.prog 153 #[.int .i64 a0] w fun e w' => e = .returned (.string r) ∧ Below w.heap.size w w' := by
 have HB := Aside0.mk (Below.refl w.heap.size w)
 have H : (if a0 = 0 then (some (⟨#[48]⟩ : ByteArray)) else (spec_Dec.l0 k a0 (⟨#[]⟩ : ByteArray) (decide (a0 < 0)))) = some r := h
 clear h
 by_cases c2 : a0 = 0
 ·rw [if_pos c2] at H
  have c2b0 : (a0 == 0) = true := beq_iff_eq.mpr c2
  have c2b1 : (a0 != 0) = false := bne_eq_false_iff_eq.mpr c2
  clear c2
  obtain rfl := Option.some.inj H
  go_enter Tryz.func153, Tryz.ntmps153
  go_wp2
  go_ret
  exact ⟨by first | rfl | (simp [errW_none, errW_some] <;> rfl) | (simp [*, errW_none, errW_some] <;> rfl), bq⟩
 ·rw [if_neg c2] at H
  have c2b0 : (a0 == 0) = false := beq_eq_false_iff_ne.mpr c2
  have c2b1 : (a0 != 0) = true := bne_iff_ne.mpr c2
  have H' := Aside0.mk H
  clear H
  go_enter Tryz.func153, Tryz.ntmps153
  go_wp2
  go_loopg [0, 3] k (fun kq v0 v3 w' => ∃ (x0_1 : Int) (x3_1 : ByteArray), v0 = .int .i64 x0_1 ∧ v3 = .string x3_1 ∧ Aside0 (spec_Dec.l0 kq x0_1 x3_1 (decide (a0 < 0)) = some r) ∧ Aside0 (kq ≤ k) ∧ Aside0 (Below w.heap.size w w'))
  case atStart => exact ⟨(a0), ((⟨#[]⟩ : ByteArray)), (by first | rfl | (simp; done) | (simp [*]; done)), (by first | rfl | (simp; done) | (simp [*]; done)), H', ⟨Nat.le_refl _⟩, ⟨by repeat (first | (with_reducible first | exact HB.out | apply below_alloc | apply pw_below_drewN | apply below_drew1) | exact HB.out)⟩⟩
  case round =>
   clear H'
   try clear c1
   try clear c2
   try clear c2b0
   try clear c2b1
   try clear p2
   obtain ⟨x0_1, x3_1, rfl, rfl, HA, HK1, HB⟩ := hrel
   cases gk with
   | zero => exact absurd HA.out (by simp [spec_Dec.l0])
   | succ k1 =>
    have H := HA.out
    clear HA
    simp only [spec_Dec.l0] at H
    by_cases c3 : x0_1 = 0
    ·rw [if_pos c3] at H
     have c3b0 : (x0_1 == 0) = true := beq_iff_eq.mpr c3
     have c3b1 : (x0_1 != 0) = false := bne_eq_false_iff_eq.mpr c3
     clear c3
     by_cases c4 : (decide (a0 < 0)) = true
     ·rw [if_pos c4] at H
      have c4b0 : (decide (a0 < 0)) = true := c4
      try simp only [c4b0]
      clear c4
      by_cases c5 : 1 + x3_1.size ≤ 9223372036854775807
      ·rw [if_pos c5] at H
       have c5b0 := eq_true c5
       have c5b1 : decide (1 + x3_1.size ≤ 9223372036854775807) = true := decide_eq_true c5
       try have c5b2 : (9223372036854775807 < 1 + x3_1.size) = False := eq_false (Nat.not_lt.2 c5)
       obtain rfl := Option.some.inj H
       go_wp2
       go_ret
       exact ⟨by first | rfl | (simp [errW_none, errW_some] <;> rfl) | (simp [*, errW_none, errW_some] <;> rfl), bq⟩
      ·rw [if_neg c5] at H
       exact absurd H (by simp)
     ·rw [if_neg c4] at H
      have c4b0 : (decide (a0 < 0)) = false := by simpa using c4
      try simp only [c4b0]
      clear c4
      obtain rfl := Option.some.inj H
      go_wp2
      go_ret
      exact ⟨by first | rfl | (simp [errW_none, errW_some] <;> rfl) | (simp [*, errW_none, errW_some] <;> rfl), bq⟩
    ·rw [if_neg c3] at H
     have c3b0 : (x0_1 == 0) = false := beq_eq_false_iff_ne.mpr c3
     have c3b1 : (x0_1 != 0) = true := bne_iff_ne.mpr c3
     by_cases c6 : (Int.tmod x0_1 10) < 0
     ·rw [if_pos c6] at H
      have c6b0 : decide ((Int.tmod x0_1 10) < 0) = true := decide_eq_true c6
      clear c6
      obtain ⟨y101, hy101⟩ : ∃ y_ : List Int, y_ = (([(wrap64 (48 + (wrap64 (-(Int.tmod x0_1 10))))) % 256] : List Int)) := ⟨_, rfl⟩
      replace H : (if (strOfNums y101).size + x3_1.size ≤ 9223372036854775807 then (spec_Dec.l0 k1 (wrap64 (Int.tdiv x0_1 10)) ((strOfNums y101) ++ x3_1) (decide (a0 < 0))) else (none)) = some r := by first | (rw [hy101]; with_reducible exact H) | (have H2_ := (Option.bind_some _ _).symm.trans H; rw [hy101]; with_reducible exact H2_) | (have H2_ := (Option.bind_some _ _).symm.trans H; with_reducible exact H2_) | with_reducible exact H | (rw [hy101]; exact H) | exact H
      have Ny101 := Aside0.mk hy101
      clear hy101
      by_cases c7 : (strOfNums y101).size + x3_1.size ≤ 9223372036854775807
      ·rw [if_pos c7] at H
       have c7b0 := eq_true c7
       have c7b1 : decide ((strOfNums y101).size + x3_1.size ≤ 9223372036854775807) = true := decide_eq_true c7
       try have c7b2 : (9223372036854775807 < (strOfNums y101).size + x3_1.size) = False := eq_false (Nat.not_lt.2 c7)
       have H' := Aside0.mk H
       clear H
       go_wp2_with (first | ((with_reducible refine gate_dst (N := 21) rfl ?_); refine Kd.R_lit (Kd.int .u8) _ 5 ?hg (N := 21) ?hd (xs := ([(wrap64 (48 + (wrap64 (-(Int.tmod x0_1 10))))) % 256] : List Int)) (inner := [.int .u8 ((wrap64 (48 + (wrap64 (-(Int.tmod x0_1 10))))) % 256)]) (ok := fun _ => True) (okp := fun _ => True) ?hr ?hp (fun _ hk => hk) trivial (Below.refl _ _) (Nat.le_refl _) (by simp) ?_; (case hd => rfl); (case hg => rfl); (case hr => first | (go_simp; done) | (go_simp; rfl)); (case hp => exact (Reps.one (show Kd.M (Kd.int .u8) _ _ _ ((wrap64 (48 + (wrap64 (-(Int.tmod x0_1 10))))) % 256) [.int .u8 ((wrap64 (48 + (wrap64 (-(Int.tmod x0_1 10))))) % 256)] from rfl) (Reps.none _ _))); intro v102 w8 ho9 hb hg_ hnew_; clear hg_ hnew_; (first | rw [← Ny101.out] at ho9 | (simp only [Int.reduceToNat] at ho9; rw [← Ny101.out] at ho9)); have n0_ := Aside0.mk (Kd.R_lower ho9 (below_size bq)); have n1_ := Aside0.mk (below_step bq hb); clear HB; have HO103 := n0_; have HB := n1_; clear n0_ n1_; clear hb ho9; have hcv10 := own_string (P := Tryz.prog) Tryz.underlying37 Tryz.underlying5 Tryz.underlying9 (Kd.own_of_R HO103.out)))
       go_roundg k1
       case measure => have := HK1.out; omega
       case rel => exact ⟨(wrap64 (Int.tdiv x0_1 10)), ((strOfNums y101) ++ x3_1), (by first | rfl | (simp; done) | (simp [*]; done)), (by first | rfl | (simp; done) | (simp [*]; done)), H', ⟨by have := HK1.out; omega⟩, ⟨by repeat (first | (with_reducible first | exact HB.out | apply below_alloc | apply pw_below_drewN | apply below_drew1) | exact HB.out)⟩⟩
      ·rw [if_neg c7] at H
       exact absurd H (by simp)
     ·rw [if_neg c6] at H
      have c6b0 : decide ((Int.tmod x0_1 10) < 0) = false := decide_eq_false c6
      clear c6
      obtain ⟨y104, hy104⟩ : ∃ y_ : List Int, y_ = (([(wrap64 (48 + (Int.tmod x0_1 10))) % 256] : List Int)) := ⟨_, rfl⟩
      replace H : (if (strOfNums y104).size + x3_1.size ≤ 9223372036854775807 then (spec_Dec.l0 k1 (wrap64 (Int.tdiv x0_1 10)) ((strOfNums y104) ++ x3_1) (decide (a0 < 0))) else (none)) = some r := by first | (rw [hy104]; with_reducible exact H) | (have H2_ := (Option.bind_some _ _).symm.trans H; rw [hy104]; with_reducible exact H2_) | (have H2_ := (Option.bind_some _ _).symm.trans H; with_reducible exact H2_) | with_reducible exact H | (rw [hy104]; exact H) | exact H
      have Ny104 := Aside0.mk hy104
      clear hy104
      by_cases c11 : (strOfNums y104).size + x3_1.size ≤ 9223372036854775807
      ·rw [if_pos c11] at H
       have c11b0 := eq_true c11
       have c11b1 : decide ((strOfNums y104).size + x3_1.size ≤ 9223372036854775807) = true := decide_eq_true c11
       try have c11b2 : (9223372036854775807 < (strOfNums y104).size + x3_1.size) = False := eq_false (Nat.not_lt.2 c11)
       have H' := Aside0.mk H
       clear H
       go_wp2_with (first | ((with_reducible refine gate_dst (N := 21) rfl ?_); refine Kd.R_lit (Kd.int .u8) _ 5 ?hg (N := 21) ?hd (xs := ([(wrap64 (48 + (Int.tmod x0_1 10))) % 256] : List Int)) (inner := [.int .u8 ((wrap64 (48 + (Int.tmod x0_1 10))) % 256)]) (ok := fun _ => True) (okp := fun _ => True) ?hr ?hp (fun _ hk => hk) trivial (Below.refl _ _) (Nat.le_refl _) (by simp) ?_; (case hd => rfl); (case hg => rfl); (case hr => first | (go_simp; done) | (go_simp; rfl)); (case hp => exact (Reps.one (show Kd.M (Kd.int .u8) _ _ _ ((wrap64 (48 + (Int.tmod x0_1 10))) % 256) [.int .u8 ((wrap64 (48 + (Int.tmod x0_1 10))) % 256)] from rfl) (Reps.none _ _))); intro v105 w12 ho13 hb hg_ hnew_; clear hg_ hnew_; (first | rw [← Ny104.out] at ho13 | (simp only [Int.reduceToNat] at ho13; rw [← Ny104.out] at ho13)); have n0_ := Aside0.mk (Kd.R_lower ho13 (below_size bq)); have n1_ := Aside0.mk (below_step bq hb); clear HB; have HO106 := n0_; have HB := n1_; clear n0_ n1_; clear hb ho13; have hcv14 := own_string (P := Tryz.prog) Tryz.underlying37 Tryz.underlying5 Tryz.underlying9 (Kd.own_of_R HO106.out)))
       go_roundg k1
       case measure => have := HK1.out; omega
       case rel => exact ⟨(wrap64 (Int.tdiv x0_1 10)), ((strOfNums y104) ++ x3_1), (by first | rfl | (simp; done) | (simp [*]; done)), (by first | rfl | (simp; done) | (simp [*]; done)), H', ⟨by have := HK1.out; omega⟩, ⟨by repeat (first | (with_reducible first | exact HB.out | apply below_alloc | apply pw_below_drewN | apply below_drew1) | exact HB.out)⟩⟩
      ·rw [if_neg c11] at H
       exact absurd H (by simp)

end Go.Proofs.YtjldfmkpdkhnnaaGreatDoor.QL

namespace Go.Proofs.YtjldfmkpdkhnnaaGreatDoor.QL
open Go.RowKit Go.Proofs.YtjldfmkpdkhnnaaGreatDoorW.PrintWords Go.Proofs.YtjldfmkpdkhnnaaGreatDoorW.PrintLast Go.Proofs.YtjldfmkpdkhnnaaGreatDoorW.PrintMore Go.Proofs.YtjldfmkpdkhnnaaGreatDoor.Aux Go.Proofs.YtjldfmkpdkhnnaaGreatDoor.Dom Go.Proofs.YtjldfmkpdkhnnaaGreatDoor.Ext Go.Proofs.YtjldfmkpdkhnnaaGreatDoor.Glob
attribute [local go_sem] max2_int min2_int max_two min_two max_three min_three max_four min_four   -- for this text's walks alone

mutual
def spec_ShowDate.j1 : Nat → Int → Int → Int → Int → Option (ByteArray)
 | 0, _, _, _, _ => none
 | k + 1, x0, x3, x4, x5 => spec_ShowDate.l1 k x0 x3 x4 x5
def spec_ShowDate.j3 : Nat → Int → Int → Int → Int → Option (ByteArray)
 | 0, _, _, _, _ => none
 | k + 1, x0, x3, x4, x5 => (spec_DaysOf.f k x4 x5 1).bind fun t104 => ((some (([(⟨#[84, 104, 117]⟩ : ByteArray), (⟨#[70, 114, 105]⟩ : ByteArray), (⟨#[83, 97, 116]⟩ : ByteArray), (⟨#[83, 117, 110]⟩ : ByteArray), (⟨#[77, 111, 110]⟩ : ByteArray), (⟨#[84, 117, 101]⟩ : ByteArray), (⟨#[87, 101, 100]⟩ : ByteArray)] : List ByteArray) : List ByteArray)).bind fun y105 => (if 0 ≤ (Int.tmod x3 7) then (if (Int.tmod x3 7) < (y105.length : Int) then ((some (([(⟨#[74, 97, 110]⟩ : ByteArray), (⟨#[70, 101, 98]⟩ : ByteArray), (⟨#[77, 97, 114]⟩ : ByteArray), (⟨#[65, 112, 114]⟩ : ByteArray), (⟨#[77, 97, 121]⟩ : ByteArray), (⟨#[74, 117, 110]⟩ : ByteArray), (⟨#[74, 117, 108]⟩ : ByteArray), (⟨#[65, 117, 103]⟩ : ByteArray), (⟨#[83, 101, 112]⟩ : ByteArray), (⟨#[79, 99, 116]⟩ : ByteArray), (⟨#[78, 111, 118]⟩ : ByteArray), (⟨#[68, 101, 99]⟩ : ByteArray)] : List ByteArray) : List ByteArray)).bind fun y109 => (if 0 ≤ (wrap64 (x5 - 1)) then (if (wrap64 (x5 - 1)) < (y109.length : Int) then (if (rdOf ByteArray.empty y105 (Int.tmod x3 7)).size + 2 ≤ 9223372036854775807 then ((spec_l4Two.f (wrap64 ((wrap64 (x3 - t104)) + 1))).bind fun t113 => (if ((rdOf ByteArray.empty y105 (Int.tmod x3 7)) ++ (⟨#[44, 32]⟩ : ByteArray)).size + t113.size ≤ 9223372036854775807 then (if (((rdOf ByteArray.empty y105 (Int.tmod x3 7)) ++ (⟨#[44, 32]⟩ : ByteArray)) ++ t113).size + 1 ≤ 9223372036854775807 then (if ((((rdOf ByteArray.empty y105 (Int.tmod x3 7)) ++ (⟨#[44, 32]⟩ : ByteArray)) ++ t113) ++ (⟨#[32]⟩ : ByteArray)).size + (rdOf ByteArray.empty y109 (wrap64 (x5 - 1))).size ≤ 9223372036854775807 then (if (((((rdOf ByteArray.empty y105 (Int.tmod x3 7)) ++ (⟨#[44, 32]⟩ : ByteArray)) ++ t113) ++ (⟨#[32]⟩ : ByteArray)) ++ (rdOf ByteArray.empty y109 (wrap64 (x5 - 1)))).size + 1 ≤ 9223372036854775807 then ((spec_Dec.f k x4).bind fun t114 => (if ((((((rdOf ByteArray.empty y105 (Int.tmod x3 7)) ++ (⟨#[44, 32]⟩ : ByteArray)) ++ t113) ++ (⟨#[32]⟩ : ByteArray)) ++ (rdOf ByteArray.empty y109 (wrap64 (x5 - 1)))) ++ (⟨#[32]⟩ : ByteArray)).size + t114.size ≤ 9223372036854775807 then (if (((((((rdOf ByteArray.empty y105 (Int.tmod x3 7)) ++ (⟨#[44, 32]⟩ : ByteArray)) ++ t113) ++ (⟨#[32]⟩ : ByteArray)) ++ (rdOf ByteArray.empty y109 (wrap64 (x5 - 1)))) ++ (⟨#[32]⟩ : ByteArray)) ++ t114).size + 1 ≤ 9223372036854775807 then ((spec_l4Two.f (Int.tmod (wrap64 (Int.tdiv x0 3600)) 24)).bind fun t115 => (if ((((((((rdOf ByteArray.empty y105 (Int.tmod x3 7)) ++ (⟨#[44, 32]⟩ : ByteArray)) ++ t113) ++ (⟨#[32]⟩ : ByteArray)) ++ (rdOf ByteArray.empty y109 (wrap64 (x5 - 1)))) ++ (⟨#[32]⟩ : ByteArray)) ++ t114) ++ (⟨#[32]⟩ : ByteArray)).size + t115.size ≤ 9223372036854775807 then (if (((((((((rdOf ByteArray.empty y105 (Int.tmod x3 7)) ++ (⟨#[44, 32]⟩ : ByteArray)) ++ t113) ++ (⟨#[32]⟩ : ByteArray)) ++ (rdOf ByteArray.empty y109 (wrap64 (x5 - 1)))) ++ (⟨#[32]⟩ : ByteArray)) ++ t114) ++ (⟨#[32]⟩ : ByteArray)) ++ t115).size + 1 ≤ 9223372036854775807 then ((spec_l4Two.f (Int.tmod (wrap64 (Int.tdiv x0 60)) 60)).bind fun t116 => (if ((((((((((rdOf ByteArray.empty y105 (Int.tmod x3 7)) ++ (⟨#[44, 32]⟩ : ByteArray)) ++ t113) ++ (⟨#[32]⟩ : ByteArray)) ++ (rdOf ByteArray.empty y109 (wrap64 (x5 - 1)))) ++ (⟨#[32]⟩ : ByteArray)) ++ t114) ++ (⟨#[32]⟩ : ByteArray)) ++ t115) ++ (⟨#[58]⟩ : ByteArray)).size + t116.size ≤ 9223372036854775807 then (if (((((((((((rdOf ByteArray.empty y105 (Int.tmod x3 7)) ++ (⟨#[44, 32]⟩ : ByteArray)) ++ t113) ++ (⟨#[32]⟩ : ByteArray)) ++ (rdOf ByteArray.empty y109 (wrap64 (x5 - 1)))) ++ (⟨#[32]⟩ : ByteArray)) ++ t114) ++ (⟨#[32]⟩ : ByteArray)) ++ t115) ++ (⟨#[58]⟩ : ByteArray)) ++ t116).size + 1 ≤ 9223372036854775807 then ((spec_l4Two.f (Int.tmod x0 60)).bind fun t117 => (if ((((((((((((rdOf ByteArray.empty y105 (Int.tmod x3 7)) ++ (⟨#[44, 32]⟩ : ByteArray)) ++ t113) ++ (⟨#[32]⟩ : ByteArray)) ++ (rdOf ByteArray.empty y109 (wrap64 (x5 - 1)))) ++ (⟨#[32]⟩ : ByteArray)) ++ t114) ++ (⟨#[32]⟩ : ByteArray)) ++ t115) ++ (⟨#[58]⟩ : ByteArray)) ++ t116) ++ (⟨#[58]⟩ : ByteArray)).size + t117.size ≤ 9223372036854775807 then (if (((((((((((((rdOf ByteArray.empty y105 (Int.tmod x3 7)) ++ (⟨#[44, 32]⟩ : ByteArray)) ++ t113) ++ (⟨#[32]⟩ : ByteArray)) ++ (rdOf ByteArray.empty y109 (wrap64 (x5 - 1)))) ++ (⟨#[32]⟩ : ByteArray)) ++ t114) ++ (⟨#[32]⟩ : ByteArray)) ++ t115) ++ (⟨#[58]⟩ : ByteArray)) ++ t116) ++ (⟨#[58]⟩ : ByteArray)) ++ t117).size + 4 ≤ 9223372036854775807 then (some ((((((((((((((rdOf ByteArray.empty y105 (Int.tmod x3 7)) ++ (⟨#[44, 32]⟩ : ByteArray)) ++ t113) ++ (⟨#[32]⟩ : ByteArray)) ++ (rdOf ByteArray.empty y109 (wrap64 (x5 - 1)))) ++ (⟨#[32]⟩ : ByteArray)) ++ t114) ++ (⟨#[32]⟩ : ByteArray)) ++ t115) ++ (⟨#[58]⟩ : ByteArray)) ++ t116) ++ (⟨#[58]⟩ : ByteArray)) ++ t117) ++ (⟨#[32, 71, 77, 84]⟩ : ByteArray))) else (none)) else (none))) else (none)) else (none))) else (none)) else (none))) else (none)) else (none))) else (none)) else (none)) else (none)) else (none))) else (none)) else (none)) else (none))) else (none)) else (none)))
def spec_ShowDate.l1 : Nat → Int → Int → Int → Int → Option (ByteArray)
 | 0, _, _, _, _ => none
 | k + 1, x0, x3, x4, x5 => if x5 < 12 then ((spec_DaysOf.f k x4 (wrap64 (x5 + 1)) 1).bind fun t103 => (if t103 ≤ x3 then (spec_ShowDate.l1 k x0 x3 x4 (wrap64 (x5 + 1))) else (spec_ShowDate.j3 k x0 x3 x4 x5))) else (spec_ShowDate.j3 k x0 x3 x4 x5)
def spec_ShowDate.l0 : Nat → Int → Int → Int → Int → Option (ByteArray)
 | 0, _, _, _, _ => none
 | k + 1, x0, x3, x4, x5 => if x4 < 2037 then ((spec_DaysOf.f k (wrap64 (x4 + 1)) 1 1).bind fun t102 => (if t102 ≤ x3 then (spec_ShowDate.l0 k x0 x3 (wrap64 (x4 + 1)) x5) else (spec_ShowDate.j1 k x0 x3 x4 x5))) else (spec_ShowDate.j1 k x0 x3 x4 x5)
end
def spec_ShowDate.f (k : Nat) (a0 : Int) : Option (ByteArray) := (spec_l1In.f a0 0 2000000000).bind fun t101 => (if t101 = true then (spec_ShowDate.l0 k a0 (wrap64 (Int.tdiv a0 86400)) 1970 1) else (some (⟨#[]⟩ : ByteArray)))
theorem spec_ShowDate.mono_l : ∀ k, (∀ y0 y1 y2 y3, LeO (spec_ShowDate.j1 k y0 y1 y2 y3) (spec_ShowDate.j1 (k + 1) y0 y1 y2 y3)) ∧ (∀ y0 y1 y2 y3, LeO (spec_ShowDate.j3 k y0 y1 y2 y3) (spec_ShowDate.j3 (k + 1) y0 y1 y2 y3)) ∧ (∀ y0 y1 y2 y3, LeO (spec_ShowDate.l1 k y0 y1 y2 y3) (spec_ShowDate.l1 (k + 1) y0 y1 y2 y3)) ∧ (∀ y0 y1 y2 y3, LeO (spec_ShowDate.l0 k y0 y1 y2 y3) (spec_ShowDate.l0 (k + 1) y0 y1 y2 y3))
 | 0 => ⟨fun _ _ _ _ r h => by simp [spec_ShowDate.j1] at h, fun _ _ _ _ r h => by simp [spec_ShowDate.j3] at h, fun _ _ _ _ r h => by simp [spec_ShowDate.l1] at h, fun _ _ _ _ r h => by simp [spec_ShowDate.l0] at h⟩
 | k + 1 => by
  obtain ⟨ih0, ih1, ih2, ih3⟩ := spec_ShowDate.mono_l k
  refine ⟨?_, ?_, ?_, ?_⟩
  ·intro y0 y1 y2 y3
   unfold spec_ShowDate.j1
   repeat' first
   | (with_reducible exact ih0 _ _ _ _)
   | (with_reducible exact ih1 _ _ _ _)
   | (with_reducible exact ih2 _ _ _ _)
   | (with_reducible exact ih3 _ _ _ _)
   | (with_reducible exact spec_DaysOf.mono _ _ _ _)
   | (with_reducible exact spec_Dec.mono _ _)
   | (with_reducible exact LeO.refl _)
   | (with_reducible exact LeO.none _)
   | (with_reducible refine LeO.ite ?_ ?_)
   | (with_reducible refine LeO.bind ?_ (fun _ => ?_))
   | exact ih0 _ _ _ _
   | exact ih1 _ _ _ _
   | exact ih2 _ _ _ _
   | exact ih3 _ _ _ _
   | exact spec_DaysOf.mono _ _ _ _
   | exact spec_Dec.mono _ _
   | exact LeO.none _
   | refine LeO.ite ?_ ?_
   | refine LeO.bind ?_ (fun _ => ?_)
  ·intro y0 y1 y2 y3
   unfold spec_ShowDate.j3
   repeat' first
   | (with_reducible exact ih0 _ _ _ _)
   | (with_reducible exact ih1 _ _ _ _)
   | (with_reducible exact ih2 _ _ _ _)
   | (with_reducible exact ih3 _ _ _ _)
   | (with_reducible exact spec_DaysOf.mono _ _ _ _)
   | (with_reducible exact spec_Dec.mono _ _)
   | (with_reducible exact LeO.refl _)
   | (with_reducible exact LeO.none _)
   | (with_reducible refine LeO.ite ?_ ?_)
   | (with_reducible refine LeO.bind ?_ (fun _ => ?_))
   | exact ih0 _ _ _ _
   | exact ih1 _ _ _ _
   | exact ih2 _ _ _ _
   | exact ih3 _ _ _ _
   | exact spec_DaysOf.mono _ _ _ _
   | exact spec_Dec.mono _ _
   | exact LeO.none _
   | refine LeO.ite ?_ ?_
   | refine LeO.bind ?_ (fun _ => ?_)
  ·intro y0 y1 y2 y3
   unfold spec_ShowDate.l1
   repeat' first
   | (with_reducible exact ih0 _ _ _ _)
   | (with_reducible exact ih1 _ _ _ _)
   | (with_reducible exact ih2 _ _ _ _)
   | (with_reducible exact ih3 _ _ _ _)
   | (with_reducible exact spec_DaysOf.mono _ _ _ _)
   | (with_reducible exact spec_Dec.mono _ _)
   | (with_reducible exact LeO.refl _)
   | (with_reducible exact LeO.none _)
   | (with_reducible refine LeO.ite ?_ ?_)
   | (with_reducible refine LeO.bind ?_ (fun _ => ?_))
   | exact ih0 _ _ _ _
   | exact ih1 _ _ _ _
   | exact ih2 _ _ _ _
   | exact ih3 _ _ _ _
   | exact spec_DaysOf.mono _ _ _ _
   | exact spec_Dec.mono _ _
   | exact LeO.none _
   | refine LeO.ite ?_ ?_
   | refine LeO.bind ?_ (fun _ => ?_)
  ·intro y0 y1 y2 y3
   unfold spec_ShowDate.l0
   repeat' first
   | (with_reducible exact ih0 _ _ _ _)
   | (with_reducible exact ih1 _ _ _ _)
   | (with_reducible exact ih2 _ _ _ _)
   | (with_reducible exact ih3 _ _ _ _)
   | (with_reducible exact spec_DaysOf.mono _ _ _ _)
   | (with_reducible exact spec_Dec.mono _ _)
   | (with_reducible exact LeO.refl _)
   | (with_reducible exact LeO.none _)
   | (with_reducible refine LeO.ite ?_ ?_)
   | (with_reducible refine LeO.bind ?_ (fun _ => ?_))
   | exact ih0 _ _ _ _
   | exact ih1 _ _ _ _
   | exact ih2 _ _ _ _
   | exact ih3 _ _ _ _
   | exact spec_DaysOf.mono _ _ _ _
   | exact spec_Dec.mono _ _
   | exact LeO.none _
   | refine LeO.ite ?_ ?_
   | refine LeO.bind ?_ (fun _ => ?_)
theorem spec_ShowDate.mono : ∀ a0 k, LeO (spec_ShowDate.f k a0) (spec_ShowDate.f (k + 1) a0) := by
 intro a0 k
 obtain ⟨ih0, ih1, ih2, ih3⟩ := spec_ShowDate.mono_l k
 unfold spec_ShowDate.f
 repeat' first
   | (with_reducible exact ih0 _ _ _ _)
   | (with_reducible exact ih1 _ _ _ _)
   | (with_reducible exact ih2 _ _ _ _)
   | (with_reducible exact ih3 _ _ _ _)
   | (with_reducible exact spec_DaysOf.mono _ _ _ _)
   | (with_reducible exact spec_Dec.mono _ _)
   | (with_reducible exact LeO.refl _)
   | (with_reducible exact LeO.none _)
   | (with_reducible refine LeO.ite ?_ ?_)
   | (with_reducible refine LeO.bind ?_ (fun _ => ?_))
   | exact ih0 _ _ _ _
   | exact ih1 _ _ _ _
   | exact ih2 _ _ _ _
   | exact ih3 _ _ _ _
   | exact spec_DaysOf.mono _ _ _ _
   | exact spec_Dec.mono _ _
   | exact LeO.none _
   | refine LeO.ite ?_ ?_
   | refine LeO.bind ?_ (fun _ => ?_)
set_option maxHeartbeats 8000000 in
set_option maxRecDepth 100000 in
theorem spec_ShowDate.calls (k : Nat) (a0 : Int) (r : ByteArray) (w : World) (h : spec_ShowDate.f k a0 = some r) :
  Calls Tryz.prog 111 #[.int .i64 a0] w fun e w' => e = .returned (.string r) ∧ Below w.heap.size w w' := by
 have HB := Aside0.mk (Below.refl w.heap.size w)
 have H : ((spec_l1In.f a0 0 2000000000).bind fun t101 => (if t101 = true then (spec_ShowDate.l0 k a0 (wrap64 (Int.tdiv a0 86400)) 1970 1) else (some (⟨#[]⟩ : ByteArray)))) = some r := h
 clear h
 replace H := Option.bind_eq_some_iff.mp H
 obtain ⟨t101, A20, H⟩ := H
 try dsimp only at H
 have A2 := Aside0.mk A20
 clear A20
 by_cases c3 : t101 = true
 ·subst c3
  rw [if_pos rfl] at H
  have HC4 := Aside0.mk H
  clear H
  go_enter Tryz.func111, Tryz.ntmps111
  go_upto_block 0 with (first | ((with_reducible refine gate_callee (f := 86) rfl ?_); refine goesL_ (some 10) rfl rfl Tryz.func86 (by kernel_rfl) rfl #[.int .i64 a0, .int .i64 0, .int .i64 2000000000] rfl am ?_; (with_reducible refine (spec_l1In.calls a0 0 2000000000 true _ A2.out).mono ?_); rintro e w' ⟨rfl, ⟨nd, rfl⟩⟩; refine ⟨_, rfl, ?_⟩))
  (try simp only [Act.put, List.setIfInBounds_toArray, List.set_cons_zero, List.set_cons_succ])
  go_cut [4] (fun v4 wc => ∃ (kq : Nat) (x4_3 : Int), v4 = .int .i64 x4_3 ∧ Aside0 (spec_ShowDate.j1 kq a0 (wrap64 (Int.tdiv a0 86400)) x4_3 1 = some r) ∧ Aside0 (kq ≤ k) ∧ Aside0 (Below w.heap.size w wc))
  case first =>
   have H := HC4.out
   clear HC4
   have H' := Aside0.mk H
   clear H
   go_wp2
   go_loopg [4] k (fun kq v4 w' => ∃ (x4_1 : Int), v4 = .int .i64 x4_1 ∧ Aside0 (spec_ShowDate.l0 kq a0 (wrap64 (Int.tdiv a0 86400)) x4_1 1 = some r) ∧ Aside0 (kq ≤ k) ∧ Aside0 (Below w.heap.size w w'))
   case atStart => exact ⟨(1970), (by first | rfl | (simp; done) | (simp [*]; done)), H', ⟨Nat.le_refl _⟩, ⟨by repeat (first | (with_reducible first | exact HB.out | apply below_alloc | apply pw_below_drewN | apply below_drew1) | exact HB.out)⟩⟩
   case round =>
    clear H'
    try clear c1
    try clear p2
    try clear c3
    obtain ⟨x4_1, rfl, HA, HK1, HB⟩ := hrel
    cases gk with
    | zero => exact absurd HA.out (by simp [spec_ShowDate.l0])
    | succ k1 =>
     have H := HA.out
     clear HA
     simp only [spec_ShowDate.l0] at H
     by_cases c5 : x4_1 < 2037
     ·rw [if_pos c5] at H
      have c5b0 : decide (x4_1 < 2037) = true := decide_eq_true c5
      clear c5
      (first | rw [c5b0] | (simp only [i64_w, i32_w]; rw [c5b0]) | skip)
      replace H := Option.bind_eq_some_iff.mp H
      obtain ⟨t102, A60, H⟩ := H
      try dsimp only at H
      have A6 := Aside0.mk A60
      clear A60
      by_cases c7 : t102 ≤ (wrap64 (Int.tdiv a0 86400))
      ·rw [if_pos c7] at H
       have c7b0 : decide (t102 ≤ (wrap64 (Int.tdiv a0 86400))) = true := decide_eq_true c7
       clear c7
       have H' := Aside0.mk H
       clear H
       go_wp2_with (first | (go_at_call 131; (with_reducible refine (spec_DaysOf.calls k1 (wrap64 (x4_1 + 1)) 1 1 t102 _ A6.out).mono ?_); rintro e w8 ⟨rfl, hb⟩; have n0_ := Aside0.mk (below_step bq hb); clear HB; have HB := n0_; clear n0_; (try clear hb); (try clear hb2); (try clear hk); (try clear hi)))
       go_roundg k1
       case measure => have := HK1.out; omega
       case rel => exact ⟨(wrap64 (x4_1 + 1)), (by first | rfl | (simp; done) | (simp [*]; done)), H', ⟨by have := HK1.out; omega⟩, ⟨by repeat (first | (with_reducible first | exact HB.out | apply below_alloc | apply pw_below_drewN | apply below_drew1) | exact HB.out)⟩⟩
      ·rw [if_neg c7] at H
       have c7b0 : decide (t102 ≤ (wrap64 (Int.tdiv a0 86400))) = false := decide_eq_false c7
       clear c7
       have H' := Aside0.mk H
       clear H
       go_wp2_with (first | (go_at_call 131; (with_reducible refine (spec_DaysOf.calls k1 (wrap64 (x4_1 + 1)) 1 1 t102 _ A6.out).mono ?_); rintro e w9 ⟨rfl, hb⟩; have n0_ := Aside0.mk (below_step bq hb); clear HB; have HB := n0_; clear n0_; (try clear hb); (try clear hb2); (try clear hk); (try clear hi)))
       go_meet
       case rel => exact ⟨_, (x4_1), (by first | rfl | (simp; done) | (simp [*]; done)), H', ⟨by have := HK1.out; first | omega | exact Nat.le_refl _⟩, ⟨by repeat (first | (with_reducible first | exact HB.out | apply below_alloc | apply pw_below_drewN | apply below_drew1) | exact HB.out)⟩⟩
     ·rw [if_neg c5] at H
      have c5b0 : decide (x4_1 < 2037) = false := decide_eq_false c5
      clear c5
      (first | rw [c5b0] | (simp only [i64_w, i32_w]; rw [c5b0]) | skip)
      have H' := Aside0.mk H
      clear H
      go_wp2
      go_meet
      case rel => exact ⟨_, (x4_1), (by first | rfl | (simp; done) | (simp [*]; done)), H', ⟨by have := HK1.out; first | omega | exact Nat.le_refl _⟩, ⟨by repeat (first | (with_reducible first | exact HB.out | apply below_alloc | apply pw_below_drewN | apply below_drew1) | exact HB.out)⟩⟩
  case rest =>
   clear HC4
   try clear c1
   try clear p2
   try clear c3
   try clear c5
   try clear c5b0
   try clear p6
   try clear c7
   try clear c7b0
   try clear c8
   try clear p2
   obtain ⟨kq, x4_3, rfl, HA, HJ3, HB⟩ := hcut
   cases kq with
   | zero => exact absurd HA.out (by simp [spec_ShowDate.j1])
   | succ kj3 =>
    have H := HA.out
    clear HA
    simp only [spec_ShowDate.j1] at H
    have HC10 := Aside0.mk H
    clear H
    go_upto_block 2 with (fail)
    go_cut [5] (fun v5 wc => ∃ (kq : Nat) (x5_9 : Int), v5 = .int .i64 x5_9 ∧ Aside0 (spec_ShowDate.j3 kq a0 (wrap64 (Int.tdiv a0 86400)) x4_3 x5_9 = some r) ∧ Aside0 (kq ≤ kj3) ∧ Aside0 (Below w.heap.size w wc))
    case first =>
     have H := HC10.out
     clear HC10
     have H' := Aside0.mk H
     clear H
     go_wp2
     go_loopg [5] kj3 (fun kq v5 w' => ∃ (x5_2 : Int), v5 = .int .i64 x5_2 ∧ Aside0 (spec_ShowDate.l1 kq a0 (wrap64 (Int.tdiv a0 86400)) x4_3 x5_2 = some r) ∧ Aside0 (kq ≤ kj3) ∧ Aside0 (Below w.heap.size w w'))
     case atStart => exact ⟨(1), (by first | rfl | (simp; done) | (simp [*]; done)), H', ⟨Nat.le_refl _⟩, ⟨by repeat (first | (with_reducible first | exact HB.out | apply below_alloc | apply pw_below_drewN | apply below_drew1) | exact HB.out)⟩⟩
     case round =>
      clear H'
      try clear c1
      try clear p2
      try clear c3
      try clear c5
      try clear c5b0
      try clear p6
      try clear c7
      try clear c7b0
      try clear c8
      try clear p2
      try clear p6
      obtain ⟨x5_2, rfl, HA, HK2, HB⟩ := hrel
      cases gk with
      | zero => exact absurd HA.out (by simp [spec_ShowDate.l1])
      | succ k2 =>
       have H := HA.out
       clear HA
       simp only [spec_ShowDate.l1] at H
       by_cases c11 : x5_2 < 12
       ·rw [if_pos c11] at H
        have c11b0 : decide (x5_2 < 12) = true := decide_eq_true c11
        clear c11
        (first | rw [c11b0] | (simp only [i64_w, i32_w]; rw [c11b0]) | skip)
        replace H := Option.bind_eq_some_iff.mp H
        obtain ⟨t103, A120, H⟩ := H
        try dsimp only at H
        have A12 := Aside0.mk A120
        clear A120
        by_cases c13 : t103 ≤ (wrap64 (Int.tdiv a0 86400))
        ·rw [if_pos c13] at H
         have c13b0 : decide (t103 ≤ (wrap64 (Int.tdiv a0 86400))) = true := decide_eq_true c13
         clear c13
         have H' := Aside0.mk H
         clear H
         go_wp2_with (first | (go_at_call 131; (with_reducible refine (spec_DaysOf.calls k2 x4_3 (wrap64 (x5_2 + 1)) 1 t103 _ A12.out).mono ?_); rintro e w14 ⟨rfl, hb⟩; have n0_ := Aside0.mk (below_step bq hb); clear HB; have HB := n0_; clear n0_; (try clear hb); (try clear hb2); (try clear hk); (try clear hi)))
         go_roundg k2
         case measure => have := HJ3.out; have := HK2.out; omega
         case rel => exact ⟨(wrap64 (x5_2 + 1)), (by first | rfl | (simp; done) | (simp [*]; done)), H', ⟨by have := HJ3.out; have := HK2.out; omega⟩, ⟨by repeat (first | (with_reducible first | exact HB.out | apply below_alloc | apply pw_below_drewN | apply below_drew1) | exact HB.out)⟩⟩
        ·rw [if_neg c13] at H
         have c13b0 : decide (t103 ≤ (wrap64 (Int.tdiv a0 86400))) = false := decide_eq_false c13
         clear c13
         have H' := Aside0.mk H
         clear H
         go_wp2_with (first | (go_at_call 131; (with_reducible refine (spec_DaysOf.calls k2 x4_3 (wrap64 (x5_2 + 1)) 1 t103 _ A12.out).mono ?_); rintro e w15 ⟨rfl, hb⟩; have n0_ := Aside0.mk (below_step bq hb); clear HB; have HB := n0_; clear n0_; (try clear hb); (try clear hb2); (try clear hk); (try clear hi)))
         go_meet
         case rel => exact ⟨_, (x5_2), (by first | rfl | (simp; done) | (simp [*]; done)), H', ⟨by have := HJ3.out; have := HK2.out; first | omega | exact Nat.le_refl _⟩, ⟨by repeat (first | (with_reducible first | exact HB.out | apply below_alloc | apply pw_below_drewN | apply below_drew1) | exact HB.out)⟩⟩
       ·rw [if_neg c11] at H
        have c11b0 : decide (x5_2 < 12) = false := decide_eq_false c11
        clear c11
        (first | rw [c11b0] | (simp only [i64_w, i32_w]; rw [c11b0]) | skip)
        have H' := Aside0.mk H
        clear H
        go_wp2
        go_meet
        case rel => exact ⟨_, (x5_2), (by first | rfl | (simp; done) | (simp [*]; done)), H', ⟨by have := HJ3.out; have := HK2.out; first | omega | exact Nat.le_refl _⟩, ⟨by repeat (first | (with_reducible first | exact HB.out | apply below_alloc | apply pw_below_drewN | apply below_drew1) | exact HB.out)⟩⟩
    case rest =>
     clear HC10
     try clear c1
     try clear p2
     try clear c3
     try clear c5
     try clear c5b0
     try clear p6
     try clear c7
     try clear c7b0
     try clear c8
     try clear c11
     try clear c11b0
     try clear c13
     try clear c13b0
     try clear p2
     try clear p6
     obtain ⟨kq, x5_9, rfl, HA, HJ9, HB⟩ := hcut
     cases kq with
     | zero => exact absurd HA.out (by simp [spec_ShowDate.j3])
     | succ kj9 =>
      have H := HA.out
      clear HA
      simp only [spec_ShowDate.j3] at H
      replace H := Option.bind_eq_some_iff.mp H
      obtain ⟨t104, A160, H⟩ := H
      try dsimp only at H
      have A16 := Aside0.mk A160
      clear A160
      obtain ⟨y105, hy105⟩ : ∃ y_ : List ByteArray, y_ = (([(⟨#[84, 104, 117]⟩ : ByteArray), (⟨#[70, 114, 105]⟩ : ByteArray), (⟨#[83, 97, 116]⟩ : ByteArray), (⟨#[83, 117, 110]⟩ : ByteArray), (⟨#[77, 111, 110]⟩ : ByteArray), (⟨#[84, 117, 101]⟩ : ByteArray), (⟨#[87, 101, 100]⟩ : ByteArray)] : List ByteArray)) := ⟨_, rfl⟩
      replace H : (if 0 ≤ (Int.tmod (wrap64 (Int.tdiv a0 86400)) 7) then (if (Int.tmod (wrap64 (Int.tdiv a0 86400)) 7) < (y105.length : Int) then ((some (([(⟨#[74, 97, 110]⟩ : ByteArray), (⟨#[70, 101, 98]⟩ : ByteArray), (⟨#[77, 97, 114]⟩ : ByteArray), (⟨#[65, 112, 114]⟩ : ByteArray), (⟨#[77, 97, 121]⟩ : ByteArray), (⟨#[74, 117, 110]⟩ : ByteArray), (⟨#[74, 117, 108]⟩ : ByteArray), (⟨#[65, 117, 103]⟩ : ByteArray), (⟨#[83, 101, 112]⟩ : ByteArray), (⟨#[79, 99, 116]⟩ : ByteArray), (⟨#[78, 111, 118]⟩ : ByteArray), (⟨#[68, 101, 99]⟩ : ByteArray)] : List ByteArray) : List ByteArray)).bind fun y109 => (if 0 ≤ (wrap64 (x5_9 - 1)) then (if (wrap64 (x5_9 - 1)) < (y109.length : Int) then (if (rdOf ByteArray.empty y105 (Int.tmod (wrap64 (Int.tdiv a0 86400)) 7)).size + 2 ≤ 9223372036854775807 then ((spec_l4Two.f (wrap64 ((wrap64 ((wrap64 (Int.tdiv a0 86400)) - t104)) + 1))).bind fun t113 => (if ((rdOf ByteArray.empty y105 (Int.tmod (wrap64 (Int.tdiv a0 86400)) 7)) ++ (⟨#[44, 32]⟩ : ByteArray)).size + t113.size ≤ 9223372036854775807 then (if (((rdOf ByteArray.empty y105 (Int.tmod (wrap64 (Int.tdiv a0 86400)) 7)) ++ (⟨#[44, 32]⟩ : ByteArray)) ++ t113).size + 1 ≤ 9223372036854775807 then (if ((((rdOf ByteArray.empty y105 (Int.tmod (wrap64 (Int.tdiv a0 86400)) 7)) ++ (⟨#[44, 32]⟩ : ByteArray)) ++ t113) ++ (⟨#[32]⟩ : ByteArray)).size + (rdOf ByteArray.empty y109 (wrap64 (x5_9 - 1))).size ≤ 9223372036854775807 then (if (((((rdOf ByteArray.empty y105 (Int.tmod (wrap64 (Int.tdiv a0 86400)) 7)) ++ (⟨#[44, 32]⟩ : ByteArray)) ++ t113) ++ (⟨#[32]⟩ : ByteArray)) ++ (rdOf ByteArray.empty y109 (wrap64 (x5_9 - 1)))).size + 1 ≤ 9223372036854775807 then ((spec_Dec.f kj9 x4_3).bind fun t114 => (if ((((((rdOf ByteArray.empty y105 (Int.tmod (wrap64 (Int.tdiv a0 86400)) 7)) ++ (⟨#[44, 32]⟩ : ByteArray)) ++ t113) ++ (⟨#[32]⟩ : ByteArray)) ++ (rdOf ByteArray.empty y109 (wrap64 (x5_9 - 1)))) ++ (⟨#[32]⟩ : ByteArray)).size + t114.size ≤ 9223372036854775807 then (if (((((((rdOf ByteArray.empty y105 (Int.tmod (wrap64 (Int.tdiv a0 86400)) 7)) ++ (⟨#[44, 32]⟩ : ByteArray)) ++ t113) ++ (⟨#[32]⟩ : ByteArray)) ++ (rdOf ByteArray.empty y109 (wrap64 (x5_9 - 1)))) ++ (⟨#[32]⟩ : ByteArray)) ++ t114).size + 1 ≤ 9223372036854775807 then ((spec_l4Two.f (Int.tmod (wrap64 (Int.tdiv a0 3600)) 24)).bind fun t115 => (if ((((((((rdOf ByteArray.empty y105 (Int.tmod (wrap64 (Int.tdiv a0 86400)) 7)) ++ (⟨#[44, 32]⟩ : ByteArray)) ++ t113) ++ (⟨#[32]⟩ : ByteArray)) ++ (rdOf ByteArray.empty y109 (wrap64 (x5_9 - 1)))) ++ (⟨#[32]⟩ : ByteArray)) ++ t114) ++ (⟨#[32]⟩ : ByteArray)).size + t115.size ≤ 9223372036854775807 then (if (((((((((rdOf ByteArray.empty y105 (Int.tmod (wrap64 (Int.tdiv a0 86400)) 7)) ++ (⟨#[44, 32]⟩ : ByteArray)) ++ t113) ++ (⟨#[32]⟩ : ByteArray)) ++ (rdOf ByteArray.empty y109 (wrap64 (x5_9 - 1)))) ++ (⟨#[32]⟩ : ByteArray)) ++ t114) ++ (⟨#[32]⟩ : ByteArray)) ++ t115).size + 1 ≤ 9223372036854775807 then ((spec_l4Two.f (Int.tmod (wrap64 (Int.tdiv a0 60)) 60)).bind fun t116 => (if ((((((((((rdOf ByteArray.empty y105 (Int.tmod (wrap64 (Int.tdiv a0 86400)) 7)) ++ (⟨#[44, 32]⟩ : ByteArray)) ++ t113) ++ (⟨#[32]⟩ : ByteArray)) ++ (rdOf ByteArray.empty y109 (wrap64 (x5_9 - 1)))) ++ (⟨#[32]⟩ : ByteArray)) ++ t114) ++ (⟨#[32]⟩ : ByteArray)) ++ t115) ++ (⟨#[58]⟩ : ByteArray)).size + t116.size ≤ 9223372036854775807 then (if (((((((((((rdOf ByteArray.empty y105 (Int.tmod (wrap64 (Int.tdiv a0 86400)) 7)) ++ (⟨#[44, 32]⟩ : ByteArray)) ++ t113) ++ (⟨#[32]⟩ : ByteArray)) ++ (rdOf ByteArray.empty y109 (wrap64 (x5_9 - 1)))) ++ (⟨#[32]⟩ : ByteArray)) ++ t114) ++ (⟨#[32]⟩ : ByteArray)) ++ t115) ++ (⟨#[58]⟩ : ByteArray)) ++ t116).size + 1 ≤ 9223372036854775807 then ((spec_l4Two.f (Int.tmod a0 60)).bind fun t117 => (if ((((((((((((rdOf ByteArray.empty y105 (Int.tmod (wrap64 (Int.tdiv a0 86400)) 7)) ++ (⟨#[44, 32]⟩ : ByteArray)) ++ t113) ++ (⟨#[32]⟩ : ByteArray)) ++ (rdOf ByteArray.empty y109 (wrap64 (x5_9 - 1)))) ++ (⟨#[32]⟩ : ByteArray)) ++ t114) ++ (⟨#[32]⟩ : ByteArray)) ++ t115) ++ (⟨#[58]⟩ : ByteArray)) ++ t116) ++ (⟨#[58]⟩ : ByteArray)).size + t117.size ≤ 9223372036854775807 then (if (((((((((((((rdOf ByteArray.empty y105 (Int.tmod (wrap64 (Int.tdiv a0 86400)) 7)) ++ (⟨#[44, 32]⟩ : ByteArray)) ++ t113) ++ (⟨#[32]⟩ : ByteArray)) ++ (rdOf ByteArray.empty y109 (wrap64 (x5_9 - 1)))) ++ (⟨#[32]⟩ : ByteArray)) ++ t114) ++ (⟨#[32]⟩ : ByteArray)) ++ t115) ++ (⟨#[58]⟩ : ByteArray)) ++ t116) ++ (⟨#[58]⟩ : ByteArray)) ++ t117).size + 4 ≤ 9223372036854775807 then (some ((((((((((((((rdOf ByteArray.empty y105 (Int.tmod (wrap64 (Int.tdiv a0 86400)) 7)) ++ (⟨#[44, 32]⟩ : ByteArray)) ++ t113) ++ (⟨#[32]⟩ : ByteArray)) ++ (rdOf ByteArray.empty y109 (wrap64 (x5_9 - 1)))) ++ (⟨#[32]⟩ : ByteArray)) ++ t114) ++ (⟨#[32]⟩ : ByteArray)) ++ t115) ++ (⟨#[58]⟩ : ByteArray)) ++ t116) ++ (⟨#[58]⟩ : ByteArray)) ++ t117) ++ (⟨#[32, 71, 77, 84]⟩ : ByteArray))) else (none)) else (none))) else (none)) else (none))) else (none)) else (none))) else (none)) else (none))) else (none)) else (none)) else (none)) else (none))) else (none)) else (none)) else (none))) else (none)) else (none)) = some r := by first | (rw [hy105]; with_reducible exact H) | (have H2_ := (Option.bind_some _ _).symm.trans H; rw [hy105]; with_reducible exact H2_) | (have H2_ := (Option.bind_some _ _).symm.trans H; with_reducible exact H2_) | with_reducible exact H | (rw [hy105]; exact H) | exact H
      have Ny105 := Aside0.mk hy105
      clear hy105
      obtain ⟨ji17, hji17⟩ : ∃ j_ : Int, (Int.tmod (wrap64 (Int.tdiv a0 86400)) 7) = j_ := ⟨_, rfl⟩
      replace H : (if 0 ≤ (ji17) then (if (ji17) < (y105.length : Int) then ((some (([(⟨#[74, 97, 110]⟩ : ByteArray), (⟨#[70, 101, 98]⟩ : ByteArray), (⟨#[77, 97, 114]⟩ : ByteArray), (⟨#[65, 112, 114]⟩ : ByteArray), (⟨#[77, 97, 121]⟩ : ByteArray), (⟨#[74, 117, 110]⟩ : ByteArray), (⟨#[74, 117, 108]⟩ : ByteArray), (⟨#[65, 117, 103]⟩ : ByteArray), (⟨#[83, 101, 112]⟩ : ByteArray), (⟨#[79, 99, 116]⟩ : ByteArray), (⟨#[78, 111, 118]⟩ : ByteArray), (⟨#[68, 101, 99]⟩ : ByteArray)] : List ByteArray) : List ByteArray)).bind fun y109 => (if 0 ≤ (wrap64 (x5_9 - 1)) then (if (wrap64 (x5_9 - 1)) < (y109.length : Int) then (if (rdOf ByteArray.empty y105 (ji17)).size + 2 ≤ 9223372036854775807 then ((spec_l4Two.f (wrap64 ((wrap64 ((wrap64 (Int.tdiv a0 86400)) - t104)) + 1))).bind fun t113 => (if ((rdOf ByteArray.empty y105 (ji17)) ++ (⟨#[44, 32]⟩ : ByteArray)).size + t113.size ≤ 9223372036854775807 then (if (((rdOf ByteArray.empty y105 (ji17)) ++ (⟨#[44, 32]⟩ : ByteArray)) ++ t113).size + 1 ≤ 9223372036854775807 then (if ((((rdOf ByteArray.empty y105 (ji17)) ++ (⟨#[44, 32]⟩ : ByteArray)) ++ t113) ++ (⟨#[32]⟩ : ByteArray)).size + (rdOf ByteArray.empty y109 (wrap64 (x5_9 - 1))).size ≤ 9223372036854775807 then (if (((((rdOf ByteArray.empty y105 (ji17)) ++ (⟨#[44, 32]⟩ : ByteArray)) ++ t113) ++ (⟨#[32]⟩ : ByteArray)) ++ (rdOf ByteArray.empty y109 (wrap64 (x5_9 - 1)))).size + 1 ≤ 9223372036854775807 then ((spec_Dec.f kj9 x4_3).bind fun t114 => (if ((((((rdOf ByteArray.empty y105 (ji17)) ++ (⟨#[44, 32]⟩ : ByteArray)) ++ t113) ++ (⟨#[32]⟩ : ByteArray)) ++ (rdOf ByteArray.empty y109 (wrap64 (x5_9 - 1)))) ++ (⟨#[32]⟩ : ByteArray)).size + t114.size ≤ 9223372036854775807 then (if (((((((rdOf ByteArray.empty y105 (ji17)) ++ (⟨#[44, 32]⟩ : ByteArray)) ++ t113) ++ (⟨#[32]⟩ : ByteArray)) ++ (rdOf ByteArray.empty y109 (wrap64 (x5_9 - 1)))) ++ (⟨#[32]⟩ : ByteArray)) ++ t114).size + 1 ≤ 9223372036854775807 then ((spec_l4Two.f (Int.tmod (wrap64 (Int.tdiv a0 3600)) 24)).bind fun t115 => (if ((((((((rdOf ByteArray.empty y105 (ji17)) ++ (⟨#[44, 32]⟩ : ByteArray)) ++ t113) ++ (⟨#[32]⟩ : ByteArray)) ++ (rdOf ByteArray.empty y109 (wrap64 (x5_9 - 1)))) ++ (⟨#[32]⟩ : ByteArray)) ++ t114) ++ (⟨#[32]⟩ : ByteArray)).size + t115.size ≤ 9223372036854775807 then (if (((((((((rdOf ByteArray.empty y105 (ji17)) ++ (⟨#[44, 32]⟩ : ByteArray)) ++ t113) ++ (⟨#[32]⟩ : ByteArray)) ++ (rdOf ByteArray.empty y109 (wrap64 (x5_9 - 1)))) ++ (⟨#[32]⟩ : ByteArray)) ++ t114) ++ (⟨#[32]⟩ : ByteArray)) ++ t115).size + 1 ≤ 9223372036854775807 then ((spec_l4Two.f (Int.tmod (wrap64 (Int.tdiv a0 60)) 60)).bind fun t116 => (if ((((((((((rdOf ByteArray.empty y105 (ji17)) ++ (⟨#[44, 32]⟩ : ByteArray)) ++ t113) ++ (⟨#[32]⟩ : ByteArray)) ++ (rdOf ByteArray.empty y109 (wrap64 (x5_9 - 1)))) ++ (⟨#[32]⟩ : ByteArray)) ++ t114) ++ (⟨#[32]⟩ : ByteArray)) ++ t115) ++ (⟨#[58]⟩ : ByteArray)).size + t116.size ≤ 9223372036854775807 then (if (((((((((((rdOf ByteArray.empty y105 (ji17)) ++ (⟨#[44, 32]⟩ : ByteArray)) ++ t113) ++ (⟨#[32]⟩ : ByteArray)) ++ (rdOf ByteArray.empty y109 (wrap64 (x5_9 - 1)))) ++ (⟨#[32]⟩ : ByteArray)) ++ t114) ++ (⟨#[32]⟩ : ByteArray)) ++ t115) ++ (⟨#[58]⟩ : ByteArray)) ++ t116).size + 1 ≤ 9223372036854775807 then ((spec_l4Two.f (Int.tmod a0 60)).bind fun t117 => (if ((((((((((((rdOf ByteArray.empty y105 (ji17)) ++ (⟨#[44, 32]⟩ : ByteArray)) ++ t113) ++ (⟨#[32]⟩ : ByteArray)) ++ (rdOf ByteArray.empty y109 (wrap64 (x5_9 - 1)))) ++ (⟨#[32]⟩ : ByteArray)) ++ t114) ++ (⟨#[32]⟩ : ByteArray)) ++ t115) ++ (⟨#[58]⟩ : ByteArray)) ++ t116) ++ (⟨#[58]⟩ : ByteArray)).size + t117.size ≤ 9223372036854775807 then (if (((((((((((((rdOf ByteArray.empty y105 (ji17)) ++ (⟨#[44, 32]⟩ : ByteArray)) ++ t113) ++ (⟨#[32]⟩ : ByteArray)) ++ (rdOf ByteArray.empty y109 (wrap64 (x5_9 - 1)))) ++ (⟨#[32]⟩ : ByteArray)) ++ t114) ++ (⟨#[32]⟩ : ByteArray)) ++ t115) ++ (⟨#[58]⟩ : ByteArray)) ++ t116) ++ (⟨#[58]⟩ : ByteArray)) ++ t117).size + 4 ≤ 9223372036854775807 then (some ((((((((((((((rdOf ByteArray.empty y105 (ji17)) ++ (⟨#[44, 32]⟩ : ByteArray)) ++ t113) ++ (⟨#[32]⟩ : ByteArray)) ++ (rdOf ByteArray.empty y109 (wrap64 (x5_9 - 1)))) ++ (⟨#[32]⟩ : ByteArray)) ++ t114) ++ (⟨#[32]⟩ : ByteArray)) ++ t115) ++ (⟨#[58]⟩ : ByteArray)) ++ t116) ++ (⟨#[58]⟩ : ByteArray)) ++ t117) ++ (⟨#[32, 71, 77, 84]⟩ : ByteArray))) else (none)) else (none))) else (none)) else (none))) else (none)) else (none))) else (none)) else (none))) else (none)) else (none)) else (none)) else (none))) else (none)) else (none)) else (none))) else (none)) else (none)) = some r := by first | (rw [hji17] at H; exact H) | (simp only [hji17] at H ⊢; exact H)
      (try rw [hji17] at A16)
      by_cases c18 : 0 ≤ (ji17)
      ·rw [if_pos c18] at H
       have c18b0 : decide (0 ≤ (ji17)) = true := decide_eq_true c18
       clear c18
       by_cases c19 : (ji17) < (y105.length : Int)
       ·rw [if_pos c19] at H
        have c19b0 : decide ((ji17) < (y105.length : Int)) = true := decide_eq_true c19
        clear c19
        obtain ⟨y109, hy109⟩ : ∃ y_ : List ByteArray, y_ = (([(⟨#[74, 97, 110]⟩ : ByteArray), (⟨#[70, 101, 98]⟩ : ByteArray), (⟨#[77, 97, 114]⟩ : ByteArray), (⟨#[65, 112, 114]⟩ : ByteArray), (⟨#[77, 97, 121]⟩ : ByteArray), (⟨#[74, 117, 110]⟩ : ByteArray), (⟨#[74, 117, 108]⟩ : ByteArray), (⟨#[65, 117, 103]⟩ : ByteArray), (⟨#[83, 101, 112]⟩ : ByteArray), (⟨#[79, 99, 116]⟩ : ByteArray), (⟨#[78, 111, 118]⟩ : ByteArray), (⟨#[68, 101, 99]⟩ : ByteArray)] : List ByteArray)) := ⟨_, rfl⟩
        replace H : (if 0 ≤ (wrap64 (x5_9 - 1)) then (if (wrap64 (x5_9 - 1)) < (y109.length : Int) then (if (rdOf ByteArray.empty y105 (ji17)).size + 2 ≤ 9223372036854775807 then ((spec_l4Two.f (wrap64 ((wrap64 ((wrap64 (Int.tdiv a0 86400)) - t104)) + 1))).bind fun t113 => (if ((rdOf ByteArray.empty y105 (ji17)) ++ (⟨#[44, 32]⟩ : ByteArray)).size + t113.size ≤ 9223372036854775807 then (if (((rdOf ByteArray.empty y105 (ji17)) ++ (⟨#[44, 32]⟩ : ByteArray)) ++ t113).size + 1 ≤ 9223372036854775807 then (if ((((rdOf ByteArray.empty y105 (ji17)) ++ (⟨#[44, 32]⟩ : ByteArray)) ++ t113) ++ (⟨#[32]⟩ : ByteArray)).size + (rdOf ByteArray.empty y109 (wrap64 (x5_9 - 1))).size ≤ 9223372036854775807 then (if (((((rdOf ByteArray.empty y105 (ji17)) ++ (⟨#[44, 32]⟩ : ByteArray)) ++ t113) ++ (⟨#[32]⟩ : ByteArray)) ++ (rdOf ByteArray.empty y109 (wrap64 (x5_9 - 1)))).size + 1 ≤ 9223372036854775807 then ((spec_Dec.f kj9 x4_3).bind fun t114 => (if ((((((rdOf ByteArray.empty y105 (ji17)) ++ (⟨#[44, 32]⟩ : ByteArray)) ++ t113) ++ (⟨#[32]⟩ : ByteArray)) ++ (rdOf ByteArray.empty y109 (wrap64 (x5_9 - 1)))) ++ (⟨#[32]⟩ : ByteArray)).size + t114.size ≤ 9223372036854775807 then (if (((((((rdOf ByteArray.empty y105 (ji17)) ++ (⟨#[44, 32]⟩ : ByteArray)) ++ t113) ++ (⟨#[32]⟩ : ByteArray)) ++ (rdOf ByteArray.empty y109 (wrap64 (x5_9 - 1)))) ++ (⟨#[32]⟩ : ByteArray)) ++ t114).size + 1 ≤ 9223372036854775807 then ((spec_l4Two.f (Int.tmod (wrap64 (Int.tdiv a0 3600)) 24)).bind fun t115 => (if ((((((((rdOf ByteArray.empty y105 (ji17)) ++ (⟨#[44, 32]⟩ : ByteArray)) ++ t113) ++ (⟨#[32]⟩ : ByteArray)) ++ (rdOf ByteArray.empty y109 (wrap64 (x5_9 - 1)))) ++ (⟨#[32]⟩ : ByteArray)) ++ t114) ++ (⟨#[32]⟩ : ByteArray)).size + t115.size ≤ 9223372036854775807 then (if (((((((((rdOf ByteArray.empty y105 (ji17)) ++ (⟨#[44, 32]⟩ : ByteArray)) ++ t113) ++ (⟨#[32]⟩ : ByteArray)) ++ (rdOf ByteArray.empty y109 (wrap64 (x5_9 - 1)))) ++ (⟨#[32]⟩ : ByteArray)) ++ t114) ++ (⟨#[32]⟩ : ByteArray)) ++ t115).size + 1 ≤ 9223372036854775807 then ((spec_l4Two.f (Int.tmod (wrap64 (Int.tdiv a0 60)) 60)).bind fun t116 => (if ((((((((((rdOf ByteArray.empty y105 (ji17)) ++ (⟨#[44, 32]⟩ : ByteArray)) ++ t113) ++ (⟨#[32]⟩ : ByteArray)) ++ (rdOf ByteArray.empty y109 (wrap64 (x5_9 - 1)))) ++ (⟨#[32]⟩ : ByteArray)) ++ t114) ++ (⟨#[32]⟩ : ByteArray)) ++ t115) ++ (⟨#[58]⟩ : ByteArray)).size + t116.size ≤ 9223372036854775807 then (if (((((((((((rdOf ByteArray.empty y105 (ji17)) ++ (⟨#[44, 32]⟩ : ByteArray)) ++ t113) ++ (⟨#[32]⟩ : ByteArray)) ++ (rdOf ByteArray.empty y109 (wrap64 (x5_9 - 1)))) ++ (⟨#[32]⟩ : ByteArray)) ++ t114) ++ (⟨#[32]⟩ : ByteArray)) ++ t115) ++ (⟨#[58]⟩ : ByteArray)) ++ t116).size + 1 ≤ 9223372036854775807 then ((spec_l4Two.f (Int.tmod a0 60)).bind fun t117 => (if ((((((((((((rdOf ByteArray.empty y105 (ji17)) ++ (⟨#[44, 32]⟩ : ByteArray)) ++ t113) ++ (⟨#[32]⟩ : ByteArray)) ++ (rdOf ByteArray.empty y109 (wrap64 (x5_9 - 1)))) ++ (⟨#[32]⟩ : ByteArray)) ++ t114) ++ (⟨#[32]⟩ : ByteArray)) ++ t115) ++ (⟨#[58]⟩ : ByteArray)) ++ t116) ++ (⟨#[58]⟩ : ByteArray)).size + t117.size ≤ 9223372036854775807 then (if (((((((((((((rdOf ByteArray.empty y105 (ji17)) ++ (⟨#[44, 32]⟩ : ByteArray)) ++ t113) ++ (⟨#[32]⟩ : ByteArray)) ++ (rdOf ByteArray.empty y109 (wrap64 (x5_9 - 1)))) ++ (⟨#[32]⟩ : ByteArray)) ++ t114) ++ (⟨#[32]⟩ : ByteArray)) ++ t115) ++ (⟨#[58]⟩ : ByteArray)) ++ t116) ++ (⟨#[58]⟩ : ByteArray)) ++ t117).size + 4 ≤ 9223372036854775807 then (some ((((((((((((((rdOf ByteArray.empty y105 (ji17)) ++ (⟨#[44, 32]⟩ : ByteArray)) ++ t113) ++ (⟨#[32]⟩ : ByteArray)) ++ (rdOf ByteArray.empty y109 (wrap64 (x5_9 - 1)))) ++ (⟨#[32]⟩ : ByteArray)) ++ t114) ++ (⟨#[32]⟩ : ByteArray)) ++ t115) ++ (⟨#[58]⟩ : ByteArray)) ++ t116) ++ (⟨#[58]⟩ : ByteArray)) ++ t117) ++ (⟨#[32, 71, 77, 84]⟩ : ByteArray))) else (none)) else (none))) else (none)) else (none))) else (none)) else (none))) else (none)) else (none))) else (none)) else (none)) else (none)) else (none))) else (none)) else (none)) else (none)) = some r := by first | (rw [hy109]; with_reducible exact H) | (have H2_ := (Option.bind_some _ _).symm.trans H; rw [hy109]; with_reducible exact H2_) | (have H2_ := (Option.bind_some _ _).symm.trans H; with_reducible exact H2_) | with_reducible exact H | (rw [hy109]; exact H) | exact H
        have Ny109 := Aside0.mk hy109
        clear hy109
        obtain ⟨ji20, hji20⟩ : ∃ j_ : Int, (wrap64 (x5_9 - 1)) = j_ := ⟨_, rfl⟩
        replace H : (if 0 ≤ (ji20) then (if (ji20) < (y109.length : Int) then (if (rdOf ByteArray.empty y105 (ji17)).size + 2 ≤ 9223372036854775807 then ((spec_l4Two.f (wrap64 ((wrap64 ((wrap64 (Int.tdiv a0 86400)) - t104)) + 1))).bind fun t113 => (if ((rdOf ByteArray.empty y105 (ji17)) ++ (⟨#[44, 32]⟩ : ByteArray)).size + t113.size ≤ 9223372036854775807 then (if (((rdOf ByteArray.empty y105 (ji17)) ++ (⟨#[44, 32]⟩ : ByteArray)) ++ t113).size + 1 ≤ 9223372036854775807 then (if ((((rdOf ByteArray.empty y105 (ji17)) ++ (⟨#[44, 32]⟩ : ByteArray)) ++ t113) ++ (⟨#[32]⟩ : ByteArray)).size + (rdOf ByteArray.empty y109 (ji20)).size ≤ 9223372036854775807 then (if (((((rdOf ByteArray.empty y105 (ji17)) ++ (⟨#[44, 32]⟩ : ByteArray)) ++ t113) ++ (⟨#[32]⟩ : ByteArray)) ++ (rdOf ByteArray.empty y109 (ji20))).size + 1 ≤ 9223372036854775807 then ((spec_Dec.f kj9 x4_3).bind fun t114 => (if ((((((rdOf ByteArray.empty y105 (ji17)) ++ (⟨#[44, 32]⟩ : ByteArray)) ++ t113) ++ (⟨#[32]⟩ : ByteArray)) ++ (rdOf ByteArray.empty y109 (ji20))) ++ (⟨#[32]⟩ : ByteArray)).size + t114.size ≤ 9223372036854775807 then (if (((((((rdOf ByteArray.empty y105 (ji17)) ++ (⟨#[44, 32]⟩ : ByteArray)) ++ t113) ++ (⟨#[32]⟩ : ByteArray)) ++ (rdOf ByteArray.empty y109 (ji20))) ++ (⟨#[32]⟩ : ByteArray)) ++ t114).size + 1 ≤ 9223372036854775807 then ((spec_l4Two.f (Int.tmod (wrap64 (Int.tdiv a0 3600)) 24)).bind fun t115 => (if ((((((((rdOf ByteArray.empty y105 (ji17)) ++ (⟨#[44, 32]⟩ : ByteArray)) ++ t113) ++ (⟨#[32]⟩ : ByteArray)) ++ (rdOf ByteArray.empty y109 (ji20))) ++ (⟨#[32]⟩ : ByteArray)) ++ t114) ++ (⟨#[32]⟩ : ByteArray)).size + t115.size ≤ 9223372036854775807 then (if (((((((((rdOf ByteArray.empty y105 (ji17)) ++ (⟨#[44, 32]⟩ : ByteArray)) ++ t113) ++ (⟨#[32]⟩ : ByteArray)) ++ (rdOf ByteArray.empty y109 (ji20))) ++ (⟨#[32]⟩ : ByteArray)) ++ t114) ++ (⟨#[32]⟩ : ByteArray)) ++ t115).size + 1 ≤ 9223372036854775807 then ((spec_l4Two.f (Int.tmod (wrap64 (Int.tdiv a0 60)) 60)).bind fun t116 => (if ((((((((((rdOf ByteArray.empty y105 (ji17)) ++ (⟨#[44, 32]⟩ : ByteArray)) ++ t113) ++ (⟨#[32]⟩ : ByteArray)) ++ (rdOf ByteArray.empty y109 (ji20))) ++ (⟨#[32]⟩ : ByteArray)) ++ t114) ++ (⟨#[32]⟩ : ByteArray)) ++ t115) ++ (⟨#[58]⟩ : ByteArray)).size + t116.size ≤ 9223372036854775807 then (if (((((((((((rdOf ByteArray.empty y105 (ji17)) ++ (⟨#[44, 32]⟩ : ByteArray)) ++ t113) ++ (⟨#[32]⟩ : ByteArray)) ++ (rdOf ByteArray.empty y109 (ji20))) ++ (⟨#[32]⟩ : ByteArray)) ++ t114) ++ (⟨#[32]⟩ : ByteArray)) ++ t115) ++ (⟨#[58]⟩ : ByteArray)) ++ t116).size + 1 ≤ 9223372036854775807 then ((spec_l4Two.f (Int.tmod a0 60)).bind fun t117 => (if ((((((((((((rdOf ByteArray.empty y105 (ji17)) ++ (⟨#[44, 32]⟩ : ByteArray)) ++ t113) ++ (⟨#[32]⟩ : ByteArray)) ++ (rdOf ByteArray.empty y109 (ji20))) ++ (⟨#[32]⟩ : ByteArray)) ++ t114) ++ (⟨#[32]⟩ : ByteArray)) ++ t115) ++ (⟨#[58]⟩ : ByteArray)) ++ t116) ++ (⟨#[58]⟩ : ByteArray)).size + t117.size ≤ 9223372036854775807 then (if (((((((((((((rdOf ByteArray.empty y105 (ji17)) ++ (⟨#[44, 32]⟩ : ByteArray)) ++ t113) ++ (⟨#[32]⟩ : ByteArray)) ++ (rdOf ByteArray.empty y109 (ji20))) ++ (⟨#[32]⟩ : ByteArray)) ++ t114) ++ (⟨#[32]⟩ : ByteArray)) ++ t115) ++ (⟨#[58]⟩ : ByteArray)) ++ t116) ++ (⟨#[58]⟩ : ByteArray)) ++ t117).size + 4 ≤ 9223372036854775807 then (some ((((((((((((((rdOf ByteArray.empty y105 (ji17)) ++ (⟨#[44, 32]⟩ : ByteArray)) ++ t113) ++ (⟨#[32]⟩ : ByteArray)) ++ (rdOf ByteArray.empty y109 (ji20))) ++ (⟨#[32]⟩ : ByteArray)) ++ t114) ++ (⟨#[32]⟩ : ByteArray)) ++ t115) ++ (⟨#[58]⟩ : ByteArray)) ++ t116) ++ (⟨#[58]⟩ : ByteArray)) ++ t117) ++ (⟨#[32, 71, 77, 84]⟩ : ByteArray))) else (none)) else (none))) else (none)) else (none))) else (none)) else (none))) else (none)) else (none))) else (none)) else (none)) else (none)) else (none))) else (none)) else (none)) else (none)) = some r := by first | (rw [hji20] at H; exact H) | (simp only [hji20] at H ⊢; exact H)
        (try rw [hji20] at A16)
        have hji20w : (IntKind.i64.wrap (x5_9 - 1)) = ji20 := (i64_w _).trans hji20
        by_cases c21 : 0 ≤ (ji20)
        ·rw [if_pos c21] at H
         have c21b0 : decide (0 ≤ (ji20)) = true := decide_eq_true c21
         clear c21
         by_cases c22 : (ji20) < (y109.length : Int)
         ·rw [if_pos c22] at H
          have c22b0 : decide ((ji20) < (y109.length : Int)) = true := decide_eq_true c22
          clear c22
          by_cases c23 : (rdOf ByteArray.empty y105 (ji17)).size + 2 ≤ 9223372036854775807
          ·rw [if_pos c23] at H
           have c23b0 := eq_true c23
           have c23b1 : decide ((rdOf ByteArray.empty y105 (ji17)).size + 2 ≤ 9223372036854775807) = true := decide_eq_true c23
           try have c23b2 : (9223372036854775807 < (rdOf ByteArray.empty y105 (ji17)).size + 2) = False := eq_false (Nat.not_lt.2 c23)
           replace H := Option.bind_eq_some_iff.mp H
           obtain ⟨t113, A240, H⟩ := H
           try dsimp only at H
           have A24 := Aside0.mk A240
           clear A240
           by_cases c25 : ((rdOf ByteArray.empty y105 (ji17)) ++ (⟨#[44, 32]⟩ : ByteArray)).size + t113.size ≤ 9223372036854775807
           ·rw [if_pos c25] at H
            have c25b0 := eq_true c25
            have c25b1 : decide (((rdOf ByteArray.empty y105 (ji17)) ++ (⟨#[44, 32]⟩ : ByteArray)).size + t113.size ≤ 9223372036854775807) = true := decide_eq_true c25
            try have c25b2 : (9223372036854775807 < ((rdOf ByteArray.empty y105 (ji17)) ++ (⟨#[44, 32]⟩ : ByteArray)).size + t113.size) = False := eq_false (Nat.not_lt.2 c25)
            try have c25b3 : (9223372036854775807 < (rdOf ByteArray.empty y105 (ji17)).size + 2 + (t113).size) = False := eq_false (Nat.not_lt.2 (by have h_ := c25; simp only [ByteArray.size_append] at h_; exact h_))
            by_cases c26 : (((rdOf ByteArray.empty y105 (ji17)) ++ (⟨#[44, 32]⟩ : ByteArray)) ++ t113).size + 1 ≤ 9223372036854775807
            ·rw [if_pos c26] at H
             have c26b0 := eq_true c26
             have c26b1 : decide ((((rdOf ByteArray.empty y105 (ji17)) ++ (⟨#[44, 32]⟩ : ByteArray)) ++ t113).size + 1 ≤ 9223372036854775807) = true := decide_eq_true c26
             try have c26b2 : (9223372036854775807 < (((rdOf ByteArray.empty y105 (ji17)) ++ (⟨#[44, 32]⟩ : ByteArray)) ++ t113).size + 1) = False := eq_false (Nat.not_lt.2 c26)
             try have c26b3 : (9223372036854775807 < (rdOf ByteArray.empty y105 (ji17)).size + 2 + (t113).size + 1) = False := eq_false (Nat.not_lt.2 (by have h_ := c26; simp only [ByteArray.size_append] at h_; exact h_))
             by_cases c27 : ((((rdOf ByteArray.empty y105 (ji17)) ++ (⟨#[44, 32]⟩ : ByteArray)) ++ t113) ++ (⟨#[32]⟩ : ByteArray)).size + (rdOf ByteArray.empty y109 (ji20)).size ≤ 9223372036854775807
             ·rw [if_pos c27] at H
              have c27b0 := eq_true c27
              have c27b1 : decide (((((rdOf ByteArray.empty y105 (ji17)) ++ (⟨#[44, 32]⟩ : ByteArray)) ++ t113) ++ (⟨#[32]⟩ : ByteArray)).size + (rdOf ByteArray.empty y109 (ji20)).size ≤ 9223372036854775807) = true := decide_eq_true c27
              try have c27b2 : (9223372036854775807 < ((((rdOf ByteArray.empty y105 (ji17)) ++ (⟨#[44, 32]⟩ : ByteArray)) ++ t113) ++ (⟨#[32]⟩ : ByteArray)).size + (rdOf ByteArray.empty y109 (ji20)).size) = False := eq_false (Nat.not_lt.2 c27)
              try have c27b3 : (9223372036854775807 < (rdOf ByteArray.empty y105 (ji17)).size + 2 + (t113).size + 1 + (rdOf ByteArray.empty y109 (ji20)).size) = False := eq_false (Nat.not_lt.2 (by have h_ := c27; simp only [ByteArray.size_append] at h_; exact h_))
              by_cases c28 : (((((rdOf ByteArray.empty y105 (ji17)) ++ (⟨#[44, 32]⟩ : ByteArray)) ++ t113) ++ (⟨#[32]⟩ : ByteArray)) ++ (rdOf ByteArray.empty y109 (ji20))).size + 1 ≤ 9223372036854775807
              ·rw [if_pos c28] at H
               have c28b0 := eq_true c28
               have c28b1 : decide ((((((rdOf ByteArray.empty y105 (ji17)) ++ (⟨#[44, 32]⟩ : ByteArray)) ++ t113) ++ (⟨#[32]⟩ : ByteArray)) ++ (rdOf ByteArray.empty y109 (ji20))).size + 1 ≤ 9223372036854775807) = true := decide_eq_true c28
               try have c28b2 : (9223372036854775807 < (((((rdOf ByteArray.empty y105 (ji17)) ++ (⟨#[44, 32]⟩ : ByteArray)) ++ t113) ++ (⟨#[32]⟩ : ByteArray)) ++ (rdOf ByteArray.empty y109 (ji20))).size + 1) = False := eq_false (Nat.not_lt.2 c28)
               try have c28b3 : (9223372036854775807 < (rdOf ByteArray.empty y105 (ji17)).size + 2 + (t113).size + 1 + (rdOf ByteArray.empty y109 (ji20)).size + 1) = False := eq_false (Nat.not_lt.2 (by have h_ := c28; simp only [ByteArray.size_append] at h_; exact h_))
               replace H := Option.bind_eq_some_iff.mp H
               obtain ⟨t114, A290, H⟩ := H
               try dsimp only at H
               have A29 := Aside0.mk A290
               clear A290
               by_cases c30 : ((((((rdOf ByteArray.empty y105 (ji17)) ++ (⟨#[44, 32]⟩ : ByteArray)) ++ t113) ++ (⟨#[32]⟩ : ByteArray)) ++ (rdOf ByteArray.empty y109 (ji20))) ++ (⟨#[32]⟩ : ByteArray)).size + t114.size ≤ 9223372036854775807
               ·rw [if_pos c30] at H
                have c30b0 := eq_true c30
                have c30b1 : decide (((((((rdOf ByteArray.empty y105 (ji17)) ++ (⟨#[44, 32]⟩ : ByteArray)) ++ t113) ++ (⟨#[32]⟩ : ByteArray)) ++ (rdOf ByteArray.empty y109 (ji20))) ++ (⟨#[32]⟩ : ByteArray)).size + t114.size ≤ 9223372036854775807) = true := decide_eq_true c30
                try have c30b2 : (9223372036854775807 < ((((((rdOf ByteArray.empty y105 (ji17)) ++ (⟨#[44, 32]⟩ : ByteArray)) ++ t113) ++ (⟨#[32]⟩ : ByteArray)) ++ (rdOf ByteArray.empty y109 (ji20))) ++ (⟨#[32]⟩ : ByteArray)).size + t114.size) = False := eq_false (Nat.not_lt.2 c30)
                try have c30b3 : (9223372036854775807 < (rdOf ByteArray.empty y105 (ji17)).size + 2 + (t113).size + 1 + (rdOf ByteArray.empty y109 (ji20)).size + 1 + (t114).size) = False := eq_false (Nat.not_lt.2 (by have h_ := c30; simp only [ByteArray.size_append] at h_; exact h_))
                by_cases c31 : (((((((rdOf ByteArray.empty y105 (ji17)) ++ (⟨#[44, 32]⟩ : ByteArray)) ++ t113) ++ (⟨#[32]⟩ : ByteArray)) ++ (rdOf ByteArray.empty y109 (ji20))) ++ (⟨#[32]⟩ : ByteArray)) ++ t114).size + 1 ≤ 9223372036854775807
                ·rw [if_pos c31] at H
                 have c31b0 := eq_true c31
                 have c31b1 : decide ((((((((rdOf ByteArray.empty y105 (ji17)) ++ (⟨#[44, 32]⟩ : ByteArray)) ++ t113) ++ (⟨#[32]⟩ : ByteArray)) ++ (rdOf ByteArray.empty y109 (ji20))) ++ (⟨#[32]⟩ : ByteArray)) ++ t114).size + 1 ≤ 9223372036854775807) = true := decide_eq_true c31
                 try have c31b2 : (9223372036854775807 < (((((((rdOf ByteArray.empty y105 (ji17)) ++ (⟨#[44, 32]⟩ : ByteArray)) ++ t113) ++ (⟨#[32]⟩ : ByteArray)) ++ (rdOf ByteArray.empty y109 (ji20))) ++ (⟨#[32]⟩ : ByteArray)) ++ t114).size + 1) = False := eq_false (Nat.not_lt.2 c31)
                 try have c31b3 : (9223372036854775807 < (rdOf ByteArray.empty y105 (ji17)).size + 2 + (t113).size + 1 + (rdOf ByteArray.empty y109 (ji20)).size + 1 + (t114).size + 1) = False := eq_false (Nat.not_lt.2 (by have h_ := c31; simp only [ByteArray.size_append] at h_; exact h_))
                 replace H := Option.bind_eq_some_iff.mp H
                 obtain ⟨t115, A320, H⟩ := H
                 try dsimp only at H
                 have A32 := Aside0.mk A320
                 clear A320
                 by_cases c33 : ((((((((rdOf ByteArray.empty y105 (ji17)) ++ (⟨#[44, 32]⟩ : ByteArray)) ++ t113) ++ (⟨#[32]⟩ : ByteArray)) ++ (rdOf ByteArray.empty y109 (ji20))) ++ (⟨#[32]⟩ : ByteArray)) ++ t114) ++ (⟨#[32]⟩ : ByteArray)).size + t115.size ≤ 9223372036854775807
                 ·rw [if_pos c33] at H
                  have c33b0 := eq_true c33
                  have c33b1 : decide (((((((((rdOf ByteArray.empty y105 (ji17)) ++ (⟨#[44, 32]⟩ : ByteArray)) ++ t113) ++ (⟨#[32]⟩ : ByteArray)) ++ (rdOf ByteArray.empty y109 (ji20))) ++ (⟨#[32]⟩ : ByteArray)) ++ t114) ++ (⟨#[32]⟩ : ByteArray)).size + t115.size ≤ 9223372036854775807) = true := decide_eq_true c33
                  try have c33b2 : (9223372036854775807 < ((((((((rdOf ByteArray.empty y105 (ji17)) ++ (⟨#[44, 32]⟩ : ByteArray)) ++ t113) ++ (⟨#[32]⟩ : ByteArray)) ++ (rdOf ByteArray.empty y109 (ji20))) ++ (⟨#[32]⟩ : ByteArray)) ++ t114) ++ (⟨#[32]⟩ : ByteArray)).size + t115.size) = False := eq_false (Nat.not_lt.2 c33)
                  try have c33b3 : (9223372036854775807 < (rdOf ByteArray.empty y105 (ji17)).size + 2 + (t113).size + 1 + (rdOf ByteArray.empty y109 (ji20)).size + 1 + (t114).size + 1 + (t115).size) = False := eq_false (Nat.not_lt.2 (by have h_ := c33; simp only [ByteArray.size_append] at h_; exact h_))
                  by_cases c34 : (((((((((rdOf ByteArray.empty y105 (ji17)) ++ (⟨#[44, 32]⟩ : ByteArray)) ++ t113) ++ (⟨#[32]⟩ : ByteArray)) ++ (rdOf ByteArray.empty y109 (ji20))) ++ (⟨#[32]⟩ : ByteArray)) ++ t114) ++ (⟨#[32]⟩ : ByteArray)) ++ t115).size + 1 ≤ 9223372036854775807
                  ·rw [if_pos c34] at H
                   have c34b0 := eq_true c34
                   have c34b1 : decide ((((((((((rdOf ByteArray.empty y105 (ji17)) ++ (⟨#[44, 32]⟩ : ByteArray)) ++ t113) ++ (⟨#[32]⟩ : ByteArray)) ++ (rdOf ByteArray.empty y109 (ji20))) ++ (⟨#[32]⟩ : ByteArray)) ++ t114) ++ (⟨#[32]⟩ : ByteArray)) ++ t115).size + 1 ≤ 9223372036854775807) = true := decide_eq_true c34
                   try have c34b2 : (9223372036854775807 < (((((((((rdOf ByteArray.empty y105 (ji17)) ++ (⟨#[44, 32]⟩ : ByteArray)) ++ t113) ++ (⟨#[32]⟩ : ByteArray)) ++ (rdOf ByteArray.empty y109 (ji20))) ++ (⟨#[32]⟩ : ByteArray)) ++ t114) ++ (⟨#[32]⟩ : ByteArray)) ++ t115).size + 1) = False := eq_false (Nat.not_lt.2 c34)
                   try have c34b3 : (9223372036854775807 < (rdOf ByteArray.empty y105 (ji17)).size + 2 + (t113).size + 1 + (rdOf ByteArray.empty y109 (ji20)).size + 1 + (t114).size + 1 + (t115).size + 1) = False := eq_false (Nat.not_lt.2 (by have h_ := c34; simp only [ByteArray.size_append] at h_; exact h_))
                   replace H := Option.bind_eq_some_iff.mp H
                   obtain ⟨t116, A350, H⟩ := H
                   try dsimp only at H
                   have A35 := Aside0.mk A350
                   clear A350
                   by_cases c36 : ((((((((((rdOf ByteArray.empty y105 (ji17)) ++ (⟨#[44, 32]⟩ : ByteArray)) ++ t113) ++ (⟨#[32]⟩ : ByteArray)) ++ (rdOf ByteArray.empty y109 (ji20))) ++ (⟨#[32]⟩ : ByteArray)) ++ t114) ++ (⟨#[32]⟩ : ByteArray)) ++ t115) ++ (⟨#[58]⟩ : ByteArray)).size + t116.size ≤ 9223372036854775807
                   ·rw [if_pos c36] at H
                    have c36b0 := eq_true c36
                    have c36b1 : decide (((((((((((rdOf ByteArray.empty y105 (ji17)) ++ (⟨#[44, 32]⟩ : ByteArray)) ++ t113) ++ (⟨#[32]⟩ : ByteArray)) ++ (rdOf ByteArray.empty y109 (ji20))) ++ (⟨#[32]⟩ : ByteArray)) ++ t114) ++ (⟨#[32]⟩ : ByteArray)) ++ t115) ++ (⟨#[58]⟩ : ByteArray)).size + t116.size ≤ 9223372036854775807) = true := decide_eq_true c36
                    try have c36b2 : (9223372036854775807 < ((((((((((rdOf ByteArray.empty y105 (ji17)) ++ (⟨#[44, 32]⟩ : ByteArray)) ++ t113) ++ (⟨#[32]⟩ : ByteArray)) ++ (rdOf ByteArray.empty y109 (ji20))) ++ (⟨#[32]⟩ : ByteArray)) ++ t114) ++ (⟨#[32]⟩ : ByteArray)) ++ t115) ++ (⟨#[58]⟩ : ByteArray)).size + t116.size) = False := eq_false (Nat.not_lt.2 c36)
                    try have c36b3 : (9223372036854775807 < (rdOf ByteArray.empty y105 (ji17)).size + 2 + (t113).size + 1 + (rdOf ByteArray.empty y109 (ji20)).size + 1 + (t114).size + 1 + (t115).size + 1 + (t116).size) = False := eq_false (Nat.not_lt.2 (by have h_ := c36; simp only [ByteArray.size_append] at h_; exact h_))
                    by_cases c37 : (((((((((((rdOf ByteArray.empty y105 (ji17)) ++ (⟨#[44, 32]⟩ : ByteArray)) ++ t113) ++ (⟨#[32]⟩ : ByteArray)) ++ (rdOf ByteArray.empty y109 (ji20))) ++ (⟨#[32]⟩ : ByteArray)) ++ t114) ++ (⟨#[32]⟩ : ByteArray)) ++ t115) ++ (⟨#[58]⟩ : ByteArray)) ++ t116).size + 1 ≤ 9223372036854775807
                    ·rw [if_pos c37] at H
                     have c37b0 := eq_true c37
                     have c37b1 : decide ((((((((((((rdOf ByteArray.empty y105 (ji17)) ++ (⟨#[44, 32]⟩ : ByteArray)) ++ t113) ++ (⟨#[32]⟩ : ByteArray)) ++ (rdOf ByteArray.empty y109 (ji20))) ++ (⟨#[32]⟩ : ByteArray)) ++ t114) ++ (⟨#[32]⟩ : ByteArray)) ++ t115) ++ (⟨#[58]⟩ : ByteArray)) ++ t116).size + 1 ≤ 9223372036854775807) = true := decide_eq_true c37
                     try have c37b2 : (9223372036854775807 < (((((((((((rdOf ByteArray.empty y105 (ji17)) ++ (⟨#[44, 32]⟩ : ByteArray)) ++ t113) ++ (⟨#[32]⟩ : ByteArray)) ++ (rdOf ByteArray.empty y109 (ji20))) ++ (⟨#[32]⟩ : ByteArray)) ++ t114) ++ (⟨#[32]⟩ : ByteArray)) ++ t115) ++ (⟨#[58]⟩ : ByteArray)) ++ t116).size + 1) = False := eq_false (Nat.not_lt.2 c37)
                     try have c37b3 : (9223372036854775807 < (rdOf ByteArray.empty y105 (ji17)).size + 2 + (t113).size + 1 + (rdOf ByteArray.empty y109 (ji20)).size + 1 + (t114).size + 1 + (t115).size + 1 + (t116).size + 1) = False := eq_false (Nat.not_lt.2 (by have h_ := c37; simp only [ByteArray.size_append] at h_; exact h_))
                     replace H := Option.bind_eq_some_iff.mp H
                     obtain ⟨t117, A380, H⟩ := H
                     try dsimp only at H
                     have A38 := Aside0.mk A380
                     clear A380
                     by_cases c39 : ((((((((((((rdOf ByteArray.empty y105 (ji17)) ++ (⟨#[44, 32]⟩ : ByteArray)) ++ t113) ++ (⟨#[32]⟩ : ByteArray)) ++ (rdOf ByteArray.empty y109 (ji20))) ++ (⟨#[32]⟩ : ByteArray)) ++ t114) ++ (⟨#[32]⟩ : ByteArray)) ++ t115) ++ (⟨#[58]⟩ : ByteArray)) ++ t116) ++ (⟨#[58]⟩ : ByteArray)).size + t117.size ≤ 9223372036854775807
                     ·rw [if_pos c39] at H
                      have c39b0 := eq_true c39
                      have c39b1 : decide (((((((((((((rdOf ByteArray.empty y105 (ji17)) ++ (⟨#[44, 32]⟩ : ByteArray)) ++ t113) ++ (⟨#[32]⟩ : ByteArray)) ++ (rdOf ByteArray.empty y109 (ji20))) ++ (⟨#[32]⟩ : ByteArray)) ++ t114) ++ (⟨#[32]⟩ : ByteArray)) ++ t115) ++ (⟨#[58]⟩ : ByteArray)) ++ t116) ++ (⟨#[58]⟩ : ByteArray)).size + t117.size ≤ 9223372036854775807) = true := decide_eq_true c39
                      try have c39b2 : (9223372036854775807 < ((((((((((((rdOf ByteArray.empty y105 (ji17)) ++ (⟨#[44, 32]⟩ : ByteArray)) ++ t113) ++ (⟨#[32]⟩ : ByteArray)) ++ (rdOf ByteArray.empty y109 (ji20))) ++ (⟨#[32]⟩ : ByteArray)) ++ t114) ++ (⟨#[32]⟩ : ByteArray)) ++ t115) ++ (⟨#[58]⟩ : ByteArray)) ++ t116) ++ (⟨#[58]⟩ : ByteArray)).size + t117.size) = False := eq_false (Nat.not_lt.2 c39)
                      try have c39b3 : (9223372036854775807 < (rdOf ByteArray.empty y105 (ji17)).size + 2 + (t113).size + 1 + (rdOf ByteArray.empty y109 (ji20)).size + 1 + (t114).size + 1 + (t115).size + 1 + (t116).size + 1 + (t117).size) = False := eq_false (Nat.not_lt.2 (by have h_ := c39; simp only [ByteArray.size_append] at h_; exact h_))
                      by_cases c40 : (((((((((((((rdOf ByteArray.empty y105 (ji17)) ++ (⟨#[44, 32]⟩ : ByteArray)) ++ t113) ++ (⟨#[32]⟩ : ByteArray)) ++ (rdOf ByteArray.empty y109 (ji20))) ++ (⟨#[32]⟩ : ByteArray)) ++ t114) ++ (⟨#[32]⟩ : ByteArray)) ++ t115) ++ (⟨#[58]⟩ : ByteArray)) ++ t116) ++ (⟨#[58]⟩ : ByteArray)) ++ t117).size + 4 ≤ 9223372036854775807
                      ·rw [if_pos c40] at H
                       have c40b0 := eq_true c40
                       have c40b1 : decide ((((((((((((((rdOf ByteArray.empty y105 (ji17)) ++ (⟨#[44, 32]⟩ : ByteArray)) ++ t113) ++ (⟨#[32]⟩ : ByteArray)) ++ (rdOf ByteArray.empty y109 (ji20))) ++ (⟨#[32]⟩ : ByteArray)) ++ t114) ++ (⟨#[32]⟩ : ByteArray)) ++ t115) ++ (⟨#[58]⟩ : ByteArray)) ++ t116) ++ (⟨#[58]⟩ : ByteArray)) ++ t117).size + 4 ≤ 9223372036854775807) = true := decide_eq_true c40
                       try have c40b2 : (9223372036854775807 < (((((((((((((rdOf ByteArray.empty y105 (ji17)) ++ (⟨#[44, 32]⟩ : ByteArray)) ++ t113) ++ (⟨#[32]⟩ : ByteArray)) ++ (rdOf ByteArray.empty y109 (ji20))) ++ (⟨#[32]⟩ : ByteArray)) ++ t114) ++ (⟨#[32]⟩ : ByteArray)) ++ t115) ++ (⟨#[58]⟩ : ByteArray)) ++ t116) ++ (⟨#[58]⟩ : ByteArray)) ++ t117).size + 4) = False := eq_false (Nat.not_lt.2 c40)
                       try have c40b3 : (9223372036854775807 < (rdOf ByteArray.empty y105 (ji17)).size + 2 + (t113).size + 1 + (rdOf ByteArray.empty y109 (ji20)).size + 1 + (t114).size + 1 + (t115).size + 1 + (t116).size + 1 + (t117).size + 4) = False := eq_false (Nat.not_lt.2 (by have h_ := c40; simp only [ByteArray.size_append] at h_; exact h_))
                       obtain rfl := Option.some.inj H
                       go_wp2_with (first | ((with_reducible refine gate_callee (f := 131) rfl ?_); refine goesL_ (some 40) rfl rfl Tryz.func131 (by kernel_rfl) rfl #[.int .i64 x4_3, .int .i64 x5_9, .int .i64 1] rfl am ?_; (with_reducible refine (spec_DaysOf.calls kj9 x4_3 x5_9 1 t104 _ A16.out).mono ?_); rintro e w41 ⟨rfl, hb⟩; refine ⟨_, rfl, ?_⟩; have n0_ := Aside0.mk (below_step bq hb); clear HB; have HB := n0_; clear n0_; (try clear hb); (try clear hb2); (try clear hk); (try clear hi)) | ((with_reducible refine gate_dst (N := 43) rfl ?_); refine Kd.R_lit Kd.string _ 9 ?hg (N := 43) ?hd (xs := ([(⟨#[84, 104, 117]⟩ : ByteArray), (⟨#[70, 114, 105]⟩ : ByteArray), (⟨#[83, 97, 116]⟩ : ByteArray), (⟨#[83, 117, 110]⟩ : ByteArray), (⟨#[77, 111, 110]⟩ : ByteArray), (⟨#[84, 117, 101]⟩ : ByteArray), (⟨#[87, 101, 100]⟩ : ByteArray)] : List ByteArray)) (inner := [.string (⟨#[84, 104, 117]⟩ : ByteArray), .string (⟨#[70, 114, 105]⟩ : ByteArray), .string (⟨#[83, 97, 116]⟩ : ByteArray), .string (⟨#[83, 117, 110]⟩ : ByteArray), .string (⟨#[77, 111, 110]⟩ : ByteArray), .string (⟨#[84, 117, 101]⟩ : ByteArray), .string (⟨#[87, 101, 100]⟩ : ByteArray)]) (ok := fun _ => True) (okp := fun _ => True) ?hr ?hp (fun _ hk => hk) trivial (Below.refl _ _) (Nat.le_refl _) (by simp) ?_; (case hd => rfl); (case hg => rfl); (case hr => first | (go_simp; done) | (go_simp; rfl)); (case hp => exact (Reps.one (show Kd.M Kd.string _ _ _ (⟨#[84, 104, 117]⟩ : ByteArray) [.string (⟨#[84, 104, 117]⟩ : ByteArray)] from rfl) (Reps.one (show Kd.M Kd.string _ _ _ (⟨#[70, 114, 105]⟩ : ByteArray) [.string (⟨#[70, 114, 105]⟩ : ByteArray)] from rfl) (Reps.one (show Kd.M Kd.string _ _ _ (⟨#[83, 97, 116]⟩ : ByteArray) [.string (⟨#[83, 97, 116]⟩ : ByteArray)] from rfl) (Reps.one (show Kd.M Kd.string _ _ _ (⟨#[83, 117, 110]⟩ : ByteArray) [.string (⟨#[83, 117, 110]⟩ : ByteArray)] from rfl) (Reps.one (show Kd.M Kd.string _ _ _ (⟨#[77, 111, 110]⟩ : ByteArray) [.string (⟨#[77, 111, 110]⟩ : ByteArray)] from rfl) (Reps.one (show Kd.M Kd.string _ _ _ (⟨#[84, 117, 101]⟩ : ByteArray) [.string (⟨#[84, 117, 101]⟩ : ByteArray)] from rfl) (Reps.one (show Kd.M Kd.string _ _ _ (⟨#[87, 101, 100]⟩ : ByteArray) [.string (⟨#[87, 101, 100]⟩ : ByteArray)] from rfl) (Reps.none _ _))))))))); intro v106 w42 ho43 hb hg_ hnew_; clear hg_ hnew_; (first | rw [← Ny105.out] at ho43 | (simp only [Int.reduceToNat] at ho43; rw [← Ny105.out] at ho43)); have n0_ := Aside0.mk (Kd.R_lower ho43 (below_size bq)); have n1_ := Aside0.mk (below_step bq hb); clear HB; have HO107 := n0_; have HB := n1_; clear n0_ n1_; clear hb ho43; obtain ⟨Ao44, co44, eo44⟩ := Kd.R_slice HO107.out; subst eo44; have p108 : 0 ≤ ((ji17) : Int) := of_decide_eq_true asm; have q108 : (ji17) < (y105.length : Int) := of_decide_eq_true asm; obtain ⟨ad108, e108, hx108_0⟩ := Kd.at_string (Kd.R_reads' HO107.out).2.2 (ji17) p108 q108; cases e108; replace p108 := eq_true p108; replace q108 := eq_true q108) | ((with_reducible refine gate_dst (N := 48) rfl ?_); refine Kd.R_lit Kd.string _ 9 ?hg (N := 48) ?hd (xs := ([(⟨#[74, 97, 110]⟩ : ByteArray), (⟨#[70, 101, 98]⟩ : ByteArray), (⟨#[77, 97, 114]⟩ : ByteArray), (⟨#[65, 112, 114]⟩ : ByteArray), (⟨#[77, 97, 121]⟩ : ByteArray), (⟨#[74, 117, 110]⟩ : ByteArray), (⟨#[74, 117, 108]⟩ : ByteArray), (⟨#[65, 117, 103]⟩ : ByteArray), (⟨#[83, 101, 112]⟩ : ByteArray), (⟨#[79, 99, 116]⟩ : ByteArray), (⟨#[78, 111, 118]⟩ : ByteArray), (⟨#[68, 101, 99]⟩ : ByteArray)] : List ByteArray)) (inner := [.string (⟨#[74, 97, 110]⟩ : ByteArray), .string (⟨#[70, 101, 98]⟩ : ByteArray), .string (⟨#[77, 97, 114]⟩ : ByteArray), .string (⟨#[65, 112, 114]⟩ : ByteArray), .string (⟨#[77, 97, 121]⟩ : ByteArray), .string (⟨#[74, 117, 110]⟩ : ByteArray), .string (⟨#[74, 117, 108]⟩ : ByteArray), .string (⟨#[65, 117, 103]⟩ : ByteArray), .string (⟨#[83, 101, 112]⟩ : ByteArray), .string (⟨#[79, 99, 116]⟩ : ByteArray), .string (⟨#[78, 111, 118]⟩ : ByteArray), .string (⟨#[68, 101, 99]⟩ : ByteArray)]) (ok := fun _ => True) (okp := fun _ => True) ?hr ?hp (fun _ hk => hk) trivial (Below.refl _ _) (Nat.le_refl _) (by simp) ?_; (case hd => rfl); (case hg => rfl); (case hr => first | (go_simp; done) | (go_simp; rfl)); (case hp => exact (Reps.one (show Kd.M Kd.string _ _ _ (⟨#[74, 97, 110]⟩ : ByteArray) [.string (⟨#[74, 97, 110]⟩ : ByteArray)] from rfl) (Reps.one (show Kd.M Kd.string _ _ _ (⟨#[70, 101, 98]⟩ : ByteArray) [.string (⟨#[70, 101, 98]⟩ : ByteArray)] from rfl) (Reps.one (show Kd.M Kd.string _ _ _ (⟨#[77, 97, 114]⟩ : ByteArray) [.string (⟨#[77, 97, 114]⟩ : ByteArray)] from rfl) (Reps.one (show Kd.M Kd.string _ _ _ (⟨#[65, 112, 114]⟩ : ByteArray) [.string (⟨#[65, 112, 114]⟩ : ByteArray)] from rfl) (Reps.one (show Kd.M Kd.string _ _ _ (⟨#[77, 97, 121]⟩ : ByteArray) [.string (⟨#[77, 97, 121]⟩ : ByteArray)] from rfl) (Reps.one (show Kd.M Kd.string _ _ _ (⟨#[74, 117, 110]⟩ : ByteArray) [.string (⟨#[74, 117, 110]⟩ : ByteArray)] from rfl) (Reps.one (show Kd.M Kd.string _ _ _ (⟨#[74, 117, 108]⟩ : ByteArray) [.string (⟨#[74, 117, 108]⟩ : ByteArray)] from rfl) (Reps.one (show Kd.M Kd.string _ _ _ (⟨#[65, 117, 103]⟩ : ByteArray) [.string (⟨#[65, 117, 103]⟩ : ByteArray)] from rfl) (Reps.one (show Kd.M Kd.string _ _ _ (⟨#[83, 101, 112]⟩ : ByteArray) [.string (⟨#[83, 101, 112]⟩ : ByteArray)] from rfl) (Reps.one (show Kd.M Kd.string _ _ _ (⟨#[79, 99, 116]⟩ : ByteArray) [.string (⟨#[79, 99, 116]⟩ : ByteArray)] from rfl) (Reps.one (show Kd.M Kd.string _ _ _ (⟨#[78, 111, 118]⟩ : ByteArray) [.string (⟨#[78, 111, 118]⟩ : ByteArray)] from rfl) (Reps.one (show Kd.M Kd.string _ _ _ (⟨#[68, 101, 99]⟩ : ByteArray) [.string (⟨#[68, 101, 99]⟩ : ByteArray)] from rfl) (Reps.none _ _)))))))))))))); intro v110 w45 ho46 hb hg_ hnew_; clear hg_ hnew_; (first | rw [← Ny109.out] at ho46 | (simp only [Int.reduceToNat] at ho46; rw [← Ny109.out] at ho46)); have n0_ := Aside0.mk (Kd.R_elder' (by (with_reducible repeat (first | apply Kd.R_alloc | apply Kd.R_drewN | apply Kd.R_drew)); exact HO107.out) (Kd.R_base ho46) hb); have n1_ := Aside0.mk (Kd.R_lower (Kd.R_new' ho46 (Kd.R_lt (by (with_reducible repeat (first | apply Kd.R_alloc | apply Kd.R_drewN | apply Kd.R_drew)); exact HO107.out))) (below_size bq)); have n2_ := Aside0.mk (below_step bq hb); clear HO107; clear HB; have HO107 := n0_; have HO111 := n1_; have HB := n2_; clear n0_ n1_ n2_; clear hb ho46; obtain ⟨Ao47, co47, eo47⟩ := Kd.R_slice HO111.out; subst eo47; have p112 : 0 ≤ ((ji20) : Int) := of_decide_eq_true asm; have q112 : (ji20) < (y109.length : Int) := of_decide_eq_true asm; obtain ⟨ad112, e112, hx112_0⟩ := Kd.at_string (Kd.R_reads' HO111.out).2.2 (ji20) p112 q112; cases e112; replace p112 := eq_true p112; replace q112 := eq_true q112) | ((with_reducible refine gate_callee (f := 152) rfl ?_); refine goesL_ (some 56) rfl rfl Tryz.func152 (by kernel_rfl) rfl #[.int .i64 (wrap64 ((wrap64 ((wrap64 (Int.tdiv a0 86400)) - t104)) + 1))] rfl am ?_; (with_reducible refine (spec_l4Two.calls (wrap64 ((wrap64 ((wrap64 (Int.tdiv a0 86400)) - t104)) + 1)) t113 _ A24.out).mono ?_); rintro e w48 ⟨rfl, hb⟩; refine ⟨_, rfl, ?_⟩; have n0_ := Aside0.mk (Kd.R_below (by (with_reducible repeat (first | apply Kd.R_alloc | apply Kd.R_drewN | apply Kd.R_drew)); exact HO107.out) hb); have n1_ := Aside0.mk (Kd.R_below (by (with_reducible repeat (first | apply Kd.R_alloc | apply Kd.R_drewN | apply Kd.R_drew)); exact HO111.out) hb); have n2_ := Aside0.mk (below_step bq hb); clear HO107; clear HO111; clear HB; have HO107 := n0_; have HO111 := n1_; have HB := n2_; clear n0_ n1_ n2_; (try clear hb); (try clear hb2); (try clear hk); (try clear hi)) | ((with_reducible refine gate_callee (f := 153) rfl ?_); refine goesL_ (some 63) rfl rfl Tryz.func153 (by kernel_rfl) rfl #[.int .i64 x4_3] rfl am ?_; (with_reducible refine (spec_Dec.calls kj9 x4_3 t114 _ A29.out).mono ?_); rintro e w49 ⟨rfl, hb⟩; refine ⟨_, rfl, ?_⟩; have n0_ := Aside0.mk (Kd.R_below (by (with_reducible repeat (first | apply Kd.R_alloc | apply Kd.R_drewN | apply Kd.R_drew)); exact HO107.out) hb); have n1_ := Aside0.mk (Kd.R_below (by (with_reducible repeat (first | apply Kd.R_alloc | apply Kd.R_drewN | apply Kd.R_drew)); exact HO111.out) hb); have n2_ := Aside0.mk (below_step bq hb); clear HO107; clear HO111; clear HB; have HO107 := n0_; have HO111 := n1_; have HB := n2_; clear n0_ n1_ n2_; (try clear hb); (try clear hb2); (try clear hk); (try clear hi)) | ((with_reducible refine gate_callee (f := 152) rfl ?_); refine goesL_ (some 69) rfl rfl Tryz.func152 (by kernel_rfl) rfl #[.int .i64 (Int.tmod (wrap64 (Int.tdiv a0 3600)) 24)] rfl am ?_; (with_reducible refine (spec_l4Two.calls (Int.tmod (wrap64 (Int.tdiv a0 3600)) 24) t115 _ A32.out).mono ?_); rintro e w50 ⟨rfl, hb⟩; refine ⟨_, rfl, ?_⟩; have n0_ := Aside0.mk (Kd.R_below (by (with_reducible repeat (first | apply Kd.R_alloc | apply Kd.R_drewN | apply Kd.R_drew)); exact HO107.out) hb); have n1_ := Aside0.mk (Kd.R_below (by (with_reducible repeat (first | apply Kd.R_alloc | apply Kd.R_drewN | apply Kd.R_drew)); exact HO111.out) hb); have n2_ := Aside0.mk (below_step bq hb); clear HO107; clear HO111; clear HB; have HO107 := n0_; have HO111 := n1_; have HB := n2_; clear n0_ n1_ n2_; (try clear hb); (try clear hb2); (try clear hk); (try clear hi)) | ((with_reducible refine gate_callee (f := 152) rfl ?_); refine goesL_ (some 75) rfl rfl Tryz.func152 (by kernel_rfl) rfl #[.int .i64 (Int.tmod (wrap64 (Int.tdiv a0 60)) 60)] rfl am ?_; (with_reducible refine (spec_l4Two.calls (Int.tmod (wrap64 (Int.tdiv a0 60)) 60) t116 _ A35.out).mono ?_); rintro e w51 ⟨rfl, hb⟩; refine ⟨_, rfl, ?_⟩; have n0_ := Aside0.mk (Kd.R_below (by (with_reducible repeat (first | apply Kd.R_alloc | apply Kd.R_drewN | apply Kd.R_drew)); exact HO107.out) hb); have n1_ := Aside0.mk (Kd.R_below (by (with_reducible repeat (first | apply Kd.R_alloc | apply Kd.R_drewN | apply Kd.R_drew)); exact HO111.out) hb); have n2_ := Aside0.mk (below_step bq hb); clear HO107; clear HO111; clear HB; have HO107 := n0_; have HO111 := n1_; have HB := n2_; clear n0_ n1_ n2_; (try clear hb); (try clear hb2); (try clear hk); (try clear hi)) | ((with_reducible refine gate_callee (f := 152) rfl ?_); refine goesL_ (some 80) rfl rfl Tryz.func152 (by kernel_rfl) rfl #[.int .i64 (Int.tmod a0 60)] rfl am ?_; (with_reducible refine (spec_l4Two.calls (Int.tmod a0 60) t117 _ A38.out).mono ?_); rintro e w52 ⟨rfl, hb⟩; refine ⟨_, rfl, ?_⟩; have n0_ := Aside0.mk (Kd.R_below (by (with_reducible repeat (first | apply Kd.R_alloc | apply Kd.R_drewN | apply Kd.R_drew)); exact HO107.out) hb); have n1_ := Aside0.mk (Kd.R_below (by (with_reducible repeat (first | apply Kd.R_alloc | apply Kd.R_drewN | apply Kd.R_drew)); exact HO111.out) hb); have n2_ := Aside0.mk (below_step bq hb); clear HO107; clear HO111; clear HB; have HO107 := n0_; have HO111 := n1_; have HB := n2_; clear n0_ n1_ n2_; (try clear hb); (try clear hb2); (try clear hk); (try clear hi)))
                       go_ret
                       exact ⟨by first | rfl | (simp [errW_none, errW_some] <;> rfl) | (simp only [← hji17, ← hji20]; first | rfl | (simp [errW_none, errW_some] <;> rfl)) | (simp [*, errW_none, errW_some] <;> rfl), bq⟩
                      ·rw [if_neg c40] at H
                       exact absurd H (by simp)
                     ·rw [if_neg c39] at H
                      exact absurd H (by simp)
                    ·rw [if_neg c37] at H
                     exact absurd H (by simp)
                   ·rw [if_neg c36] at H
                    exact absurd H (by simp)
                  ·rw [if_neg c34] at H
                   exact absurd H (by simp)
                 ·rw [if_neg c33] at H
                  exact absurd H (by simp)
                ·rw [if_neg c31] at H
                 exact absurd H (by simp)
               ·rw [if_neg c30] at H
                exact absurd H (by simp)
              ·rw [if_neg c28] at H
               exact absurd H (by simp)
             ·rw [if_neg c27] at H
              exact absurd H (by simp)
            ·rw [if_neg c26] at H
             exact absurd H (by simp)
           ·rw [if_neg c25] at H
            exact absurd H (by simp)
          ·rw [if_neg c23] at H
           exact absurd H (by simp)
         ·rw [if_neg c22] at H
          exact absurd H (by simp)
        ·rw [if_neg c21] at H
         exact absurd H (by simp)
       ·rw [if_neg c19] at H
        exact absurd H (by simp)
      ·rw [if_neg c18] at H
       exact absurd H (by simp)
 ·replace c3 := Bool.eq_false_iff.mpr c3
  subst c3
  rw [if_neg (show ¬ (false = true) by decide)] at H
  obtain rfl := Option.some.inj H
  go_enter Tryz.func111, Tryz.ntmps111
  go_wp2_with (first | ((with_reducible refine gate_callee (f := 86) rfl ?_); refine goesL_ (some 10) rfl rfl Tryz.func86 (by kernel_rfl) rfl #[.int .i64 a0, .int .i64 0, .int .i64 2000000000] rfl am ?_; (with_reducible refine (spec_l1In.calls a0 0 2000000000 false _ A2.out).mono ?_); rintro e w' ⟨rfl, ⟨nd, rfl⟩⟩; refine ⟨_, rfl, ?_⟩))
  go_ret
  exact ⟨by first | rfl | (simp [errW_none, errW_some] <;> rfl) | (simp [*, errW_none, errW_some] <;> rfl), bq⟩

end Go.Proofs.YtjldfmkpdkhnnaaGreatDoor.QL

namespace Go.Proofs.YtjldfmkpdkhnnaaGreatDoor.QL
open Go.RowKit Go.Proofs.YtjldfmkpdkhnnaaGreatDoorW.PrintWords Go.Proofs.YtjldfmkpdkhnnaaGreatDoorW.PrintLast Go.Proofs.YtjldfmkpdkhnnaaGreatDoorW.PrintMore Go.Proofs.YtjldfmkpdkhnnaaGreatDoor.Aux Go.Proofs.YtjldfmkpdkhnnaaGreatDoor.Dom Go.Proofs.YtjldfmkpdkhnnaaGreatDoor.Ext Go.Proofs.YtjldfmkpdkhnnaaGreatDoor.Glob
attribute [local go_sem] max2_int min2_int max_two min_two max_three min_three max_four min_four   -- for this text's walks alone

def spec_l4Num.l0 : Nat → ByteArray → Int → Int → Int → Int → Option (Int)
 | 0, _, _, _, _, _ => none
 | k + 1, x0, x1, x2, x7, x8 => if x8 < (wrap64 (x1 + x2)) then (if 0 ≤ x8 then (if x8 < (x0.size : Int) then (if (bt x0 x8) < 48 then (some (-1)) else (if (bt x0 x8) > 57 then (some (-1)) else (spec_l4Num.l0 k x0 x1 x2 (wrap64 ((wrap64 (x7 * 10)) + (((bt x0 x8) - 48) % 256))) (wrap64 (x8 + 1))))) else (none)) else (none)) else (some x7)
def spec_l4Num.f (k : Nat) (a0 : ByteArray) (a1 : Int) (a2 : Int) : Option (Int) := spec_l4Num.l0 k a0 a1 a2 0 a1
theorem spec_l4Num.mono_l : ∀ k, (∀ y0 y1 y2 y3 y4, LeO (spec_l4Num.l0 k y0 y1 y2 y3 y4) (spec_l4Num.l0 (k + 1) y0 y1 y2 y3 y4))
 | 0 => fun _ _ _ _ _ r h => by simp [spec_l4Num.l0] at h
 | k + 1 => by
  have ih0 := spec_l4Num.mono_l k
  ·intro y0 y1 y2 y3 y4
   unfold spec_l4Num.l0
   repeat' first
   | (with_reducible exact ih0 _ _ _ _ _)
   | (with_reducible exact LeO.refl _)
   | (with_reducible exact LeO.none _)
   | (with_reducible refine LeO.ite ?_ ?_)
   | (with_reducible refine LeO.bind ?_ (fun _ => ?_))
   | exact ih0 _ _ _ _ _
   | exact LeO.none _
   | refine LeO.ite ?_ ?_
   | refine LeO.bind ?_ (fun _ => ?_)
theorem spec_l4Num.mono : ∀ a0 a1 a2 k, LeO (spec_l4Num.f k a0 a1 a2) (spec_l4Num.f (k + 1) a0 a1 a2) := by
 intro a0 a1 a2 k
 have ih0 := spec_l4Num.mono_l k
 unfold spec_l4Num.f
 repeat' first
   | (with_reducible exact ih0 _ _ _ _ _)
   | (with_reducible exact LeO.refl _)
   | (with_reducible exact LeO.none _)
   | (with_reducible refine LeO.ite ?_ ?_)
   | (with_reducible refine LeO.bind ?_ (fun _ => ?_))
   | exact ih0 _ _ _ _ _
   | exact LeO.none _
   | refine LeO.ite ?_ ?_
   | refine LeO.bind ?_ (fun _ => ?_)
set_option maxHeartbeats 8000000 in
set_option maxRecDepth 100000 in
theorem spec_l4Num.calls (k : Nat) (a0 : ByteArray) (a1 : Int) (a2 : Int) (r : Int) (w : World) (h : spec_l4Num.f k a0 a1 a2 = some r) :
  Calls Tryz.prog 132 #[.string a0, .int .i64 a1, .int .i64 a2] w fun e w' => e = .returned (.int .i64 r) ∧ Drawn0 w w' := by
 have H : (spec_l4Num.l0 k a0 a1 a2 0 a1) = some r := h
 clear h
 have H' := Aside0.mk H
 clear H
 go_enter Tryz.func132, Tryz.ntmps132
 go_wp2
 go_loopg [7, 8] k (fun kq v7 v8 w' => ∃ (x7_1 : Int) (x8_1 : Int), v7 = .int .i64 x7_1 ∧ v8 = .int .i64 x8_1 ∧ Aside0 (spec_l4Num.l0 kq a0 a1 a2 x7_1 x8_1 = some r) ∧ Aside0 (kq ≤ k) ∧ Drawn0 w w')
 case atStart => exact ⟨(0), (a1), (by first | rfl | (simp; done) | (simp [*]; done)), (by first | rfl | (simp; done) | (simp [*]; done)), H', ⟨Nat.le_refl _⟩, by repeat (first | exact Drawn0.refl _ | apply Drawn0.step)⟩
 case round =>
  clear H'
  try clear c1
  try clear p2
  obtain ⟨x7_1, x8_1, rfl, rfl, HA, HK1, ⟨m1, rfl⟩⟩ := hrel
  cases gk with
  | zero => exact absurd HA.out (by simp [spec_l4Num.l0])
  | succ k1 =>
   have H := HA.out
   clear HA
   simp only [spec_l4Num.l0] at H
   by_cases c4 : x8_1 < (wrap64 (a1 + a2))
   ·rw [if_pos c4] at H
    have c4b0 : decide (x8_1 < (wrap64 (a1 + a2))) = true := decide_eq_true c4
    clear c4
    by_cases c5 : 0 ≤ x8_1
    ·rw [if_pos c5] at H
     have c5b0 : decide (0 ≤ x8_1) = true := decide_eq_true c5
     clear c5
     by_cases c6 : x8_1 < (a0.size : Int)
     ·rw [if_pos c6] at H
      have c6b0 : decide (x8_1 < (a0.size : Int)) = true := decide_eq_true c6
      clear c6
      by_cases c8 : (bt a0 x8_1) < 48
      ·rw [if_pos c8] at H
       have c8b0 : decide ((bt a0 x8_1) < 48) = true := decide_eq_true c8
       clear c8
       obtain rfl := Option.some.inj H
       have p7 : 0 ≤ (x8_1 : Int) := of_decide_eq_true asm
       have q7 : x8_1 < (a0.size : Int) := of_decide_eq_true asm
       have hx7 := bt_at a0 x8_1
       replace p7 := eq_true p7
       replace q7 := eq_true q7
       go_wp2
       go_ret
       exact ⟨by first | rfl | (simp; done) | (simp [*]; done) | (simp; generalize ByteArray.toList _ = L_; cases L_ <;> rfl), by repeat (first | exact Drawn0.refl _ | apply Drawn0.step)⟩
      ·rw [if_neg c8] at H
       have c8b0 : decide ((bt a0 x8_1) < 48) = false := decide_eq_false c8
       clear c8
       by_cases c10 : (bt a0 x8_1) > 57
       ·rw [if_pos c10] at H
        have c10b0 : decide (57 < (bt a0 x8_1)) = true := decide_eq_true c10
        clear c10
        obtain rfl := Option.some.inj H
        have p7 : 0 ≤ (x8_1 : Int) := of_decide_eq_true asm
        have q7 : x8_1 < (a0.size : Int) := of_decide_eq_true asm
        have hx7 := bt_at a0 x8_1
        replace p7 := eq_true p7
        replace q7 := eq_true q7
        have p9 : 0 ≤ (x8_1 : Int) := of_decide_eq_true asm
        have q9 : x8_1 < (a0.size : Int) := of_decide_eq_true asm
        have hx9 := bt_at a0 x8_1
        replace p9 := eq_true p9
        replace q9 := eq_true q9
        go_wp2
        go_ret
        exact ⟨by first | rfl | (simp; done) | (simp [*]; done) | (simp; generalize ByteArray.toList _ = L_; cases L_ <;> rfl), by repeat (first | exact Drawn0.refl _ | apply Drawn0.step)⟩
       ·rw [if_neg c10] at H
        have c10b0 : decide (57 < (bt a0 x8_1)) = false := decide_eq_false c10
        clear c10
        have H' := Aside0.mk H
        clear H
        have p7 : 0 ≤ (x8_1 : Int) := of_decide_eq_true asm
        have q7 : x8_1 < (a0.size : Int) := of_decide_eq_true asm
        have hx7 := bt_at a0 x8_1
        replace p7 := eq_true p7
        replace q7 := eq_true q7
        have p9 : 0 ≤ (x8_1 : Int) := of_decide_eq_true asm
        have q9 : x8_1 < (a0.size : Int) := of_decide_eq_true asm
        have hx9 := bt_at a0 x8_1
        replace p9 := eq_true p9
        replace q9 := eq_true q9
        have p11 : 0 ≤ (x8_1 : Int) := of_decide_eq_true asm
        have q11 : x8_1 < (a0.size : Int) := of_decide_eq_true asm
        have hx11 := bt_at a0 x8_1
        replace p11 := eq_true p11
        replace q11 := eq_true q11
        go_wp2
        go_roundg k1
        case measure => have := HK1.out; omega
        case rel => exact ⟨(wrap64 ((wrap64 (x7_1 * 10)) + (((bt a0 x8_1) - 48) % 256))), (wrap64 (x8_1 + 1)), (by first | rfl | (simp; done) | (simp [*]; done)), (by first | rfl | (simp; done) | (simp [*]; done)), H', ⟨by have := HK1.out; omega⟩, by repeat (first | exact Drawn0.refl _ | apply Drawn0.step)⟩
     ·rw [if_neg c6] at H
      exact absurd H (by simp)
    ·rw [if_neg c5] at H
     exact absurd H (by simp)
   ·rw [if_neg c4] at H
    have c4b0 : decide (x8_1 < (wrap64 (a1 + a2))) = false := decide_eq_false c4
    clear c4
    obtain rfl := Option.some.inj H
    go_wp2
    go_ret
    exact ⟨by first | rfl | (simp; done) | (simp [*]; done) | (simp; generalize ByteArray.toList _ = L_; cases L_ <;> rfl), by repeat (first | exact Drawn0.refl _ | apply Drawn0.step)⟩

end Go.Proofs.YtjldfmkpdkhnnaaGreatDoor.QL

namespace Go.Proofs.YtjldfmkpdkhnnaaGreatDoor.QL
open Go.RowKit Go.Proofs.YtjldfmkpdkhnnaaGreatDoorW.PrintWords Go.Proofs.YtjldfmkpdkhnnaaGreatDoorW.PrintLast Go.Proofs.YtjldfmkpdkhnnaaGreatDoorW.PrintMore Go.Proofs.YtjldfmkpdkhnnaaGreatDoor.Aux Go.Proofs.YtjldfmkpdkhnnaaGreatDoor.Dom Go.Proofs.YtjldfmkpdkhnnaaGreatDoor.Ext Go.Proofs.YtjldfmkpdkhnnaaGreatDoor.Glob
attribute [local go_sem] max2_int min2_int max_two min_two max_three min_three max_four min_four   -- for this text's walks alone

mutual
def spec_ReadDate.l0 : Nat → ByteArray → Int → Int → Option (Int × Bool)
 | 0, _, _, _ => none
 | k + 1, x0, x4, x5 => if x5 ≤ 12 then (if 8 ≤ 11 then (if 11 ≤ (x0.size : Int) then ((some (([(⟨#[74, 97, 110]⟩ : ByteArray), (⟨#[70, 101, 98]⟩ : ByteArray), (⟨#[77, 97, 114]⟩ : ByteArray), (⟨#[65, 112, 114]⟩ : ByteArray), (⟨#[77, 97, 121]⟩ : ByteArray), (⟨#[74, 117, 110]⟩ : ByteArray), (⟨#[74, 117, 108]⟩ : ByteArray), (⟨#[65, 117, 103]⟩ : ByteArray), (⟨#[83, 101, 112]⟩ : ByteArray), (⟨#[79, 99, 116]⟩ : ByteArray), (⟨#[78, 111, 118]⟩ : ByteArray), (⟨#[68, 101, 99]⟩ : ByteArray)] : List ByteArray) : List ByteArray)).bind fun y101 => (if 0 ≤ (wrap64 (x5 - 1)) then (if (wrap64 (x5 - 1)) < (y101.length : Int) then (if (x0.extract 8 11).toList = (rdOf ByteArray.empty y101 (wrap64 (x5 - 1))).toList then (spec_ReadDate.l0 k x0 x5 (wrap64 (x5 + 1))) else (spec_ReadDate.l0 k x0 x4 (wrap64 (x5 + 1)))) else (none)) else (none))) else (none)) else (none)) else ((spec_l4Num.f k x0 12 4).bind fun t105 => ((spec_l4Num.f k x0 5 2).bind fun t106 => ((spec_DaysOf.f k t105 x4 t106).bind fun t107 => ((spec_l4Num.f k x0 17 2).bind fun t108 => ((spec_l4Num.f k x0 20 2).bind fun t109 => ((spec_l4Num.f k x0 23 2).bind fun t110 => (if t107 < 0 then (spec_ReadDate.j1 k x0 t107 t108 t109 t110 true) else (if t108 < 0 then (spec_ReadDate.j1 k x0 t107 t108 t109 t110 true) else (if t109 < 0 then (spec_ReadDate.j1 k x0 t107 t108 t109 t110 true) else (spec_ReadDate.j1 k x0 t107 t108 t109 t110 (decide (t110 < 0))))))))))))
def spec_ReadDate.j1 : Nat → ByteArray → Int → Int → Int → Int → Bool → Option (Int × Bool)
 | 0, _, _, _, _, _, _ => none
 | k + 1, x0, x6, x7, x8, x9, x52 => if x52 = true then (some (0, false)) else ((spec_ShowDate.f k (wrap64 ((wrap64 ((wrap64 ((wrap64 (x6 * 86400)) + (wrap64 (x7 * 3600)))) + (wrap64 (x8 * 60)))) + x9))).bind fun t111 => (if t111.toList = x0.toList then (some (wrap64 ((wrap64 ((wrap64 ((wrap64 (x6 * 86400)) + (wrap64 (x7 * 3600)))) + (wrap64 (x8 * 60)))) + x9), true)) else (some (0, false))))
end
def spec_ReadDate.f (k : Nat) (a0 : ByteArray) : Option (Int × Bool) := if (a0.size : Int) = 29 then (spec_ReadDate.l0 k a0 0 1) else (some (0, false))
theorem spec_ReadDate.mono_l : ∀ k, (∀ y0 y1 y2, LeO (spec_ReadDate.l0 k y0 y1 y2) (spec_ReadDate.l0 (k + 1) y0 y1 y2)) ∧ (∀ y0 y1 y2 y3 y4 y5, LeO (spec_ReadDate.j1 k y0 y1 y2 y3 y4 y5) (spec_ReadDate.j1 (k + 1) y0 y1 y2 y3 y4 y5))
 | 0 => ⟨fun _ _ _ r h => by simp [spec_ReadDate.l0] at h, fun _ _ _ _ _ _ r h => by simp [spec_ReadDate.j1] at h⟩
 | k + 1 => by
  obtain ⟨ih0, ih1⟩ := spec_ReadDate.mono_l k
  refine ⟨?_, ?_⟩
  ·intro y0 y1 y2
   unfold spec_ReadDate.l0
   repeat' first
   | (with_reducible exact ih0 _ _ _)
   | (with_reducible exact ih1 _ _ _ _ _ _)
   | (with_reducible exact spec_DaysOf.mono _ _ _ _)
   | (with_reducible exact spec_ShowDate.mono _ _)
   | (with_reducible exact spec_l4Num.mono _ _ _ _)
   | (with_reducible exact LeO.refl _)
   | (with_reducible exact LeO.none _)
   | (with_reducible refine LeO.ite ?_ ?_)
   | (with_reducible refine LeO.bind ?_ (fun _ => ?_))
   | exact ih0 _ _ _
   | exact ih1 _ _ _ _ _ _
   | exact spec_DaysOf.mono _ _ _ _
   | exact spec_ShowDate.mono _ _
   | exact spec_l4Num.mono _ _ _ _
   | exact LeO.none _
   | refine LeO.ite ?_ ?_
   | refine LeO.bind ?_ (fun _ => ?_)
  ·intro y0 y1 y2 y3 y4 y5
   unfold spec_ReadDate.j1
   repeat' first
   | (with_reducible exact ih0 _ _ _)
   | (with_reducible exact ih1 _ _ _ _ _ _)
   | (with_reducible exact spec_DaysOf.mono _ _ _ _)
   | (with_reducible exact spec_ShowDate.mono _ _)
   | (with_reducible exact spec_l4Num.mono _ _ _ _)
   | (with_reducible exact LeO.refl _)
   | (with_reducible exact LeO.none _)
   | (with_reducible refine LeO.ite ?_ ?_)
   | (with_reducible refine LeO.bind ?_ (fun _ => ?_))
   | exact ih0 _ _ _
   | exact ih1 _ _ _ _ _ _
   | exact spec_DaysOf.mono _ _ _ _
   | exact spec_ShowDate.mono _ _
   | exact spec_l4Num.mono _ _ _ _
   | exact LeO.none _
   | refine LeO.ite ?_ ?_
   | refine LeO.bind ?_ (fun _ => ?_)
theorem spec_ReadDate.mono : ∀ a0 k, LeO (spec_ReadDate.f k a0) (spec_ReadDate.f (k + 1) a0) := by
 intro a0 k
 obtain ⟨ih0, ih1⟩ := spec_ReadDate.mono_l k
 unfold spec_ReadDate.f
 repeat' first
   | (with_reducible exact ih0 _ _ _)
   | (with_reducible exact ih1 _ _ _ _ _ _)
   | (with_reducible exact spec_DaysOf.mono _ _ _ _)
   | (with_reducible exact spec_ShowDate.mono _ _)
   | (with_reducible exact spec_l4Num.mono _ _ _ _)
   | (with_reducible exact LeO.refl _)
   | (with_reducible exact LeO.none _)
   | (with_reducible refine LeO.ite ?_ ?_)
   | (with_reducible refine LeO.bind ?_ (fun _ => ?_))
   | exact ih0 _ _ _
   | exact ih1 _ _ _ _ _ _
   | exact spec_DaysOf.mono _ _ _ _
   | exact spec_ShowDate.mono _ _
   | exact spec_l4Num.mono _ _ _ _
   | exact LeO.none _
   | refine LeO.ite ?_ ?_
   | refine LeO.bind ?_ (fun _ => ?_)
def spec_ReadDate.T7 : Bool × List (List Nat × List Nat) := (true, [([], []), ([0], [0]), ([], []), ([], []), ([3], [3]), ([2, 4], [2, 4]), ([5], [5]), ([1, 6], [1, 6])])
def spec_ReadDate.B7 : List Nat := [0, 1, 0, 0, 8, 28, 60, 127]
theorem spec_ReadDate.tab7 : rtab .any (opsOf Tryz.f92 7) = spec_ReadDate.T7 := by kernel_rfl
theorem spec_ReadDate.bits7 : waitsOk spec_ReadDate.T7.2 spec_ReadDate.B7 = true := by kernel_rfl
set_option maxHeartbeats 8000000 in
set_option maxRecDepth 100000 in
theorem spec_ReadDate.calls (k : Nat) (a0 : ByteArray) (r1 : Int) (r2 : Bool) (w : World) (h : spec_ReadDate.f k a0 = some (r1, r2)) :
  Calls Tryz.prog 92 #[.string a0] w fun e w' => e = .returned (.tuple #[.int .i64 r1, .bool r2]) ∧ Below w.heap.size w w' := by
 have HB := Aside0.mk (Below.refl w.heap.size w)
 have H : (if (a0.size : Int) = 29 then (spec_ReadDate.l0 k a0 0 1) else (some (0, false))) = some (r1, r2) := h
 clear h
 by_cases c2 : (a0.size : Int) = 29
 ·rw [if_pos c2] at H
  have c2b0 : ((a0.size : Int) == 29) = true := beq_iff_eq.mpr c2
  have c2b1 : ((a0.size : Int) != 29) = false := bne_eq_false_iff_eq.mpr c2
  clear c2
  have H' := Aside0.mk H
  clear H
  go_enter Tryz.func92, Tryz.ntmps92
  go_wp2
  go_loopg [4, 5] k (fun kq v4 v5 w' => ∃ (x4_1 : Int) (x5_1 : Int), v4 = .int .i64 x4_1 ∧ v5 = .int .i64 x5_1 ∧ Aside0 (spec_ReadDate.l0 kq a0 x4_1 x5_1 = some (r1, r2)) ∧ Aside0 (kq ≤ k) ∧ Aside0 (Below w.heap.size w w'))
  case atStart => exact ⟨(0), (1), (by first | rfl | (simp; done) | (simp [*]; done)), (by first | rfl | (simp; done) | (simp [*]; done)), H', ⟨Nat.le_refl _⟩, ⟨by repeat (first | (with_reducible first | exact HB.out | apply below_alloc | apply pw_below_drewN | apply below_drew1) | exact HB.out)⟩⟩
  case round =>
   clear H'
   try clear c2
   try clear c2b0
   try clear c2b1
   try clear p2
   obtain ⟨x4_1, x5_1, rfl, rfl, HA, HK1, HB⟩ := hrel
   cases gk with
   | zero => exact absurd HA.out (by simp [spec_ReadDate.l0])
   | succ k1 =>
    have H := HA.out
    clear HA
    simp only [spec_ReadDate.l0] at H
    by_cases c3 : x5_1 ≤ 12
    ·rw [if_pos c3] at H
     have c3b0 : decide (x5_1 ≤ 12) = true := decide_eq_true c3
     clear c3
     by_cases c4 : 8 ≤ 11
     ·rw [if_pos c4] at H
      have c4b0 := eq_true c4
      have c4b1 : decide (8 ≤ 11) = true := decide_eq_true c4
      clear c4
      by_cases c5 : 11 ≤ (a0.size : Int)
      ·rw [if_pos c5] at H
       have c5b0 := eq_true c5
       have c5b1 : decide (11 ≤ (a0.size : Int)) = true := decide_eq_true c5
       clear c5
       obtain ⟨y101, hy101⟩ : ∃ y_ : List ByteArray, y_ = (([(⟨#[74, 97, 110]⟩ : ByteArray), (⟨#[70, 101, 98]⟩ : ByteArray), (⟨#[77, 97, 114]⟩ : ByteArray), (⟨#[65, 112, 114]⟩ : ByteArray), (⟨#[77, 97, 121]⟩ : ByteArray), (⟨#[74, 117, 110]⟩ : ByteArray), (⟨#[74, 117, 108]⟩ : ByteArray), (⟨#[65, 117, 103]⟩ : ByteArray), (⟨#[83, 101, 112]⟩ : ByteArray), (⟨#[79, 99, 116]⟩ : ByteArray), (⟨#[78, 111, 118]⟩ : ByteArray), (⟨#[68, 101, 99]⟩ : ByteArray)] : List ByteArray)) := ⟨_, rfl⟩
       replace H : (if 0 ≤ (wrap64 (x5_1 - 1)) then (if (wrap64 (x5_1 - 1)) < (y101.length : Int) then (if (a0.extract 8 11).toList = (rdOf ByteArray.empty y101 (wrap64 (x5_1 - 1))).toList then (spec_ReadDate.l0 k1 a0 x5_1 (wrap64 (x5_1 + 1))) else (spec_ReadDate.l0 k1 a0 x4_1 (wrap64 (x5_1 + 1)))) else (none)) else (none)) = some (r1, r2) := by first | (rw [hy101]; with_reducible exact H) | (have H2_ := (Option.bind_some _ _).symm.trans H; rw [hy101]; with_reducible exact H2_) | (have H2_ := (Option.bind_some _ _).symm.trans H; with_reducible exact H2_) | with_reducible exact H | (rw [hy101]; exact H) | exact H
       have Ny101 := Aside0.mk hy101
       clear hy101
       obtain ⟨ji6, hji6⟩ : ∃ j_ : Int, (wrap64 (x5_1 - 1)) = j_ := ⟨_, rfl⟩
       replace H : (if 0 ≤ (ji6) then (if (ji6) < (y101.length : Int) then (if (a0.extract 8 11).toList = (rdOf ByteArray.empty y101 (ji6)).toList then (spec_ReadDate.l0 k1 a0 x5_1 (wrap64 (x5_1 + 1))) else (spec_ReadDate.l0 k1 a0 x4_1 (wrap64 (x5_1 + 1)))) else (none)) else (none)) = some (r1, r2) := by first | (rw [hji6] at H; exact H) | (simp only [hji6] at H ⊢; exact H)
       have hji6w : (IntKind.i64.wrap (x5_1 - 1)) = ji6 := (i64_w _).trans hji6
       by_cases c7 : 0 ≤ (ji6)
       ·rw [if_pos c7] at H
        have c7b0 : decide (0 ≤ (ji6)) = true := decide_eq_true c7
        clear c7
        by_cases c8 : (ji6) < (y101.length : Int)
        ·rw [if_pos c8] at H
         have c8b0 : decide ((ji6) < (y101.length : Int)) = true := decide_eq_true c8
         clear c8
         by_cases c9 : (a0.extract 8 11).toList = (rdOf ByteArray.empty y101 (ji6)).toList
         ·rw [if_pos c9] at H
          have c9b0 : ((a0.extract 8 11).toList == (rdOf ByteArray.empty y101 (ji6)).toList) = true := beq_iff_eq.mpr c9
          have c9b1 : ((a0.extract 8 11).toList != (rdOf ByteArray.empty y101 (ji6)).toList) = false := bne_eq_false_iff_eq.mpr c9
          clear c9
          have H' := Aside0.mk H
          clear H
          try go_wp2
          have pi104 : (0 ≤ ((ji6) : Int)) = True := eq_true (of_decide_eq_true asm)
          have qi104 : ((ji6) < (y101.length : Int)) = True := eq_true (of_decide_eq_true asm)
          have n0_ := Aside0.mk (below_drew1 HB.out)
          clear HB
          have HB := n0_
          clear n0_
          refine start_ (n := 8) (S := fun w' => True) (ds := []) (Array.replicate 8 false) (by kernel_rfl) rfl rfl trivial (fun hHeld => ?_); refine with_tabW spec_ReadDate.tab7 spec_ReadDate.bits7 (fun HT_ HW_ => ?_)
          generalize wr.drew = w10 at HB hHeld ⊢
          refine pu 0 18 HT_ ?_
          refine pu 1 19 HT_ ?_
          refine pu 3 21 HT_ ?_
          refine pu 4 22 HT_ ?_
          refine on1 2 20 HT_ (fun K hK => ?_)
          refine Kd.R_lit_step Kd.string _ 9 ?hg (N := 20) ?hd (xs := ([(⟨#[74, 97, 110]⟩ : ByteArray), (⟨#[70, 101, 98]⟩ : ByteArray), (⟨#[77, 97, 114]⟩ : ByteArray), (⟨#[65, 112, 114]⟩ : ByteArray), (⟨#[77, 97, 121]⟩ : ByteArray), (⟨#[74, 117, 110]⟩ : ByteArray), (⟨#[74, 117, 108]⟩ : ByteArray), (⟨#[65, 117, 103]⟩ : ByteArray), (⟨#[83, 101, 112]⟩ : ByteArray), (⟨#[79, 99, 116]⟩ : ByteArray), (⟨#[78, 111, 118]⟩ : ByteArray), (⟨#[68, 101, 99]⟩ : ByteArray)] : List ByteArray)) (inner := [.string (⟨#[74, 97, 110]⟩ : ByteArray), .string (⟨#[70, 101, 98]⟩ : ByteArray), .string (⟨#[77, 97, 114]⟩ : ByteArray), .string (⟨#[65, 112, 114]⟩ : ByteArray), .string (⟨#[77, 97, 121]⟩ : ByteArray), .string (⟨#[74, 117, 110]⟩ : ByteArray), .string (⟨#[74, 117, 108]⟩ : ByteArray), .string (⟨#[65, 117, 103]⟩ : ByteArray), .string (⟨#[83, 101, 112]⟩ : ByteArray), .string (⟨#[79, 99, 116]⟩ : ByteArray), .string (⟨#[78, 111, 118]⟩ : ByteArray), .string (⟨#[68, 101, 99]⟩ : ByteArray)]) (ok := fun _ => True) (okp := fun _ => True) ?hr ?hp (fun _ hk => hk) trivial (Below.refl _ _) (Nat.le_refl _) (by simp) ?_; (case hd => rfl); (case hg => rfl); (case hr => first | (go_simp; done) | (go_simp; rfl)); (case hp => exact (Reps.one (show Kd.M Kd.string _ _ _ (⟨#[74, 97, 110]⟩ : ByteArray) [.string (⟨#[74, 97, 110]⟩ : ByteArray)] from rfl) (Reps.one (show Kd.M Kd.string _ _ _ (⟨#[70, 101, 98]⟩ : ByteArray) [.string (⟨#[70, 101, 98]⟩ : ByteArray)] from rfl) (Reps.one (show Kd.M Kd.string _ _ _ (⟨#[77, 97, 114]⟩ : ByteArray) [.string (⟨#[77, 97, 114]⟩ : ByteArray)] from rfl) (Reps.one (show Kd.M Kd.string _ _ _ (⟨#[65, 112, 114]⟩ : ByteArray) [.string (⟨#[65, 112, 114]⟩ : ByteArray)] from rfl) (Reps.one (show Kd.M Kd.string _ _ _ (⟨#[77, 97, 121]⟩ : ByteArray) [.string (⟨#[77, 97, 121]⟩ : ByteArray)] from rfl) (Reps.one (show Kd.M Kd.string _ _ _ (⟨#[74, 117, 110]⟩ : ByteArray) [.string (⟨#[74, 117, 110]⟩ : ByteArray)] from rfl) (Reps.one (show Kd.M Kd.string _ _ _ (⟨#[74, 117, 108]⟩ : ByteArray) [.string (⟨#[74, 117, 108]⟩ : ByteArray)] from rfl) (Reps.one (show Kd.M Kd.string _ _ _ (⟨#[65, 117, 103]⟩ : ByteArray) [.string (⟨#[65, 117, 103]⟩ : ByteArray)] from rfl) (Reps.one (show Kd.M Kd.string _ _ _ (⟨#[83, 101, 112]⟩ : ByteArray) [.string (⟨#[83, 101, 112]⟩ : ByteArray)] from rfl) (Reps.one (show Kd.M Kd.string _ _ _ (⟨#[79, 99, 116]⟩ : ByteArray) [.string (⟨#[79, 99, 116]⟩ : ByteArray)] from rfl) (Reps.one (show Kd.M Kd.string _ _ _ (⟨#[78, 111, 118]⟩ : ByteArray) [.string (⟨#[78, 111, 118]⟩ : ByteArray)] from rfl) (Reps.one (show Kd.M Kd.string _ _ _ (⟨#[68, 101, 99]⟩ : ByteArray) [.string (⟨#[68, 101, 99]⟩ : ByteArray)] from rfl) (Reps.none _ _))))))))))))))
          intro v102 w11 ho12 hb hg_ hnew_
          clear hg_ hnew_
          (first | rw [← Ny101.out] at ho12 | (simp only [Int.reduceToNat] at ho12; rw [← Ny101.out] at ho12))
          have n0_ := Aside0.mk (Kd.R_lower ho12 (below_size bq))
          have n1_ := Aside0.mk (below_step bq hb)
          clear HB
          have HO103 := n0_
          have HB := n1_
          clear n0_ n1_
          clear hb ho12
          obtain ⟨Ao13, co13, eo13⟩ := Kd.R_slice HO103.out
          subst eo13
          obtain ⟨ado13, fo13, _⟩ := Kd.at_string (Kd.R_reads' HO103.out).2.2 0 (by decide) (by rw [Ny101.out]; simp)
          cases fo13
          refine hK.out _ _ trivial (fun hHeld => ?_)
          clear hK K
          refine nrm 20 ?_
          refine pu 5 23 HT_ ?_
          refine on1 6 24 HT_ (fun K hK => ?_)
          (have p104 : 0 ≤ ((ji6) : Int) := of_decide_eq_true asm; have q104 : (ji6) < (y101.length : Int) := of_decide_eq_true asm; obtain ⟨ad104, e104, hx104_0⟩ := Kd.at_string (Kd.R_reads' HO103.out).2.2 (ji6) p104 q104; obtain rfl : ado13 = ad104 := (by injection e104))
          refine value_ (w1 := ?_) (v := ?_) (by rfl) rfl ?_ ?_
          rotate_left 2
          ·go_simp
           constructor
           ·rfl
           ·rfl
          clear hx104_0
          refine hK.out _ _ trivial (fun hHeld => ?_)
          clear hK K
          refine nrm 24 ?_
          refine pu 7 25 HT_ ?_
          refine done_ (done_of HT_.out (by kernel_rfl)) ?_
          try go_wp2
          go_roundg k1
          case measure => have := HK1.out; omega
          case rel => exact ⟨(x5_1), (wrap64 (x5_1 + 1)), (by first | rfl | (simp; done) | (simp [*]; done)), (by first | rfl | (simp; done) | (simp [*]; done)), H', ⟨by have := HK1.out; omega⟩, ⟨by repeat (first | (with_reducible first | exact HB.out | apply below_alloc | apply pw_below_drewN | apply below_drew1) | exact HB.out)⟩⟩
         ·rw [if_neg c9] at H
          have c9b0 : ((a0.extract 8 11).toList == (rdOf ByteArray.empty y101 (ji6)).toList) = false := beq_eq_false_iff_ne.mpr c9
          have c9b1 : ((a0.extract 8 11).toList != (rdOf ByteArray.empty y101 (ji6)).toList) = true := bne_iff_ne.mpr c9
          have H' := Aside0.mk H
          clear H
          try go_wp2
          have pi104 : (0 ≤ ((ji6) : Int)) = True := eq_true (of_decide_eq_true asm)
          have qi104 : ((ji6) < (y101.length : Int)) = True := eq_true (of_decide_eq_true asm)
          have n0_ := Aside0.mk (below_drew1 HB.out)
          clear HB
          have HB := n0_
          clear n0_
          refine start_ (n := 8) (S := fun w' => True) (ds := []) (Array.replicate 8 false) (by kernel_rfl) rfl rfl trivial (fun hHeld => ?_); refine with_tabW spec_ReadDate.tab7 spec_ReadDate.bits7 (fun HT_ HW_ => ?_)
          generalize wr.drew = w14 at HB hHeld ⊢
          refine pu 0 18 HT_ ?_
          refine pu 1 19 HT_ ?_
          refine pu 3 21 HT_ ?_
          refine pu 4 22 HT_ ?_
          refine on1 2 20 HT_ (fun K hK => ?_)
          refine Kd.R_lit_step Kd.string _ 9 ?hg (N := 20) ?hd (xs := ([(⟨#[74, 97, 110]⟩ : ByteArray), (⟨#[70, 101, 98]⟩ : ByteArray), (⟨#[77, 97, 114]⟩ : ByteArray), (⟨#[65, 112, 114]⟩ : ByteArray), (⟨#[77, 97, 121]⟩ : ByteArray), (⟨#[74, 117, 110]⟩ : ByteArray), (⟨#[74, 117, 108]⟩ : ByteArray), (⟨#[65, 117, 103]⟩ : ByteArray), (⟨#[83, 101, 112]⟩ : ByteArray), (⟨#[79, 99, 116]⟩ : ByteArray), (⟨#[78, 111, 118]⟩ : ByteArray), (⟨#[68, 101, 99]⟩ : ByteArray)] : List ByteArray)) (inner := [.string (⟨#[74, 97, 110]⟩ : ByteArray), .string (⟨#[70, 101, 98]⟩ : ByteArray), .string (⟨#[77, 97, 114]⟩ : ByteArray), .string (⟨#[65, 112, 114]⟩ : ByteArray), .string (⟨#[77, 97, 121]⟩ : ByteArray), .string (⟨#[74, 117, 110]⟩ : ByteArray), .string (⟨#[74, 117, 108]⟩ : ByteArray), .string (⟨#[65, 117, 103]⟩ : ByteArray), .string (⟨#[83, 101, 112]⟩ : ByteArray), .string (⟨#[79, 99, 116]⟩ : ByteArray), .string (⟨#[78, 111, 118]⟩ : ByteArray), .string (⟨#[68, 101, 99]⟩ : ByteArray)]) (ok := fun _ => True) (okp := fun _ => True) ?hr ?hp (fun _ hk => hk) trivial (Below.refl _ _) (Nat.le_refl _) (by simp) ?_; (case hd => rfl); (case hg => rfl); (case hr => first | (go_simp; done) | (go_simp; rfl)); (case hp => exact (Reps.one (show Kd.M Kd.string _ _ _ (⟨#[74, 97, 110]⟩ : ByteArray) [.string (⟨#[74, 97, 110]⟩ : ByteArray)] from rfl) (Reps.one (show Kd.M Kd.string _ _ _ (⟨#[70, 101, 98]⟩ : ByteArray) [.string (⟨#[70, 101, 98]⟩ : ByteArray)] from rfl) (Reps.one (show Kd.M Kd.string _ _ _ (⟨#[77, 97, 114]⟩ : ByteArray) [.string (⟨#[77, 97, 114]⟩ : ByteArray)] from rfl) (Reps.one (show Kd.M Kd.string _ _ _ (⟨#[65, 112, 114]⟩ : ByteArray) [.string (⟨#[65, 112, 114]⟩ : ByteArray)] from rfl) (Reps.one (show Kd.M Kd.string _ _ _ (⟨#[77, 97, 121]⟩ : ByteArray) [.string (⟨#[77, 97, 121]⟩ : ByteArray)] from rfl) (Reps.one (show Kd.M Kd.string _ _ _ (⟨#[74, 117, 110]⟩ : ByteArray) [.string (⟨#[74, 117, 110]⟩ : ByteArray)] from rfl) (Reps.one (show Kd.M Kd.string _ _ _ (⟨#[74, 117, 108]⟩ : ByteArray) [.string (⟨#[74, 117, 108]⟩ : ByteArray)] from rfl) (Reps.one (show Kd.M Kd.string _ _ _ (⟨#[65, 117, 103]⟩ : ByteArray) [.string (⟨#[65, 117, 103]⟩ : ByteArray)] from rfl) (Reps.one (show Kd.M Kd.string _ _ _ (⟨#[83, 101, 112]⟩ : ByteArray) [.string (⟨#[83, 101, 112]⟩ : ByteArray)] from rfl) (Reps.one (show Kd.M Kd.string _ _ _ (⟨#[79, 99, 116]⟩ : ByteArray) [.string (⟨#[79, 99, 116]⟩ : ByteArray)] from rfl) (Reps.one (show Kd.M Kd.string _ _ _ (⟨#[78, 111, 118]⟩ : ByteArray) [.string (⟨#[78, 111, 118]⟩ : ByteArray)] from rfl) (Reps.one (show Kd.M Kd.string _ _ _ (⟨#[68, 101, 99]⟩ : ByteArray) [.string (⟨#[68, 101, 99]⟩ : ByteArray)] from rfl) (Reps.none _ _))))))))))))))
          intro v102 w15 ho16 hb hg_ hnew_
          clear hg_ hnew_
          (first | rw [← Ny101.out] at ho16 | (simp only [Int.reduceToNat] at ho16; rw [← Ny101.out] at ho16))
          have n0_ := Aside0.mk (Kd.R_lower ho16 (below_size bq))
          have n1_ := Aside0.mk (below_step bq hb)
          clear HB
          have HO103 := n0_
          have HB := n1_
          clear n0_ n1_
          clear hb ho16
          obtain ⟨Ao17, co17, eo17⟩ := Kd.R_slice HO103.out
          subst eo17
          obtain ⟨ado17, fo17, _⟩ := Kd.at_string (Kd.R_reads' HO103.out).2.2 0 (by decide) (by rw [Ny101.out]; simp)
          cases fo17
          refine hK.out _ _ trivial (fun hHeld => ?_)
          clear hK K
          refine nrm 20 ?_
          refine pu 5 23 HT_ ?_
          refine on1 6 24 HT_ (fun K hK => ?_)
          (have p104 : 0 ≤ ((ji6) : Int) := of_decide_eq_true asm; have q104 : (ji6) < (y101.length : Int) := of_decide_eq_true asm; obtain ⟨ad104, e104, hx104_0⟩ := Kd.at_string (Kd.R_reads' HO103.out).2.2 (ji6) p104 q104; obtain rfl : ado17 = ad104 := (by injection e104))
          refine value_ (w1 := ?_) (v := ?_) (by rfl) rfl ?_ ?_
          rotate_left 2
          ·go_simp
           constructor
           ·rfl
           ·rfl
          clear hx104_0
          refine hK.out _ _ trivial (fun hHeld => ?_)
          clear hK K
          refine nrm 24 ?_
          refine pu 7 25 HT_ ?_
          refine done_ (done_of HT_.out (by kernel_rfl)) ?_
          try go_wp2
          go_roundg k1
          case measure => have := HK1.out; omega
          case rel => exact ⟨(x4_1), (wrap64 (x5_1 + 1)), (by first | rfl | (simp; done) | (simp [*]; done)), (by first | rfl | (simp; done) | (simp [*]; done)), H', ⟨by have := HK1.out; omega⟩, ⟨by repeat (first | (with_reducible first | exact HB.out | apply below_alloc | apply pw_below_drewN | apply below_drew1) | exact HB.out)⟩⟩
        ·rw [if_neg c8] at H
         exact absurd H (by simp)
       ·rw [if_neg c7] at H
        exact absurd H (by simp)
      ·rw [if_neg c5] at H
       exact absurd H (by simp)
     ·rw [if_neg c4] at H
      exact absurd H (by simp)
    ·rw [if_neg c3] at H
     have c3b0 : decide (x5_1 ≤ 12) = false := decide_eq_false c3
     clear c3
     replace H := Option.bind_eq_some_iff.mp H
     obtain ⟨t105, A180, H⟩ := H
     try dsimp only at H
     have A18 := Aside0.mk A180
     clear A180
     replace H := Option.bind_eq_some_iff.mp H
     obtain ⟨t106, A190, H⟩ := H
     try dsimp only at H
     have A19 := Aside0.mk A190
     clear A190
     replace H := Option.bind_eq_some_iff.mp H
     obtain ⟨t107, A200, H⟩ := H
     try dsimp only at H
     have A20 := Aside0.mk A200
     clear A200
     replace H := Option.bind_eq_some_iff.mp H
     obtain ⟨t108, A210, H⟩ := H
     try dsimp only at H
     have A21 := Aside0.mk A210
     clear A210
     replace H := Option.bind_eq_some_iff.mp H
     obtain ⟨t109, A220, H⟩ := H
     try dsimp only at H
     have A22 := Aside0.mk A220
     clear A220
     replace H := Option.bind_eq_some_iff.mp H
     obtain ⟨t110, A230, H⟩ := H
     try dsimp only at H
     have A23 := Aside0.mk A230
     clear A230
     have HC24 := Aside0.mk H
     clear H
     go_upto_region 13 with (first | ((with_reducible refine gate_callee (f := 132) rfl ?_); refine goesL_ (some 28) rfl rfl Tryz.func132 (by kernel_rfl) rfl #[.string a0, .int .i64 12, .int .i64 4] rfl am ?_; (with_reducible refine (spec_l4Num.calls k1 a0 12 4 t105 _ A18.out).mono ?_); rintro e w' ⟨rfl, ⟨nd, rfl⟩⟩; refine ⟨_, rfl, ?_⟩) | ((with_reducible refine gate_callee (f := 132) rfl ?_); refine goesL_ (some 31) rfl rfl Tryz.func132 (by kernel_rfl) rfl #[.string a0, .int .i64 5, .int .i64 2] rfl am ?_; (with_reducible refine (spec_l4Num.calls k1 a0 5 2 t106 _ A19.out).mono ?_); rintro e w' ⟨rfl, ⟨nd, rfl⟩⟩; refine ⟨_, rfl, ?_⟩) | ((with_reducible refine gate_callee (f := 131) rfl ?_); refine goesL_ (some 32) rfl rfl Tryz.func131 (by kernel_rfl) rfl #[.int .i64 t105, .int .i64 x4_1, .int .i64 t106] rfl am ?_; (with_reducible refine (spec_DaysOf.calls k1 t105 x4_1 t106 t107 _ A20.out).mono ?_); rintro e w25 ⟨rfl, hb⟩; refine ⟨_, rfl, ?_⟩; have n0_ := Aside0.mk (below_step bq hb); clear HB; have HB := n0_; clear n0_; (try clear hb); (try clear hb2); (try clear hk); (try clear hi)) | ((with_reducible refine gate_callee (f := 132) rfl ?_); refine goesL_ (some 34) rfl rfl Tryz.func132 (by kernel_rfl) rfl #[.string a0, .int .i64 17, .int .i64 2] rfl am ?_; (with_reducible refine (spec_l4Num.calls k1 a0 17 2 t108 _ A21.out).mono ?_); rintro e w' ⟨rfl, ⟨nd, rfl⟩⟩; refine ⟨_, rfl, ?_⟩) | ((with_reducible refine gate_callee (f := 132) rfl ?_); refine goesL_ (some 36) rfl rfl Tryz.func132 (by kernel_rfl) rfl #[.string a0, .int .i64 20, .int .i64 2] rfl am ?_; (with_reducible refine (spec_l4Num.calls k1 a0 20 2 t109 _ A22.out).mono ?_); rintro e w' ⟨rfl, ⟨nd, rfl⟩⟩; refine ⟨_, rfl, ?_⟩) | ((with_reducible refine gate_callee (f := 132) rfl ?_); refine goesL_ (some 38) rfl rfl Tryz.func132 (by kernel_rfl) rfl #[.string a0, .int .i64 23, .int .i64 2] rfl am ?_; (with_reducible refine (spec_l4Num.calls k1 a0 23 2 t110 _ A23.out).mono ?_); rintro e w' ⟨rfl, ⟨nd, rfl⟩⟩; refine ⟨_, rfl, ?_⟩))
     (try simp only [Act.put, List.setIfInBounds_toArray, List.set_cons_zero, List.set_cons_succ])
     go_cut [52] (fun v52 wc => ∃ (kq : Nat) (x52_23 : Bool), v52 = .bool x52_23 ∧ Aside0 (spec_ReadDate.j1 kq a0 t107 t108 t109 t110 x52_23 = some (r1, r2)) ∧ Aside0 (kq ≤ k1) ∧ Aside0 (Below w.heap.size w wc))
     case first =>
      have H := HC24.out
      clear HC24
      by_cases c26 : t107 < 0
      ·rw [if_pos c26] at H
       have c26b0 : decide (t107 < 0) = true := decide_eq_true c26
       clear c26
       (first | rw [c26b0] | (simp only [i64_w, i32_w]; rw [c26b0]) | skip)
       have H' := Aside0.mk H
       clear H
       go_wp2
       go_meet
       case rel => exact ⟨_, (true), (by first | rfl | (simp; done) | (simp [*]; done)), H', ⟨by have := HK1.out; first | omega | exact Nat.le_refl _⟩, ⟨by repeat (first | (with_reducible first | exact HB.out | apply below_alloc | apply pw_below_drewN | apply below_drew1) | exact HB.out)⟩⟩
      ·rw [if_neg c26] at H
       have c26b0 : decide (t107 < 0) = false := decide_eq_false c26
       clear c26
       (first | rw [c26b0] | (simp only [i64_w, i32_w]; rw [c26b0]) | skip)
       by_cases c27 : t108 < 0
       ·rw [if_pos c27] at H
        have c27b0 : decide (t108 < 0) = true := decide_eq_true c27
        clear c27
        have H' := Aside0.mk H
        clear H
        go_wp2
        go_meet
        case rel => exact ⟨_, (true), (by first | rfl | (simp; done) | (simp [*]; done)), H', ⟨by have := HK1.out; first | omega | exact Nat.le_refl _⟩, ⟨by repeat (first | (with_reducible first | exact HB.out | apply below_alloc | apply pw_below_drewN | apply below_drew1) | exact HB.out)⟩⟩
       ·rw [if_neg c27] at H
        have c27b0 : decide (t108 < 0) = false := decide_eq_false c27
        clear c27
        by_cases c28 : t109 < 0
        ·rw [if_pos c28] at H
         have c28b0 : decide (t109 < 0) = true := decide_eq_true c28
         clear c28
         have H' := Aside0.mk H
         clear H
         go_wp2
         go_meet
         case rel => exact ⟨_, (true), (by first | rfl | (simp; done) | (simp [*]; done)), H', ⟨by have := HK1.out; first | omega | exact Nat.le_refl _⟩, ⟨by repeat (first | (with_reducible first | exact HB.out | apply below_alloc | apply pw_below_drewN | apply below_drew1) | exact HB.out)⟩⟩
        ·rw [if_neg c28] at H
         have c28b0 : decide (t109 < 0) = false := decide_eq_false c28
         clear c28
         have H' := Aside0.mk H
         clear H
         go_wp2
         go_meet
         case rel => exact ⟨_, (decide (t110 < 0)), (by first | rfl | (simp; done) | (simp [*]; done)), H', ⟨by have := HK1.out; first | omega | exact Nat.le_refl _⟩, ⟨by repeat (first | (with_reducible first | exact HB.out | apply below_alloc | apply pw_below_drewN | apply below_drew1) | exact HB.out)⟩⟩
     case rest =>
      clear HC24
      try clear c1
      try clear p1
      try clear q1
      try clear hx1
      try clear qi1
      try clear c2
      try clear c2b0
      try clear c2b1
      try clear p2
      try clear c3
      try clear c3b0
      try clear c4
      try clear c4b0
      try clear c4b1
      try clear c5
      try clear c5b0
      try clear c5b1
      try clear p6
      try clear c7
      try clear c7b0
      try clear c8
      try clear c8b0
      try clear c9
      try clear c9b0
      try clear c9b1
      try clear p10
      try clear q10
      try clear hx10
      try clear qi10
      try clear c13
      try clear c26
      try clear c26b0
      try clear c27
      try clear c27b0
      try clear c28
      try clear c28b0
      try clear hx104_0
      try clear p104
      try clear p2
      try clear q104
      obtain ⟨kq, x52_23, rfl, HA, HJ23, HB⟩ := hcut
      cases kq with
      | zero => exact absurd HA.out (by simp [spec_ReadDate.j1])
      | succ kj23 =>
       have H := HA.out
       clear HA
       simp only [spec_ReadDate.j1] at H
       by_cases c29 : x52_23 = true
       ·subst c29
        rw [if_pos rfl] at H
        simp only [Option.some.injEq, Prod.mk.injEq] at H
        obtain ⟨rfl, rfl⟩ := H
        go_wp2
        go_ret2
        exact ⟨by first | rfl | (simp [errW_none, errW_some] <;> rfl) | (simp [*, errW_none, errW_some] <;> rfl), bq⟩
       ·replace c29 := Bool.eq_false_iff.mpr c29
        subst c29
        rw [if_neg (show ¬ (false = true) by decide)] at H
        replace H := Option.bind_eq_some_iff.mp H
        obtain ⟨t111, A300, H⟩ := H
        try dsimp only at H
        have A30 := Aside0.mk A300
        clear A300
        by_cases c31 : t111.toList = a0.toList
        ·rw [if_pos c31] at H
         have c31b0 : (t111.toList == a0.toList) = true := beq_iff_eq.mpr c31
         have c31b1 : (t111.toList != a0.toList) = false := bne_eq_false_iff_eq.mpr c31
         clear c31
         simp only [Option.some.injEq, Prod.mk.injEq] at H
         obtain ⟨rfl, rfl⟩ := H
         go_wp2_with (first | ((with_reducible refine gate_callee (f := 111) rfl ?_); refine goesL_ (some 64) rfl rfl Tryz.func111 (by kernel_rfl) rfl #[.int .i64 (wrap64 ((wrap64 ((wrap64 ((wrap64 (t107 * 86400)) + (wrap64 (t108 * 3600)))) + (wrap64 (t109 * 60)))) + t110))] rfl am ?_; (with_reducible refine (spec_ShowDate.calls kj23 (wrap64 ((wrap64 ((wrap64 ((wrap64 (t107 * 86400)) + (wrap64 (t108 * 3600)))) + (wrap64 (t109 * 60)))) + t110)) t111 _ A30.out).mono ?_); rintro e w32 ⟨rfl, hb⟩; refine ⟨_, rfl, ?_⟩; have n0_ := Aside0.mk (below_step bq hb); clear HB; have HB := n0_; clear n0_; (try clear hb); (try clear hb2); (try clear hk); (try clear hi)))
         go_ret2
         exact ⟨by first | rfl | (simp [errW_none, errW_some] <;> rfl) | (simp [*, errW_none, errW_some] <;> rfl), bq⟩
        ·rw [if_neg c31] at H
         have c31b0 : (t111.toList == a0.toList) = false := beq_eq_false_iff_ne.mpr c31
         have c31b1 : (t111.toList != a0.toList) = true := bne_iff_ne.mpr c31
         simp only [Option.some.injEq, Prod.mk.injEq] at H
         obtain ⟨rfl, rfl⟩ := H
         go_wp2_with (first | ((with_reducible refine gate_callee (f := 111) rfl ?_); refine goesL_ (some 64) rfl rfl Tryz.func111 (by kernel_rfl) rfl #[.int .i64 (wrap64 ((wrap64 ((wrap64 ((wrap64 (t107 * 86400)) + (wrap64 (t108 * 3600)))) + (wrap64 (t109 * 60)))) + t110))] rfl am ?_; (with_reducible refine (spec_ShowDate.calls kj23 (wrap64 ((wrap64 ((wrap64 ((wrap64 (t107 * 86400)) + (wrap64 (t108 * 3600)))) + (wrap64 (t109 * 60)))) + t110)) t111 _ A30.out).mono ?_); rintro e w33 ⟨rfl, hb⟩; refine ⟨_, rfl, ?_⟩; have n0_ := Aside0.mk (below_step bq hb); clear HB; have HB := n0_; clear n0_; (try clear hb); (try clear hb2); (try clear hk); (try clear hi)))
         go_ret2
         exact ⟨by first | rfl | (simp [errW_none, errW_some] <;> rfl) | (simp [*, errW_none, errW_some] <;> rfl), bq⟩
 ·rw [if_neg c2] at H
  have c2b0 : ((a0.size : Int) == 29) = false := beq_eq_false_iff_ne.mpr c2
  have c2b1 : ((a0.size : Int) != 29) = true := bne_iff_ne.mpr c2
  simp only [Option.some.injEq, Prod.mk.injEq] at H
  obtain ⟨rfl, rfl⟩ := H
  go_enter Tryz.func92, Tryz.ntmps92
  go_wp2
  go_ret2
  exact ⟨by first | rfl | (simp [errW_none, errW_some] <;> rfl) | (simp [*, errW_none, errW_some] <;> rfl), bq⟩

end Go.Proofs.YtjldfmkpdkhnnaaGreatDoor.QL

namespace Go.Proofs.YtjldfmkpdkhnnaaGreatDoor.QL
open Go.RowKit Go.Proofs.YtjldfmkpdkhnnaaGreatDoorW.PrintWords Go.Proofs.YtjldfmkpdkhnnaaGreatDoorW.PrintLast Go.Proofs.YtjldfmkpdkhnnaaGreatDoorW.PrintMore Go.Proofs.YtjldfmkpdkhnnaaGreatDoor.Aux Go.Proofs.YtjldfmkpdkhnnaaGreatDoor.Dom Go.Proofs.YtjldfmkpdkhnnaaGreatDoor.Ext Go.Proofs.YtjldfmkpdkhnnaaGreatDoor.Glob
attribute [local go_sem] max2_int min2_int max_two min_two max_three min_three max_four min_four   -- for this text's walks alone

def spec_DateOf.f (k : Nat) (l0 : List (S99)) (a1 : ByteArray) : Option (Int × Bool) := (spec_FieldGet.f k l0 a1).bind fun bt101 => (if bt101.2 = true then ((spec_ReadDate.f k bt101.1).bind fun bt103 => (some (bt103.1, bt103.2))) else (some (0, false)))
theorem spec_DateOf.mono : ∀ a0 a1 k, LeO (spec_DateOf.f k a0 a1) (spec_DateOf.f (k + 1) a0 a1) := by
 intro a0 a1 k
 unfold spec_DateOf.f
 repeat' first
   | (with_reducible exact spec_FieldGet.mono _ _ _)
   | (with_reducible exact spec_ReadDate.mono _ _)
   | (with_reducible exact LeO.refl _)
   | (with_reducible exact LeO.none _)
   | (with_reducible refine LeO.ite ?_ ?_)
   | (with_reducible refine LeO.bind ?_ (fun _ => ?_))
   | exact spec_FieldGet.mono _ _ _
   | exact spec_ReadDate.mono _ _
   | exact LeO.none _
   | refine LeO.ite ?_ ?_
   | refine LeO.bind ?_ (fun _ => ?_)
set_option maxHeartbeats 8000000 in
set_option maxRecDepth 100000 in
theorem spec_DateOf.calls (k : Nat) (A0 : Option Addr) (c0 : Nat) (l0 : List (S99)) (a1 : ByteArray) (r1 : Int) (r2 : Bool) (w : World) (hr0 : Kd.C k99 w A0 l0.length l0) (hc0 : l0.length ≤ c0) (h : spec_DateOf.f k l0 a1 = some (r1, r2)) :
  Calls Tryz.prog 45 #[.slice A0 l0.length c0, .string a1] w fun e w' => e = .returned (.tuple #[.int .i64 r1, .bool r2]) ∧ Below w.heap.size w w' := by
 have HR0 := Aside0.mk hr0
 have HC0 := Aside0.mk hc0
 clear hr0 hc0
 have HB := Aside0.mk (Below.refl w.heap.size w)
 have H : ((spec_FieldGet.f k l0 a1).bind fun bt101 => (if bt101.2 = true then ((spec_ReadDate.f k bt101.1).bind fun bt103 => (some (bt103.1, bt103.2))) else (some (0, false)))) = some (r1, r2) := h
 clear h
 replace H := Option.bind_eq_some_iff.mp H
 obtain ⟨⟨t101, t102⟩, A30, H⟩ := H
 try dsimp only at H
 have A3 := Aside0.mk A30
 clear A30
 by_cases c4 : t102 = true
 ·subst c4
  rw [if_pos rfl] at H
  replace H := Option.bind_eq_some_iff.mp H
  obtain ⟨⟨t103, t104⟩, A50, H⟩ := H
  try dsimp only at H
  have A5 := Aside0.mk A50
  clear A50
  simp only [Option.some.injEq, Prod.mk.injEq] at H
  obtain ⟨rfl, rfl⟩ := H
  go_enter Tryz.func45, Tryz.ntmps45
  go_wp2_with (first | ((with_reducible refine gate_callee (f := 44) rfl ?_); refine goesL_ (some 11) rfl rfl Tryz.func44 (by kernel_rfl) rfl #[.slice A0 l0.length c0, .string a1] rfl am ?_; (with_reducible refine (spec_FieldGet.calls k _ _ l0 a1 t101 true _ ?side1 ?side2 A3.out).mono ?_); (case side1 => repeat (first | exact HR0.out | (with_reducible refine Kd.C_alloc ?_ _) | (with_reducible refine Kd.C_drewN ?_ _) | (with_reducible refine Kd.C_drew ?_))); (case side2 => exact HC0.out); rintro e w' ⟨rfl, ⟨nd, rfl⟩⟩; refine ⟨_, rfl, ?_⟩) | ((with_reducible refine gate_callee (f := 92) rfl ?_); refine goesL_ (some 17) rfl rfl Tryz.func92 (by kernel_rfl) rfl #[.string t101] rfl am ?_; (with_reducible refine (spec_ReadDate.calls k t101 t103 t104 _ A5.out).mono ?_); rintro e w6 ⟨rfl, hb⟩; refine ⟨_, rfl, ?_⟩; have n0_ := Aside0.mk (below_step bq hb); clear HB; have HB := n0_; clear n0_; (try clear hb); (try clear hb2); (try clear hk); (try clear hi)))
  go_ret2
  exact ⟨by first | rfl | (simp [errW_none, errW_some] <;> rfl) | (simp [*, errW_none, errW_some] <;> rfl), bq⟩
 ·replace c4 := Bool.eq_false_iff.mpr c4
  subst c4
  rw [if_neg (show ¬ (false = true) by decide)] at H
  simp only [Option.some.injEq, Prod.mk.injEq] at H
  obtain ⟨rfl, rfl⟩ := H
  go_enter Tryz.func45, Tryz.ntmps45
  go_wp2_with (first | ((with_reducible refine gate_callee (f := 44) rfl ?_); refine goesL_ (some 11) rfl rfl Tryz.func44 (by kernel_rfl) rfl #[.slice A0 l0.length c0, .string a1] rfl am ?_; (with_reducible refine (spec_FieldGet.calls k _ _ l0 a1 t101 false _ ?side1 ?side2 A3.out).mono ?_); (case side1 => repeat (first | exact HR0.out | (with_reducible refine Kd.C_alloc ?_ _) | (with_reducible refine Kd.C_drewN ?_ _) | (with_reducible refine Kd.C_drew ?_))); (case side2 => exact HC0.out); rintro e w' ⟨rfl, ⟨nd, rfl⟩⟩; refine ⟨_, rfl, ?_⟩))
  go_ret2
  exact ⟨by first | rfl | (simp [errW_none, errW_some] <;> rfl) | (simp [*, errW_none, errW_some] <;> rfl), bq⟩

end Go.Proofs.YtjldfmkpdkhnnaaGreatDoor.QL

namespace Go.Proofs.YtjldfmkpdkhnnaaGreatDoor.QL
open Go.RowKit Go.Proofs.YtjldfmkpdkhnnaaGreatDoorW.PrintWords Go.Proofs.YtjldfmkpdkhnnaaGreatDoorW.PrintLast Go.Proofs.YtjldfmkpdkhnnaaGreatDoorW.PrintMore Go.Proofs.YtjldfmkpdkhnnaaGreatDoor.Aux Go.Proofs.YtjldfmkpdkhnnaaGreatDoor.Dom Go.Proofs.YtjldfmkpdkhnnaaGreatDoor.Ext Go.Proofs.YtjldfmkpdkhnnaaGreatDoor.Glob
attribute [local go_sem] max2_int min2_int max_two min_two max_three min_three max_four min_four   -- for this text's walks alone

def spec_Seconds.l0 : Nat → ByteArray → Int → Int → Option (Int × Bool)
 | 0, _, _, _ => none
 | k + 1, x0, x4, x5 => if x5 < (x0.size : Int) then (if 0 ≤ x5 then (if (bt x0 x5) < 48 then (some (0, false)) else (if (bt x0 x5) > 57 then (some (0, false)) else (spec_Seconds.l0 k x0 (mn (wrap64 ((wrap64 (x4 * 10)) + (((bt x0 x5) - 48) % 256))) 2147483648) (wrap64 (x5 + 1))))) else (none)) else (some (x4, decide ((x0.size : Int) > 0)))
def spec_Seconds.f (k : Nat) (a0 : ByteArray) : Option (Int × Bool) := spec_Seconds.l0 k a0 0 0
theorem spec_Seconds.mono_l : ∀ k, (∀ y0 y1 y2, LeO (spec_Seconds.l0 k y0 y1 y2) (spec_Seconds.l0 (k + 1) y0 y1 y2))
 | 0 => fun _ _ _ r h => by simp [spec_Seconds.l0] at h
 | k + 1 => by
  have ih0 := spec_Seconds.mono_l k
  ·intro y0 y1 y2
   unfold spec_Seconds.l0
   repeat' first
   | (with_reducible exact ih0 _ _ _)
   | (with_reducible exact LeO.refl _)
   | (with_reducible exact LeO.none _)
   | (with_reducible refine LeO.ite ?_ ?_)
   | (with_reducible refine LeO.bind ?_ (fun _ => ?_))
   | exact ih0 _ _ _
   | exact LeO.none _
   | refine LeO.ite ?_ ?_
   | refine LeO.bind ?_ (fun _ => ?_)
theorem spec_Seconds.mono : ∀ a0 k, LeO (spec_Seconds.f k a0) (spec_Seconds.f (k + 1) a0) := by
 intro a0 k
 have ih0 := spec_Seconds.mono_l k
 unfold spec_Seconds.f
 repeat' first
   | (with_reducible exact ih0 _ _ _)
   | (with_reducible exact LeO.refl _)
   | (with_reducible exact LeO.none _)
   | (with_reducible refine LeO.ite ?_ ?_)
   | (with_reducible refine LeO.bind ?_ (fun _ => ?_))
   | exact ih0 _ _ _
   | exact LeO.none _
   | refine LeO.ite ?_ ?_
   | refine LeO.bind ?_ (fun _ => ?_)
set_option maxHeartbeats 8000000 in
set_option maxRecDepth 100000 in
theorem spec_Seconds.calls (k : Nat) (a0 : ByteArray) (r1 : Int) (r2 : Bool) (w : World) (h : spec_Seconds.f k a0 = some (r1, r2)) :
  Calls Tryz.prog 24 #[.string a0] w fun e w' => e = .returned (.tuple #[.int .i64 r1, .bool r2]) ∧ Below w.heap.size w w' := by
 have HB := Aside0.mk (Below.refl w.heap.size w)
 have H : (spec_Seconds.l0 k a0 0 0) = some (r1, r2) := h
 clear h
 have H' := Aside0.mk H
 clear H
 go_enter Tryz.func24, Tryz.ntmps24
 go_wp2
 go_loopg [4, 5] k (fun kq v4 v5 w' => ∃ (x4_1 : Int) (x5_1 : Int), v4 = .int .i64 x4_1 ∧ v5 = .int .i64 x5_1 ∧ Aside0 (spec_Seconds.l0 kq a0 x4_1 x5_1 = some (r1, r2)) ∧ Aside0 (kq ≤ k) ∧ Aside0 (Below w.heap.size w w'))
 case atStart => exact ⟨(0), (0), (by first | rfl | (simp; done) | (simp [*]; done)), (by first | rfl | (simp; done) | (simp [*]; done)), H', ⟨Nat.le_refl _⟩, ⟨by repeat (first | (with_reducible first | exact HB.out | apply below_alloc | apply pw_below_drewN | apply below_drew1) | exact HB.out)⟩⟩
 case round =>
  clear H'
  obtain ⟨x4_1, x5_1, rfl, rfl, HA, HK1, HB⟩ := hrel
  cases gk with
  | zero => exact absurd HA.out (by simp [spec_Seconds.l0])
  | succ k1 =>
   have H := HA.out
   clear HA
   simp only [spec_Seconds.l0] at H
   by_cases c2 : x5_1 < (a0.size : Int)
   ·rw [if_pos c2] at H
    have c2b0 : decide (x5_1 < (a0.size : Int)) = true := decide_eq_true c2
    clear c2
    by_cases c3 : 0 ≤ x5_1
    ·rw [if_pos c3] at H
     have c3b0 : decide (0 ≤ x5_1) = true := decide_eq_true c3
     clear c3
     by_cases c5 : (bt a0 x5_1) < 48
     ·rw [if_pos c5] at H
      have c5b0 : decide ((bt a0 x5_1) < 48) = true := decide_eq_true c5
      clear c5
      simp only [Option.some.injEq, Prod.mk.injEq] at H
      obtain ⟨rfl, rfl⟩ := H
      have p4 : 0 ≤ (x5_1 : Int) := of_decide_eq_true asm
      have q4 : x5_1 < (a0.size : Int) := of_decide_eq_true asm
      have hx4 := bt_at a0 x5_1
      replace p4 := eq_true p4
      replace q4 := eq_true q4
      go_wp2
      go_ret2
      exact ⟨by first | rfl | (simp [errW_none, errW_some] <;> rfl) | (simp [*, errW_none, errW_some] <;> rfl), bq⟩
     ·rw [if_neg c5] at H
      have c5b0 : decide ((bt a0 x5_1) < 48) = false := decide_eq_false c5
      clear c5
      by_cases c7 : (bt a0 x5_1) > 57
      ·rw [if_pos c7] at H
       have c7b0 : decide (57 < (bt a0 x5_1)) = true := decide_eq_true c7
       clear c7
       simp only [Option.some.injEq, Prod.mk.injEq] at H
       obtain ⟨rfl, rfl⟩ := H
       have p4 : 0 ≤ (x5_1 : Int) := of_decide_eq_true asm
       have q4 : x5_1 < (a0.size : Int) := of_decide_eq_true asm
       have hx4 := bt_at a0 x5_1
       replace p4 := eq_true p4
       replace q4 := eq_true q4
       have p6 : 0 ≤ (x5_1 : Int) := of_decide_eq_true asm
       have q6 : x5_1 < (a0.size : Int) := of_decide_eq_true asm
       have hx6 := bt_at a0 x5_1
       replace p6 := eq_true p6
       replace q6 := eq_true q6
       go_wp2
       go_ret2
       exact ⟨by first | rfl | (simp [errW_none, errW_some] <;> rfl) | (simp [*, errW_none, errW_some] <;> rfl), bq⟩
      ·rw [if_neg c7] at H
       have c7b0 : decide (57 < (bt a0 x5_1)) = false := decide_eq_false c7
       clear c7
       obtain ⟨ji9, hji9⟩ : ∃ j_ : Int, (mn (wrap64 ((wrap64 (x4_1 * 10)) + (((bt a0 x5_1) - 48) % 256))) 2147483648) = j_ := ⟨_, rfl⟩
       replace H : (spec_Seconds.l0 k1 a0 ji9 (wrap64 (x5_1 + 1))) = some (r1, r2) := by first | (rw [hji9] at H; exact H) | (simp only [hji9] at H ⊢; exact H)
       have hji9_ : (if 2147483648 < (wrap64 ((wrap64 (x4_1 * 10)) + (((bt a0 x5_1) - 48) % 256))) then 2147483648 else (wrap64 ((wrap64 (x4_1 * 10)) + (((bt a0 x5_1) - 48) % 256)))) = ji9 := hji9
       have H' := Aside0.mk H
       clear H
       have p4 : 0 ≤ (x5_1 : Int) := of_decide_eq_true asm
       have q4 : x5_1 < (a0.size : Int) := of_decide_eq_true asm
       have hx4 := bt_at a0 x5_1
       replace p4 := eq_true p4
       replace q4 := eq_true q4
       have p6 : 0 ≤ (x5_1 : Int) := of_decide_eq_true asm
       have q6 : x5_1 < (a0.size : Int) := of_decide_eq_true asm
       have hx6 := bt_at a0 x5_1
       replace p6 := eq_true p6
       replace q6 := eq_true q6
       have p8 : 0 ≤ (x5_1 : Int) := of_decide_eq_true asm
       have q8 : x5_1 < (a0.size : Int) := of_decide_eq_true asm
       have hx8 := bt_at a0 x5_1
       replace p8 := eq_true p8
       replace q8 := eq_true q8
       go_wp2
       go_roundg k1
       case measure => have := HK1.out; omega
       case rel => exact ⟨(ji9), (wrap64 (x5_1 + 1)), (by first | rfl | (simp; done) | (simp only [← hji9] <;> (first | rfl | simp)) | (simp [*]; done)), (by first | rfl | (simp; done) | (simp [*]; done)), H', ⟨by have := HK1.out; omega⟩, ⟨by repeat (first | (with_reducible first | exact HB.out | apply below_alloc | apply pw_below_drewN | apply below_drew1) | exact HB.out)⟩⟩
    ·rw [if_neg c3] at H
     exact absurd H (by simp)
   ·rw [if_neg c2] at H
    have c2b0 : decide (x5_1 < (a0.size : Int)) = false := decide_eq_false c2
    clear c2
    simp only [Option.some.injEq, Prod.mk.injEq] at H
    obtain ⟨rfl, rfl⟩ := H
    go_wp2
    go_ret2
    exact ⟨by first | rfl | (simp [errW_none, errW_some] <;> rfl) | (simp [*, errW_none, errW_some] <;> rfl), bq⟩

end Go.Proofs.YtjldfmkpdkhnnaaGreatDoor.QL

namespace Go.Proofs.YtjldfmkpdkhnnaaGreatDoor.Ext
open Go.RowKit Go.Proofs.YtjldfmkpdkhnnaaGreatDoorW.PrintWords Go.Proofs.YtjldfmkpdkhnnaaGreatDoorW.PrintLast Go.Proofs.YtjldfmkpdkhnnaaGreatDoorW.PrintMore Go.Proofs.YtjldfmkpdkhnnaaGreatDoor.Aux Go.Proofs.YtjldfmkpdkhnnaaGreatDoor.Dom Go.Proofs.YtjldfmkpdkhnnaaGreatDoor.Glob
attribute [local go_sem] max2_int min2_int max_two min_two max_three min_three max_four min_four
def spec_Lower.f (a0 : ByteArray) : Option ByteArray := if a0.size ≤ 8388608 then some (strOfNums ((bytesOf a0).map lowC)) else none
set_option maxHeartbeats 4000000 in
set_option maxRecDepth 100000 in
theorem spec_Lower.calls (a0 : ByteArray) (r : ByteArray) (w : World) (h : spec_Lower.f a0 = some r) :
    Calls Tryz.prog 65 #[.string a0] w fun e w' => e = .returned (.string r) ∧ Below w.heap.size w w' := by
  have hs : a0.size ≤ 8388608 := by
    unfold spec_Lower.f at h
    split at h
    · assumption
    · cases h
  have hr : strOfNums ((bytesOf a0).map lowC) = r := by
    unfold spec_Lower.f at h
    rw [if_pos hs] at h
    exact Option.some.inj h
  clear h
  have kb := fun W => print_bytes (P := Tryz.prog) 9 37 5 Tryz.underlying9 Tryz.underlying37 Tryz.underlying5 a0 W
  generalize grownCap w a0.size 0 5 = cp at kb
  have hbelow : Below w.heap.size w (Lib.bytesWorld w 5 a0) := bytes_below (Below.refl _ _) (Nat.le_refl _) _ _
  have hcell0 : ∀ j : Nat, j < a0.size → (Lib.bytesWorld w 5 a0).cell? ⟨w.heap.size, j, none⟩ = some (.int .u8 (lowAt a0 0 j)) ∧ (Lib.bytesWorld w 5 a0).frozen? ⟨w.heap.size, j, none⟩ = false := by
    intro j hj
    refine ⟨?_, bytes_frozen w _ a0 j hj⟩
    rw [Lib.bytesWorld_cell w _ a0 j hj]
    simp only [lowAt, Nat.not_lt_zero, if_false]
    rw [bt_get a0 j (by rw [bytesOf_length]; exact hj)]
    simp [bytesOf, List.getD_eq_getElem?_getD, hj]
  go_enter Tryz.func65, Tryz.ntmps65
  go_wp2
  generalize grownCap w a0.size 0 5 = cp at kb ⊢
  clear kb
  go_loopw [4] (fun v10 wr => ∃ k : Nat, k ≤ a0.size ∧ v10 = .int .i64 k ∧ (∀ j : Nat, j < a0.size → wr.cell? ⟨w.heap.size, j, none⟩ = some (.int .u8 (lowAt a0 k j)) ∧ wr.frozen? ⟨w.heap.size, j, none⟩ = false) ∧ Below w.heap.size w wr ∧ w.heap.size < wr.heap.size) (fun v10 _ => a0.size - (intOf v10).toNat)
  case atStart => exact ⟨0, Nat.zero_le _, rfl, hcell0, hbelow, by rw [Lib.bytesWorld_size]; omega⟩
  case round =>
    obtain ⟨k, hk, rfl, hc, hb, hsz⟩ := hrel
    by_cases hlt : k < a0.size
    · obtain ⟨hck, hfk⟩ := hc k hlt
      have hHc := Aside0.mk hc
      have hHb := Aside0.mk hb
      clear hc hb hcell0 hbelow
      have hbd := bt_bound a0 k
      have hck' : wr.cell? ⟨w.heap.size, k, none⟩ = some (.int .u8 (bt a0 k)) := by rw [hck]; simp [lowAt]
      clear hck
      generalize hbt : bt a0 (k : Int) = c at hck' hbd
      by_cases h1 : 65 ≤ c
      · by_cases h2 : c ≤ 90
        · have d1 : decide (65 ≤ c) = true := decide_eq_true h1
          have d2 : decide (c ≤ 90) = true := decide_eq_true h2
          go_wp2
          go_roundw
          case measure => simp [intOf]; omega
          case rel => exact ⟨k + 1, hlt, rfl, row_step hHc.out hlt (by rw [lowAt, if_pos (by omega), hbt, lowC, if_pos ⟨h1, h2⟩]) (fun j hj => by simp only [lowAt]; by_cases hjk : j < k; rw [if_pos (by omega), if_pos hjk]; rw [if_neg (by omega), if_neg hjk]), hHb.out.setCell (Nat.le_refl _) _, by simpa [World.setCell] using hsz⟩
        · have d1 : decide (65 ≤ c) = true := decide_eq_true h1
          have d2 : decide (c ≤ 90) = false := decide_eq_false h2
          go_wp2
          go_roundw
          case measure => simp [intOf]; omega
          case rel => exact ⟨k + 1, hlt, rfl, fun j hj => by rw [show lowAt a0 (k + 1) j = lowAt a0 k j from by simp only [lowAt]; by_cases hjk : j < k; rw [if_pos (by omega), if_pos hjk]; by_cases hje : j = k; subst hje; rw [if_pos (by omega), if_neg hjk, hbt, lowC, if_neg (fun hh => h2 hh.2)]; rw [if_neg (by omega), if_neg hjk]]; exact hHc.out j hj, hHb.out, hsz⟩
      · have d1 : decide (65 ≤ c) = false := decide_eq_false h1
        go_wp2
        go_roundw
        case measure => simp [intOf]; omega
        case rel => exact ⟨k + 1, hlt, rfl, fun j hj => by rw [show lowAt a0 (k + 1) j = lowAt a0 k j from by simp only [lowAt]; by_cases hjk : j < k; rw [if_pos (by omega), if_pos hjk]; by_cases hje : j = k; subst hje; rw [if_pos (by omega), if_neg hjk, hbt, lowC, if_neg (fun hh => h1 hh.1)]; rw [if_neg (by omega), if_neg hjk]]; exact hHc.out j hj, hHb.out, hsz⟩
    · obtain rfl : k = a0.size := by omega
      have kc : (convert 37 9 (.slice (some ⟨w.heap.size, 0, none⟩) a0.size cp)).run Tryz.prog wr = .ok (.string r) wr := by
        rw [← hr]
        refine run_convert_bytes_arg wr 37 5 Tryz.underlying37 Tryz.underlying5 w.heap.size 0 a0.size cp _ (by rw [List.length_map, bytesOf_length]) (fun i hi => ?_) 9 Tryz.underlying9
        rw [Nat.zero_add, (hc i hi).1, lowAt, if_pos hi]
        rw [bt_get a0 i (by rw [bytesOf_length]; exact hi)]
        simp [List.getD_eq_getElem?_getD, bytesOf_length, hi]
      have hHb := Aside0.mk hb
      clear hc hb hcell0 hbelow
      go_wp2
      go_ret
      exact ⟨rfl, hHb.out⟩

end Go.Proofs.YtjldfmkpdkhnnaaGreatDoor.Ext

namespace Go.Proofs.YtjldfmkpdkhnnaaGreatDoor.QL
open Go.RowKit Go.Proofs.YtjldfmkpdkhnnaaGreatDoorW.PrintWords Go.Proofs.YtjldfmkpdkhnnaaGreatDoorW.PrintLast Go.Proofs.YtjldfmkpdkhnnaaGreatDoorW.PrintMore Go.Proofs.YtjldfmkpdkhnnaaGreatDoor.Aux Go.Proofs.YtjldfmkpdkhnnaaGreatDoor.Dom Go.Proofs.YtjldfmkpdkhnnaaGreatDoor.Ext Go.Proofs.YtjldfmkpdkhnnaaGreatDoor.Glob
attribute [local go_sem] max2_int min2_int max_two min_two max_three min_three max_four min_four   -- for this text's walks alone

def spec_l2Blank.f (a0 : Int) : Option (Bool) := if a0 = 32 then (some true) else (some (a0 == 9))
set_option maxHeartbeats 8000000 in
set_option maxRecDepth 100000 in
theorem spec_l2Blank.calls (a0 : Int) (r : Bool) (w : World) (h : spec_l2Blank.f a0 = some r) :
  Calls Tryz.prog 151 #[.int .u8 a0] w fun e w' => e = .returned (.bool r) ∧ Drawn0 w w' := by
 have H : (if a0 = 32 then (some true) else (some (a0 == 9))) = some r := h
 clear h
 by_cases c2 : a0 = 32
 ·rw [if_pos c2] at H
  have c2b0 : (a0 == 32) = true := beq_iff_eq.mpr c2
  have c2b1 : (a0 != 32) = false := bne_eq_false_iff_eq.mpr c2
  clear c2
  obtain rfl := Option.some.inj H
  go_enter Tryz.func151, Tryz.ntmps151
  go_wp2
  go_ret
  exact ⟨by first | rfl | (simp; done) | (simp [*]; done) | (simp; generalize ByteArray.toList _ = L_; cases L_ <;> rfl), by repeat (first | exact Drawn0.refl _ | apply Drawn0.step)⟩
 ·rw [if_neg c2] at H
  have c2b0 : (a0 == 32) = false := beq_eq_false_iff_ne.mpr c2
  have c2b1 : (a0 != 32) = true := bne_iff_ne.mpr c2
  obtain rfl := Option.some.inj H
  go_enter Tryz.func151, Tryz.ntmps151
  go_wp2
  go_ret
  exact ⟨by first | rfl | (simp; done) | (simp [*]; done) | (simp; generalize ByteArray.toList _ = L_; cases L_ <;> rfl), by repeat (first | exact Drawn0.refl _ | apply Drawn0.step)⟩

end Go.Proofs.YtjldfmkpdkhnnaaGreatDoor.QL

namespace Go.Proofs.YtjldfmkpdkhnnaaGreatDoor.QL
open Go.RowKit Go.Proofs.YtjldfmkpdkhnnaaGreatDoorW.PrintWords Go.Proofs.YtjldfmkpdkhnnaaGreatDoorW.PrintLast Go.Proofs.YtjldfmkpdkhnnaaGreatDoorW.PrintMore Go.Proofs.YtjldfmkpdkhnnaaGreatDoor.Aux Go.Proofs.YtjldfmkpdkhnnaaGreatDoor.Dom Go.Proofs.YtjldfmkpdkhnnaaGreatDoor.Ext Go.Proofs.YtjldfmkpdkhnnaaGreatDoor.Glob
attribute [local go_sem] max2_int min2_int max_two min_two max_three min_three max_four min_four   -- for this text's walks alone

mutual
def spec_Trim.j1 : Nat → ByteArray → Option (ByteArray)
 | 0, _ => none
 | k + 1, x0 => spec_Trim.l1 k x0
def spec_Trim.l1 : Nat → ByteArray → Option (ByteArray)
 | 0, _ => none
 | k + 1, x0 => if (x0.size : Int) > 0 then (if 0 ≤ (wrap64 ((x0.size : Int) - 1)) then (if (wrap64 ((x0.size : Int) - 1)) < (x0.size : Int) then ((spec_l2Blank.f (bt x0 (wrap64 ((x0.size : Int) - 1)))).bind fun t102 => (if t102 = true then (if (wrap64 ((x0.size : Int) - 1)) ≤ (x0.size : Int) then (spec_Trim.l1 k (x0.extract 0 ((wrap64 ((x0.size : Int) - 1)) : Int).toNat)) else (none)) else (some x0))) else (none)) else (none)) else (some x0)
def spec_Trim.l0 : Nat → ByteArray → Option (ByteArray)
 | 0, _ => none
 | k + 1, x0 => if (x0.size : Int) > 0 then (if 0 < (x0.size : Int) then ((spec_l2Blank.f (bt x0 0)).bind fun t101 => (if t101 = true then (if 1 ≤ (x0.size : Int) then (spec_Trim.l0 k (x0.extract 1 x0.size)) else (none)) else (spec_Trim.j1 k x0))) else (none)) else (spec_Trim.j1 k x0)
end
def spec_Trim.f (k : Nat) (a0 : ByteArray) : Option (ByteArray) := spec_Trim.l0 k a0
theorem spec_Trim.mono_l : ∀ k, (∀ y0, LeO (spec_Trim.j1 k y0) (spec_Trim.j1 (k + 1) y0)) ∧ (∀ y0, LeO (spec_Trim.l1 k y0) (spec_Trim.l1 (k + 1) y0)) ∧ (∀ y0, LeO (spec_Trim.l0 k y0) (spec_Trim.l0 (k + 1) y0))
 | 0 => ⟨fun _ r h => by simp [spec_Trim.j1] at h, fun _ r h => by simp [spec_Trim.l1] at h, fun _ r h => by simp [spec_Trim.l0] at h⟩
 | k + 1 => by
  obtain ⟨ih0, ih1, ih2⟩ := spec_Trim.mono_l k
  refine ⟨?_, ?_, ?_⟩
  ·intro y0
   unfold spec_Trim.j1
   repeat' first
   | (with_reducible exact ih0 _)
   | (with_reducible exact ih1 _)
   | (with_reducible exact ih2 _)
   | (with_reducible exact LeO.refl _)
   | (with_reducible exact LeO.none _)
   | (with_reducible refine LeO.ite ?_ ?_)
   | (with_reducible refine LeO.bind ?_ (fun _ => ?_))
   | exact ih0 _
   | exact ih1 _
   | exact ih2 _
   | exact LeO.none _
   | refine LeO.ite ?_ ?_
   | refine LeO.bind ?_ (fun _ => ?_)
  ·intro y0
   unfold spec_Trim.l1
   repeat' first
   | (with_reducible exact ih0 _)
   | (with_reducible exact ih1 _)
   | (with_reducible exact ih2 _)
   | (with_reducible exact LeO.refl _)
   | (with_reducible exact LeO.none _)
   | (with_reducible refine LeO.ite ?_ ?_)
   | (with_reducible refine LeO.bind ?_ (fun _ => ?_))
   | exact ih0 _
   | exact ih1 _
   | exact ih2 _
   | exact LeO.none _
   | refine LeO.ite ?_ ?_
   | refine LeO.bind ?_ (fun _ => ?_)
  ·intro y0
   unfold spec_Trim.l0
   repeat' first
   | (with_reducible exact ih0 _)
   | (with_reducible exact ih1 _)
   | (with_reducible exact ih2 _)
   | (with_reducible exact LeO.refl _)
   | (with_reducible exact LeO.none _)
   | (with_reducible refine LeO.ite ?_ ?_)
   | (with_reducible refine LeO.bind ?_ (fun _ => ?_))
   | exact ih0 _
   | exact ih1 _
   | exact ih2 _
   | exact LeO.none _
   | refine LeO.ite ?_ ?_
   | refine LeO.bind ?_ (fun _ => ?_)
theorem spec_Trim.mono : ∀ a0 k, LeO (spec_Trim.f k a0) (spec_Trim.f (k + 1) a0) := by
 intro a0 k
 obtain ⟨ih0, ih1, ih2⟩ := spec_Trim.mono_l k
 unfold spec_Trim.f
 repeat' first
   | (with_reducible exact ih0 _)
   | (with_reducible exact ih1 _)
   | (with_reducible exact ih2 _)
   | (with_reducible exact LeO.refl _)
   | (with_reducible exact LeO.none _)
   | (with_reducible refine LeO.ite ?_ ?_)
   | (with_reducible refine LeO.bind ?_ (fun _ => ?_))
   | exact ih0 _
   | exact ih1 _
   | exact ih2 _
   | exact LeO.none _
   | refine LeO.ite ?_ ?_
   | refine LeO.bind ?_ (fun _ => ?_)
set_option maxHeartbeats 8000000 in
set_option maxRecDepth 100000 in
theorem spec_Trim.calls (k : Nat) (a0 : ByteArray) (r : ByteArray) (w : World) (h : spec_Trim.f k a0 = some r) :
  Calls Tryz.prog 107 #[.string a0] w fun e w' => e = .returned (.string r) ∧ Drawn0 w w' := by
 have H : (spec_Trim.l0 k a0) = some r := h
 clear h
 have HC2 := Aside0.mk H
 clear H
 go_enter Tryz.func107, Tryz.ntmps107
 go_upto_block 0 with (fail)
 go_cut [0] (fun v0 wc => ∃ (kq : Nat) (x0_1 : ByteArray), v0 = .string x0_1 ∧ Aside0 (spec_Trim.j1 kq x0_1 = some r) ∧ Aside0 (kq ≤ k) ∧ Drawn0 w wc)
 case first =>
  have H := HC2.out
  clear HC2
  have H' := Aside0.mk H
  clear H
  go_wp2
  go_loopg [0] k (fun kq v0 w' => ∃ (x0_1 : ByteArray), v0 = .string x0_1 ∧ Aside0 (spec_Trim.l0 kq x0_1 = some r) ∧ Aside0 (kq ≤ k) ∧ Drawn0 w w')
  case atStart => exact ⟨(a0), (by first | rfl | (simp; done) | (simp [*]; done)), H', ⟨Nat.le_refl _⟩, by repeat (first | exact Drawn0.refl _ | apply Drawn0.step)⟩
  case round =>
   clear H'
   try clear c1
   try clear p2
   obtain ⟨x0_1, rfl, HA, HK1, ⟨m1, rfl⟩⟩ := hrel
   cases gk with
   | zero => exact absurd HA.out (by simp [spec_Trim.l0])
   | succ k1 =>
    have H := HA.out
    clear HA
    simp only [spec_Trim.l0] at H
    by_cases c3 : (x0_1.size : Int) > 0
    ·rw [if_pos c3] at H
     have c3b0 : decide (0 < (x0_1.size : Int)) = true := decide_eq_true c3
     have c3b1 : decide (0 < x0_1.size) = true := decide_eq_true (by omega)
     clear c3
     (first | rw [c3b0] | (simp only [i64_w, i32_w]; rw [c3b0]) | skip)
     by_cases c4 : 0 < (x0_1.size : Int)
     ·rw [if_pos c4] at H
      have c4b0 : decide (0 < (x0_1.size : Int)) = true := decide_eq_true c4
      have c4b1 : decide (0 < x0_1.size) = true := decide_eq_true (by omega)
      clear c4
      replace H := Option.bind_eq_some_iff.mp H
      obtain ⟨t101, A60, H⟩ := H
      try dsimp only at H
      have A6 := Aside0.mk A60
      clear A60
      by_cases c7 : t101 = true
      ·subst c7
       rw [if_pos rfl] at H
       by_cases c8 : 1 ≤ (x0_1.size : Int)
       ·rw [if_pos c8] at H
        have c8b0 := eq_true c8
        have c8b1 : decide (1 ≤ (x0_1.size : Int)) = true := decide_eq_true c8
        clear c8
        have H' := Aside0.mk H
        clear H
        have p5 : 0 ≤ (0 : Int) := (by omega)
        have q5 : 0 < x0_1.size := (by have : (0 : Int) < (x0_1.size : Int) := of_decide_eq_true asm; omega)
        have hx5 : ∀ h : 0 < x0_1.size, ((x0_1[0]'h).toNat : Int) = bt x0_1 0 := bt_at x0_1 0
        clear p5
        have qi5 : (0 < (x0_1.size : Int)) = True := eq_true (of_decide_eq_true asm)
        replace q5 := eq_true q5
        go_wp2_with (first | (go_at_call 151; (with_reducible refine (spec_l2Blank.calls (bt x0_1 0) true _ A6.out).mono ?_); rintro e w' ⟨rfl, ⟨nd, rfl⟩⟩))
        go_roundg k1
        case measure => have := HK1.out; omega
        case rel => exact ⟨(x0_1.extract 1 x0_1.size), (by first | rfl | (simp; done) | (simp [*]; done)), H', ⟨by have := HK1.out; omega⟩, by repeat (first | exact Drawn0.refl _ | apply Drawn0.step)⟩
       ·rw [if_neg c8] at H
        exact absurd H (by simp)
      ·replace c7 := Bool.eq_false_iff.mpr c7
       subst c7
       rw [if_neg (show ¬ (false = true) by decide)] at H
       have H' := Aside0.mk H
       clear H
       have p5 : 0 ≤ (0 : Int) := (by omega)
       have q5 : 0 < x0_1.size := (by have : (0 : Int) < (x0_1.size : Int) := of_decide_eq_true asm; omega)
       have hx5 : ∀ h : 0 < x0_1.size, ((x0_1[0]'h).toNat : Int) = bt x0_1 0 := bt_at x0_1 0
       clear p5
       have qi5 : (0 < (x0_1.size : Int)) = True := eq_true (of_decide_eq_true asm)
       replace q5 := eq_true q5
       go_wp2_with (first | (go_at_call 151; (with_reducible refine (spec_l2Blank.calls (bt x0_1 0) false _ A6.out).mono ?_); rintro e w' ⟨rfl, ⟨nd, rfl⟩⟩))
       go_meet
       case rel => exact ⟨_, (x0_1), (by first | rfl | (simp; done) | (simp [*]; done)), H', ⟨by have := HK1.out; first | omega | exact Nat.le_refl _⟩, by repeat (first | exact Drawn0.refl _ | apply Drawn0.step)⟩
     ·rw [if_neg c4] at H
      exact absurd H (by simp)
    ·rw [if_neg c3] at H
     have c3b0 : decide (0 < (x0_1.size : Int)) = false := decide_eq_false c3
     have c3b1 : decide (0 < x0_1.size) = false := decide_eq_false (by omega)
     clear c3
     (first | rw [c3b0] | (simp only [i64_w, i32_w]; rw [c3b0]) | skip)
     have H' := Aside0.mk H
     clear H
     go_wp2
     go_meet
     case rel => exact ⟨_, (x0_1), (by first | rfl | (simp; done) | (simp [*]; done)), H', ⟨by have := HK1.out; first | omega | exact Nat.le_refl _⟩, by repeat (first | exact Drawn0.refl _ | apply Drawn0.step)⟩
 case rest =>
  clear HC2
  try clear c1
  try clear p2
  try clear c3
  try clear c3b0
  try clear c3b1
  try clear c4
  try clear c4b0
  try clear c4b1
  try clear p5
  try clear q5
  try clear hx5
  try clear qi5
  try clear c7
  try clear c8
  try clear c8b0
  try clear c8b1
  try clear p2
  try clear p5
  try clear q5
  obtain ⟨kq, x0_1, rfl, HA, HJ1, ⟨mc1, rfl⟩⟩ := hcut
  cases kq with
  | zero => exact absurd HA.out (by simp [spec_Trim.j1])
  | succ kj1 =>
   have H := HA.out
   clear HA
   simp only [spec_Trim.j1] at H
   have H' := Aside0.mk H
   clear H
   go_wp2
   go_loopg [0] kj1 (fun kq v0 w' => ∃ (x0_2 : ByteArray), v0 = .string x0_2 ∧ Aside0 (spec_Trim.l1 kq x0_2 = some r) ∧ Aside0 (kq ≤ kj1) ∧ Drawn0 w w')
   case atStart => exact ⟨(x0_1), (by first | rfl | (simp; done) | (simp [*]; done)), H', ⟨Nat.le_refl _⟩, by repeat (first | exact Drawn0.refl _ | apply Drawn0.step)⟩
   case round =>
    clear H'
    try clear c1
    try clear p2
    try clear c3
    try clear c3b0
    try clear c3b1
    try clear c4
    try clear c4b0
    try clear c4b1
    try clear p5
    try clear q5
    try clear hx5
    try clear qi5
    try clear c7
    try clear c8
    try clear c8b0
    try clear c8b1
    try clear p2
    try clear p5
    try clear q5
    obtain ⟨x0_2, rfl, HA, HK2, ⟨m2, rfl⟩⟩ := hrel
    cases gk with
    | zero => exact absurd HA.out (by simp [spec_Trim.l1])
    | succ k2 =>
     have H := HA.out
     clear HA
     simp only [spec_Trim.l1] at H
     by_cases c9 : (x0_2.size : Int) > 0
     ·rw [if_pos c9] at H
      have c9b0 : decide (0 < (x0_2.size : Int)) = true := decide_eq_true c9
      have c9b1 : decide (0 < x0_2.size) = true := decide_eq_true (by omega)
      clear c9
      obtain ⟨ji10, hji10⟩ : ∃ j_ : Int, (wrap64 ((x0_2.size : Int) - 1)) = j_ := ⟨_, rfl⟩
      replace H : (if 0 ≤ (ji10) then (if (ji10) < (x0_2.size : Int) then ((spec_l2Blank.f (bt x0_2 (ji10))).bind fun t102 => (if t102 = true then (if (ji10) ≤ (x0_2.size : Int) then (spec_Trim.l1 k2 (x0_2.extract 0 ((ji10) : Int).toNat)) else (none)) else (some x0_2))) else (none)) else (none)) = some r := by first | (rw [hji10] at H; exact H) | (simp only [hji10] at H ⊢; exact H)
      have hji10w : (IntKind.i64.wrap ((x0_2.size : Int) - 1)) = ji10 := (i64_w _).trans hji10
      by_cases c11 : 0 ≤ (ji10)
      ·rw [if_pos c11] at H
       have c11b0 : decide (0 ≤ (ji10)) = true := decide_eq_true c11
       clear c11
       by_cases c12 : (ji10) < (x0_2.size : Int)
       ·rw [if_pos c12] at H
        have c12b0 : decide ((ji10) < (x0_2.size : Int)) = true := decide_eq_true c12
        clear c12
        replace H := Option.bind_eq_some_iff.mp H
        obtain ⟨t102, A140, H⟩ := H
        try dsimp only at H
        have A14 := Aside0.mk A140
        clear A140
        by_cases c15 : t102 = true
        ·subst c15
         rw [if_pos rfl] at H
         have c16b0 := eq_true (of_decide_eq_true asm : 0 ≤ (ji10))
         by_cases c17 : (ji10) ≤ (x0_2.size : Int)
         ·rw [if_pos c17] at H
          have c17b0 := eq_true c17
          have c17b1 : decide ((ji10) ≤ (x0_2.size : Int)) = true := decide_eq_true c17
          clear c17
          have H' := Aside0.mk H
          clear H
          have p13 : 0 ≤ ((ji10) : Int) := of_decide_eq_true asm
          have q13 : (ji10) < (x0_2.size : Int) := of_decide_eq_true asm
          have hx13 := bt_at x0_2 (ji10)
          replace p13 := eq_true p13
          replace q13 := eq_true q13
          go_wp2_with (first | (go_at_call 151; (with_reducible refine (spec_l2Blank.calls (bt x0_2 (ji10)) true _ A14.out).mono ?_); rintro e w' ⟨rfl, ⟨nd, rfl⟩⟩))
          go_roundg k2
          case measure => have := HJ1.out; have := HK2.out; omega
          case rel => exact ⟨(x0_2.extract 0 ((ji10) : Int).toNat), (by first | rfl | (simp; done) | (simp only [← hji10] <;> (first | rfl | simp)) | (simp [*]; done)), H', ⟨by have := HJ1.out; have := HK2.out; omega⟩, by repeat (first | exact Drawn0.refl _ | apply Drawn0.step)⟩
         ·rw [if_neg c17] at H
          exact absurd H (by simp)
        ·replace c15 := Bool.eq_false_iff.mpr c15
         subst c15
         rw [if_neg (show ¬ (false = true) by decide)] at H
         obtain rfl := Option.some.inj H
         have p13 : 0 ≤ ((ji10) : Int) := of_decide_eq_true asm
         have q13 : (ji10) < (x0_2.size : Int) := of_decide_eq_true asm
         have hx13 := bt_at x0_2 (ji10)
         replace p13 := eq_true p13
         replace q13 := eq_true q13
         go_wp2_with (first | (go_at_call 151; (with_reducible refine (spec_l2Blank.calls (bt x0_2 (ji10)) false _ A14.out).mono ?_); rintro e w' ⟨rfl, ⟨nd, rfl⟩⟩))
         go_ret
         exact ⟨by first | rfl | (simp; done) | (simp only [← hji10] <;> (first | rfl | simp)) | (simp [*]; done) | (simp; generalize ByteArray.toList _ = L_; cases L_ <;> rfl), by repeat (first | exact Drawn0.refl _ | apply Drawn0.step)⟩
       ·rw [if_neg c12] at H
        exact absurd H (by simp)
      ·rw [if_neg c11] at H
       exact absurd H (by simp)
     ·rw [if_neg c9] at H
      have c9b0 : decide (0 < (x0_2.size : Int)) = false := decide_eq_false c9
      have c9b1 : decide (0 < x0_2.size) = false := decide_eq_false (by omega)
      clear c9
      obtain rfl := Option.some.inj H
      go_wp2
      go_ret
      exact ⟨by first | rfl | (simp; done) | (simp [*]; done) | (simp; generalize ByteArray.toList _ = L_; cases L_ <;> rfl), by repeat (first | exact Drawn0.refl _ | apply Drawn0.step)⟩

end Go.Proofs.YtjldfmkpdkhnnaaGreatDoor.QL

