/- The program's FirstAge returns what the reference's returns, for all answers and numbers (answers that hold more than 2^20 fields and bytes are let by). -/
import Derived.Test.YtjldfmkpdkhnnaaGreatDoorCFnExactFirstAgec
namespace Go.Proofs.YtjldfmkpdkhnnaaGreatDoor.QL
open Go.RowKit Go.Proofs.YtjldfmkpdkhnnaaGreatDoorW.PrintWords Go.Proofs.YtjldfmkpdkhnnaaGreatDoorW.PrintLast Go.Proofs.YtjldfmkpdkhnnaaGreatDoorW.PrintMore Go.Proofs.YtjldfmkpdkhnnaaGreatDoor.Aux Go.Proofs.YtjldfmkpdkhnnaaGreatDoor.Dom Go.Proofs.YtjldfmkpdkhnnaaGreatDoor.Ext Go.Proofs.YtjldfmkpdkhnnaaGreatDoor.Glob
attribute [local go_sem] max2_int min2_int max_two min_two max_three min_three max_four min_four   -- for this text's walks alone
set_option linter.unusedVariables false
set_option linter.unusedSimpArgs false

def laws_eqFieldS.l0 : Nat → List (S99) → List (S99) → Int → Option (Bool)
 | 0, _, _, _ => none
 | k + 1, x0, x1, x5 => if x5 < (x0.length : Int) then (if 0 ≤ x5 then (if x5 < (x1.length : Int) then ((laws_eqField.f ((rd_T99 x0 x5).f0) ((rd_T99 x0 x5).f1) ((rd_T99 x1 x5).f0) ((rd_T99 x1 x5).f1)).bind fun t103 => (if t103 = true then (laws_eqFieldS.l0 k x0 x1 (wrap64 (x5 + 1))) else (some false))) else (none)) else (none)) else (some true)
def laws_eqFieldS.f (k : Nat) (l0 : List (S99)) (l1 : List (S99)) : Option (Bool) := if (l0.length : Int) = (l1.length : Int) then (laws_eqFieldS.l0 k l0 l1 0) else (some false)
theorem laws_eqFieldS.mono_l : ∀ k, (∀ y0 y1 y2, LeO (laws_eqFieldS.l0 k y0 y1 y2) (laws_eqFieldS.l0 (k + 1) y0 y1 y2))
 | 0 => fun _ _ _ r h => by simp [laws_eqFieldS.l0] at h
 | k + 1 => by
  have ih0 := laws_eqFieldS.mono_l k
  ·intro y0 y1 y2
   unfold laws_eqFieldS.l0
   repeat' first
   | (with_reducible exact ih0 _ _ _)
   | (with_reducible exact LeO.refl _)
   | (with_reducible exact LeO.none _)
   | (with_reducible refine LeO.ite ?_ ?_)
   | (with_reducible refine LeO.bind ?_ (fun _ => ?_))
   | exact ih0 _ _ _
   | exact LeO.none _
   | refine LeO.ite ?_ ?_
   | refine LeO.bind ?_ (fun _ => ?_)
theorem laws_eqFieldS.mono : ∀ a0 a1 k, LeO (laws_eqFieldS.f k a0 a1) (laws_eqFieldS.f (k + 1) a0 a1) := by
 intro a0 a1 k
 have ih0 := laws_eqFieldS.mono_l k
 unfold laws_eqFieldS.f
 repeat' first
   | (with_reducible exact ih0 _ _ _)
   | (with_reducible exact LeO.refl _)
   | (with_reducible exact LeO.none _)
   | (with_reducible refine LeO.ite ?_ ?_)
   | (with_reducible refine LeO.bind ?_ (fun _ => ?_))
   | exact ih0 _ _ _
   | exact LeO.none _
   | refine LeO.ite ?_ ?_
   | refine LeO.bind ?_ (fun _ => ?_)
def laws_eqFieldS.T6 : Bool × List (List Nat × List Nat) := (true, [([], []), ([], []), ([0, 1], [0, 1]), ([2], [2]), ([], []), ([], []), ([4, 5], [4, 5]), ([6], [6]), ([3, 7], [3, 7]), ([8], [8])])
def laws_eqFieldS.B6 : List Nat := [0, 0, 3, 7, 0, 0, 48, 112, 255, 511]
theorem laws_eqFieldS.tab6 : rtab .any (opsOf Tryz.f53 6) = laws_eqFieldS.T6 := by kernel_rfl
theorem laws_eqFieldS.bits6 : waitsOk laws_eqFieldS.T6.2 laws_eqFieldS.B6 = true := by kernel_rfl
set_option maxHeartbeats 8000000 in
set_option maxRecDepth 100000 in
theorem laws_eqFieldS.calls (k : Nat) (A0 : Option Addr) (c0 : Nat) (l0 : List (S99)) (A1 : Option Addr) (c1 : Nat) (l1 : List (S99)) (r : Bool) (w : World) (hr0 : Kd.C k99 w A0 l0.length l0) (hc0 : l0.length ≤ c0) (hr1 : Kd.C k99 w A1 l1.length l1) (hc1 : l1.length ≤ c1) (h : laws_eqFieldS.f k l0 l1 = some r) :
  Calls Tryz.prog 53 #[.slice A0 l0.length c0, .slice A1 l1.length c1] w fun e w' => e = .returned (.bool r) ∧ Below w.heap.size w w' := by
 have hu99 := Tryz.underlying99
 have HR0 := Aside0.mk hr0
 have HC0 := Aside0.mk hc0
 clear hr0 hc0
 have HR1 := Aside0.mk hr1
 have HC1 := Aside0.mk hc1
 clear hr1 hc1
 have HB := Aside0.mk (Below.refl w.heap.size w)
 have H : (if (l0.length : Int) = (l1.length : Int) then (laws_eqFieldS.l0 k l0 l1 0) else (some false)) = some r := h
 clear h
 by_cases c3 : (l0.length : Int) = (l1.length : Int)
 ·rw [if_pos c3] at H
  have c3b0 : ((l0.length : Int) == (l1.length : Int)) = true := beq_iff_eq.mpr c3
  have c3b1 : ((l0.length : Int) != (l1.length : Int)) = false := bne_eq_false_iff_eq.mpr c3
  have c3b2 : (l0.length == l1.length) = true := by first | simpa using c3 | (simp at c3 ⊢; omega)
  clear c3
  have H' := Aside0.mk H
  clear H
  go_enter Tryz.func53, Tryz.ntmps53
  go_wp2
  go_loopg [5] k (fun kq v5 w' => ∃ (x5_1 : Int), v5 = .int .i64 x5_1 ∧ Aside0 (laws_eqFieldS.l0 kq l0 l1 x5_1 = some r) ∧ Aside0 (kq ≤ k) ∧ Aside0 (Below w.heap.size w w'))
  case atStart => exact ⟨(0), (by first | rfl | (simp; done) | (simp [*]; done)), H', ⟨Nat.le_refl _⟩, ⟨by repeat (first | (with_reducible first | exact HB.out | apply below_alloc | apply pw_below_drewN | apply below_drew1) | exact HB.out)⟩⟩
  case round =>
   clear H'
   try clear c1
   try clear p2
   try clear c3
   try clear c3b0
   try clear c3b1
   try clear c3b2
   obtain ⟨x5_1, rfl, HA, HK1, HB⟩ := hrel
   cases gk with
   | zero => exact absurd HA.out (by simp [laws_eqFieldS.l0])
   | succ k1 =>
    have H := HA.out
    clear HA
    simp only [laws_eqFieldS.l0] at H
    by_cases c4 : x5_1 < (l0.length : Int)
    ·rw [if_pos c4] at H
     have c4b0 : decide (x5_1 < (l0.length : Int)) = true := decide_eq_true c4
     clear c4
     by_cases c5 : 0 ≤ x5_1
     ·rw [if_pos c5] at H
      have c5b0 : decide (0 ≤ x5_1) = true := decide_eq_true c5
      clear c5
      by_cases c6 : x5_1 < (l1.length : Int)
      ·rw [if_pos c6] at H
       have c6b0 : decide (x5_1 < (l1.length : Int)) = true := decide_eq_true c6
       clear c6
       replace H := Option.bind_eq_some_iff.mp H
       obtain ⟨t103, A70, H⟩ := H
       try dsimp only at H
       have A7 := Aside0.mk A70
       clear A70
       by_cases c8 : t103 = true
       ·subst c8
        rw [if_pos rfl] at H
        have H' := Aside0.mk H
        clear H
        try go_wp2
        have n0_ := Aside0.mk (below_drew1 HB.out)
        clear HB
        have HB := n0_
        clear n0_
        have p101 : 0 ≤ (x5_1 : Int) := of_decide_eq_true asm
        have q101 : x5_1 < (l0.length : Int) := of_decide_eq_true asm
        obtain ⟨ad101, e101, hx101_0, hx101_1⟩ := at_T99 HR0.out x5_1 p101 q101
        have hw101_1 := hx101_1
        have hw101_0 := hx101_0
        cases e101
        replace hx101_0 := (HB.out.cell (World.block_lt_of_cell? w _ hx101_0)).trans hx101_0
        replace hx101_1 := (HB.out.cell (World.block_lt_of_cell? w _ hx101_1)).trans hx101_1
        replace p101 := eq_true p101
        replace q101 := eq_true q101
        have p102 : 0 ≤ (x5_1 : Int) := of_decide_eq_true asm
        have q102 : x5_1 < (l1.length : Int) := of_decide_eq_true asm
        obtain ⟨ad102, e102, hx102_0, hx102_1⟩ := at_T99 HR1.out x5_1 p102 q102
        have hw102_1 := hx102_1
        have hw102_0 := hx102_0
        cases e102
        replace hx102_0 := (HB.out.cell (World.block_lt_of_cell? w _ hx102_0)).trans hx102_0
        replace hx102_1 := (HB.out.cell (World.block_lt_of_cell? w _ hx102_1)).trans hx102_1
        replace p102 := eq_true p102
        replace q102 := eq_true q102
        refine start_ (n := 10) (S := fun w' => w'.cell? (ad101.add ((x5_1).toNat * 2)) = some (.string ((rd_T99 l0 x5_1).f0)) ∧ w'.cell? ⟨(ad101.add ((x5_1).toNat * 2)).block, (ad101.add ((x5_1).toNat * 2)).off + 1, none⟩ = some (.string ((rd_T99 l0 x5_1).f1)) ∧ w'.cell? (ad102.add ((x5_1).toNat * 2)) = some (.string ((rd_T99 l1 x5_1).f0)) ∧ w'.cell? ⟨(ad102.add ((x5_1).toNat * 2)).block, (ad102.add ((x5_1).toNat * 2)).off + 1, none⟩ = some (.string ((rd_T99 l1 x5_1).f1))) (ds := []) (Array.replicate 10 false) (by kernel_rfl) rfl rfl ⟨((HB.out.cell (World.block_lt_of_cell? w _ hw101_0)).trans hw101_0), ((HB.out.cell (World.block_lt_of_cell? w _ hw101_1)).trans hw101_1), ((HB.out.cell (World.block_lt_of_cell? w _ hw102_0)).trans hw102_0), ((HB.out.cell (World.block_lt_of_cell? w _ hw102_1)).trans hw102_1)⟩ (fun hHeld => ?_); refine with_tabW laws_eqFieldS.tab6 laws_eqFieldS.bits6 (fun HT_ HW_ => ?_)
        generalize wr.drew = w9 at HB hx101_0 hx101_1 hx102_0 hx102_1 hHeld ⊢
        refine pu 0 17 HT_ ?_
        refine pu 1 18 HT_ ?_
        refine pu 2 19 HT_ ?_
        refine pu 4 21 HT_ ?_
        refine pu 5 22 HT_ ?_
        refine pu 6 23 HT_ ?_
        refine tk 3 20 HT_ HW_ hHeld ?_ (hy := by rintro w' ⟨s0, s1, s2, s3⟩; go_simp; with_reducible rfl)
        refine tk 7 24 HT_ HW_ hHeld ?_ (hy := by rintro w' ⟨s0, s1, s2, s3⟩; go_simp; with_reducible rfl)
        refine on1 8 25 HT_ (fun K hK => ?_)
        refine goes_ Tryz.func98 (by kernel_rfl) rfl #[.agg #[.string ((rd_T99 l0 x5_1).f0), .string ((rd_T99 l0 x5_1).f1)], .agg #[.string ((rd_T99 l1 x5_1).f0), .string ((rd_T99 l1 x5_1).f1)]] (by rfl) rfl rfl am ?_
        with_reducible refine (laws_eqField.calls ((rd_T99 l0 x5_1).f0) ((rd_T99 l0 x5_1).f1) ((rd_T99 l1 x5_1).f0) ((rd_T99 l1 x5_1).f1) true _ A7.out).mono ?_
        rintro e w10 ⟨rfl, hb⟩
        refine ⟨_, rfl, ?_⟩
        have n0_ := Aside0.mk (below_step bq hb)
        clear HB
        have HB := n0_
        clear n0_
        (try clear hb)
        (try clear hb2)
        (try clear hk)
        (try clear hi)
        refine hK.out _ _ ⟨((HB.out.cell (World.block_lt_of_cell? w _ hw101_0)).trans hw101_0), ((HB.out.cell (World.block_lt_of_cell? w _ hw101_1)).trans hw101_1), ((HB.out.cell (World.block_lt_of_cell? w _ hw102_0)).trans hw102_0), ((HB.out.cell (World.block_lt_of_cell? w _ hw102_1)).trans hw102_1)⟩ (fun hHeld => ?_)
        clear hK K
        refine nrm 25 ?_
        refine pu 9 26 HT_ ?_
        refine done_ (done_of HT_.out (by kernel_rfl)) ?_
        try go_wp2
        go_roundg k1
        case measure => have := HK1.out; omega
        case rel => exact ⟨(wrap64 (x5_1 + 1)), (by first | rfl | (simp; done) | (simp [*]; done)), H', ⟨by have := HK1.out; omega⟩, ⟨by repeat (first | (with_reducible first | exact HB.out | apply below_alloc | apply pw_below_drewN | apply below_drew1) | exact HB.out)⟩⟩
       ·replace c8 := Bool.eq_false_iff.mpr c8
        subst c8
        rw [if_neg (show ¬ (false = true) by decide)] at H
        obtain rfl := Option.some.inj H
        try go_wp2
        have n0_ := Aside0.mk (below_drew1 HB.out)
        clear HB
        have HB := n0_
        clear n0_
        have p101 : 0 ≤ (x5_1 : Int) := of_decide_eq_true asm
        have q101 : x5_1 < (l0.length : Int) := of_decide_eq_true asm
        obtain ⟨ad101, e101, hx101_0, hx101_1⟩ := at_T99 HR0.out x5_1 p101 q101
        have hw101_1 := hx101_1
        have hw101_0 := hx101_0
        cases e101
        replace hx101_0 := (HB.out.cell (World.block_lt_of_cell? w _ hx101_0)).trans hx101_0
        replace hx101_1 := (HB.out.cell (World.block_lt_of_cell? w _ hx101_1)).trans hx101_1
        replace p101 := eq_true p101
        replace q101 := eq_true q101
        have p102 : 0 ≤ (x5_1 : Int) := of_decide_eq_true asm
        have q102 : x5_1 < (l1.length : Int) := of_decide_eq_true asm
        obtain ⟨ad102, e102, hx102_0, hx102_1⟩ := at_T99 HR1.out x5_1 p102 q102
        have hw102_1 := hx102_1
        have hw102_0 := hx102_0
        cases e102
        replace hx102_0 := (HB.out.cell (World.block_lt_of_cell? w _ hx102_0)).trans hx102_0
        replace hx102_1 := (HB.out.cell (World.block_lt_of_cell? w _ hx102_1)).trans hx102_1
        replace p102 := eq_true p102
        replace q102 := eq_true q102
        refine start_ (n := 10) (S := fun w' => w'.cell? (ad101.add ((x5_1).toNat * 2)) = some (.string ((rd_T99 l0 x5_1).f0)) ∧ w'.cell? ⟨(ad101.add ((x5_1).toNat * 2)).block, (ad101.add ((x5_1).toNat * 2)).off + 1, none⟩ = some (.string ((rd_T99 l0 x5_1).f1)) ∧ w'.cell? (ad102.add ((x5_1).toNat * 2)) = some (.string ((rd_T99 l1 x5_1).f0)) ∧ w'.cell? ⟨(ad102.add ((x5_1).toNat * 2)).block, (ad102.add ((x5_1).toNat * 2)).off + 1, none⟩ = some (.string ((rd_T99 l1 x5_1).f1))) (ds := []) (Array.replicate 10 false) (by kernel_rfl) rfl rfl ⟨((HB.out.cell (World.block_lt_of_cell? w _ hw101_0)).trans hw101_0), ((HB.out.cell (World.block_lt_of_cell? w _ hw101_1)).trans hw101_1), ((HB.out.cell (World.block_lt_of_cell? w _ hw102_0)).trans hw102_0), ((HB.out.cell (World.block_lt_of_cell? w _ hw102_1)).trans hw102_1)⟩ (fun hHeld => ?_); refine with_tabW laws_eqFieldS.tab6 laws_eqFieldS.bits6 (fun HT_ HW_ => ?_)
        generalize wr.drew = w11 at HB hx101_0 hx101_1 hx102_0 hx102_1 hHeld ⊢
        refine pu 0 17 HT_ ?_
        refine pu 1 18 HT_ ?_
        refine pu 2 19 HT_ ?_
        refine pu 4 21 HT_ ?_
        refine pu 5 22 HT_ ?_
        refine pu 6 23 HT_ ?_
        refine tk 3 20 HT_ HW_ hHeld ?_ (hy := by rintro w' ⟨s0, s1, s2, s3⟩; go_simp; with_reducible rfl)
        refine tk 7 24 HT_ HW_ hHeld ?_ (hy := by rintro w' ⟨s0, s1, s2, s3⟩; go_simp; with_reducible rfl)
        refine on1 8 25 HT_ (fun K hK => ?_)
        refine goes_ Tryz.func98 (by kernel_rfl) rfl #[.agg #[.string ((rd_T99 l0 x5_1).f0), .string ((rd_T99 l0 x5_1).f1)], .agg #[.string ((rd_T99 l1 x5_1).f0), .string ((rd_T99 l1 x5_1).f1)]] (by rfl) rfl rfl am ?_
        with_reducible refine (laws_eqField.calls ((rd_T99 l0 x5_1).f0) ((rd_T99 l0 x5_1).f1) ((rd_T99 l1 x5_1).f0) ((rd_T99 l1 x5_1).f1) false _ A7.out).mono ?_
        rintro e w12 ⟨rfl, hb⟩
        refine ⟨_, rfl, ?_⟩
        have n0_ := Aside0.mk (below_step bq hb)
        clear HB
        have HB := n0_
        clear n0_
        (try clear hb)
        (try clear hb2)
        (try clear hk)
        (try clear hi)
        refine hK.out _ _ ⟨((HB.out.cell (World.block_lt_of_cell? w _ hw101_0)).trans hw101_0), ((HB.out.cell (World.block_lt_of_cell? w _ hw101_1)).trans hw101_1), ((HB.out.cell (World.block_lt_of_cell? w _ hw102_0)).trans hw102_0), ((HB.out.cell (World.block_lt_of_cell? w _ hw102_1)).trans hw102_1)⟩ (fun hHeld => ?_)
        clear hK K
        refine nrm 25 ?_
        refine pu 9 26 HT_ ?_
        refine done_ (done_of HT_.out (by kernel_rfl)) ?_
        try go_wp2
        go_ret
        exact ⟨by first | rfl | (simp [errW_none, errW_some] <;> rfl) | (simp [*, errW_none, errW_some] <;> rfl), bq⟩
      ·rw [if_neg c6] at H
       exact absurd H (by simp)
     ·rw [if_neg c5] at H
      exact absurd H (by simp)
    ·rw [if_neg c4] at H
     have c4b0 : decide (x5_1 < (l0.length : Int)) = false := decide_eq_false c4
     clear c4
     obtain rfl := Option.some.inj H
     go_wp2
     go_ret
     exact ⟨by first | rfl | (simp [errW_none, errW_some] <;> rfl) | (simp [*, errW_none, errW_some] <;> rfl), bq⟩
 ·rw [if_neg c3] at H
  have c3b0 : ((l0.length : Int) == (l1.length : Int)) = false := beq_eq_false_iff_ne.mpr c3
  have c3b1 : ((l0.length : Int) != (l1.length : Int)) = true := bne_iff_ne.mpr c3
  have c3b2 : (l0.length == l1.length) = false := by first | simpa using c3 | (simp at c3 ⊢; omega)
  obtain rfl := Option.some.inj H
  go_enter Tryz.func53, Tryz.ntmps53
  go_wp2
  go_ret
  exact ⟨by first | rfl | (simp [errW_none, errW_some] <;> rfl) | (simp [*, errW_none, errW_some] <;> rfl), bq⟩

end Go.Proofs.YtjldfmkpdkhnnaaGreatDoor.QL

namespace Go.Proofs.YtjldfmkpdkhnnaaGreatDoor.QL
open Go.RowKit Go.Proofs.YtjldfmkpdkhnnaaGreatDoorW.PrintWords Go.Proofs.YtjldfmkpdkhnnaaGreatDoorW.PrintLast Go.Proofs.YtjldfmkpdkhnnaaGreatDoorW.PrintMore Go.Proofs.YtjldfmkpdkhnnaaGreatDoor.Aux Go.Proofs.YtjldfmkpdkhnnaaGreatDoor.Dom Go.Proofs.YtjldfmkpdkhnnaaGreatDoor.Ext Go.Proofs.YtjldfmkpdkhnnaaGreatDoor.Glob
attribute [local go_sem] max2_int min2_int max_two min_two max_three min_three max_four min_four   -- for this text's walks alone
set_option linter.unusedVariables false
set_option linter.unusedSimpArgs false

def laws_eqResponse.f (k : Nat) (a0_0 : Int) (l0_1 : List (S99)) (a0_2 : ByteArray) (a1_0 : Int) (l1_1 : List (S99)) (a1_2 : ByteArray) : Option (Bool) := if a0_0 = a1_0 then ((laws_eqFieldS.f k l0_1 l1_1).bind fun t103 => (if t103 = true then (if a0_2.toList = a1_2.toList then (some true) else (some false)) else (some false))) else (some false)
theorem laws_eqResponse.mono : ∀ a0 a1 a2 a3 a4 a5 k, LeO (laws_eqResponse.f k a0 a1 a2 a3 a4 a5) (laws_eqResponse.f (k + 1) a0 a1 a2 a3 a4 a5) := by
 intro a0 a1 a2 a3 a4 a5 k
 unfold laws_eqResponse.f
 repeat' first
   | (with_reducible exact laws_eqFieldS.mono _ _ _)
   | (with_reducible exact LeO.refl _)
   | (with_reducible exact LeO.none _)
   | (with_reducible refine LeO.ite ?_ ?_)
   | (with_reducible refine LeO.bind ?_ (fun _ => ?_))
   | exact laws_eqFieldS.mono _ _ _
   | exact LeO.none _
   | refine LeO.ite ?_ ?_
   | refine LeO.bind ?_ (fun _ => ?_)
set_option maxHeartbeats 8000000 in
set_option maxRecDepth 100000 in
theorem laws_eqResponse.calls (k : Nat) (a0_0 : Int) (A0_1 : Option Addr) (c0_1 : Nat) (l0_1 : List (S99)) (a0_2 : ByteArray) (a1_0 : Int) (A1_1 : Option Addr) (c1_1 : Nat) (l1_1 : List (S99)) (a1_2 : ByteArray) (r : Bool) (w : World) (hr0_1 : Kd.C k99 w A0_1 l0_1.length l0_1) (hc0_1 : l0_1.length ≤ c0_1) (hr1_1 : Kd.C k99 w A1_1 l1_1.length l1_1) (hc1_1 : l1_1.length ≤ c1_1) (h : laws_eqResponse.f k a0_0 l0_1 a0_2 a1_0 l1_1 a1_2 = some r) :
  Calls Tryz.prog 13 #[.agg #[.int .i64 a0_0, .slice A0_1 l0_1.length c0_1, .string a0_2], .agg #[.int .i64 a1_0, .slice A1_1 l1_1.length c1_1, .string a1_2]] w fun e w' => e = .returned (.bool r) ∧ Below w.heap.size w w' := by
 have hu29 := Tryz.underlying29
 have HR0_1 := Aside0.mk hr0_1
 have HC0_1 := Aside0.mk hc0_1
 clear hr0_1 hc0_1
 have HR1_1 := Aside0.mk hr1_1
 have HC1_1 := Aside0.mk hc1_1
 clear hr1_1 hc1_1
 have HB := Aside0.mk (Below.refl w.heap.size w)
 have H : (if a0_0 = a1_0 then ((laws_eqFieldS.f k l0_1 l1_1).bind fun t103 => (if t103 = true then (if a0_2.toList = a1_2.toList then (some true) else (some false)) else (some false))) else (some false)) = some r := h
 clear h
 by_cases c3 : a0_0 = a1_0
 ·rw [if_pos c3] at H
  have c3b0 : (a0_0 == a1_0) = true := beq_iff_eq.mpr c3
  have c3b1 : (a0_0 != a1_0) = false := bne_eq_false_iff_eq.mpr c3
  clear c3
  replace H := Option.bind_eq_some_iff.mp H
  obtain ⟨t103, A40, H⟩ := H
  try dsimp only at H
  have A4 := Aside0.mk A40
  clear A40
  by_cases c5 : t103 = true
  ·subst c5
   rw [if_pos rfl] at H
   by_cases c6 : a0_2.toList = a1_2.toList
   ·rw [if_pos c6] at H
    have c6b0 : (a0_2.toList == a1_2.toList) = true := beq_iff_eq.mpr c6
    have c6b1 : (a0_2.toList != a1_2.toList) = false := bne_eq_false_iff_eq.mpr c6
    clear c6
    obtain rfl := Option.some.inj H
    go_enter Tryz.func13, Tryz.ntmps13
    go_wp2_with (first | ((with_reducible refine gate_dst (N := 2) rfl ?_); refine box_event ?hg (N := 2) ?hd (cs := #[.int .i64 a0_0, .slice A0_1 l0_1.length c0_1, .string a0_2]) (t := 29) ?hr ?_; (case hd => rfl); (case hg => rfl); (case hr => first | (go_simp; done) | (go_simp; rfl)); intro gb101 hg w7 hbox hb; have n0_ := Aside0.mk (below_step bq hb); have n1_ := Aside0.mk (hbox); have n2_ := Aside0.mk ((by rw [hg]; exact (below_size bq) : w.heap.size ≤ gb101)); have n3_ := Aside0.mk ((by rw [hg]; exact (below_size bq) : w.heap.size ≤ gb101)); clear HB; have HB := n0_; have BK101 := n1_; have GW101 := n2_; have GE101 := n3_; clear n0_ n1_ n2_ n3_; clear hb hbox hg) | ((with_reducible refine gate_dst (N := 3) rfl ?_); refine box_event ?hg (N := 3) ?hd (cs := #[.int .i64 a1_0, .slice A1_1 l1_1.length c1_1, .string a1_2]) (t := 29) ?hr ?_; (case hd => rfl); (case hg => rfl); (case hr => first | (go_simp; done) | (go_simp; rfl)); intro gb102 hg w8 hbox hb; have n0_ := Aside0.mk (blk_below (g := gb101) (o := .cells #[.int .i64 a0_0, .slice A0_1 l0_1.length c0_1, .string a0_2] 29 (0, 0)) (by (with_reducible repeat (first | refine blk_drewN ?_ _ | refine blk_drew ?_ | refine blk_alloc ?_ _)); exact BK101.out) hb); have n1_ := Aside0.mk (below_step (by repeat (first | (with_reducible first | exact HB.out | apply below_alloc | apply pw_below_drewN | apply below_drew1 | refine below_set ?_ GE101.out) | exact HB.out)) hb); have n2_ := Aside0.mk (hbox); have n3_ := Aside0.mk ((by rw [hg]; exact (below_size (by repeat (first | (with_reducible first | exact HB.out | apply below_alloc | apply pw_below_drewN | apply below_drew1 | refine below_set ?_ GE101.out) | exact HB.out))) : w.heap.size ≤ gb102)); have n4_ := Aside0.mk ((by rw [hg]; exact (below_size (by repeat (first | (with_reducible first | exact HB.out | apply below_alloc | apply pw_below_drewN | apply below_drew1 | refine below_set ?_ GE101.out) | exact HB.out))) : w.heap.size ≤ gb102)); have n5_ := Aside0.mk ((by rw [hg]; exact Nat.ne_of_lt (blk_lt (g := gb101) (o := .cells #[.int .i64 a0_0, .slice A0_1 l0_1.length c0_1, .string a0_2] 29 (0, 0)) (by (with_reducible repeat (first | refine blk_drewN ?_ _ | refine blk_drew ?_ | refine blk_alloc ?_ _)); exact BK101.out)) : gb101 ≠ gb102)); have n6_ := Aside0.mk ((by rw [hg]; exact Nat.ne_of_gt (blk_lt (g := gb101) (o := .cells #[.int .i64 a0_0, .slice A0_1 l0_1.length c0_1, .string a0_2] 29 (0, 0)) (by (with_reducible repeat (first | refine blk_drewN ?_ _ | refine blk_drew ?_ | refine blk_alloc ?_ _)); exact BK101.out)) : gb102 ≠ gb101)); clear BK101; clear HB; have BK101 := n0_; have HB := n1_; have BK102 := n2_; have GW102 := n3_; have GE102 := n4_; have NB101_102 := n5_; have NB102_101 := n6_; clear n0_ n1_ n2_ n3_ n4_ n5_ n6_; clear hb hbox hg; have hnb9 := NB101_102.out; have hnc9 := NB102_101.out; have hcz10_0 : w8.cell? ⟨gb101, 0, none⟩ = some (.int .i64 a0_0) := (blk_cell BK101.out 0).trans rfl; have hcz10_1 : w8.cell? ⟨gb101, 1, none⟩ = some (.slice A0_1 l0_1.length c0_1) := (blk_cell BK101.out 1).trans rfl; have hcz10_2 : w8.cell? ⟨gb101, 2, none⟩ = some (.string a0_2) := (blk_cell BK101.out 2).trans rfl; have hfz10_0 := blk_frozen BK101.out 0; have hfz10_1 := blk_frozen BK101.out 1; have hfz10_2 := blk_frozen BK101.out 2; have hcz11_0 : w8.cell? ⟨gb102, 0, none⟩ = some (.int .i64 a1_0) := (blk_cell BK102.out 0).trans rfl; have hcz11_1 : w8.cell? ⟨gb102, 1, none⟩ = some (.slice A1_1 l1_1.length c1_1) := (blk_cell BK102.out 1).trans rfl; have hcz11_2 : w8.cell? ⟨gb102, 2, none⟩ = some (.string a1_2) := (blk_cell BK102.out 2).trans rfl; have hfz11_0 := blk_frozen BK102.out 0; have hfz11_1 := blk_frozen BK102.out 1; have hfz11_2 := blk_frozen BK102.out 2) | ((with_reducible refine gate_callee (f := 53) rfl ?_); refine goesL_ (some 14) rfl rfl Tryz.func53 (by kernel_rfl) rfl #[.slice A0_1 l0_1.length c0_1, .slice A1_1 l1_1.length c1_1] rfl am ?_; (with_reducible refine (laws_eqFieldS.calls k _ _ l0_1 _ _ l1_1 true _ ?side1 ?side2 ?side3 ?side4 A4.out).mono ?_); (case side1 => repeat (first | exact (Kd.C_below HR0_1.out HB.out) | (with_reducible refine Kd.C_alloc ?_ _) | (with_reducible refine Kd.C_drewN ?_ _) | (with_reducible refine Kd.C_drew ?_))); (case side2 => exact HC0_1.out); (case side3 => repeat (first | exact (Kd.C_below HR1_1.out HB.out) | (with_reducible refine Kd.C_alloc ?_ _) | (with_reducible refine Kd.C_drewN ?_ _) | (with_reducible refine Kd.C_drew ?_))); (case side4 => exact HC1_1.out); rintro e w12 ⟨rfl, hb⟩; refine ⟨_, rfl, ?_⟩; have n0_ := Aside0.mk (blk_below (g := gb101) (o := .cells #[.int .i64 a0_0, .slice A0_1 l0_1.length c0_1, .string a0_2] 29 (0, 0)) (by (with_reducible repeat (first | refine blk_drewN ?_ _ | refine blk_drew ?_ | refine blk_alloc ?_ _)); exact BK101.out) hb); have n1_ := Aside0.mk (blk_below (g := gb102) (o := .cells #[.int .i64 a1_0, .slice A1_1 l1_1.length c1_1, .string a1_2] 29 (0, 0)) (by (with_reducible repeat (first | refine blk_drewN ?_ _ | refine blk_drew ?_ | refine blk_alloc ?_ _)); exact BK102.out) hb); have n2_ := Aside0.mk (below_step (by repeat (first | (with_reducible first | exact HB.out | apply below_alloc | apply pw_below_drewN | apply below_drew1 | refine below_set ?_ GE101.out | refine below_set ?_ GE102.out) | exact HB.out)) hb); clear BK101; clear BK102; clear HB; have BK101 := n0_; have BK102 := n1_; have HB := n2_; clear n0_ n1_ n2_; (try clear hb); (try clear hb2); (try clear hk); (try clear hi); have hcz13_0 : w12.cell? ⟨gb101, 0, none⟩ = some (.int .i64 a0_0) := (blk_cell BK101.out 0).trans rfl; have hcz13_1 : w12.cell? ⟨gb101, 1, none⟩ = some (.slice A0_1 l0_1.length c0_1) := (blk_cell BK101.out 1).trans rfl; have hcz13_2 : w12.cell? ⟨gb101, 2, none⟩ = some (.string a0_2) := (blk_cell BK101.out 2).trans rfl; have hfz13_0 := blk_frozen BK101.out 0; have hfz13_1 := blk_frozen BK101.out 1; have hfz13_2 := blk_frozen BK101.out 2; have hcz14_0 : w12.cell? ⟨gb102, 0, none⟩ = some (.int .i64 a1_0) := (blk_cell BK102.out 0).trans rfl; have hcz14_1 : w12.cell? ⟨gb102, 1, none⟩ = some (.slice A1_1 l1_1.length c1_1) := (blk_cell BK102.out 1).trans rfl; have hcz14_2 : w12.cell? ⟨gb102, 2, none⟩ = some (.string a1_2) := (blk_cell BK102.out 2).trans rfl; have hfz14_0 := blk_frozen BK102.out 0; have hfz14_1 := blk_frozen BK102.out 1; have hfz14_2 := blk_frozen BK102.out 2))
    go_ret
    exact ⟨by first | rfl | (simp [errW_none, errW_some] <;> rfl) | (simp [*, errW_none, errW_some] <;> rfl), by repeat (first | (with_reducible first | exact HB.out | apply below_alloc | apply pw_below_drewN | apply below_drew1 | refine below_set ?_ GE101.out | refine below_set ?_ GE102.out) | exact HB.out)⟩
   ·rw [if_neg c6] at H
    have c6b0 : (a0_2.toList == a1_2.toList) = false := beq_eq_false_iff_ne.mpr c6
    have c6b1 : (a0_2.toList != a1_2.toList) = true := bne_iff_ne.mpr c6
    obtain rfl := Option.some.inj H
    go_enter Tryz.func13, Tryz.ntmps13
    go_wp2_with (first | ((with_reducible refine gate_dst (N := 2) rfl ?_); refine box_event ?hg (N := 2) ?hd (cs := #[.int .i64 a0_0, .slice A0_1 l0_1.length c0_1, .string a0_2]) (t := 29) ?hr ?_; (case hd => rfl); (case hg => rfl); (case hr => first | (go_simp; done) | (go_simp; rfl)); intro gb101 hg w15 hbox hb; have n0_ := Aside0.mk (below_step bq hb); have n1_ := Aside0.mk (hbox); have n2_ := Aside0.mk ((by rw [hg]; exact (below_size bq) : w.heap.size ≤ gb101)); have n3_ := Aside0.mk ((by rw [hg]; exact (below_size bq) : w.heap.size ≤ gb101)); clear HB; have HB := n0_; have BK101 := n1_; have GW101 := n2_; have GE101 := n3_; clear n0_ n1_ n2_ n3_; clear hb hbox hg) | ((with_reducible refine gate_dst (N := 3) rfl ?_); refine box_event ?hg (N := 3) ?hd (cs := #[.int .i64 a1_0, .slice A1_1 l1_1.length c1_1, .string a1_2]) (t := 29) ?hr ?_; (case hd => rfl); (case hg => rfl); (case hr => first | (go_simp; done) | (go_simp; rfl)); intro gb102 hg w16 hbox hb; have n0_ := Aside0.mk (blk_below (g := gb101) (o := .cells #[.int .i64 a0_0, .slice A0_1 l0_1.length c0_1, .string a0_2] 29 (0, 0)) (by (with_reducible repeat (first | refine blk_drewN ?_ _ | refine blk_drew ?_ | refine blk_alloc ?_ _)); exact BK101.out) hb); have n1_ := Aside0.mk (below_step (by repeat (first | (with_reducible first | exact HB.out | apply below_alloc | apply pw_below_drewN | apply below_drew1 | refine below_set ?_ GE101.out) | exact HB.out)) hb); have n2_ := Aside0.mk (hbox); have n3_ := Aside0.mk ((by rw [hg]; exact (below_size (by repeat (first | (with_reducible first | exact HB.out | apply below_alloc | apply pw_below_drewN | apply below_drew1 | refine below_set ?_ GE101.out) | exact HB.out))) : w.heap.size ≤ gb102)); have n4_ := Aside0.mk ((by rw [hg]; exact (below_size (by repeat (first | (with_reducible first | exact HB.out | apply below_alloc | apply pw_below_drewN | apply below_drew1 | refine below_set ?_ GE101.out) | exact HB.out))) : w.heap.size ≤ gb102)); have n5_ := Aside0.mk ((by rw [hg]; exact Nat.ne_of_lt (blk_lt (g := gb101) (o := .cells #[.int .i64 a0_0, .slice A0_1 l0_1.length c0_1, .string a0_2] 29 (0, 0)) (by (with_reducible repeat (first | refine blk_drewN ?_ _ | refine blk_drew ?_ | refine blk_alloc ?_ _)); exact BK101.out)) : gb101 ≠ gb102)); have n6_ := Aside0.mk ((by rw [hg]; exact Nat.ne_of_gt (blk_lt (g := gb101) (o := .cells #[.int .i64 a0_0, .slice A0_1 l0_1.length c0_1, .string a0_2] 29 (0, 0)) (by (with_reducible repeat (first | refine blk_drewN ?_ _ | refine blk_drew ?_ | refine blk_alloc ?_ _)); exact BK101.out)) : gb102 ≠ gb101)); clear BK101; clear HB; have BK101 := n0_; have HB := n1_; have BK102 := n2_; have GW102 := n3_; have GE102 := n4_; have NB101_102 := n5_; have NB102_101 := n6_; clear n0_ n1_ n2_ n3_ n4_ n5_ n6_; clear hb hbox hg; have hnb17 := NB101_102.out; have hnc17 := NB102_101.out; have hcz18_0 : w16.cell? ⟨gb101, 0, none⟩ = some (.int .i64 a0_0) := (blk_cell BK101.out 0).trans rfl; have hcz18_1 : w16.cell? ⟨gb101, 1, none⟩ = some (.slice A0_1 l0_1.length c0_1) := (blk_cell BK101.out 1).trans rfl; have hcz18_2 : w16.cell? ⟨gb101, 2, none⟩ = some (.string a0_2) := (blk_cell BK101.out 2).trans rfl; have hfz18_0 := blk_frozen BK101.out 0; have hfz18_1 := blk_frozen BK101.out 1; have hfz18_2 := blk_frozen BK101.out 2; have hcz19_0 : w16.cell? ⟨gb102, 0, none⟩ = some (.int .i64 a1_0) := (blk_cell BK102.out 0).trans rfl; have hcz19_1 : w16.cell? ⟨gb102, 1, none⟩ = some (.slice A1_1 l1_1.length c1_1) := (blk_cell BK102.out 1).trans rfl; have hcz19_2 : w16.cell? ⟨gb102, 2, none⟩ = some (.string a1_2) := (blk_cell BK102.out 2).trans rfl; have hfz19_0 := blk_frozen BK102.out 0; have hfz19_1 := blk_frozen BK102.out 1; have hfz19_2 := blk_frozen BK102.out 2) | ((with_reducible refine gate_callee (f := 53) rfl ?_); refine goesL_ (some 14) rfl rfl Tryz.func53 (by kernel_rfl) rfl #[.slice A0_1 l0_1.length c0_1, .slice A1_1 l1_1.length c1_1] rfl am ?_; (with_reducible refine (laws_eqFieldS.calls k _ _ l0_1 _ _ l1_1 true _ ?side1 ?side2 ?side3 ?side4 A4.out).mono ?_); (case side1 => repeat (first | exact (Kd.C_below HR0_1.out HB.out) | (with_reducible refine Kd.C_alloc ?_ _) | (with_reducible refine Kd.C_drewN ?_ _) | (with_reducible refine Kd.C_drew ?_))); (case side2 => exact HC0_1.out); (case side3 => repeat (first | exact (Kd.C_below HR1_1.out HB.out) | (with_reducible refine Kd.C_alloc ?_ _) | (with_reducible refine Kd.C_drewN ?_ _) | (with_reducible refine Kd.C_drew ?_))); (case side4 => exact HC1_1.out); rintro e w20 ⟨rfl, hb⟩; refine ⟨_, rfl, ?_⟩; have n0_ := Aside0.mk (blk_below (g := gb101) (o := .cells #[.int .i64 a0_0, .slice A0_1 l0_1.length c0_1, .string a0_2] 29 (0, 0)) (by (with_reducible repeat (first | refine blk_drewN ?_ _ | refine blk_drew ?_ | refine blk_alloc ?_ _)); exact BK101.out) hb); have n1_ := Aside0.mk (blk_below (g := gb102) (o := .cells #[.int .i64 a1_0, .slice A1_1 l1_1.length c1_1, .string a1_2] 29 (0, 0)) (by (with_reducible repeat (first | refine blk_drewN ?_ _ | refine blk_drew ?_ | refine blk_alloc ?_ _)); exact BK102.out) hb); have n2_ := Aside0.mk (below_step (by repeat (first | (with_reducible first | exact HB.out | apply below_alloc | apply pw_below_drewN | apply below_drew1 | refine below_set ?_ GE101.out | refine below_set ?_ GE102.out) | exact HB.out)) hb); clear BK101; clear BK102; clear HB; have BK101 := n0_; have BK102 := n1_; have HB := n2_; clear n0_ n1_ n2_; (try clear hb); (try clear hb2); (try clear hk); (try clear hi); have hcz21_0 : w20.cell? ⟨gb101, 0, none⟩ = some (.int .i64 a0_0) := (blk_cell BK101.out 0).trans rfl; have hcz21_1 : w20.cell? ⟨gb101, 1, none⟩ = some (.slice A0_1 l0_1.length c0_1) := (blk_cell BK101.out 1).trans rfl; have hcz21_2 : w20.cell? ⟨gb101, 2, none⟩ = some (.string a0_2) := (blk_cell BK101.out 2).trans rfl; have hfz21_0 := blk_frozen BK101.out 0; have hfz21_1 := blk_frozen BK101.out 1; have hfz21_2 := blk_frozen BK101.out 2; have hcz22_0 : w20.cell? ⟨gb102, 0, none⟩ = some (.int .i64 a1_0) := (blk_cell BK102.out 0).trans rfl; have hcz22_1 : w20.cell? ⟨gb102, 1, none⟩ = some (.slice A1_1 l1_1.length c1_1) := (blk_cell BK102.out 1).trans rfl; have hcz22_2 : w20.cell? ⟨gb102, 2, none⟩ = some (.string a1_2) := (blk_cell BK102.out 2).trans rfl; have hfz22_0 := blk_frozen BK102.out 0; have hfz22_1 := blk_frozen BK102.out 1; have hfz22_2 := blk_frozen BK102.out 2))
    go_ret
    exact ⟨by first | rfl | (simp [errW_none, errW_some] <;> rfl) | (simp [*, errW_none, errW_some] <;> rfl), by repeat (first | (with_reducible first | exact HB.out | apply below_alloc | apply pw_below_drewN | apply below_drew1 | refine below_set ?_ GE101.out | refine below_set ?_ GE102.out) | exact HB.out)⟩
  ·replace c5 := Bool.eq_false_iff.mpr c5
   subst c5
   rw [if_neg (show ¬ (false = true) by decide)] at H
   obtain rfl := Option.some.inj H
   go_enter Tryz.func13, Tryz.ntmps13
   go_wp2_with (first | ((with_reducible refine gate_dst (N := 2) rfl ?_); refine box_event ?hg (N := 2) ?hd (cs := #[.int .i64 a0_0, .slice A0_1 l0_1.length c0_1, .string a0_2]) (t := 29) ?hr ?_; (case hd => rfl); (case hg => rfl); (case hr => first | (go_simp; done) | (go_simp; rfl)); intro gb101 hg w23 hbox hb; have n0_ := Aside0.mk (below_step bq hb); have n1_ := Aside0.mk (hbox); have n2_ := Aside0.mk ((by rw [hg]; exact (below_size bq) : w.heap.size ≤ gb101)); have n3_ := Aside0.mk ((by rw [hg]; exact (below_size bq) : w.heap.size ≤ gb101)); clear HB; have HB := n0_; have BK101 := n1_; have GW101 := n2_; have GE101 := n3_; clear n0_ n1_ n2_ n3_; clear hb hbox hg) | ((with_reducible refine gate_dst (N := 3) rfl ?_); refine box_event ?hg (N := 3) ?hd (cs := #[.int .i64 a1_0, .slice A1_1 l1_1.length c1_1, .string a1_2]) (t := 29) ?hr ?_; (case hd => rfl); (case hg => rfl); (case hr => first | (go_simp; done) | (go_simp; rfl)); intro gb102 hg w24 hbox hb; have n0_ := Aside0.mk (blk_below (g := gb101) (o := .cells #[.int .i64 a0_0, .slice A0_1 l0_1.length c0_1, .string a0_2] 29 (0, 0)) (by (with_reducible repeat (first | refine blk_drewN ?_ _ | refine blk_drew ?_ | refine blk_alloc ?_ _)); exact BK101.out) hb); have n1_ := Aside0.mk (below_step (by repeat (first | (with_reducible first | exact HB.out | apply below_alloc | apply pw_below_drewN | apply below_drew1 | refine below_set ?_ GE101.out) | exact HB.out)) hb); have n2_ := Aside0.mk (hbox); have n3_ := Aside0.mk ((by rw [hg]; exact (below_size (by repeat (first | (with_reducible first | exact HB.out | apply below_alloc | apply pw_below_drewN | apply below_drew1 | refine below_set ?_ GE101.out) | exact HB.out))) : w.heap.size ≤ gb102)); have n4_ := Aside0.mk ((by rw [hg]; exact (below_size (by repeat (first | (with_reducible first | exact HB.out | apply below_alloc | apply pw_below_drewN | apply below_drew1 | refine below_set ?_ GE101.out) | exact HB.out))) : w.heap.size ≤ gb102)); have n5_ := Aside0.mk ((by rw [hg]; exact Nat.ne_of_lt (blk_lt (g := gb101) (o := .cells #[.int .i64 a0_0, .slice A0_1 l0_1.length c0_1, .string a0_2] 29 (0, 0)) (by (with_reducible repeat (first | refine blk_drewN ?_ _ | refine blk_drew ?_ | refine blk_alloc ?_ _)); exact BK101.out)) : gb101 ≠ gb102)); have n6_ := Aside0.mk ((by rw [hg]; exact Nat.ne_of_gt (blk_lt (g := gb101) (o := .cells #[.int .i64 a0_0, .slice A0_1 l0_1.length c0_1, .string a0_2] 29 (0, 0)) (by (with_reducible repeat (first | refine blk_drewN ?_ _ | refine blk_drew ?_ | refine blk_alloc ?_ _)); exact BK101.out)) : gb102 ≠ gb101)); clear BK101; clear HB; have BK101 := n0_; have HB := n1_; have BK102 := n2_; have GW102 := n3_; have GE102 := n4_; have NB101_102 := n5_; have NB102_101 := n6_; clear n0_ n1_ n2_ n3_ n4_ n5_ n6_; clear hb hbox hg; have hnb25 := NB101_102.out; have hnc25 := NB102_101.out; have hcz26_0 : w24.cell? ⟨gb101, 0, none⟩ = some (.int .i64 a0_0) := (blk_cell BK101.out 0).trans rfl; have hcz26_1 : w24.cell? ⟨gb101, 1, none⟩ = some (.slice A0_1 l0_1.length c0_1) := (blk_cell BK101.out 1).trans rfl; have hcz26_2 : w24.cell? ⟨gb101, 2, none⟩ = some (.string a0_2) := (blk_cell BK101.out 2).trans rfl; have hfz26_0 := blk_frozen BK101.out 0; have hfz26_1 := blk_frozen BK101.out 1; have hfz26_2 := blk_frozen BK101.out 2; have hcz27_0 : w24.cell? ⟨gb102, 0, none⟩ = some (.int .i64 a1_0) := (blk_cell BK102.out 0).trans rfl; have hcz27_1 : w24.cell? ⟨gb102, 1, none⟩ = some (.slice A1_1 l1_1.length c1_1) := (blk_cell BK102.out 1).trans rfl; have hcz27_2 : w24.cell? ⟨gb102, 2, none⟩ = some (.string a1_2) := (blk_cell BK102.out 2).trans rfl; have hfz27_0 := blk_frozen BK102.out 0; have hfz27_1 := blk_frozen BK102.out 1; have hfz27_2 := blk_frozen BK102.out 2) | ((with_reducible refine gate_callee (f := 53) rfl ?_); refine goesL_ (some 14) rfl rfl Tryz.func53 (by kernel_rfl) rfl #[.slice A0_1 l0_1.length c0_1, .slice A1_1 l1_1.length c1_1] rfl am ?_; (with_reducible refine (laws_eqFieldS.calls k _ _ l0_1 _ _ l1_1 false _ ?side1 ?side2 ?side3 ?side4 A4.out).mono ?_); (case side1 => repeat (first | exact (Kd.C_below HR0_1.out HB.out) | (with_reducible refine Kd.C_alloc ?_ _) | (with_reducible refine Kd.C_drewN ?_ _) | (with_reducible refine Kd.C_drew ?_))); (case side2 => exact HC0_1.out); (case side3 => repeat (first | exact (Kd.C_below HR1_1.out HB.out) | (with_reducible refine Kd.C_alloc ?_ _) | (with_reducible refine Kd.C_drewN ?_ _) | (with_reducible refine Kd.C_drew ?_))); (case side4 => exact HC1_1.out); rintro e w28 ⟨rfl, hb⟩; refine ⟨_, rfl, ?_⟩; have n0_ := Aside0.mk (blk_below (g := gb101) (o := .cells #[.int .i64 a0_0, .slice A0_1 l0_1.length c0_1, .string a0_2] 29 (0, 0)) (by (with_reducible repeat (first | refine blk_drewN ?_ _ | refine blk_drew ?_ | refine blk_alloc ?_ _)); exact BK101.out) hb); have n1_ := Aside0.mk (blk_below (g := gb102) (o := .cells #[.int .i64 a1_0, .slice A1_1 l1_1.length c1_1, .string a1_2] 29 (0, 0)) (by (with_reducible repeat (first | refine blk_drewN ?_ _ | refine blk_drew ?_ | refine blk_alloc ?_ _)); exact BK102.out) hb); have n2_ := Aside0.mk (below_step (by repeat (first | (with_reducible first | exact HB.out | apply below_alloc | apply pw_below_drewN | apply below_drew1 | refine below_set ?_ GE101.out | refine below_set ?_ GE102.out) | exact HB.out)) hb); clear BK101; clear BK102; clear HB; have BK101 := n0_; have BK102 := n1_; have HB := n2_; clear n0_ n1_ n2_; (try clear hb); (try clear hb2); (try clear hk); (try clear hi)))
   go_ret
   exact ⟨by first | rfl | (simp [errW_none, errW_some] <;> rfl) | (simp [*, errW_none, errW_some] <;> rfl), by repeat (first | (with_reducible first | exact HB.out | apply below_alloc | apply pw_below_drewN | apply below_drew1 | refine below_set ?_ GE101.out | refine below_set ?_ GE102.out) | exact HB.out)⟩
 ·rw [if_neg c3] at H
  have c3b0 : (a0_0 == a1_0) = false := beq_eq_false_iff_ne.mpr c3
  have c3b1 : (a0_0 != a1_0) = true := bne_iff_ne.mpr c3
  obtain rfl := Option.some.inj H
  go_enter Tryz.func13, Tryz.ntmps13
  go_wp2_with (first | ((with_reducible refine gate_dst (N := 2) rfl ?_); refine box_event ?hg (N := 2) ?hd (cs := #[.int .i64 a0_0, .slice A0_1 l0_1.length c0_1, .string a0_2]) (t := 29) ?hr ?_; (case hd => rfl); (case hg => rfl); (case hr => first | (go_simp; done) | (go_simp; rfl)); intro gb101 hg w29 hbox hb; have n0_ := Aside0.mk (below_step bq hb); have n1_ := Aside0.mk (hbox); have n2_ := Aside0.mk ((by rw [hg]; exact (below_size bq) : w.heap.size ≤ gb101)); have n3_ := Aside0.mk ((by rw [hg]; exact (below_size bq) : w.heap.size ≤ gb101)); clear HB; have HB := n0_; have BK101 := n1_; have GW101 := n2_; have GE101 := n3_; clear n0_ n1_ n2_ n3_; clear hb hbox hg) | ((with_reducible refine gate_dst (N := 3) rfl ?_); refine box_event ?hg (N := 3) ?hd (cs := #[.int .i64 a1_0, .slice A1_1 l1_1.length c1_1, .string a1_2]) (t := 29) ?hr ?_; (case hd => rfl); (case hg => rfl); (case hr => first | (go_simp; done) | (go_simp; rfl)); intro gb102 hg w30 hbox hb; have n0_ := Aside0.mk (blk_below (g := gb101) (o := .cells #[.int .i64 a0_0, .slice A0_1 l0_1.length c0_1, .string a0_2] 29 (0, 0)) (by (with_reducible repeat (first | refine blk_drewN ?_ _ | refine blk_drew ?_ | refine blk_alloc ?_ _)); exact BK101.out) hb); have n1_ := Aside0.mk (below_step (by repeat (first | (with_reducible first | exact HB.out | apply below_alloc | apply pw_below_drewN | apply below_drew1 | refine below_set ?_ GE101.out) | exact HB.out)) hb); have n2_ := Aside0.mk (hbox); have n3_ := Aside0.mk ((by rw [hg]; exact (below_size (by repeat (first | (with_reducible first | exact HB.out | apply below_alloc | apply pw_below_drewN | apply below_drew1 | refine below_set ?_ GE101.out) | exact HB.out))) : w.heap.size ≤ gb102)); have n4_ := Aside0.mk ((by rw [hg]; exact (below_size (by repeat (first | (with_reducible first | exact HB.out | apply below_alloc | apply pw_below_drewN | apply below_drew1 | refine below_set ?_ GE101.out) | exact HB.out))) : w.heap.size ≤ gb102)); have n5_ := Aside0.mk ((by rw [hg]; exact Nat.ne_of_lt (blk_lt (g := gb101) (o := .cells #[.int .i64 a0_0, .slice A0_1 l0_1.length c0_1, .string a0_2] 29 (0, 0)) (by (with_reducible repeat (first | refine blk_drewN ?_ _ | refine blk_drew ?_ | refine blk_alloc ?_ _)); exact BK101.out)) : gb101 ≠ gb102)); have n6_ := Aside0.mk ((by rw [hg]; exact Nat.ne_of_gt (blk_lt (g := gb101) (o := .cells #[.int .i64 a0_0, .slice A0_1 l0_1.length c0_1, .string a0_2] 29 (0, 0)) (by (with_reducible repeat (first | refine blk_drewN ?_ _ | refine blk_drew ?_ | refine blk_alloc ?_ _)); exact BK101.out)) : gb102 ≠ gb101)); clear BK101; clear HB; have BK101 := n0_; have HB := n1_; have BK102 := n2_; have GW102 := n3_; have GE102 := n4_; have NB101_102 := n5_; have NB102_101 := n6_; clear n0_ n1_ n2_ n3_ n4_ n5_ n6_; clear hb hbox hg; have hnb31 := NB101_102.out; have hnc31 := NB102_101.out; have hcz32_0 : w30.cell? ⟨gb101, 0, none⟩ = some (.int .i64 a0_0) := (blk_cell BK101.out 0).trans rfl; have hcz32_1 : w30.cell? ⟨gb101, 1, none⟩ = some (.slice A0_1 l0_1.length c0_1) := (blk_cell BK101.out 1).trans rfl; have hcz32_2 : w30.cell? ⟨gb101, 2, none⟩ = some (.string a0_2) := (blk_cell BK101.out 2).trans rfl; have hfz32_0 := blk_frozen BK101.out 0; have hfz32_1 := blk_frozen BK101.out 1; have hfz32_2 := blk_frozen BK101.out 2; have hcz33_0 : w30.cell? ⟨gb102, 0, none⟩ = some (.int .i64 a1_0) := (blk_cell BK102.out 0).trans rfl; have hcz33_1 : w30.cell? ⟨gb102, 1, none⟩ = some (.slice A1_1 l1_1.length c1_1) := (blk_cell BK102.out 1).trans rfl; have hcz33_2 : w30.cell? ⟨gb102, 2, none⟩ = some (.string a1_2) := (blk_cell BK102.out 2).trans rfl; have hfz33_0 := blk_frozen BK102.out 0; have hfz33_1 := blk_frozen BK102.out 1; have hfz33_2 := blk_frozen BK102.out 2))
  go_ret
  exact ⟨by first | rfl | (simp [errW_none, errW_some] <;> rfl) | (simp [*, errW_none, errW_some] <;> rfl), by repeat (first | (with_reducible first | exact HB.out | apply below_alloc | apply pw_below_drewN | apply below_drew1 | refine below_set ?_ GE101.out | refine below_set ?_ GE102.out) | exact HB.out)⟩

end Go.Proofs.YtjldfmkpdkhnnaaGreatDoor.QL

namespace Go.Proofs.YtjldfmkpdkhnnaaGreatDoor.QL
open Go.RowKit Go.Proofs.YtjldfmkpdkhnnaaGreatDoorW.PrintWords Go.Proofs.YtjldfmkpdkhnnaaGreatDoorW.PrintLast Go.Proofs.YtjldfmkpdkhnnaaGreatDoorW.PrintMore Go.Proofs.YtjldfmkpdkhnnaaGreatDoor.Aux Go.Proofs.YtjldfmkpdkhnnaaGreatDoor.Dom Go.Proofs.YtjldfmkpdkhnnaaGreatDoor.Ext Go.Proofs.YtjldfmkpdkhnnaaGreatDoor.Glob
attribute [local go_sem] max2_int min2_int max_two min_two max_three min_three max_four min_four   -- for this text's walks alone
set_option linter.unusedVariables false
set_option linter.unusedSimpArgs false

def laws_FnExactFirstAge.f (k : Nat) (a0_0 : Int) (l0_1 : List (S107)) (a0_2 : ByteArray) (a1 : Int) (a2 : Int) : Option (Bool) := (laws_szResponse.f k a0_0 l0_1 a0_2 1048576).bind fun t102 => (if t102 < 0 then (some true) else ((laws_toResponse.f k a0_0 l0_1 a0_2).bind fun bt103 => ((spec_FirstAge.f k bt103.1 bt103.2.1 bt103.2.2 a1 a2).bind fun t108 => ((laws_toResponse.f k a0_0 l0_1 a0_2).bind fun bt109 => ((impl_FirstAge.f k bt109.1 bt109.2.1 bt109.2.2 a1 a2).bind fun t115 => (if t115 = t108 then ((laws_toResponse.f k a0_0 l0_1 a0_2).bind fun bt116 => ((laws_eqResponse.f k bt109.1 bt109.2.1 bt109.2.2 bt116.1 bt116.2.1 bt116.2.2).bind fun t121 => (if t121 = true then (some true) else (some false)))) else (some false)))))))
theorem laws_FnExactFirstAge.mono : ∀ a0 a1 a2 a3 a4 k, LeO (laws_FnExactFirstAge.f k a0 a1 a2 a3 a4) (laws_FnExactFirstAge.f (k + 1) a0 a1 a2 a3 a4) := by
 intro a0 a1 a2 a3 a4 k
 unfold laws_FnExactFirstAge.f
 repeat' first
   | (with_reducible exact impl_FirstAge.mono _ _ _ _ _ _)
   | (with_reducible exact laws_eqResponse.mono _ _ _ _ _ _ _)
   | (with_reducible exact laws_szResponse.mono _ _ _ _ _)
   | (with_reducible exact laws_toResponse.mono _ _ _ _)
   | (with_reducible exact spec_FirstAge.mono _ _ _ _ _ _)
   | (with_reducible exact LeO.refl _)
   | (with_reducible exact LeO.none _)
   | (with_reducible refine LeO.ite ?_ ?_)
   | (with_reducible refine LeO.bind ?_ (fun _ => ?_))
   | exact impl_FirstAge.mono _ _ _ _ _ _
   | exact laws_eqResponse.mono _ _ _ _ _ _ _
   | exact laws_szResponse.mono _ _ _ _ _
   | exact laws_toResponse.mono _ _ _ _
   | exact spec_FirstAge.mono _ _ _ _ _ _
   | exact LeO.none _
   | refine LeO.ite ?_ ?_
   | refine LeO.bind ?_ (fun _ => ?_)
set_option maxHeartbeats 8000000 in
set_option maxRecDepth 100000 in
theorem laws_FnExactFirstAge.calls (k : Nat) (a0_0 : Int) (A0_1 : Option Addr) (c0_1 : Nat) (l0_1 : List (S107)) (a0_2 : ByteArray) (a1 : Int) (a2 : Int) (r : Bool) (w : World) (hr0_1 : Kd.C k107 w A0_1 l0_1.length l0_1) (hc0_1 : l0_1.length ≤ c0_1) (hGErr : GErr w) (hGMax : GMax w) (hGPow : GPow w) (h : laws_FnExactFirstAge.f k a0_0 l0_1 a0_2 a1 a2 = some r) :
  Calls Tryz.prog 3 #[.agg #[.int .i64 a0_0, .slice A0_1 l0_1.length c0_1, .string a0_2], .int .i64 a1, .int .i64 a2] w fun e w' => e = .returned (.bool r) ∧ Below w.heap.size w w' := by
 have hu24 := Tryz.underlying24
 have hu29 := Tryz.underlying29
 have HR0_1 := Aside0.mk hr0_1
 have HC0_1 := Aside0.mk hc0_1
 clear hr0_1 hc0_1
 have HGErr := Aside0.mk hGErr
 clear hGErr
 have HGMax := Aside0.mk hGMax
 clear hGMax
 have HGPow := Aside0.mk hGPow
 clear hGPow
 have HB := Aside0.mk (Below.refl w.heap.size w)
 have H : ((laws_szResponse.f k a0_0 l0_1 a0_2 1048576).bind fun t102 => (if t102 < 0 then (some true) else ((laws_toResponse.f k a0_0 l0_1 a0_2).bind fun bt103 => ((spec_FirstAge.f k bt103.1 bt103.2.1 bt103.2.2 a1 a2).bind fun t108 => ((laws_toResponse.f k a0_0 l0_1 a0_2).bind fun bt109 => ((impl_FirstAge.f k bt109.1 bt109.2.1 bt109.2.2 a1 a2).bind fun t115 => (if t115 = t108 then ((laws_toResponse.f k a0_0 l0_1 a0_2).bind fun bt116 => ((laws_eqResponse.f k bt109.1 bt109.2.1 bt109.2.2 bt116.1 bt116.2.1 bt116.2.2).bind fun t121 => (if t121 = true then (some true) else (some false)))) else (some false)))))))) = some r := h
 clear h
 replace H := Option.bind_eq_some_iff.mp H
 obtain ⟨t102, A40, H⟩ := H
 try dsimp only at H
 have A4 := Aside0.mk A40
 clear A40
 by_cases c5 : t102 < 0
 ·rw [if_pos c5] at H
  have c5b0 : decide (t102 < 0) = true := decide_eq_true c5
  clear c5
  obtain rfl := Option.some.inj H
  go_enter Tryz.func3, Tryz.ntmps3
  go_wp2_with (first | ((with_reducible refine gate_dst (N := 3) rfl ?_); refine box_event ?hg (N := 3) ?hd (cs := #[.int .i64 a0_0, .slice A0_1 l0_1.length c0_1, .string a0_2]) (t := 24) ?hr ?_; (case hd => rfl); (case hg => rfl); (case hr => first | (go_simp; done) | (go_simp; rfl)); intro gb101 hg w6 hbox hb; have n0_ := Aside0.mk (below_step bq hb); have n1_ := Aside0.mk (hbox); have n2_ := Aside0.mk ((by rw [hg]; exact (below_size bq) : w.heap.size ≤ gb101)); have n3_ := Aside0.mk ((by rw [hg]; exact (below_size bq) : w.heap.size ≤ gb101)); clear HB; have HB := n0_; have BK101 := n1_; have GW101 := n2_; have GE101 := n3_; clear n0_ n1_ n2_ n3_; clear hb hbox hg; have hcz7_0 : w6.cell? ⟨gb101, 0, none⟩ = some (.int .i64 a0_0) := (blk_cell BK101.out 0).trans rfl; have hcz7_1 : w6.cell? ⟨gb101, 1, none⟩ = some (.slice A0_1 l0_1.length c0_1) := (blk_cell BK101.out 1).trans rfl; have hcz7_2 : w6.cell? ⟨gb101, 2, none⟩ = some (.string a0_2) := (blk_cell BK101.out 2).trans rfl; have hfz7_0 := blk_frozen BK101.out 0; have hfz7_1 := blk_frozen BK101.out 1; have hfz7_2 := blk_frozen BK101.out 2) | ((with_reducible refine gate_callee (f := 9) rfl ?_); refine goesL_ (some 13) rfl rfl Tryz.func9 (by kernel_rfl) rfl #[.agg #[.int .i64 a0_0, .slice A0_1 l0_1.length c0_1, .string a0_2], .int .i64 1048576] rfl am ?_; (with_reducible refine (laws_szResponse.calls k a0_0 _ _ l0_1 a0_2 1048576 t102 _ ?side1 ?side2 A4.out).mono ?_); (case side1 => repeat (first | exact (Kd.C_below HR0_1.out HB.out) | (with_reducible refine Kd.C_alloc ?_ _) | (with_reducible refine Kd.C_drewN ?_ _) | (with_reducible refine Kd.C_drew ?_))); (case side2 => exact HC0_1.out); rintro e w8 ⟨rfl, hb⟩; refine ⟨_, rfl, ?_⟩; have n0_ := Aside0.mk (blk_below (g := gb101) (o := .cells #[.int .i64 a0_0, .slice A0_1 l0_1.length c0_1, .string a0_2] 24 (0, 0)) (by (with_reducible repeat (first | refine blk_drewN ?_ _ | refine blk_drew ?_ | refine blk_alloc ?_ _)); exact BK101.out) hb); have n1_ := Aside0.mk (below_step (by repeat (first | (with_reducible first | exact HB.out | apply below_alloc | apply pw_below_drewN | apply below_drew1 | refine below_set ?_ GE101.out) | exact HB.out)) hb); clear BK101; clear HB; have BK101 := n0_; have HB := n1_; clear n0_ n1_; (try clear hb); (try clear hb2); (try clear hk); (try clear hi)))
  go_ret
  exact ⟨by first | rfl | (simp [errW_none, errW_some] <;> rfl) | (simp [*, errW_none, errW_some] <;> rfl), by repeat (first | (with_reducible first | exact HB.out | apply below_alloc | apply pw_below_drewN | apply below_drew1 | refine below_set ?_ GE101.out) | exact HB.out)⟩
 ·rw [if_neg c5] at H
  have c5b0 : decide (t102 < 0) = false := decide_eq_false c5
  clear c5
  replace H := Option.bind_eq_some_iff.mp H
  obtain ⟨⟨t103, t104, t107⟩, A90, H⟩ := H
  try dsimp only at H
  have A9 := Aside0.mk A90
  clear A90
  replace H := Option.bind_eq_some_iff.mp H
  obtain ⟨t108, A100, H⟩ := H
  try dsimp only at H
  have A10 := Aside0.mk A100
  clear A100
  replace H := Option.bind_eq_some_iff.mp H
  obtain ⟨⟨t109, t110, t113⟩, A110, H⟩ := H
  try dsimp only at H
  have A11 := Aside0.mk A110
  clear A110
  replace H := Option.bind_eq_some_iff.mp H
  obtain ⟨t115, A120, H⟩ := H
  try dsimp only at H
  have A12 := Aside0.mk A120
  clear A120
  by_cases c13 : t115 = t108
  ·rw [if_pos c13] at H
   have c13b0 : (t115 == t108) = true := beq_iff_eq.mpr c13
   have c13b1 : (t115 != t108) = false := bne_eq_false_iff_eq.mpr c13
   clear c13
   replace H := Option.bind_eq_some_iff.mp H
   obtain ⟨⟨t116, t117, t120⟩, A140, H⟩ := H
   try dsimp only at H
   have A14 := Aside0.mk A140
   clear A140
   replace H := Option.bind_eq_some_iff.mp H
   obtain ⟨t121, A150, H⟩ := H
   try dsimp only at H
   have A15 := Aside0.mk A150
   clear A150
   by_cases c16 : t121 = true
   ·subst c16
    rw [if_pos rfl] at H
    obtain rfl := Option.some.inj H
    go_enter Tryz.func3, Tryz.ntmps3
    try go_wp2_with (first | ((with_reducible refine gate_dst (N := 3) rfl ?_); refine box_event ?hg (N := 3) ?hd (cs := #[.int .i64 a0_0, .slice A0_1 l0_1.length c0_1, .string a0_2]) (t := 24) ?hr ?_; (case hd => rfl); (case hg => rfl); (case hr => first | (go_simp; done) | (go_simp; rfl)); intro gb101 hg w17 hbox hb; have n0_ := Aside0.mk (below_step bq hb); have n1_ := Aside0.mk (hbox); have n2_ := Aside0.mk ((by rw [hg]; exact (below_size bq) : w.heap.size ≤ gb101)); have n3_ := Aside0.mk ((by rw [hg]; exact (below_size bq) : w.heap.size ≤ gb101)); clear HB; have HB := n0_; have BK101 := n1_; have GW101 := n2_; have GE101 := n3_; clear n0_ n1_ n2_ n3_; clear hb hbox hg; have hcz18_0 : w17.cell? ⟨gb101, 0, none⟩ = some (.int .i64 a0_0) := (blk_cell BK101.out 0).trans rfl; have hcz18_1 : w17.cell? ⟨gb101, 1, none⟩ = some (.slice A0_1 l0_1.length c0_1) := (blk_cell BK101.out 1).trans rfl; have hcz18_2 : w17.cell? ⟨gb101, 2, none⟩ = some (.string a0_2) := (blk_cell BK101.out 2).trans rfl; have hfz18_0 := blk_frozen BK101.out 0; have hfz18_1 := blk_frozen BK101.out 1; have hfz18_2 := blk_frozen BK101.out 2) | ((with_reducible refine gate_callee (f := 9) rfl ?_); refine goesL_ (some 13) rfl rfl Tryz.func9 (by kernel_rfl) rfl #[.agg #[.int .i64 a0_0, .slice A0_1 l0_1.length c0_1, .string a0_2], .int .i64 1048576] rfl am ?_; (with_reducible refine (laws_szResponse.calls k a0_0 _ _ l0_1 a0_2 1048576 t102 _ ?side1 ?side2 A4.out).mono ?_); (case side1 => repeat (first | exact (Kd.C_below HR0_1.out HB.out) | (with_reducible refine Kd.C_alloc ?_ _) | (with_reducible refine Kd.C_drewN ?_ _) | (with_reducible refine Kd.C_drew ?_))); (case side2 => exact HC0_1.out); rintro e w19 ⟨rfl, hb⟩; refine ⟨_, rfl, ?_⟩; have n0_ := Aside0.mk (blk_below (g := gb101) (o := .cells #[.int .i64 a0_0, .slice A0_1 l0_1.length c0_1, .string a0_2] 24 (0, 0)) (by (with_reducible repeat (first | refine blk_drewN ?_ _ | refine blk_drew ?_ | refine blk_alloc ?_ _)); exact BK101.out) hb); have n1_ := Aside0.mk (below_step (by repeat (first | (with_reducible first | exact HB.out | apply below_alloc | apply pw_below_drewN | apply below_drew1 | refine below_set ?_ GE101.out) | exact HB.out)) hb); clear BK101; clear HB; have BK101 := n0_; have HB := n1_; clear n0_ n1_; (try clear hb); (try clear hb2); (try clear hk); (try clear hi); have hcz20_0 : w19.cell? ⟨gb101, 0, none⟩ = some (.int .i64 a0_0) := (blk_cell BK101.out 0).trans rfl; have hcz20_1 : w19.cell? ⟨gb101, 1, none⟩ = some (.slice A0_1 l0_1.length c0_1) := (blk_cell BK101.out 1).trans rfl; have hcz20_2 : w19.cell? ⟨gb101, 2, none⟩ = some (.string a0_2) := (blk_cell BK101.out 2).trans rfl; have hfz20_0 := blk_frozen BK101.out 0; have hfz20_1 := blk_frozen BK101.out 1; have hfz20_2 := blk_frozen BK101.out 2) | ((with_reducible refine gate_callee (f := 11) rfl ?_); refine goesL_ (some 17) rfl rfl Tryz.func11 (by kernel_rfl) rfl #[.agg #[.int .i64 a0_0, .slice A0_1 l0_1.length c0_1, .string a0_2]] rfl am ?_; (with_reducible refine (laws_toResponse.calls k a0_0 _ _ l0_1 a0_2 t103 t104 t107 _ ?side1 ?side2 A9.out).mono ?_); (case side1 => repeat (first | exact (Kd.C_below HR0_1.out HB.out) | (with_reducible refine Kd.C_alloc ?_ _) | (with_reducible refine Kd.C_drewN ?_ _) | (with_reducible refine Kd.C_drew ?_))); (case side2 => exact HC0_1.out); rintro e w21 ⟨v105, rfl, ho0, hb⟩; refine ⟨_, rfl, ?_⟩; have n0_ := Aside0.mk (Kd.R_lower ho0 (below_size (by repeat (first | (with_reducible first | exact HB.out | apply below_alloc | apply pw_below_drewN | apply below_drew1 | refine below_set ?_ GE101.out) | exact HB.out)))); have n1_ := Aside0.mk (blk_below (g := gb101) (o := .cells #[.int .i64 a0_0, .slice A0_1 l0_1.length c0_1, .string a0_2] 24 (0, 0)) (by (with_reducible repeat (first | refine blk_drewN ?_ _ | refine blk_drew ?_ | refine blk_alloc ?_ _)); exact BK101.out) hb); have n2_ := Aside0.mk (below_step (by repeat (first | (with_reducible first | exact HB.out | apply below_alloc | apply pw_below_drewN | apply below_drew1 | refine below_set ?_ GE101.out) | exact HB.out)) hb); clear BK101; clear HB; have HO106 := n0_; have BK101 := n1_; have HB := n2_; clear n0_ n1_ n2_; (try clear hb); (try clear hb2); (try clear hk); (try clear hi); (try clear ho0); obtain ⟨Ao22, co22, eo22⟩ := Kd.R_slice HO106.out; subst eo22) | ((with_reducible refine gate_callee (f := 10) rfl ?_); refine goesL_ (some 20) rfl rfl Tryz.func10 (by kernel_rfl) rfl #[.agg #[.int .i64 t103, .slice Ao22 t104.length co22, .string t107], .int .i64 a1, .int .i64 a2] rfl am ?_; (with_reducible refine (spec_FirstAge.calls k t103 _ _ t104 t107 a1 a2 t108 _ ?side1 ?side2 A10.out).mono ?_); (case side1 => repeat (first | exact (Kd.R_reads' HO106.out).2.2 | (with_reducible refine Kd.C_alloc ?_ _) | (with_reducible refine Kd.C_drewN ?_ _) | (with_reducible refine Kd.C_drew ?_))); (case side2 => exact (Kd.R_reads' HO106.out).2.1); rintro e w23 ⟨rfl, hb⟩; refine ⟨_, rfl, ?_⟩; have n0_ := Aside0.mk (Kd.R_below (by (with_reducible repeat (first | apply Kd.R_alloc | apply Kd.R_drewN | apply Kd.R_drew)); exact HO106.out) hb); have n1_ := Aside0.mk (blk_below (g := gb101) (o := .cells #[.int .i64 a0_0, .slice A0_1 l0_1.length c0_1, .string a0_2] 24 (0, 0)) (by (with_reducible repeat (first | refine blk_drewN ?_ _ | refine blk_drew ?_ | refine blk_alloc ?_ _)); exact BK101.out) hb); have n2_ := Aside0.mk (below_step (by repeat (first | (with_reducible first | exact HB.out | apply below_alloc | apply pw_below_drewN | apply below_drew1 | refine below_set ?_ GE101.out) | exact HB.out)) hb); clear HO106; clear BK101; clear HB; have HO106 := n0_; have BK101 := n1_; have HB := n2_; clear n0_ n1_ n2_; (try clear hb); (try clear hb2); (try clear hk); (try clear hi); have hcz24_0 : w23.cell? ⟨gb101, 0, none⟩ = some (.int .i64 a0_0) := (blk_cell BK101.out 0).trans rfl; have hcz24_1 : w23.cell? ⟨gb101, 1, none⟩ = some (.slice A0_1 l0_1.length c0_1) := (blk_cell BK101.out 1).trans rfl; have hcz24_2 : w23.cell? ⟨gb101, 2, none⟩ = some (.string a0_2) := (blk_cell BK101.out 2).trans rfl; have hfz24_0 := blk_frozen BK101.out 0; have hfz24_1 := blk_frozen BK101.out 1; have hfz24_2 := blk_frozen BK101.out 2) | ((with_reducible refine gate_callee (f := 11) rfl ?_); refine goesL_ (some 22) rfl rfl Tryz.func11 (by kernel_rfl) rfl #[.agg #[.int .i64 a0_0, .slice A0_1 l0_1.length c0_1, .string a0_2]] rfl am ?_; (with_reducible refine (laws_toResponse.calls k a0_0 _ _ l0_1 a0_2 t109 t110 t113 _ ?side1 ?side2 A11.out).mono ?_); (case side1 => repeat (first | exact (Kd.C_below HR0_1.out HB.out) | (with_reducible refine Kd.C_alloc ?_ _) | (with_reducible refine Kd.C_drewN ?_ _) | (with_reducible refine Kd.C_drew ?_))); (case side2 => exact HC0_1.out); rintro e w25 ⟨v111, rfl, ho0, hb⟩; refine ⟨_, rfl, ?_⟩; have n0_ := Aside0.mk (Kd.R_elder' (by (with_reducible repeat (first | apply Kd.R_alloc | apply Kd.R_drewN | apply Kd.R_drew)); exact HO106.out) (Kd.R_base ho0) hb); have n1_ := Aside0.mk (Kd.R_lower (Kd.R_new' ho0 (Kd.R_lt (by (with_reducible repeat (first | apply Kd.R_alloc | apply Kd.R_drewN | apply Kd.R_drew)); exact HO106.out))) (below_size (by repeat (first | (with_reducible first | exact HB.out | apply below_alloc | apply pw_below_drewN | apply below_drew1 | refine below_set ?_ GE101.out) | exact HB.out)))); have n2_ := Aside0.mk (blk_below (g := gb101) (o := .cells #[.int .i64 a0_0, .slice A0_1 l0_1.length c0_1, .string a0_2] 24 (0, 0)) (by (with_reducible repeat (first | refine blk_drewN ?_ _ | refine blk_drew ?_ | refine blk_alloc ?_ _)); exact BK101.out) hb); have n3_ := Aside0.mk (below_step (by repeat (first | (with_reducible first | exact HB.out | apply below_alloc | apply pw_below_drewN | apply below_drew1 | refine below_set ?_ GE101.out) | exact HB.out)) hb); clear HO106; clear BK101; clear HB; have HO106 := n0_; have HO112 := n1_; have BK101 := n2_; have HB := n3_; clear n0_ n1_ n2_ n3_; (try clear hb); (try clear hb2); (try clear hk); (try clear hi); (try clear ho0)) | ((with_reducible refine gate_dst (N := 9) rfl ?_); refine box_event ?hg (N := 9) ?hd (cs := #[.int .i64 0, .slice none 0 0, .string (⟨#[]⟩ : ByteArray)]) (t := 29) ?hr ?_; (case hd => rfl); (case hg => rfl); (case hr => first | (go_simp; done) | (go_simp; rfl)); intro gb114 hg w26 hbox hb; have n0_ := Aside0.mk (Kd.R_below (by (with_reducible repeat (first | apply Kd.R_alloc | apply Kd.R_drewN | apply Kd.R_drew)); exact HO106.out) hb); have n1_ := Aside0.mk (Kd.R_below (by (with_reducible repeat (first | apply Kd.R_alloc | apply Kd.R_drewN | apply Kd.R_drew)); exact HO112.out) hb); have n2_ := Aside0.mk (blk_below (g := gb101) (o := .cells #[.int .i64 a0_0, .slice A0_1 l0_1.length c0_1, .string a0_2] 24 (0, 0)) (by (with_reducible repeat (first | refine blk_drewN ?_ _ | refine blk_drew ?_ | refine blk_alloc ?_ _)); exact BK101.out) hb); have n3_ := Aside0.mk (below_step (by repeat (first | (with_reducible first | exact HB.out | apply below_alloc | apply pw_below_drewN | apply below_drew1 | refine below_set ?_ GE101.out) | exact HB.out)) hb); have n4_ := Aside0.mk (hbox); have n5_ := Aside0.mk ((by rw [hg]; exact (below_size (by repeat (first | (with_reducible first | exact HB.out | apply below_alloc | apply pw_below_drewN | apply below_drew1 | refine below_set ?_ GE101.out) | exact HB.out))) : w.heap.size ≤ gb114)); have n6_ := Aside0.mk ((by rw [hg]; exact (below_size (by repeat (first | (with_reducible first | exact HB.out | apply below_alloc | apply pw_below_drewN | apply below_drew1 | refine below_set ?_ GE101.out) | exact HB.out))) : w.heap.size ≤ gb114)); have n7_ := Aside0.mk ((by rw [hg]; exact Nat.ne_of_lt (blk_lt (g := gb101) (o := .cells #[.int .i64 a0_0, .slice A0_1 l0_1.length c0_1, .string a0_2] 24 (0, 0)) (by (with_reducible repeat (first | refine blk_drewN ?_ _ | refine blk_drew ?_ | refine blk_alloc ?_ _)); exact BK101.out)) : gb101 ≠ gb114)); have n8_ := Aside0.mk ((by rw [hg]; exact Nat.ne_of_gt (blk_lt (g := gb101) (o := .cells #[.int .i64 a0_0, .slice A0_1 l0_1.length c0_1, .string a0_2] 24 (0, 0)) (by (with_reducible repeat (first | refine blk_drewN ?_ _ | refine blk_drew ?_ | refine blk_alloc ?_ _)); exact BK101.out)) : gb114 ≠ gb101)); clear HO106; clear HO112; clear BK101; clear HB; have HO106 := n0_; have HO112 := n1_; have BK101 := n2_; have HB := n3_; have BK114 := n4_; have GW114 := n5_; have GE114 := n6_; have NB101_114 := n7_; have NB114_101 := n8_; clear n0_ n1_ n2_ n3_ n4_ n5_ n6_ n7_ n8_; clear hb hbox hg; have hnb27 := NB114_101.out; have hnc27 := NB101_114.out; have hcz28_0 : w26.cell? ⟨gb114, 0, none⟩ = some (.int .i64 0) := (blk_cell BK114.out 0).trans rfl; have hcz28_1 : w26.cell? ⟨gb114, 1, none⟩ = some (.slice none 0 0) := (blk_cell BK114.out 1).trans rfl; have hcz28_2 : w26.cell? ⟨gb114, 2, none⟩ = some (.string (⟨#[]⟩ : ByteArray)) := (blk_cell BK114.out 2).trans rfl; have hfz28_0 := blk_frozen BK114.out 0; have hfz28_1 := blk_frozen BK114.out 1; have hfz28_2 := blk_frozen BK114.out 2; obtain ⟨Ao29, co29, eo29⟩ := Kd.R_slice HO112.out; subst eo29) | ((with_reducible refine gate_callee (f := 12) rfl ?_); refine goesL_ (some 26) rfl rfl Tryz.func12 (by kernel_rfl) rfl #[.agg #[.int .i64 t109, .slice Ao29 t110.length co29, .string t113], .int .i64 a1, .int .i64 a2] rfl am ?_; (with_reducible refine (impl_FirstAge.calls k t109 _ _ t110 t113 a1 a2 t115 _ ?side1 ?side2 ?side3 ?side4 ?side5 A12.out).mono ?_); (case side1 => refine (Kd.R_reads' (e := 99) (base := w.heap.size) (ok := fun k_ => (True ∧ some k_ ≠ (.slice Ao22 t104.length co22 : Value).ownBlock)) (n := t110.length) (c := co29) ?_).2.2; exact (by (with_reducible repeat (first | apply Kd.R_alloc | apply Kd.R_drewN | apply Kd.R_drew)); exact (Kd.R_mono (Kd.R_far (p := ⟨gb114, 2, none⟩) (Kd.R_far (p := ⟨gb114, 1, none⟩) (Kd.R_far (p := ⟨gb114, 0, none⟩) (Kd.R_types HO112.out BK114.out (by decide)) (fun _ hk => hk.2) (.int .i64 t109)) (fun _ hk => hk.2) (.slice Ao29 t110.length co29)) (fun _ hk => hk.2) (.string t113)) (fun _ h_ => h_.1)))); (case side2 => exact (Kd.R_reads' HO112.out).2.1); (case side3 => refine GErr.of_below HGErr.out ?_; repeat (first | (with_reducible first | exact HB.out | apply below_alloc | apply pw_below_drewN | apply below_drew1 | refine below_set ?_ GE101.out | refine below_set ?_ GE114.out) | exact HB.out)); (case side4 => refine GMax.of_below HGMax.out ?_; repeat (first | (with_reducible first | exact HB.out | apply below_alloc | apply pw_below_drewN | apply below_drew1 | refine below_set ?_ GE101.out | refine below_set ?_ GE114.out) | exact HB.out)); (case side5 => refine GPow.of_below HGPow.out ?_; repeat (first | (with_reducible first | exact HB.out | apply below_alloc | apply pw_below_drewN | apply below_drew1 | refine below_set ?_ GE101.out | refine below_set ?_ GE114.out) | exact HB.out)); rintro e w30 ⟨rfl, hb⟩; refine ⟨_, rfl, ?_⟩; have n0_ := Aside0.mk (Kd.R_below (by (with_reducible repeat (first | apply Kd.R_alloc | apply Kd.R_drewN | apply Kd.R_drew)); exact (Kd.R_mono (Kd.R_far (p := ⟨gb114, 2, none⟩) (Kd.R_far (p := ⟨gb114, 1, none⟩) (Kd.R_far (p := ⟨gb114, 0, none⟩) (Kd.R_types HO106.out BK114.out (by decide)) (fun _ hk => hk.2) (.int .i64 t109)) (fun _ hk => hk.2) (.slice Ao29 t110.length co29)) (fun _ hk => hk.2) (.string t113)) (fun _ h_ => h_.1))) hb); have n1_ := Aside0.mk (Kd.R_below (by (with_reducible repeat (first | apply Kd.R_alloc | apply Kd.R_drewN | apply Kd.R_drew)); exact (Kd.R_mono (Kd.R_far (p := ⟨gb114, 2, none⟩) (Kd.R_far (p := ⟨gb114, 1, none⟩) (Kd.R_far (p := ⟨gb114, 0, none⟩) (Kd.R_types HO112.out BK114.out (by decide)) (fun _ hk => hk.2) (.int .i64 t109)) (fun _ hk => hk.2) (.slice Ao29 t110.length co29)) (fun _ hk => hk.2) (.string t113)) (fun _ h_ => h_.1))) hb); have n2_ := Aside0.mk (blk_below (g := gb101) (o := .cells #[.int .i64 a0_0, .slice A0_1 l0_1.length c0_1, .string a0_2] 24 (0, 0)) (by (with_reducible repeat (first | refine blk_drewN ?_ _ | refine blk_drew ?_ | refine blk_alloc ?_ _)); refine blk_far ?_ NB101_114.out _; (with_reducible repeat (first | refine blk_drewN ?_ _ | refine blk_drew ?_ | refine blk_alloc ?_ _)); refine blk_far ?_ NB101_114.out _; (with_reducible repeat (first | refine blk_drewN ?_ _ | refine blk_drew ?_ | refine blk_alloc ?_ _)); refine blk_far ?_ NB101_114.out _; (with_reducible repeat (first | refine blk_drewN ?_ _ | refine blk_drew ?_ | refine blk_alloc ?_ _)); exact BK101.out) hb); have n3_ := Aside0.mk (blk_below (g := gb114) (o := .cells #[.int .i64 t109, .slice Ao29 t110.length co29, .string t113] 29 (0, 0)) (by (with_reducible repeat (first | refine blk_drewN ?_ _ | refine blk_drew ?_ | refine blk_alloc ?_ _)); refine blk_put (cs := #[.int .i64 t109, .slice Ao29 t110.length co29, .string (⟨#[]⟩ : ByteArray)]) ?_ 2 _ rfl; (with_reducible repeat (first | refine blk_drewN ?_ _ | refine blk_drew ?_ | refine blk_alloc ?_ _)); refine blk_put (cs := #[.int .i64 t109, .slice none 0 0, .string (⟨#[]⟩ : ByteArray)]) ?_ 1 _ rfl; (with_reducible repeat (first | refine blk_drewN ?_ _ | refine blk_drew ?_ | refine blk_alloc ?_ _)); refine blk_put (cs := #[.int .i64 0, .slice none 0 0, .string (⟨#[]⟩ : ByteArray)]) ?_ 0 _ rfl; (with_reducible repeat (first | refine blk_drewN ?_ _ | refine blk_drew ?_ | refine blk_alloc ?_ _)); exact BK114.out) hb); have n4_ := Aside0.mk (below_step (by repeat (first | (with_reducible first | exact HB.out | apply below_alloc | apply pw_below_drewN | apply below_drew1 | refine below_set ?_ GE101.out | refine below_set ?_ GE114.out) | exact HB.out)) hb); clear HO106; clear HO112; clear BK101; clear BK114; clear HB; have HO106 := n0_; have HO112 := n1_; have BK101 := n2_; have BK114 := n3_; have HB := n4_; clear n0_ n1_ n2_ n3_ n4_; (try clear hb); (try clear hb2); (try clear hk); (try clear hi)))
    have n0_ := Aside0.mk (Kd.R_drew HO106.out)
    have n1_ := Aside0.mk (Kd.R_drew HO112.out)
    have n2_ := Aside0.mk (blk_drew BK101.out)
    have n3_ := Aside0.mk (blk_drew BK114.out)
    have n4_ := Aside0.mk (below_drew1 HB.out)
    clear HO106
    clear HO112
    clear BK101
    clear BK114
    clear HB
    have HO106 := n0_
    have HO112 := n1_
    have BK101 := n2_
    have BK114 := n3_
    have HB := n4_
    clear n0_ n1_ n2_ n3_ n4_
    refine start_ (n := 5) (S := fun w' => w'.cell? ⟨gb114, 0, none⟩ = some (.int .i64 t109) ∧ w'.cell? ⟨gb114, 1, none⟩ = some (.slice Ao29 t110.length co29) ∧ w'.cell? ⟨gb114, 2, none⟩ = some (.string t113) ∧ w'.cell? ⟨gb101, 0, none⟩ = some (.int .i64 a0_0) ∧ w'.cell? ⟨gb101, 1, none⟩ = some (.slice A0_1 l0_1.length c0_1) ∧ w'.cell? ⟨gb101, 2, none⟩ = some (.string a0_2)) (ds := []) (Array.replicate 5 false) (by kernel_rfl) rfl rfl ⟨(blk_cell BK114.out 0).trans rfl, (blk_cell BK114.out 1).trans rfl, (blk_cell BK114.out 2).trans rfl, (blk_cell BK101.out 0).trans rfl, (blk_cell BK101.out 1).trans rfl, (blk_cell BK101.out 2).trans rfl⟩ (fun hHeld => ?_)
    generalize w30.drew = w31 at HO106 HO112 BK101 BK114 HB hHeld ⊢
    refine take_ (i := 0) (N := some 30) (v := ?_) (a' := ?_) #[true, false, false, false, false] rfl rfl (by kernel_rfl) (fun _ _ _ h => h) (Or.inl ⟨by rfl, ?_⟩) hHeld ?_ ?_
    rotate_left
    ·rintro w' ⟨s0, s1, s2, s3, s4, s5⟩
     go_simp
     with_reducible rfl
    rotate_left
    ·simp only [Act.put, List.setIfInBounds_toArray, List.set_cons_zero, List.set_cons_succ, i64_w, i32_w]
     rfl
    refine take_ (i := 1) (N := some 31) (v := ?_) (a' := ?_) #[true, true, false, false, false] rfl rfl (by kernel_rfl) (fun _ _ _ h => h) (Or.inl ⟨by rfl, ?_⟩) hHeld ?_ ?_
    rotate_left
    ·rintro w' ⟨s0, s1, s2, s3, s4, s5⟩
     go_simp
     with_reducible rfl
    rotate_left
    ·simp only [Act.put, List.setIfInBounds_toArray, List.set_cons_zero, List.set_cons_succ, i64_w, i32_w]
     rfl
    refine one_ (i := 2) (N := some 32) #[true, true, true, false, false] rfl rfl (by kernel_rfl) (by decide) (fun K hK => ?_)
    refine goes_ Tryz.func11 (by kernel_rfl) rfl #[.agg #[.int .i64 a0_0, .slice A0_1 l0_1.length c0_1, .string a0_2]] (by rfl) rfl rfl am ?_
    with_reducible refine (laws_toResponse.calls k a0_0 _ _ l0_1 a0_2 t116 t117 t120 _ ?side1 ?side2 A14.out).mono ?_
    (case side1 => repeat (first | exact (Kd.C_below HR0_1.out HB.out) | (with_reducible refine Kd.C_alloc ?_ _) | (with_reducible refine Kd.C_drewN ?_ _) | (with_reducible refine Kd.C_drew ?_)))
    (case side2 => exact HC0_1.out)
    rintro e w32 ⟨v118, rfl, ho0, hb⟩
    refine ⟨_, rfl, ?_⟩
    have n0_ := Aside0.mk (Kd.R_elder' (by (with_reducible repeat (first | apply Kd.R_alloc | apply Kd.R_drewN | apply Kd.R_drew)); exact HO106.out) (Kd.R_base ho0) hb)
    have n1_ := Aside0.mk (Kd.R_elder' (by (with_reducible repeat (first | apply Kd.R_alloc | apply Kd.R_drewN | apply Kd.R_drew)); exact HO112.out) (Kd.R_base ho0) hb)
    have n2_ := Aside0.mk (Kd.R_lower (Kd.R_new' (Kd.R_new' ho0 (Kd.R_lt (by (with_reducible repeat (first | apply Kd.R_alloc | apply Kd.R_drewN | apply Kd.R_drew)); exact HO106.out))) (Kd.R_lt (by (with_reducible repeat (first | apply Kd.R_alloc | apply Kd.R_drewN | apply Kd.R_drew)); exact HO112.out))) (below_size (by repeat (first | (with_reducible first | exact HB.out | apply below_alloc | apply pw_below_drewN | apply below_drew1 | refine below_set ?_ GE101.out | refine below_set ?_ GE114.out) | exact HB.out))))
    have n3_ := Aside0.mk (blk_below (g := gb101) (o := .cells #[.int .i64 a0_0, .slice A0_1 l0_1.length c0_1, .string a0_2] 24 (0, 0)) (by (with_reducible repeat (first | refine blk_drewN ?_ _ | refine blk_drew ?_ | refine blk_alloc ?_ _)); exact BK101.out) hb)
    have n4_ := Aside0.mk (blk_below (g := gb114) (o := .cells #[.int .i64 t109, .slice Ao29 t110.length co29, .string t113] 29 (0, 0)) (by (with_reducible repeat (first | refine blk_drewN ?_ _ | refine blk_drew ?_ | refine blk_alloc ?_ _)); exact BK114.out) hb)
    have n5_ := Aside0.mk (below_step (by repeat (first | (with_reducible first | exact HB.out | apply below_alloc | apply pw_below_drewN | apply below_drew1 | refine below_set ?_ GE101.out | refine below_set ?_ GE114.out) | exact HB.out)) hb)
    clear HO106
    clear HO112
    clear BK101
    clear BK114
    clear HB
    have HO106 := n0_
    have HO112 := n1_
    have HO119 := n2_
    have BK101 := n3_
    have BK114 := n4_
    have HB := n5_
    clear n0_ n1_ n2_ n3_ n4_ n5_
    (try clear hb)
    (try clear hb2)
    (try clear hk)
    (try clear hi)
    (try clear ho0)
    obtain ⟨Ao33, co33, eo33⟩ := Kd.R_slice HO119.out
    (first | subst eo33 | (injection eo33 with f1_ f2_ f3_; have f4_ := f1_.symm; have f5_ := f3_.symm; clear f1_ f2_ f3_; subst f4_; subst f5_))
    refine hK.out _ _ ⟨(blk_cell BK114.out 0).trans rfl, (blk_cell BK114.out 1).trans rfl, (blk_cell BK114.out 2).trans rfl, (blk_cell BK101.out 0).trans rfl, (blk_cell BK101.out 1).trans rfl, (blk_cell BK101.out 2).trans rfl⟩ (fun hHeld => ?_)
    clear hK K
    refine nrm 32 ?_
    refine one_ (i := 3) (N := some 33) #[true, true, true, true, false] rfl rfl (by kernel_rfl) (by decide) (fun K hK => ?_)
    refine goes_ Tryz.func13 (by kernel_rfl) rfl #[.agg #[.int .i64 t109, .slice Ao29 t110.length co29, .string t113], .agg #[.int .i64 t116, .slice Ao33 t117.length co33, .string t120]] (by rfl) rfl rfl am ?_
    with_reducible refine (laws_eqResponse.calls k t109 _ _ t110 t113 t116 _ _ t117 t120 true _ ?side1 ?side2 ?side3 ?side4 A15.out).mono ?_
    (case side1 => repeat (first | exact (Kd.R_reads' HO112.out).2.2 | (with_reducible refine Kd.C_alloc ?_ _) | (with_reducible refine Kd.C_drewN ?_ _) | (with_reducible refine Kd.C_drew ?_)))
    (case side2 => exact (Kd.R_reads' HO112.out).2.1)
    (case side3 => repeat (first | exact (Kd.R_reads' HO119.out).2.2 | (with_reducible refine Kd.C_alloc ?_ _) | (with_reducible refine Kd.C_drewN ?_ _) | (with_reducible refine Kd.C_drew ?_)))
    (case side4 => exact (Kd.R_reads' HO119.out).2.1)
    rintro e w34 ⟨rfl, hb⟩
    refine ⟨_, rfl, ?_⟩
    have n0_ := Aside0.mk (Kd.R_below (by (with_reducible repeat (first | apply Kd.R_alloc | apply Kd.R_drewN | apply Kd.R_drew)); exact HO106.out) hb)
    have n1_ := Aside0.mk (Kd.R_below (by (with_reducible repeat (first | apply Kd.R_alloc | apply Kd.R_drewN | apply Kd.R_drew)); exact HO112.out) hb)
    have n2_ := Aside0.mk (Kd.R_below (by (with_reducible repeat (first | apply Kd.R_alloc | apply Kd.R_drewN | apply Kd.R_drew)); exact HO119.out) hb)
    have n3_ := Aside0.mk (blk_below (g := gb101) (o := .cells #[.int .i64 a0_0, .slice A0_1 l0_1.length c0_1, .string a0_2] 24 (0, 0)) (by (with_reducible repeat (first | refine blk_drewN ?_ _ | refine blk_drew ?_ | refine blk_alloc ?_ _)); exact BK101.out) hb)
    have n4_ := Aside0.mk (blk_below (g := gb114) (o := .cells #[.int .i64 t109, .slice Ao29 t110.length co29, .string t113] 29 (0, 0)) (by (with_reducible repeat (first | refine blk_drewN ?_ _ | refine blk_drew ?_ | refine blk_alloc ?_ _)); exact BK114.out) hb)
    have n5_ := Aside0.mk (below_step (by repeat (first | (with_reducible first | exact HB.out | apply below_alloc | apply pw_below_drewN | apply below_drew1 | refine below_set ?_ GE101.out | refine below_set ?_ GE114.out) | exact HB.out)) hb)
    clear HO106
    clear HO112
    clear HO119
    clear BK101
    clear BK114
    clear HB
    have HO106 := n0_
    have HO112 := n1_
    have HO119 := n2_
    have BK101 := n3_
    have BK114 := n4_
    have HB := n5_
    clear n0_ n1_ n2_ n3_ n4_ n5_
    (try clear hb)
    (try clear hb2)
    (try clear hk)
    (try clear hi)
    refine hK.out _ _ ⟨(blk_cell BK114.out 0).trans rfl, (blk_cell BK114.out 1).trans rfl, (blk_cell BK114.out 2).trans rfl, (blk_cell BK101.out 0).trans rfl, (blk_cell BK101.out 1).trans rfl, (blk_cell BK101.out 2).trans rfl⟩ (fun hHeld => ?_)
    clear hK K
    refine nrm 33 ?_
    refine pure_ (i := 4) (N := some 34) (v := ?_) (a' := ?_) #[true, true, true, true, true] rfl rfl (by kernel_rfl) (fun _ _ _ h => h) (Or.inl ⟨by rfl, ?_⟩) ?_ ?_
    rotate_left
    ·intro w'
     go_simp
     with_reducible rfl
    rotate_left
    ·simp only [Act.put, List.setIfInBounds_toArray, List.set_cons_zero, List.set_cons_succ, i64_w, i32_w]
     rfl
    refine done_ (by kernel_rfl) ?_
    try go_wp2
    go_ret
    exact ⟨by first | rfl | (simp [errW_none, errW_some] <;> rfl) | (simp [*, errW_none, errW_some] <;> rfl), by repeat (first | (with_reducible first | exact HB.out | apply below_alloc | apply pw_below_drewN | apply below_drew1 | refine below_set ?_ GE101.out | refine below_set ?_ GE114.out) | exact HB.out)⟩
   ·replace c16 := Bool.eq_false_iff.mpr c16
    subst c16
    rw [if_neg (show ¬ (false = true) by decide)] at H
    obtain rfl := Option.some.inj H
    go_enter Tryz.func3, Tryz.ntmps3
    try go_wp2_with (first | ((with_reducible refine gate_dst (N := 3) rfl ?_); refine box_event ?hg (N := 3) ?hd (cs := #[.int .i64 a0_0, .slice A0_1 l0_1.length c0_1, .string a0_2]) (t := 24) ?hr ?_; (case hd => rfl); (case hg => rfl); (case hr => first | (go_simp; done) | (go_simp; rfl)); intro gb101 hg w35 hbox hb; have n0_ := Aside0.mk (below_step bq hb); have n1_ := Aside0.mk (hbox); have n2_ := Aside0.mk ((by rw [hg]; exact (below_size bq) : w.heap.size ≤ gb101)); have n3_ := Aside0.mk ((by rw [hg]; exact (below_size bq) : w.heap.size ≤ gb101)); clear HB; have HB := n0_; have BK101 := n1_; have GW101 := n2_; have GE101 := n3_; clear n0_ n1_ n2_ n3_; clear hb hbox hg; have hcz36_0 : w35.cell? ⟨gb101, 0, none⟩ = some (.int .i64 a0_0) := (blk_cell BK101.out 0).trans rfl; have hcz36_1 : w35.cell? ⟨gb101, 1, none⟩ = some (.slice A0_1 l0_1.length c0_1) := (blk_cell BK101.out 1).trans rfl; have hcz36_2 : w35.cell? ⟨gb101, 2, none⟩ = some (.string a0_2) := (blk_cell BK101.out 2).trans rfl; have hfz36_0 := blk_frozen BK101.out 0; have hfz36_1 := blk_frozen BK101.out 1; have hfz36_2 := blk_frozen BK101.out 2) | ((with_reducible refine gate_callee (f := 9) rfl ?_); refine goesL_ (some 13) rfl rfl Tryz.func9 (by kernel_rfl) rfl #[.agg #[.int .i64 a0_0, .slice A0_1 l0_1.length c0_1, .string a0_2], .int .i64 1048576] rfl am ?_; (with_reducible refine (laws_szResponse.calls k a0_0 _ _ l0_1 a0_2 1048576 t102 _ ?side1 ?side2 A4.out).mono ?_); (case side1 => repeat (first | exact (Kd.C_below HR0_1.out HB.out) | (with_reducible refine Kd.C_alloc ?_ _) | (with_reducible refine Kd.C_drewN ?_ _) | (with_reducible refine Kd.C_drew ?_))); (case side2 => exact HC0_1.out); rintro e w37 ⟨rfl, hb⟩; refine ⟨_, rfl, ?_⟩; have n0_ := Aside0.mk (blk_below (g := gb101) (o := .cells #[.int .i64 a0_0, .slice A0_1 l0_1.length c0_1, .string a0_2] 24 (0, 0)) (by (with_reducible repeat (first | refine blk_drewN ?_ _ | refine blk_drew ?_ | refine blk_alloc ?_ _)); exact BK101.out) hb); have n1_ := Aside0.mk (below_step (by repeat (first | (with_reducible first | exact HB.out | apply below_alloc | apply pw_below_drewN | apply below_drew1 | refine below_set ?_ GE101.out) | exact HB.out)) hb); clear BK101; clear HB; have BK101 := n0_; have HB := n1_; clear n0_ n1_; (try clear hb); (try clear hb2); (try clear hk); (try clear hi); have hcz38_0 : w37.cell? ⟨gb101, 0, none⟩ = some (.int .i64 a0_0) := (blk_cell BK101.out 0).trans rfl; have hcz38_1 : w37.cell? ⟨gb101, 1, none⟩ = some (.slice A0_1 l0_1.length c0_1) := (blk_cell BK101.out 1).trans rfl; have hcz38_2 : w37.cell? ⟨gb101, 2, none⟩ = some (.string a0_2) := (blk_cell BK101.out 2).trans rfl; have hfz38_0 := blk_frozen BK101.out 0; have hfz38_1 := blk_frozen BK101.out 1; have hfz38_2 := blk_frozen BK101.out 2) | ((with_reducible refine gate_callee (f := 11) rfl ?_); refine goesL_ (some 17) rfl rfl Tryz.func11 (by kernel_rfl) rfl #[.agg #[.int .i64 a0_0, .slice A0_1 l0_1.length c0_1, .string a0_2]] rfl am ?_; (with_reducible refine (laws_toResponse.calls k a0_0 _ _ l0_1 a0_2 t103 t104 t107 _ ?side1 ?side2 A9.out).mono ?_); (case side1 => repeat (first | exact (Kd.C_below HR0_1.out HB.out) | (with_reducible refine Kd.C_alloc ?_ _) | (with_reducible refine Kd.C_drewN ?_ _) | (with_reducible refine Kd.C_drew ?_))); (case side2 => exact HC0_1.out); rintro e w39 ⟨v105, rfl, ho0, hb⟩; refine ⟨_, rfl, ?_⟩; have n0_ := Aside0.mk (Kd.R_lower ho0 (below_size (by repeat (first | (with_reducible first | exact HB.out | apply below_alloc | apply pw_below_drewN | apply below_drew1 | refine below_set ?_ GE101.out) | exact HB.out)))); have n1_ := Aside0.mk (blk_below (g := gb101) (o := .cells #[.int .i64 a0_0, .slice A0_1 l0_1.length c0_1, .string a0_2] 24 (0, 0)) (by (with_reducible repeat (first | refine blk_drewN ?_ _ | refine blk_drew ?_ | refine blk_alloc ?_ _)); exact BK101.out) hb); have n2_ := Aside0.mk (below_step (by repeat (first | (with_reducible first | exact HB.out | apply below_alloc | apply pw_below_drewN | apply below_drew1 | refine below_set ?_ GE101.out) | exact HB.out)) hb); clear BK101; clear HB; have HO106 := n0_; have BK101 := n1_; have HB := n2_; clear n0_ n1_ n2_; (try clear hb); (try clear hb2); (try clear hk); (try clear hi); (try clear ho0); obtain ⟨Ao40, co40, eo40⟩ := Kd.R_slice HO106.out; subst eo40) | ((with_reducible refine gate_callee (f := 10) rfl ?_); refine goesL_ (some 20) rfl rfl Tryz.func10 (by kernel_rfl) rfl #[.agg #[.int .i64 t103, .slice Ao40 t104.length co40, .string t107], .int .i64 a1, .int .i64 a2] rfl am ?_; (with_reducible refine (spec_FirstAge.calls k t103 _ _ t104 t107 a1 a2 t108 _ ?side1 ?side2 A10.out).mono ?_); (case side1 => repeat (first | exact (Kd.R_reads' HO106.out).2.2 | (with_reducible refine Kd.C_alloc ?_ _) | (with_reducible refine Kd.C_drewN ?_ _) | (with_reducible refine Kd.C_drew ?_))); (case side2 => exact (Kd.R_reads' HO106.out).2.1); rintro e w41 ⟨rfl, hb⟩; refine ⟨_, rfl, ?_⟩; have n0_ := Aside0.mk (Kd.R_below (by (with_reducible repeat (first | apply Kd.R_alloc | apply Kd.R_drewN | apply Kd.R_drew)); exact HO106.out) hb); have n1_ := Aside0.mk (blk_below (g := gb101) (o := .cells #[.int .i64 a0_0, .slice A0_1 l0_1.length c0_1, .string a0_2] 24 (0, 0)) (by (with_reducible repeat (first | refine blk_drewN ?_ _ | refine blk_drew ?_ | refine blk_alloc ?_ _)); exact BK101.out) hb); have n2_ := Aside0.mk (below_step (by repeat (first | (with_reducible first | exact HB.out | apply below_alloc | apply pw_below_drewN | apply below_drew1 | refine below_set ?_ GE101.out) | exact HB.out)) hb); clear HO106; clear BK101; clear HB; have HO106 := n0_; have BK101 := n1_; have HB := n2_; clear n0_ n1_ n2_; (try clear hb); (try clear hb2); (try clear hk); (try clear hi); have hcz42_0 : w41.cell? ⟨gb101, 0, none⟩ = some (.int .i64 a0_0) := (blk_cell BK101.out 0).trans rfl; have hcz42_1 : w41.cell? ⟨gb101, 1, none⟩ = some (.slice A0_1 l0_1.length c0_1) := (blk_cell BK101.out 1).trans rfl; have hcz42_2 : w41.cell? ⟨gb101, 2, none⟩ = some (.string a0_2) := (blk_cell BK101.out 2).trans rfl; have hfz42_0 := blk_frozen BK101.out 0; have hfz42_1 := blk_frozen BK101.out 1; have hfz42_2 := blk_frozen BK101.out 2) | ((with_reducible refine gate_callee (f := 11) rfl ?_); refine goesL_ (some 22) rfl rfl Tryz.func11 (by kernel_rfl) rfl #[.agg #[.int .i64 a0_0, .slice A0_1 l0_1.length c0_1, .string a0_2]] rfl am ?_; (with_reducible refine (laws_toResponse.calls k a0_0 _ _ l0_1 a0_2 t109 t110 t113 _ ?side1 ?side2 A11.out).mono ?_); (case side1 => repeat (first | exact (Kd.C_below HR0_1.out HB.out) | (with_reducible refine Kd.C_alloc ?_ _) | (with_reducible refine Kd.C_drewN ?_ _) | (with_reducible refine Kd.C_drew ?_))); (case side2 => exact HC0_1.out); rintro e w43 ⟨v111, rfl, ho0, hb⟩; refine ⟨_, rfl, ?_⟩; have n0_ := Aside0.mk (Kd.R_elder' (by (with_reducible repeat (first | apply Kd.R_alloc | apply Kd.R_drewN | apply Kd.R_drew)); exact HO106.out) (Kd.R_base ho0) hb); have n1_ := Aside0.mk (Kd.R_lower (Kd.R_new' ho0 (Kd.R_lt (by (with_reducible repeat (first | apply Kd.R_alloc | apply Kd.R_drewN | apply Kd.R_drew)); exact HO106.out))) (below_size (by repeat (first | (with_reducible first | exact HB.out | apply below_alloc | apply pw_below_drewN | apply below_drew1 | refine below_set ?_ GE101.out) | exact HB.out)))); have n2_ := Aside0.mk (blk_below (g := gb101) (o := .cells #[.int .i64 a0_0, .slice A0_1 l0_1.length c0_1, .string a0_2] 24 (0, 0)) (by (with_reducible repeat (first | refine blk_drewN ?_ _ | refine blk_drew ?_ | refine blk_alloc ?_ _)); exact BK101.out) hb); have n3_ := Aside0.mk (below_step (by repeat (first | (with_reducible first | exact HB.out | apply below_alloc | apply pw_below_drewN | apply below_drew1 | refine below_set ?_ GE101.out) | exact HB.out)) hb); clear HO106; clear BK101; clear HB; have HO106 := n0_; have HO112 := n1_; have BK101 := n2_; have HB := n3_; clear n0_ n1_ n2_ n3_; (try clear hb); (try clear hb2); (try clear hk); (try clear hi); (try clear ho0)) | ((with_reducible refine gate_dst (N := 9) rfl ?_); refine box_event ?hg (N := 9) ?hd (cs := #[.int .i64 0, .slice none 0 0, .string (⟨#[]⟩ : ByteArray)]) (t := 29) ?hr ?_; (case hd => rfl); (case hg => rfl); (case hr => first | (go_simp; done) | (go_simp; rfl)); intro gb114 hg w44 hbox hb; have n0_ := Aside0.mk (Kd.R_below (by (with_reducible repeat (first | apply Kd.R_alloc | apply Kd.R_drewN | apply Kd.R_drew)); exact HO106.out) hb); have n1_ := Aside0.mk (Kd.R_below (by (with_reducible repeat (first | apply Kd.R_alloc | apply Kd.R_drewN | apply Kd.R_drew)); exact HO112.out) hb); have n2_ := Aside0.mk (blk_below (g := gb101) (o := .cells #[.int .i64 a0_0, .slice A0_1 l0_1.length c0_1, .string a0_2] 24 (0, 0)) (by (with_reducible repeat (first | refine blk_drewN ?_ _ | refine blk_drew ?_ | refine blk_alloc ?_ _)); exact BK101.out) hb); have n3_ := Aside0.mk (below_step (by repeat (first | (with_reducible first | exact HB.out | apply below_alloc | apply pw_below_drewN | apply below_drew1 | refine below_set ?_ GE101.out) | exact HB.out)) hb); have n4_ := Aside0.mk (hbox); have n5_ := Aside0.mk ((by rw [hg]; exact (below_size (by repeat (first | (with_reducible first | exact HB.out | apply below_alloc | apply pw_below_drewN | apply below_drew1 | refine below_set ?_ GE101.out) | exact HB.out))) : w.heap.size ≤ gb114)); have n6_ := Aside0.mk ((by rw [hg]; exact (below_size (by repeat (first | (with_reducible first | exact HB.out | apply below_alloc | apply pw_below_drewN | apply below_drew1 | refine below_set ?_ GE101.out) | exact HB.out))) : w.heap.size ≤ gb114)); have n7_ := Aside0.mk ((by rw [hg]; exact Nat.ne_of_lt (blk_lt (g := gb101) (o := .cells #[.int .i64 a0_0, .slice A0_1 l0_1.length c0_1, .string a0_2] 24 (0, 0)) (by (with_reducible repeat (first | refine blk_drewN ?_ _ | refine blk_drew ?_ | refine blk_alloc ?_ _)); exact BK101.out)) : gb101 ≠ gb114)); have n8_ := Aside0.mk ((by rw [hg]; exact Nat.ne_of_gt (blk_lt (g := gb101) (o := .cells #[.int .i64 a0_0, .slice A0_1 l0_1.length c0_1, .string a0_2] 24 (0, 0)) (by (with_reducible repeat (first | refine blk_drewN ?_ _ | refine blk_drew ?_ | refine blk_alloc ?_ _)); exact BK101.out)) : gb114 ≠ gb101)); clear HO106; clear HO112; clear BK101; clear HB; have HO106 := n0_; have HO112 := n1_; have BK101 := n2_; have HB := n3_; have BK114 := n4_; have GW114 := n5_; have GE114 := n6_; have NB101_114 := n7_; have NB114_101 := n8_; clear n0_ n1_ n2_ n3_ n4_ n5_ n6_ n7_ n8_; clear hb hbox hg; have hnb45 := NB114_101.out; have hnc45 := NB101_114.out; have hcz46_0 : w44.cell? ⟨gb114, 0, none⟩ = some (.int .i64 0) := (blk_cell BK114.out 0).trans rfl; have hcz46_1 : w44.cell? ⟨gb114, 1, none⟩ = some (.slice none 0 0) := (blk_cell BK114.out 1).trans rfl; have hcz46_2 : w44.cell? ⟨gb114, 2, none⟩ = some (.string (⟨#[]⟩ : ByteArray)) := (blk_cell BK114.out 2).trans rfl; have hfz46_0 := blk_frozen BK114.out 0; have hfz46_1 := blk_frozen BK114.out 1; have hfz46_2 := blk_frozen BK114.out 2; obtain ⟨Ao47, co47, eo47⟩ := Kd.R_slice HO112.out; subst eo47) | ((with_reducible refine gate_callee (f := 12) rfl ?_); refine goesL_ (some 26) rfl rfl Tryz.func12 (by kernel_rfl) rfl #[.agg #[.int .i64 t109, .slice Ao47 t110.length co47, .string t113], .int .i64 a1, .int .i64 a2] rfl am ?_; (with_reducible refine (impl_FirstAge.calls k t109 _ _ t110 t113 a1 a2 t115 _ ?side1 ?side2 ?side3 ?side4 ?side5 A12.out).mono ?_); (case side1 => refine (Kd.R_reads' (e := 99) (base := w.heap.size) (ok := fun k_ => (True ∧ some k_ ≠ (.slice Ao40 t104.length co40 : Value).ownBlock)) (n := t110.length) (c := co47) ?_).2.2; exact (by (with_reducible repeat (first | apply Kd.R_alloc | apply Kd.R_drewN | apply Kd.R_drew)); exact (Kd.R_mono (Kd.R_far (p := ⟨gb114, 2, none⟩) (Kd.R_far (p := ⟨gb114, 1, none⟩) (Kd.R_far (p := ⟨gb114, 0, none⟩) (Kd.R_types HO112.out BK114.out (by decide)) (fun _ hk => hk.2) (.int .i64 t109)) (fun _ hk => hk.2) (.slice Ao47 t110.length co47)) (fun _ hk => hk.2) (.string t113)) (fun _ h_ => h_.1)))); (case side2 => exact (Kd.R_reads' HO112.out).2.1); (case side3 => refine GErr.of_below HGErr.out ?_; repeat (first | (with_reducible first | exact HB.out | apply below_alloc | apply pw_below_drewN | apply below_drew1 | refine below_set ?_ GE101.out | refine below_set ?_ GE114.out) | exact HB.out)); (case side4 => refine GMax.of_below HGMax.out ?_; repeat (first | (with_reducible first | exact HB.out | apply below_alloc | apply pw_below_drewN | apply below_drew1 | refine below_set ?_ GE101.out | refine below_set ?_ GE114.out) | exact HB.out)); (case side5 => refine GPow.of_below HGPow.out ?_; repeat (first | (with_reducible first | exact HB.out | apply below_alloc | apply pw_below_drewN | apply below_drew1 | refine below_set ?_ GE101.out | refine below_set ?_ GE114.out) | exact HB.out)); rintro e w48 ⟨rfl, hb⟩; refine ⟨_, rfl, ?_⟩; have n0_ := Aside0.mk (Kd.R_below (by (with_reducible repeat (first | apply Kd.R_alloc | apply Kd.R_drewN | apply Kd.R_drew)); exact (Kd.R_mono (Kd.R_far (p := ⟨gb114, 2, none⟩) (Kd.R_far (p := ⟨gb114, 1, none⟩) (Kd.R_far (p := ⟨gb114, 0, none⟩) (Kd.R_types HO106.out BK114.out (by decide)) (fun _ hk => hk.2) (.int .i64 t109)) (fun _ hk => hk.2) (.slice Ao47 t110.length co47)) (fun _ hk => hk.2) (.string t113)) (fun _ h_ => h_.1))) hb); have n1_ := Aside0.mk (Kd.R_below (by (with_reducible repeat (first | apply Kd.R_alloc | apply Kd.R_drewN | apply Kd.R_drew)); exact (Kd.R_mono (Kd.R_far (p := ⟨gb114, 2, none⟩) (Kd.R_far (p := ⟨gb114, 1, none⟩) (Kd.R_far (p := ⟨gb114, 0, none⟩) (Kd.R_types HO112.out BK114.out (by decide)) (fun _ hk => hk.2) (.int .i64 t109)) (fun _ hk => hk.2) (.slice Ao47 t110.length co47)) (fun _ hk => hk.2) (.string t113)) (fun _ h_ => h_.1))) hb); have n2_ := Aside0.mk (blk_below (g := gb101) (o := .cells #[.int .i64 a0_0, .slice A0_1 l0_1.length c0_1, .string a0_2] 24 (0, 0)) (by (with_reducible repeat (first | refine blk_drewN ?_ _ | refine blk_drew ?_ | refine blk_alloc ?_ _)); refine blk_far ?_ NB101_114.out _; (with_reducible repeat (first | refine blk_drewN ?_ _ | refine blk_drew ?_ | refine blk_alloc ?_ _)); refine blk_far ?_ NB101_114.out _; (with_reducible repeat (first | refine blk_drewN ?_ _ | refine blk_drew ?_ | refine blk_alloc ?_ _)); refine blk_far ?_ NB101_114.out _; (with_reducible repeat (first | refine blk_drewN ?_ _ | refine blk_drew ?_ | refine blk_alloc ?_ _)); exact BK101.out) hb); have n3_ := Aside0.mk (blk_below (g := gb114) (o := .cells #[.int .i64 t109, .slice Ao47 t110.length co47, .string t113] 29 (0, 0)) (by (with_reducible repeat (first | refine blk_drewN ?_ _ | refine blk_drew ?_ | refine blk_alloc ?_ _)); refine blk_put (cs := #[.int .i64 t109, .slice Ao47 t110.length co47, .string (⟨#[]⟩ : ByteArray)]) ?_ 2 _ rfl; (with_reducible repeat (first | refine blk_drewN ?_ _ | refine blk_drew ?_ | refine blk_alloc ?_ _)); refine blk_put (cs := #[.int .i64 t109, .slice none 0 0, .string (⟨#[]⟩ : ByteArray)]) ?_ 1 _ rfl; (with_reducible repeat (first | refine blk_drewN ?_ _ | refine blk_drew ?_ | refine blk_alloc ?_ _)); refine blk_put (cs := #[.int .i64 0, .slice none 0 0, .string (⟨#[]⟩ : ByteArray)]) ?_ 0 _ rfl; (with_reducible repeat (first | refine blk_drewN ?_ _ | refine blk_drew ?_ | refine blk_alloc ?_ _)); exact BK114.out) hb); have n4_ := Aside0.mk (below_step (by repeat (first | (with_reducible first | exact HB.out | apply below_alloc | apply pw_below_drewN | apply below_drew1 | refine below_set ?_ GE101.out | refine below_set ?_ GE114.out) | exact HB.out)) hb); clear HO106; clear HO112; clear BK101; clear BK114; clear HB; have HO106 := n0_; have HO112 := n1_; have BK101 := n2_; have BK114 := n3_; have HB := n4_; clear n0_ n1_ n2_ n3_ n4_; (try clear hb); (try clear hb2); (try clear hk); (try clear hi)))
    have n0_ := Aside0.mk (Kd.R_drew HO106.out)
    have n1_ := Aside0.mk (Kd.R_drew HO112.out)
    have n2_ := Aside0.mk (blk_drew BK101.out)
    have n3_ := Aside0.mk (blk_drew BK114.out)
    have n4_ := Aside0.mk (below_drew1 HB.out)
    clear HO106
    clear HO112
    clear BK101
    clear BK114
    clear HB
    have HO106 := n0_
    have HO112 := n1_
    have BK101 := n2_
    have BK114 := n3_
    have HB := n4_
    clear n0_ n1_ n2_ n3_ n4_
    refine start_ (n := 5) (S := fun w' => w'.cell? ⟨gb114, 0, none⟩ = some (.int .i64 t109) ∧ w'.cell? ⟨gb114, 1, none⟩ = some (.slice Ao47 t110.length co47) ∧ w'.cell? ⟨gb114, 2, none⟩ = some (.string t113) ∧ w'.cell? ⟨gb101, 0, none⟩ = some (.int .i64 a0_0) ∧ w'.cell? ⟨gb101, 1, none⟩ = some (.slice A0_1 l0_1.length c0_1) ∧ w'.cell? ⟨gb101, 2, none⟩ = some (.string a0_2)) (ds := []) (Array.replicate 5 false) (by kernel_rfl) rfl rfl ⟨(blk_cell BK114.out 0).trans rfl, (blk_cell BK114.out 1).trans rfl, (blk_cell BK114.out 2).trans rfl, (blk_cell BK101.out 0).trans rfl, (blk_cell BK101.out 1).trans rfl, (blk_cell BK101.out 2).trans rfl⟩ (fun hHeld => ?_)
    generalize w48.drew = w49 at HO106 HO112 BK101 BK114 HB hHeld ⊢
    refine take_ (i := 0) (N := some 30) (v := ?_) (a' := ?_) #[true, false, false, false, false] rfl rfl (by kernel_rfl) (fun _ _ _ h => h) (Or.inl ⟨by rfl, ?_⟩) hHeld ?_ ?_
    rotate_left
    ·rintro w' ⟨s0, s1, s2, s3, s4, s5⟩
     go_simp
     with_reducible rfl
    rotate_left
    ·simp only [Act.put, List.setIfInBounds_toArray, List.set_cons_zero, List.set_cons_succ, i64_w, i32_w]
     rfl
    refine take_ (i := 1) (N := some 31) (v := ?_) (a' := ?_) #[true, true, false, false, false] rfl rfl (by kernel_rfl) (fun _ _ _ h => h) (Or.inl ⟨by rfl, ?_⟩) hHeld ?_ ?_
    rotate_left
    ·rintro w' ⟨s0, s1, s2, s3, s4, s5⟩
     go_simp
     with_reducible rfl
    rotate_left
    ·simp only [Act.put, List.setIfInBounds_toArray, List.set_cons_zero, List.set_cons_succ, i64_w, i32_w]
     rfl
    refine one_ (i := 2) (N := some 32) #[true, true, true, false, false] rfl rfl (by kernel_rfl) (by decide) (fun K hK => ?_)
    refine goes_ Tryz.func11 (by kernel_rfl) rfl #[.agg #[.int .i64 a0_0, .slice A0_1 l0_1.length c0_1, .string a0_2]] (by rfl) rfl rfl am ?_
    with_reducible refine (laws_toResponse.calls k a0_0 _ _ l0_1 a0_2 t116 t117 t120 _ ?side1 ?side2 A14.out).mono ?_
    (case side1 => repeat (first | exact (Kd.C_below HR0_1.out HB.out) | (with_reducible refine Kd.C_alloc ?_ _) | (with_reducible refine Kd.C_drewN ?_ _) | (with_reducible refine Kd.C_drew ?_)))
    (case side2 => exact HC0_1.out)
    rintro e w50 ⟨v118, rfl, ho0, hb⟩
    refine ⟨_, rfl, ?_⟩
    have n0_ := Aside0.mk (Kd.R_elder' (by (with_reducible repeat (first | apply Kd.R_alloc | apply Kd.R_drewN | apply Kd.R_drew)); exact HO106.out) (Kd.R_base ho0) hb)
    have n1_ := Aside0.mk (Kd.R_elder' (by (with_reducible repeat (first | apply Kd.R_alloc | apply Kd.R_drewN | apply Kd.R_drew)); exact HO112.out) (Kd.R_base ho0) hb)
    have n2_ := Aside0.mk (Kd.R_lower (Kd.R_new' (Kd.R_new' ho0 (Kd.R_lt (by (with_reducible repeat (first | apply Kd.R_alloc | apply Kd.R_drewN | apply Kd.R_drew)); exact HO106.out))) (Kd.R_lt (by (with_reducible repeat (first | apply Kd.R_alloc | apply Kd.R_drewN | apply Kd.R_drew)); exact HO112.out))) (below_size (by repeat (first | (with_reducible first | exact HB.out | apply below_alloc | apply pw_below_drewN | apply below_drew1 | refine below_set ?_ GE101.out | refine below_set ?_ GE114.out) | exact HB.out))))
    have n3_ := Aside0.mk (blk_below (g := gb101) (o := .cells #[.int .i64 a0_0, .slice A0_1 l0_1.length c0_1, .string a0_2] 24 (0, 0)) (by (with_reducible repeat (first | refine blk_drewN ?_ _ | refine blk_drew ?_ | refine blk_alloc ?_ _)); exact BK101.out) hb)
    have n4_ := Aside0.mk (blk_below (g := gb114) (o := .cells #[.int .i64 t109, .slice Ao47 t110.length co47, .string t113] 29 (0, 0)) (by (with_reducible repeat (first | refine blk_drewN ?_ _ | refine blk_drew ?_ | refine blk_alloc ?_ _)); exact BK114.out) hb)
    have n5_ := Aside0.mk (below_step (by repeat (first | (with_reducible first | exact HB.out | apply below_alloc | apply pw_below_drewN | apply below_drew1 | refine below_set ?_ GE101.out | refine below_set ?_ GE114.out) | exact HB.out)) hb)
    clear HO106
    clear HO112
    clear BK101
    clear BK114
    clear HB
    have HO106 := n0_
    have HO112 := n1_
    have HO119 := n2_
    have BK101 := n3_
    have BK114 := n4_
    have HB := n5_
    clear n0_ n1_ n2_ n3_ n4_ n5_
    (try clear hb)
    (try clear hb2)
    (try clear hk)
    (try clear hi)
    (try clear ho0)
    obtain ⟨Ao51, co51, eo51⟩ := Kd.R_slice HO119.out
    (first | subst eo51 | (injection eo51 with f1_ f2_ f3_; have f4_ := f1_.symm; have f5_ := f3_.symm; clear f1_ f2_ f3_; subst f4_; subst f5_))
    refine hK.out _ _ ⟨(blk_cell BK114.out 0).trans rfl, (blk_cell BK114.out 1).trans rfl, (blk_cell BK114.out 2).trans rfl, (blk_cell BK101.out 0).trans rfl, (blk_cell BK101.out 1).trans rfl, (blk_cell BK101.out 2).trans rfl⟩ (fun hHeld => ?_)
    clear hK K
    refine nrm 32 ?_
    refine one_ (i := 3) (N := some 33) #[true, true, true, true, false] rfl rfl (by kernel_rfl) (by decide) (fun K hK => ?_)
    refine goes_ Tryz.func13 (by kernel_rfl) rfl #[.agg #[.int .i64 t109, .slice Ao47 t110.length co47, .string t113], .agg #[.int .i64 t116, .slice Ao51 t117.length co51, .string t120]] (by rfl) rfl rfl am ?_
    with_reducible refine (laws_eqResponse.calls k t109 _ _ t110 t113 t116 _ _ t117 t120 false _ ?side1 ?side2 ?side3 ?side4 A15.out).mono ?_
    (case side1 => repeat (first | exact (Kd.R_reads' HO112.out).2.2 | (with_reducible refine Kd.C_alloc ?_ _) | (with_reducible refine Kd.C_drewN ?_ _) | (with_reducible refine Kd.C_drew ?_)))
    (case side2 => exact (Kd.R_reads' HO112.out).2.1)
    (case side3 => repeat (first | exact (Kd.R_reads' HO119.out).2.2 | (with_reducible refine Kd.C_alloc ?_ _) | (with_reducible refine Kd.C_drewN ?_ _) | (with_reducible refine Kd.C_drew ?_)))
    (case side4 => exact (Kd.R_reads' HO119.out).2.1)
    rintro e w52 ⟨rfl, hb⟩
    refine ⟨_, rfl, ?_⟩
    have n0_ := Aside0.mk (Kd.R_below (by (with_reducible repeat (first | apply Kd.R_alloc | apply Kd.R_drewN | apply Kd.R_drew)); exact HO106.out) hb)
    have n1_ := Aside0.mk (Kd.R_below (by (with_reducible repeat (first | apply Kd.R_alloc | apply Kd.R_drewN | apply Kd.R_drew)); exact HO112.out) hb)
    have n2_ := Aside0.mk (Kd.R_below (by (with_reducible repeat (first | apply Kd.R_alloc | apply Kd.R_drewN | apply Kd.R_drew)); exact HO119.out) hb)
    have n3_ := Aside0.mk (blk_below (g := gb101) (o := .cells #[.int .i64 a0_0, .slice A0_1 l0_1.length c0_1, .string a0_2] 24 (0, 0)) (by (with_reducible repeat (first | refine blk_drewN ?_ _ | refine blk_drew ?_ | refine blk_alloc ?_ _)); exact BK101.out) hb)
    have n4_ := Aside0.mk (blk_below (g := gb114) (o := .cells #[.int .i64 t109, .slice Ao47 t110.length co47, .string t113] 29 (0, 0)) (by (with_reducible repeat (first | refine blk_drewN ?_ _ | refine blk_drew ?_ | refine blk_alloc ?_ _)); exact BK114.out) hb)
    have n5_ := Aside0.mk (below_step (by repeat (first | (with_reducible first | exact HB.out | apply below_alloc | apply pw_below_drewN | apply below_drew1 | refine below_set ?_ GE101.out | refine below_set ?_ GE114.out) | exact HB.out)) hb)
    clear HO106
    clear HO112
    clear HO119
    clear BK101
    clear BK114
    clear HB
    have HO106 := n0_
    have HO112 := n1_
    have HO119 := n2_
    have BK101 := n3_
    have BK114 := n4_
    have HB := n5_
    clear n0_ n1_ n2_ n3_ n4_ n5_
    (try clear hb)
    (try clear hb2)
    (try clear hk)
    (try clear hi)
    refine hK.out _ _ ⟨(blk_cell BK114.out 0).trans rfl, (blk_cell BK114.out 1).trans rfl, (blk_cell BK114.out 2).trans rfl, (blk_cell BK101.out 0).trans rfl, (blk_cell BK101.out 1).trans rfl, (blk_cell BK101.out 2).trans rfl⟩ (fun hHeld => ?_)
    clear hK K
    refine nrm 33 ?_
    refine pure_ (i := 4) (N := some 34) (v := ?_) (a' := ?_) #[true, true, true, true, true] rfl rfl (by kernel_rfl) (fun _ _ _ h => h) (Or.inl ⟨by rfl, ?_⟩) ?_ ?_
    rotate_left
    ·intro w'
     go_simp
     with_reducible rfl
    rotate_left
    ·simp only [Act.put, List.setIfInBounds_toArray, List.set_cons_zero, List.set_cons_succ, i64_w, i32_w]
     rfl
    refine done_ (by kernel_rfl) ?_
    try go_wp2
    go_ret
    exact ⟨by first | rfl | (simp [errW_none, errW_some] <;> rfl) | (simp [*, errW_none, errW_some] <;> rfl), by repeat (first | (with_reducible first | exact HB.out | apply below_alloc | apply pw_below_drewN | apply below_drew1 | refine below_set ?_ GE101.out | refine below_set ?_ GE114.out) | exact HB.out)⟩
  ·rw [if_neg c13] at H
   have c13b0 : (t115 == t108) = false := beq_eq_false_iff_ne.mpr c13
   have c13b1 : (t115 != t108) = true := bne_iff_ne.mpr c13
   obtain rfl := Option.some.inj H
   go_enter Tryz.func3, Tryz.ntmps3
   go_wp2_with (first | ((with_reducible refine gate_dst (N := 3) rfl ?_); refine box_event ?hg (N := 3) ?hd (cs := #[.int .i64 a0_0, .slice A0_1 l0_1.length c0_1, .string a0_2]) (t := 24) ?hr ?_; (case hd => rfl); (case hg => rfl); (case hr => first | (go_simp; done) | (go_simp; rfl)); intro gb101 hg w53 hbox hb; have n0_ := Aside0.mk (below_step bq hb); have n1_ := Aside0.mk (hbox); have n2_ := Aside0.mk ((by rw [hg]; exact (below_size bq) : w.heap.size ≤ gb101)); have n3_ := Aside0.mk ((by rw [hg]; exact (below_size bq) : w.heap.size ≤ gb101)); clear HB; have HB := n0_; have BK101 := n1_; have GW101 := n2_; have GE101 := n3_; clear n0_ n1_ n2_ n3_; clear hb hbox hg; have hcz54_0 : w53.cell? ⟨gb101, 0, none⟩ = some (.int .i64 a0_0) := (blk_cell BK101.out 0).trans rfl; have hcz54_1 : w53.cell? ⟨gb101, 1, none⟩ = some (.slice A0_1 l0_1.length c0_1) := (blk_cell BK101.out 1).trans rfl; have hcz54_2 : w53.cell? ⟨gb101, 2, none⟩ = some (.string a0_2) := (blk_cell BK101.out 2).trans rfl; have hfz54_0 := blk_frozen BK101.out 0; have hfz54_1 := blk_frozen BK101.out 1; have hfz54_2 := blk_frozen BK101.out 2) | ((with_reducible refine gate_callee (f := 9) rfl ?_); refine goesL_ (some 13) rfl rfl Tryz.func9 (by kernel_rfl) rfl #[.agg #[.int .i64 a0_0, .slice A0_1 l0_1.length c0_1, .string a0_2], .int .i64 1048576] rfl am ?_; (with_reducible refine (laws_szResponse.calls k a0_0 _ _ l0_1 a0_2 1048576 t102 _ ?side1 ?side2 A4.out).mono ?_); (case side1 => repeat (first | exact (Kd.C_below HR0_1.out HB.out) | (with_reducible refine Kd.C_alloc ?_ _) | (with_reducible refine Kd.C_drewN ?_ _) | (with_reducible refine Kd.C_drew ?_))); (case side2 => exact HC0_1.out); rintro e w55 ⟨rfl, hb⟩; refine ⟨_, rfl, ?_⟩; have n0_ := Aside0.mk (blk_below (g := gb101) (o := .cells #[.int .i64 a0_0, .slice A0_1 l0_1.length c0_1, .string a0_2] 24 (0, 0)) (by (with_reducible repeat (first | refine blk_drewN ?_ _ | refine blk_drew ?_ | refine blk_alloc ?_ _)); exact BK101.out) hb); have n1_ := Aside0.mk (below_step (by repeat (first | (with_reducible first | exact HB.out | apply below_alloc | apply pw_below_drewN | apply below_drew1 | refine below_set ?_ GE101.out) | exact HB.out)) hb); clear BK101; clear HB; have BK101 := n0_; have HB := n1_; clear n0_ n1_; (try clear hb); (try clear hb2); (try clear hk); (try clear hi); have hcz56_0 : w55.cell? ⟨gb101, 0, none⟩ = some (.int .i64 a0_0) := (blk_cell BK101.out 0).trans rfl; have hcz56_1 : w55.cell? ⟨gb101, 1, none⟩ = some (.slice A0_1 l0_1.length c0_1) := (blk_cell BK101.out 1).trans rfl; have hcz56_2 : w55.cell? ⟨gb101, 2, none⟩ = some (.string a0_2) := (blk_cell BK101.out 2).trans rfl; have hfz56_0 := blk_frozen BK101.out 0; have hfz56_1 := blk_frozen BK101.out 1; have hfz56_2 := blk_frozen BK101.out 2) | ((with_reducible refine gate_callee (f := 11) rfl ?_); refine goesL_ (some 17) rfl rfl Tryz.func11 (by kernel_rfl) rfl #[.agg #[.int .i64 a0_0, .slice A0_1 l0_1.length c0_1, .string a0_2]] rfl am ?_; (with_reducible refine (laws_toResponse.calls k a0_0 _ _ l0_1 a0_2 t103 t104 t107 _ ?side1 ?side2 A9.out).mono ?_); (case side1 => repeat (first | exact (Kd.C_below HR0_1.out HB.out) | (with_reducible refine Kd.C_alloc ?_ _) | (with_reducible refine Kd.C_drewN ?_ _) | (with_reducible refine Kd.C_drew ?_))); (case side2 => exact HC0_1.out); rintro e w57 ⟨v105, rfl, ho0, hb⟩; refine ⟨_, rfl, ?_⟩; have n0_ := Aside0.mk (Kd.R_lower ho0 (below_size (by repeat (first | (with_reducible first | exact HB.out | apply below_alloc | apply pw_below_drewN | apply below_drew1 | refine below_set ?_ GE101.out) | exact HB.out)))); have n1_ := Aside0.mk (blk_below (g := gb101) (o := .cells #[.int .i64 a0_0, .slice A0_1 l0_1.length c0_1, .string a0_2] 24 (0, 0)) (by (with_reducible repeat (first | refine blk_drewN ?_ _ | refine blk_drew ?_ | refine blk_alloc ?_ _)); exact BK101.out) hb); have n2_ := Aside0.mk (below_step (by repeat (first | (with_reducible first | exact HB.out | apply below_alloc | apply pw_below_drewN | apply below_drew1 | refine below_set ?_ GE101.out) | exact HB.out)) hb); clear BK101; clear HB; have HO106 := n0_; have BK101 := n1_; have HB := n2_; clear n0_ n1_ n2_; (try clear hb); (try clear hb2); (try clear hk); (try clear hi); (try clear ho0); obtain ⟨Ao58, co58, eo58⟩ := Kd.R_slice HO106.out; subst eo58) | ((with_reducible refine gate_callee (f := 10) rfl ?_); refine goesL_ (some 20) rfl rfl Tryz.func10 (by kernel_rfl) rfl #[.agg #[.int .i64 t103, .slice Ao58 t104.length co58, .string t107], .int .i64 a1, .int .i64 a2] rfl am ?_; (with_reducible refine (spec_FirstAge.calls k t103 _ _ t104 t107 a1 a2 t108 _ ?side1 ?side2 A10.out).mono ?_); (case side1 => repeat (first | exact (Kd.R_reads' HO106.out).2.2 | (with_reducible refine Kd.C_alloc ?_ _) | (with_reducible refine Kd.C_drewN ?_ _) | (with_reducible refine Kd.C_drew ?_))); (case side2 => exact (Kd.R_reads' HO106.out).2.1); rintro e w59 ⟨rfl, hb⟩; refine ⟨_, rfl, ?_⟩; have n0_ := Aside0.mk (Kd.R_below (by (with_reducible repeat (first | apply Kd.R_alloc | apply Kd.R_drewN | apply Kd.R_drew)); exact HO106.out) hb); have n1_ := Aside0.mk (blk_below (g := gb101) (o := .cells #[.int .i64 a0_0, .slice A0_1 l0_1.length c0_1, .string a0_2] 24 (0, 0)) (by (with_reducible repeat (first | refine blk_drewN ?_ _ | refine blk_drew ?_ | refine blk_alloc ?_ _)); exact BK101.out) hb); have n2_ := Aside0.mk (below_step (by repeat (first | (with_reducible first | exact HB.out | apply below_alloc | apply pw_below_drewN | apply below_drew1 | refine below_set ?_ GE101.out) | exact HB.out)) hb); clear HO106; clear BK101; clear HB; have HO106 := n0_; have BK101 := n1_; have HB := n2_; clear n0_ n1_ n2_; (try clear hb); (try clear hb2); (try clear hk); (try clear hi); have hcz60_0 : w59.cell? ⟨gb101, 0, none⟩ = some (.int .i64 a0_0) := (blk_cell BK101.out 0).trans rfl; have hcz60_1 : w59.cell? ⟨gb101, 1, none⟩ = some (.slice A0_1 l0_1.length c0_1) := (blk_cell BK101.out 1).trans rfl; have hcz60_2 : w59.cell? ⟨gb101, 2, none⟩ = some (.string a0_2) := (blk_cell BK101.out 2).trans rfl; have hfz60_0 := blk_frozen BK101.out 0; have hfz60_1 := blk_frozen BK101.out 1; have hfz60_2 := blk_frozen BK101.out 2) | ((with_reducible refine gate_callee (f := 11) rfl ?_); refine goesL_ (some 22) rfl rfl Tryz.func11 (by kernel_rfl) rfl #[.agg #[.int .i64 a0_0, .slice A0_1 l0_1.length c0_1, .string a0_2]] rfl am ?_; (with_reducible refine (laws_toResponse.calls k a0_0 _ _ l0_1 a0_2 t109 t110 t113 _ ?side1 ?side2 A11.out).mono ?_); (case side1 => repeat (first | exact (Kd.C_below HR0_1.out HB.out) | (with_reducible refine Kd.C_alloc ?_ _) | (with_reducible refine Kd.C_drewN ?_ _) | (with_reducible refine Kd.C_drew ?_))); (case side2 => exact HC0_1.out); rintro e w61 ⟨v111, rfl, ho0, hb⟩; refine ⟨_, rfl, ?_⟩; have n0_ := Aside0.mk (Kd.R_elder' (by (with_reducible repeat (first | apply Kd.R_alloc | apply Kd.R_drewN | apply Kd.R_drew)); exact HO106.out) (Kd.R_base ho0) hb); have n1_ := Aside0.mk (Kd.R_lower (Kd.R_new' ho0 (Kd.R_lt (by (with_reducible repeat (first | apply Kd.R_alloc | apply Kd.R_drewN | apply Kd.R_drew)); exact HO106.out))) (below_size (by repeat (first | (with_reducible first | exact HB.out | apply below_alloc | apply pw_below_drewN | apply below_drew1 | refine below_set ?_ GE101.out) | exact HB.out)))); have n2_ := Aside0.mk (blk_below (g := gb101) (o := .cells #[.int .i64 a0_0, .slice A0_1 l0_1.length c0_1, .string a0_2] 24 (0, 0)) (by (with_reducible repeat (first | refine blk_drewN ?_ _ | refine blk_drew ?_ | refine blk_alloc ?_ _)); exact BK101.out) hb); have n3_ := Aside0.mk (below_step (by repeat (first | (with_reducible first | exact HB.out | apply below_alloc | apply pw_below_drewN | apply below_drew1 | refine below_set ?_ GE101.out) | exact HB.out)) hb); clear HO106; clear BK101; clear HB; have HO106 := n0_; have HO112 := n1_; have BK101 := n2_; have HB := n3_; clear n0_ n1_ n2_ n3_; (try clear hb); (try clear hb2); (try clear hk); (try clear hi); (try clear ho0)) | ((with_reducible refine gate_dst (N := 9) rfl ?_); refine box_event ?hg (N := 9) ?hd (cs := #[.int .i64 0, .slice none 0 0, .string (⟨#[]⟩ : ByteArray)]) (t := 29) ?hr ?_; (case hd => rfl); (case hg => rfl); (case hr => first | (go_simp; done) | (go_simp; rfl)); intro gb114 hg w62 hbox hb; have n0_ := Aside0.mk (Kd.R_below (by (with_reducible repeat (first | apply Kd.R_alloc | apply Kd.R_drewN | apply Kd.R_drew)); exact HO106.out) hb); have n1_ := Aside0.mk (Kd.R_below (by (with_reducible repeat (first | apply Kd.R_alloc | apply Kd.R_drewN | apply Kd.R_drew)); exact HO112.out) hb); have n2_ := Aside0.mk (blk_below (g := gb101) (o := .cells #[.int .i64 a0_0, .slice A0_1 l0_1.length c0_1, .string a0_2] 24 (0, 0)) (by (with_reducible repeat (first | refine blk_drewN ?_ _ | refine blk_drew ?_ | refine blk_alloc ?_ _)); exact BK101.out) hb); have n3_ := Aside0.mk (below_step (by repeat (first | (with_reducible first | exact HB.out | apply below_alloc | apply pw_below_drewN | apply below_drew1 | refine below_set ?_ GE101.out) | exact HB.out)) hb); have n4_ := Aside0.mk (hbox); have n5_ := Aside0.mk ((by rw [hg]; exact (below_size (by repeat (first | (with_reducible first | exact HB.out | apply below_alloc | apply pw_below_drewN | apply below_drew1 | refine below_set ?_ GE101.out) | exact HB.out))) : w.heap.size ≤ gb114)); have n6_ := Aside0.mk ((by rw [hg]; exact (below_size (by repeat (first | (with_reducible first | exact HB.out | apply below_alloc | apply pw_below_drewN | apply below_drew1 | refine below_set ?_ GE101.out) | exact HB.out))) : w.heap.size ≤ gb114)); have n7_ := Aside0.mk ((by rw [hg]; exact Nat.ne_of_lt (blk_lt (g := gb101) (o := .cells #[.int .i64 a0_0, .slice A0_1 l0_1.length c0_1, .string a0_2] 24 (0, 0)) (by (with_reducible repeat (first | refine blk_drewN ?_ _ | refine blk_drew ?_ | refine blk_alloc ?_ _)); exact BK101.out)) : gb101 ≠ gb114)); have n8_ := Aside0.mk ((by rw [hg]; exact Nat.ne_of_gt (blk_lt (g := gb101) (o := .cells #[.int .i64 a0_0, .slice A0_1 l0_1.length c0_1, .string a0_2] 24 (0, 0)) (by (with_reducible repeat (first | refine blk_drewN ?_ _ | refine blk_drew ?_ | refine blk_alloc ?_ _)); exact BK101.out)) : gb114 ≠ gb101)); clear HO106; clear HO112; clear BK101; clear HB; have HO106 := n0_; have HO112 := n1_; have BK101 := n2_; have HB := n3_; have BK114 := n4_; have GW114 := n5_; have GE114 := n6_; have NB101_114 := n7_; have NB114_101 := n8_; clear n0_ n1_ n2_ n3_ n4_ n5_ n6_ n7_ n8_; clear hb hbox hg; have hnb63 := NB114_101.out; have hnc63 := NB101_114.out; have hcz64_0 : w62.cell? ⟨gb114, 0, none⟩ = some (.int .i64 0) := (blk_cell BK114.out 0).trans rfl; have hcz64_1 : w62.cell? ⟨gb114, 1, none⟩ = some (.slice none 0 0) := (blk_cell BK114.out 1).trans rfl; have hcz64_2 : w62.cell? ⟨gb114, 2, none⟩ = some (.string (⟨#[]⟩ : ByteArray)) := (blk_cell BK114.out 2).trans rfl; have hfz64_0 := blk_frozen BK114.out 0; have hfz64_1 := blk_frozen BK114.out 1; have hfz64_2 := blk_frozen BK114.out 2; obtain ⟨Ao65, co65, eo65⟩ := Kd.R_slice HO112.out; subst eo65) | ((with_reducible refine gate_callee (f := 12) rfl ?_); refine goesL_ (some 26) rfl rfl Tryz.func12 (by kernel_rfl) rfl #[.agg #[.int .i64 t109, .slice Ao65 t110.length co65, .string t113], .int .i64 a1, .int .i64 a2] rfl am ?_; (with_reducible refine (impl_FirstAge.calls k t109 _ _ t110 t113 a1 a2 t115 _ ?side1 ?side2 ?side3 ?side4 ?side5 A12.out).mono ?_); (case side1 => refine (Kd.R_reads' (e := 99) (base := w.heap.size) (ok := fun k_ => (True ∧ some k_ ≠ (.slice Ao58 t104.length co58 : Value).ownBlock)) (n := t110.length) (c := co65) ?_).2.2; exact (by (with_reducible repeat (first | apply Kd.R_alloc | apply Kd.R_drewN | apply Kd.R_drew)); exact (Kd.R_mono (Kd.R_far (p := ⟨gb114, 2, none⟩) (Kd.R_far (p := ⟨gb114, 1, none⟩) (Kd.R_far (p := ⟨gb114, 0, none⟩) (Kd.R_types HO112.out BK114.out (by decide)) (fun _ hk => hk.2) (.int .i64 t109)) (fun _ hk => hk.2) (.slice Ao65 t110.length co65)) (fun _ hk => hk.2) (.string t113)) (fun _ h_ => h_.1)))); (case side2 => exact (Kd.R_reads' HO112.out).2.1); (case side3 => refine GErr.of_below HGErr.out ?_; repeat (first | (with_reducible first | exact HB.out | apply below_alloc | apply pw_below_drewN | apply below_drew1 | refine below_set ?_ GE101.out | refine below_set ?_ GE114.out) | exact HB.out)); (case side4 => refine GMax.of_below HGMax.out ?_; repeat (first | (with_reducible first | exact HB.out | apply below_alloc | apply pw_below_drewN | apply below_drew1 | refine below_set ?_ GE101.out | refine below_set ?_ GE114.out) | exact HB.out)); (case side5 => refine GPow.of_below HGPow.out ?_; repeat (first | (with_reducible first | exact HB.out | apply below_alloc | apply pw_below_drewN | apply below_drew1 | refine below_set ?_ GE101.out | refine below_set ?_ GE114.out) | exact HB.out)); rintro e w66 ⟨rfl, hb⟩; refine ⟨_, rfl, ?_⟩; have n0_ := Aside0.mk (Kd.R_below (by (with_reducible repeat (first | apply Kd.R_alloc | apply Kd.R_drewN | apply Kd.R_drew)); exact (Kd.R_mono (Kd.R_far (p := ⟨gb114, 2, none⟩) (Kd.R_far (p := ⟨gb114, 1, none⟩) (Kd.R_far (p := ⟨gb114, 0, none⟩) (Kd.R_types HO106.out BK114.out (by decide)) (fun _ hk => hk.2) (.int .i64 t109)) (fun _ hk => hk.2) (.slice Ao65 t110.length co65)) (fun _ hk => hk.2) (.string t113)) (fun _ h_ => h_.1))) hb); have n1_ := Aside0.mk (Kd.R_below (by (with_reducible repeat (first | apply Kd.R_alloc | apply Kd.R_drewN | apply Kd.R_drew)); exact (Kd.R_mono (Kd.R_far (p := ⟨gb114, 2, none⟩) (Kd.R_far (p := ⟨gb114, 1, none⟩) (Kd.R_far (p := ⟨gb114, 0, none⟩) (Kd.R_types HO112.out BK114.out (by decide)) (fun _ hk => hk.2) (.int .i64 t109)) (fun _ hk => hk.2) (.slice Ao65 t110.length co65)) (fun _ hk => hk.2) (.string t113)) (fun _ h_ => h_.1))) hb); have n2_ := Aside0.mk (blk_below (g := gb101) (o := .cells #[.int .i64 a0_0, .slice A0_1 l0_1.length c0_1, .string a0_2] 24 (0, 0)) (by (with_reducible repeat (first | refine blk_drewN ?_ _ | refine blk_drew ?_ | refine blk_alloc ?_ _)); refine blk_far ?_ NB101_114.out _; (with_reducible repeat (first | refine blk_drewN ?_ _ | refine blk_drew ?_ | refine blk_alloc ?_ _)); refine blk_far ?_ NB101_114.out _; (with_reducible repeat (first | refine blk_drewN ?_ _ | refine blk_drew ?_ | refine blk_alloc ?_ _)); refine blk_far ?_ NB101_114.out _; (with_reducible repeat (first | refine blk_drewN ?_ _ | refine blk_drew ?_ | refine blk_alloc ?_ _)); exact BK101.out) hb); have n3_ := Aside0.mk (blk_below (g := gb114) (o := .cells #[.int .i64 t109, .slice Ao65 t110.length co65, .string t113] 29 (0, 0)) (by (with_reducible repeat (first | refine blk_drewN ?_ _ | refine blk_drew ?_ | refine blk_alloc ?_ _)); refine blk_put (cs := #[.int .i64 t109, .slice Ao65 t110.length co65, .string (⟨#[]⟩ : ByteArray)]) ?_ 2 _ rfl; (with_reducible repeat (first | refine blk_drewN ?_ _ | refine blk_drew ?_ | refine blk_alloc ?_ _)); refine blk_put (cs := #[.int .i64 t109, .slice none 0 0, .string (⟨#[]⟩ : ByteArray)]) ?_ 1 _ rfl; (with_reducible repeat (first | refine blk_drewN ?_ _ | refine blk_drew ?_ | refine blk_alloc ?_ _)); refine blk_put (cs := #[.int .i64 0, .slice none 0 0, .string (⟨#[]⟩ : ByteArray)]) ?_ 0 _ rfl; (with_reducible repeat (first | refine blk_drewN ?_ _ | refine blk_drew ?_ | refine blk_alloc ?_ _)); exact BK114.out) hb); have n4_ := Aside0.mk (below_step (by repeat (first | (with_reducible first | exact HB.out | apply below_alloc | apply pw_below_drewN | apply below_drew1 | refine below_set ?_ GE101.out | refine below_set ?_ GE114.out) | exact HB.out)) hb); clear HO106; clear HO112; clear BK101; clear BK114; clear HB; have HO106 := n0_; have HO112 := n1_; have BK101 := n2_; have BK114 := n3_; have HB := n4_; clear n0_ n1_ n2_ n3_ n4_; (try clear hb); (try clear hb2); (try clear hk); (try clear hi)))
   go_ret
   exact ⟨by first | rfl | (simp [errW_none, errW_some] <;> rfl) | (simp [*, errW_none, errW_some] <;> rfl), by repeat (first | (with_reducible first | exact HB.out | apply below_alloc | apply pw_below_drewN | apply below_drew1 | refine below_set ?_ GE101.out | refine below_set ?_ GE114.out) | exact HB.out)⟩

end Go.Proofs.YtjldfmkpdkhnnaaGreatDoor.QL

namespace Go.Proofs.YtjldfmkpdkhnnaaGreatDoor.QL
open Go.RowKit Go.Proofs.YtjldfmkpdkhnnaaGreatDoorW.PrintWords Go.Proofs.YtjldfmkpdkhnnaaGreatDoorW.PrintLast Go.Proofs.YtjldfmkpdkhnnaaGreatDoorW.PrintMore Go.Proofs.YtjldfmkpdkhnnaaGreatDoor.Aux Go.Proofs.YtjldfmkpdkhnnaaGreatDoor.Dom Go.Proofs.YtjldfmkpdkhnnaaGreatDoor.Ext Go.Proofs.YtjldfmkpdkhnnaaGreatDoor.Glob
def laws_FnExactFirstAge.Pure : Prop := ∀ (a0_0 : Int) (l0_1 : List S107) (a0_2 : ByteArray) (a1 : Int) (a2 : Int), (Lit.int .i64 a0_0).wf = true → l0_1.length ≤ maxLen → (∀ x ∈ l0_1, x.f0.size ≤ maxLen ∧ x.f1.size ≤ maxLen) → a0_2.size ≤ maxLen → (Lit.int .i64 a1).wf = true → (Lit.int .i64 a2).wf = true → ∃ k, laws_FnExactFirstAge.f k a0_0 l0_1 a0_2 a1 a2 = some true
theorem laws_FnExactFirstAge.walk (P : laws_FnExactFirstAge.Pure) (a0_0 : Int) (A0_1 : Option Addr) (c0_1 : Nat) (l0_1 : List S107) (a0_2 : ByteArray) (a1 : Int) (a2 : Int) (w : World) (za0_0 : (Lit.int .i64 a0_0).wf = true) (hr0_1 : Kd.C k107 w A0_1 l0_1.length l0_1) (hc0_1 : l0_1.length ≤ c0_1) (zl0_1 : l0_1.length ≤ maxLen) (zm0_1 : ∀ x ∈ l0_1, x.f0.size ≤ maxLen ∧ x.f1.size ≤ maxLen) (za0_2 : a0_2.size ≤ maxLen) (za1 : (Lit.int .i64 a1).wf = true) (za2 : (Lit.int .i64 a2).wf = true) (hGErr : GErr w) (hGMax : GMax w) (hGPow : GPow w) :
    Calls Tryz.prog 3 #[.agg #[.int .i64 a0_0, .slice A0_1 l0_1.length c0_1, .string a0_2], .int .i64 a1, .int .i64 a2] w fun e w' => e = .returned (.bool true) ∧ Below w.heap.size w w' := by
  obtain ⟨k, h⟩ := P a0_0 l0_1 a0_2 a1 a2 za0_0 zl0_1 zm0_1 za0_2 za1 za2
  refine (laws_FnExactFirstAge.calls k a0_0 A0_1 c0_1 l0_1 a0_2 a1 a2 true w hr0_1 hc0_1 hGErr hGMax hGPow h).mono ?_
  rintro e w' ⟨rfl, hd⟩
  exact ⟨rfl, hd⟩
end Go.Proofs.YtjldfmkpdkhnnaaGreatDoor.QL

namespace Go.Proofs.YtjldfmkpdkhnnaaGreatDoor.Dom
set_option linter.unusedVariables false
set_option linter.unusedSimpArgs false
open Go.RowKit Go.Proofs.YtjldfmkpdkhnnaaGreatDoorW.PrintWords Go.Proofs.YtjldfmkpdkhnnaaGreatDoorW.PrintLast Go.Proofs.YtjldfmkpdkhnnaaGreatDoorW.PrintMore Go.Proofs.YtjldfmkpdkhnnaaGreatDoor.Aux

def szL : Int → List (ByteArray × ByteArray) → Int
  | n, [] => n
  | n, p :: r => if n - (p.1.size : Int) - (p.2.size : Int) < 0 then -1 else szL (n - (p.1.size : Int) - (p.2.size : Int)) r
def szF (n : Int) (l : List (ByteArray × ByteArray)) : Int := if n - (l.length : Int) < 0 then -1 else szL (n - l.length) l
theorem szL_le : ∀ (l : List (ByteArray × ByteArray)) (n : Int), 0 ≤ n → szL n l ≤ n
  | [], n, _ => by simp [szL]
  | p :: r, n, h => by
    rw [szL]
    split
    · omega
    · have := szL_le r (n - (p.1.size : Int) - (p.2.size : Int)) (by omega)
      omega
theorem szF_le (n : Int) (l : List (ByteArray × ByteArray)) (h : 0 ≤ n) : szF n l ≤ n := by
  unfold szF
  split
  · omega
  · have := szL_le l (n - l.length) (by omega)
    omega
theorem szF_len {n : Int} {l : List (ByteArray × ByteArray)} (h : ¬ szF n l < 0) : (l.length : Int) ≤ n := by
  unfold szF at h
  split at h
  · exact absurd (by omega) h
  · omega
def getL (nm : ByteArray) : List (ByteArray × ByteArray) → List ByteArray
  | [] => []
  | p :: r => if p.1 = nm then p.2 :: getL nm r else getL nm r
theorem szL_sum (nm : ByteArray) : ∀ (l : List (ByteArray × ByteArray)) (n : Int), 0 ≤ n → ¬ szL n l < 0 → ((((getL nm l).map fun v => v.size + 2).sum : Nat) : Int) ≤ n + 2 * l.length
  | [], n, h0, _ => by simp [getL]; omega
  | q :: r, n, h0, h => by
    rw [szL] at h
    split at h
    · exact absurd (by omega) h
    · rename_i h1
      have ih := szL_sum nm r _ (by omega) h
      rw [getL]
      split
      · rw [List.map_cons, List.sum_cons, List.length_cons]
        omega
      · rw [List.length_cons]
        omega
theorem szF_sum (nm : ByteArray) {n : Int} {l : List (ByteArray × ByteArray)} (h0 : 0 ≤ n) (h : ¬ szF n l < 0) : ((((getL nm l).map fun v => v.size + 2).sum : Nat) : Int) ≤ 3 * n := by
  have h1 := szF_len h
  unfold szF at h
  split at h
  · exact absurd (by omega) h
  · have := szL_sum nm l _ (by omega) h
    omega
theorem getL_length (nm : ByteArray) : ∀ l : List (ByteArray × ByteArray), (getL nm l).length ≤ l.length
  | [] => by simp [getL]
  | q :: r => by
    have := getL_length nm r
    rw [getL]
    split <;> simp <;> omega
def szR (n : Int) (l : List (ByteArray × ByteArray)) (b : ByteArray) : Int := if szF n l < 0 then -1 else if szF n l - (b.size : Int) < 0 then -1 else szF n l - b.size
theorem szR_szF {n : Int} {l : List (ByteArray × ByteArray)} {b : ByteArray} (h : ¬ szR n l b < 0) : ¬ szF n l < 0 ∧ (b.size : Int) ≤ szF n l := by
  unfold szR at h
  split at h
  · exact absurd (by omega) h
  · split at h
    · exact absurd (by omega) h
    · omega
theorem szR_len {n : Int} {l : List (ByteArray × ByteArray)} {b : ByteArray} (h : ¬ szR n l b < 0) : (l.length : Int) ≤ n := szF_len (szR_szF h).1
def leapB (y : Int) : Bool := decide ((y % 4 = 0 ∧ y % 100 ≠ 0) ∨ y % 400 = 0)
def yearD (y : Int) : Int := if leapB y then 366 else 365
def monthD (y m : Int) : Int := if m = 2 then (if leapB y then 29 else 28) else if m = 4 ∨ m = 6 ∨ m = 9 ∨ m = 11 then 30 else 31
def yearsD : Nat → Int → Int
  | 0, _ => 0
  | d + 1, y => yearD y + yearsD d (y + 1)
def monthsD (y : Int) : Nat → Int → Int
  | 0, _ => 0
  | d + 1, m => monthD y m + monthsD y d (m + 1)
def daysP (y m d : Int) : Int := if (1970 ≤ y ∧ y ≤ 2037) ∧ (1 ≤ m ∧ m ≤ 12) ∧ (1 ≤ d ∧ d ≤ monthD y m) then d - 1 + yearsD (y - 1970).toNat 1970 + monthsD y (m - 1).toNat 1 else -1
theorem yearD_bd (y : Int) : 365 ≤ yearD y ∧ yearD y ≤ 366 := by unfold yearD; split <;> omega
theorem monthD_bd (y m : Int) : 28 ≤ monthD y m ∧ monthD y m ≤ 31 := by
  unfold monthD
  split
  · split <;> omega
  · split <;> omega
theorem yearsD_bd : ∀ (d : Nat) (y : Int), 365 * (d : Int) ≤ yearsD d y ∧ yearsD d y ≤ 366 * (d : Int)
  | 0, _ => by simp [yearsD]
  | d + 1, y => by
    have := yearsD_bd d (y + 1)
    have := yearD_bd y
    rw [yearsD]; omega
theorem monthsD_bd (y : Int) : ∀ (d : Nat) (m : Int), 28 * (d : Int) ≤ monthsD y d m ∧ monthsD y d m ≤ 31 * (d : Int)
  | 0, _ => by simp [monthsD]
  | d + 1, m => by
    have := monthsD_bd y d (m + 1)
    have := monthD_bd y m
    rw [monthsD]; omega

theorem toList_lit (b : ByteArray) (xs : List UInt8) : b.toList = xs ↔ bytesOf b = xs.map fun c => (c.toNat : Int) := by
  rw [Lib.toList_data]
  unfold bytesOf
  constructor
  · intro h; rw [h]
  · intro h
    exact List.map_inj_right (f := fun b : UInt8 => (b.toNat : Int)) (fun x y hxy => UInt8.toNat_inj.1 (by exact_mod_cast hxy)) |>.1 h
def digC (c : Int) : Bool := decide (48 ≤ c) && decide (c ≤ 57)
def valL : Int → List Int → Int
  | n, [] => n
  | n, c :: r => valL (n * 10 + (c - 48)) r
def satV : Int → List Int → Int
  | n, [] => n
  | n, c :: r => satV (mn (n * 10 + (c - 48)) 2147483648) r
def secP (l : List Int) : Int × Bool := if l.all digC = true then (satV 0 l, decide (0 < l.length)) else (0, false)
theorem digC_iff {c : Int} : digC c = true ↔ 48 ≤ c ∧ c ≤ 57 := by unfold digC; rw [Bool.and_eq_true, decide_eq_true_eq, decide_eq_true_eq]
theorem mn_le {a b : Int} (h : a ≤ b) : mn a b = a := by unfold mn; split <;> omega
theorem mn_ge {a b : Int} (h : b ≤ a) : mn a b = b := by unfold mn; split <;> omega
theorem valL_pow : ∀ (l : List Int) (n : Int), 0 ≤ n → l.all digC = true → n * 10 ^ l.length ≤ valL n l
  | [], n, _, _ => by simp [valL]
  | c :: r, n, h0, h => by
    rw [List.all_cons, Bool.and_eq_true, digC_iff] at h
    have ih := valL_pow r (n * 10 + (c - 48)) (by omega) h.2
    rw [valL, List.length_cons, Int.pow_succ]
    refine Int.le_trans ?_ ih
    have hp : (0 : Int) ≤ 10 ^ r.length := Int.le_of_lt (Int.pow_pos (by decide))
    have h2 : 0 ≤ (c - 48) * 10 ^ r.length := Int.mul_nonneg (by omega) hp
    have e : (n * 10 + (c - 48)) * 10 ^ r.length = n * (10 ^ r.length * 10) + (c - 48) * 10 ^ r.length := by
      rw [Int.add_mul, Int.mul_assoc, Int.mul_comm 10]
    rw [e]
    omega
theorem valL_self (l : List Int) (n : Int) (h0 : 0 ≤ n) (h : l.all digC = true) : n ≤ valL n l := by
  have h1 := valL_pow l n h0 h
  have hp : (1 : Int) ≤ 10 ^ l.length := by have : (0 : Int) < 10 ^ l.length := Int.pow_pos (by decide); omega
  have h2 : n * 1 ≤ n * 10 ^ l.length := Int.mul_le_mul_of_nonneg_left hp h0
  omega
theorem satV_eq : ∀ (l : List Int) (n : Int), 0 ≤ n → n ≤ 2147483648 → l.all digC = true → satV n l = mn (valL n l) 2147483648
  | [], n, _, h1, _ => by rw [satV, valL, mn_le h1]
  | c :: r, n, h0, h1, h => by
    have hh := h
    rw [List.all_cons, Bool.and_eq_true, digC_iff] at hh
    rw [satV, valL]
    by_cases ha : n * 10 + (c - 48) ≤ 2147483648
    · rw [mn_le ha]
      exact satV_eq r _ (by omega) ha hh.2
    · rw [mn_ge (by omega), satV_eq r 2147483648 (by decide) (by decide) hh.2]
      have a1 := valL_self r 2147483648 (by decide) hh.2
      have a2 := valL_self r (n * 10 + (c - 48)) (by omega) hh.2
      rw [mn_ge a1, mn_ge (by omega)]
theorem valL_cut : ∀ l : List Int, valL 0 (cutC 48 l) = valL 0 l
  | [] => rfl
  | c :: r => by
    by_cases h : c = 48
    · subst h
      have e : cutC 48 (48 :: r) = cutC 48 r := List.dropWhile_cons_of_pos (by decide)
      rw [e, valL_cut r]
      rfl
    · have e : cutC 48 (c :: r) = c :: r := List.dropWhile_cons_of_neg (by simpa using h)
      rw [e]
theorem cutC_head : ∀ l : List Int, cutC 48 l = [] ∨ ∃ c r, cutC 48 l = c :: r ∧ c ≠ 48
  | [] => .inl rfl
  | c :: r => by
    by_cases h : c = 48
    · subst h
      have e : cutC 48 (48 :: r) = cutC 48 r := List.dropWhile_cons_of_pos (by decide)
      rw [e]
      exact cutC_head r
    · have e : cutC 48 (c :: r) = c :: r := List.dropWhile_cons_of_neg (by simpa using h)
      exact .inr ⟨c, r, e, h⟩
theorem cutC_all {l : List Int} (h : l.all digC = true) : (cutC 48 l).all digC = true := by
  rw [List.all_eq_true] at h ⊢
  exact fun x hx => h x (List.dropWhile_sublist _ |>.mem hx)
theorem cutC_big {l : List Int} (h : l.all digC = true) (hl : 10 < (cutC 48 l).length) : 2147483648 ≤ valL 0 (cutC 48 l) := by
  have ha := cutC_all h
  rcases cutC_head l with e | ⟨c, r, e, hc⟩
  · rw [e] at hl; simp at hl
  · rw [e] at hl ha ⊢
    rw [List.all_cons, Bool.and_eq_true, digC_iff] at ha
    rw [valL]
    have h1 := valL_pow r (0 * 10 + (c - 48)) (by omega) ha.2
    have hp : (10 : Int) ^ 10 ≤ 10 ^ r.length := pow_le 10 (by decide) (by simp at hl; omega)
    have h2 : 1 * (10 : Int) ^ r.length ≤ (0 * 10 + (c - 48)) * 10 ^ r.length := Int.mul_le_mul_of_nonneg_right (by omega) (by omega)
    have h3 : (10 : Int) ^ 10 = 10000000000 := by decide
    omega
theorem decFrom_val : ∀ (l : List UInt8) (n : Nat), (l.map fun b : UInt8 => (b.toNat : Int)).all digC = true → ∃ m : Nat, Lib.decFrom n l = some m ∧ (m : Int) = valL n (l.map fun b : UInt8 => (b.toNat : Int))
  | [], n, _ => ⟨n, rfl, rfl⟩
  | b :: r, n, h => by
    rw [List.map_cons, List.all_cons, Bool.and_eq_true, digC_iff] at h
    obtain ⟨m, h1, h2⟩ := decFrom_val r (n * 10 + (b.toNat - 48)) h.2
    refine ⟨m, ?_, ?_⟩
    · rw [Lib.decFrom, Lib.digitVal, if_pos (by omega)]
      exact h1
    · rw [h2, List.map_cons, valL]
      congr 1
      omega
end Go.Proofs.YtjldfmkpdkhnnaaGreatDoor.Dom

namespace Go.Proofs.YtjldfmkpdkhnnaaGreatDoor.Dom
set_option linter.unusedVariables false
set_option linter.unusedSimpArgs false
open Go.RowKit Go.Proofs.YtjldfmkpdkhnnaaGreatDoorW.PrintWords Go.Proofs.YtjldfmkpdkhnnaaGreatDoorW.PrintLast Go.Proofs.YtjldfmkpdkhnnaaGreatDoorW.PrintMore Go.Proofs.YtjldfmkpdkhnnaaGreatDoor.Aux

def joinG (nm : ByteArray) (l : List (ByteArray × ByteArray)) : ByteArray := joinB ⟨#[44, 32]⟩ (getL nm l)
theorem joinG_size (nm : ByteArray) (l : List (ByteArray × ByteArray)) {n : Int} (h0 : 0 ≤ n) (h : ¬ szF n l < 0) : ((joinG nm l).size : Int) ≤ 3 * n := by
  have h1 := szF_sum nm h0 h
  have h2 := joinB_size ⟨#[44, 32]⟩ (getL nm l)
  unfold joinG
  have e : ((getL nm l).map fun v => v.size + (⟨#[44, 32]⟩ : ByteArray).size) = (getL nm l).map fun v => v.size + 2 := rfl
  rw [e] at h2
  omega
def ydL : Nat → Int → Int → Int × Int
  | 0, y, d => (y, d)
  | f + 1, y, d => if yearD y ≤ d then ydL f (y + 1) (d - yearD y) else (y, d)
def mdL (y : Int) : Nat → Int → Int → Int × Int
  | 0, m, d => (m, d)
  | f + 1, m, d => if monthD y m ≤ d then mdL y f (m + 1) (d - monthD y m) else (m, d)
theorem ydL_spec : ∀ (f : Nat) (y d : Int), 0 ≤ d → d < 365 * f → ∃ j : Nat, ydL f y d = (y + j, d - yearsD j y) ∧ 0 ≤ d - yearsD j y ∧ d - yearsD j y < yearD (y + j) ∧ j < f
  | 0, y, d, h0, h => by omega
  | f + 1, y, d, h0, h => by
    have hb := yearD_bd y
    rw [ydL]
    by_cases hd : yearD y ≤ d
    · rw [if_pos hd]
      obtain ⟨j, e, a1, a2, a3⟩ := ydL_spec f (y + 1) (d - yearD y) (by omega) (by omega)
      refine ⟨j + 1, ?_, ?_, ?_, by omega⟩
      · rw [e, yearsD]
        refine Prod.ext ?_ ?_
        · simp; omega
        · simp; omega
      · rw [yearsD]; omega
      · rw [yearsD, show y + ((j + 1 : Nat) : Int) = y + 1 + j by omega]; omega
    · rw [if_neg hd]
      exact ⟨0, by simp [yearsD], by simp [yearsD]; omega, by simp [yearsD]; omega, by omega⟩
def yearW (y : Int) : Int := monthsD y 12 1
theorem yearW_eq (y : Int) : yearW y = yearD y := by
  unfold yearW yearD
  simp only [monthsD, monthD]
  cases leapB y <;> simp
theorem monthsD_succ (y : Int) : ∀ (d : Nat) (m : Int), monthsD y (d + 1) m = monthsD y d m + monthD y (m + d)
  | 0, m => by simp [monthsD]
  | d + 1, m => by
    rw [monthsD, monthsD_succ y d (m + 1), monthsD, show m + 1 + (d : Int) = m + ((d + 1 : Nat) : Int) by omega]
    omega
theorem yearsD_succ : ∀ (d : Nat) (y : Int), yearsD (d + 1) y = yearsD d y + yearD (y + d)
  | 0, y => by simp [yearsD]
  | d + 1, y => by
    rw [yearsD, yearsD_succ d (y + 1), yearsD, show y + 1 + (d : Int) = y + ((d + 1 : Nat) : Int) by omega]
    omega
theorem mdL_spec (y : Int) : ∀ (f : Nat) (m d : Int), 0 ≤ d → d < monthsD y f m → ∃ j : Nat, mdL y f m d = (m + j, d - monthsD y j m) ∧ 0 ≤ d - monthsD y j m ∧ d - monthsD y j m < monthD y (m + j) ∧ j < f
  | 0, m, d, h0, h => by simp [monthsD] at h; omega
  | f + 1, m, d, h0, h => by
    rw [monthsD] at h
    rw [mdL]
    by_cases hd : monthD y m ≤ d
    · rw [if_pos hd]
      obtain ⟨j, e, a1, a2, a3⟩ := mdL_spec y f (m + 1) (d - monthD y m) (by omega) (by omega)
      refine ⟨j + 1, ?_, ?_, ?_, by omega⟩
      · rw [e, monthsD]
        refine Prod.ext ?_ ?_
        · simp; omega
        · simp; omega
      · rw [monthsD]; omega
      · rw [monthsD, show m + ((j + 1 : Nat) : Int) = m + 1 + j by omega]; omega
    · rw [if_neg hd]
      exact ⟨0, by simp [monthsD], by simp [monthsD]; omega, by simp [monthsD]; omega, by omega⟩
def twoL (n : Int) : List Int := [48 + n / 10 % 10, 48 + n % 10]
def weekL (d : Int) : List Int := if d = 0 then [84, 104, 117] else if d = 1 then [70, 114, 105] else if d = 2 then [83, 97, 116] else if d = 3 then [83, 117, 110] else if d = 4 then [77, 111, 110] else if d = 5 then [84, 117, 101] else [87, 101, 100]
def monL (m : Int) : List Int := if m = 1 then [74, 97, 110] else if m = 2 then [70, 101, 98] else if m = 3 then [77, 97, 114] else if m = 4 then [65, 112, 114] else if m = 5 then [77, 97, 121] else if m = 6 then [74, 117, 110] else if m = 7 then [74, 117, 108] else if m = 8 then [65, 117, 103] else if m = 9 then [83, 101, 112] else if m = 10 then [79, 99, 116] else if m = 11 then [78, 111, 118] else [68, 101, 99]
def ymd (days : Int) : Int × Int × Int := ((ydL 70 1970 days).1, (mdL (ydL 70 1970 days).1 12 1 (ydL 70 1970 days).2).1, (mdL (ydL 70 1970 days).1 12 1 (ydL 70 1970 days).2).2 + 1)
theorem ymd_spec {days : Int} (h0 : 0 ≤ days) (h1 : days ≤ 23148) : 1970 ≤ (ymd days).1 ∧ (ymd days).1 ≤ 2033 ∧ 1 ≤ (ymd days).2.1 ∧ (ymd days).2.1 ≤ 12 ∧ 1 ≤ (ymd days).2.2 ∧ (ymd days).2.2 ≤ monthD (ymd days).1 (ymd days).2.1 ∧
    days = (ymd days).2.2 - 1 + yearsD ((ymd days).1 - 1970).toNat 1970 + monthsD (ymd days).1 ((ymd days).2.1 - 1).toNat 1 := by
  obtain ⟨j, e, a1, a2, a3⟩ := ydL_spec 70 1970 days h0 (by omega)
  have hy := yearW_eq (1970 + j)
  unfold yearW at hy
  obtain ⟨i, e2, b1, b2, b3⟩ := mdL_spec (1970 + j) 12 1 (days - yearsD j 1970) a1 (by omega)
  have hj := yearsD_bd j 1970
  have ej : (1970 + (j : Int) - 1970).toNat = j := by omega
  have ei : (1 + (i : Int) - 1).toNat = i := by omega
  simp only [ymd, e, e2, ej, ei]
  omega
theorem daysP_ymd {days : Int} (h0 : 0 ≤ days) (h1 : days ≤ 23148) : daysP (ymd days).1 (ymd days).2.1 (ymd days).2.2 = days := by
  obtain ⟨a1, a2, a3, a4, a5, a6, a7⟩ := ymd_spec h0 h1
  unfold daysP
  rw [if_pos ⟨⟨a1, by omega⟩, ⟨a3, a4⟩, a5, a6⟩]
  exact a7.symm
def dateL (sec : Int) : List Int :=
  weekL (sec / 86400 % 7) ++ [44, 32] ++ twoL (ymd (sec / 86400)).2.2 ++ [32] ++ monL (ymd (sec / 86400)).2.1 ++ [32] ++ decP (ymd (sec / 86400)).1 ++ [32] ++ twoL (sec / 3600 % 24) ++ [58] ++ twoL (sec / 60 % 60) ++ [58] ++ twoL (sec % 60) ++ [32, 71, 77, 84]
def dateB (sec : Int) : ByteArray := if 0 ≤ sec ∧ sec ≤ 2000000000 then strOfNums (dateL sec) else ⟨#[]⟩
theorem decP_100 {n : Int} (h0 : 0 ≤ n) (h1 : n ≤ 99) : decP (100 + n) = 49 :: twoL n := by
  unfold decP twoL
  rw [if_neg (by omega), if_neg (by omega)]
  have e3 : (100 + n) / 10 / 10 / 10 = 0 := by omega
  have e2 : (100 + n) / 10 / 10 % 10 = 1 := by omega
  have e1 : (100 + n) / 10 % 10 = n / 10 % 10 := by omega
  have e0 : (100 + n) % 10 = n % 10 := by omega
  rw [show (20 : Nat) = 16 + 1 + 1 + 1 + 1 from rfl, decL, if_pos (by omega), decL, if_pos (by omega), decL, if_pos (by omega), decL, if_neg (by omega), e2, e1, e0]
  rfl
theorem decP_year {y : Int} (h0 : 1000 ≤ y) (h1 : y ≤ 9999) : decP y = [48 + y / 1000, 48 + y / 100 % 10, 48 + y / 10 % 10, 48 + y % 10] := by
  unfold decP
  rw [if_neg (by omega), if_neg (by omega)]
  have e3 : y / 10 / 10 / 10 % 10 = y / 1000 := by omega
  have e2 : y / 10 / 10 % 10 = y / 100 % 10 := by omega
  rw [show (20 : Nat) = 15 + 1 + 1 + 1 + 1 + 1 from rfl, decL, if_pos (by omega), decL, if_pos (by omega), decL, if_pos (by omega), decL, if_pos (by omega), decL, if_neg (by omega), e3, e2]
theorem weekL_length (d : Int) : (weekL d).length = 3 := by unfold weekL; (repeat' split) <;> rfl
theorem monL_length (m : Int) : (monL m).length = 3 := by unfold monL; (repeat' split) <;> rfl
theorem months_rd {m : Int} (h1 : 1 ≤ m) (h2 : m ≤ 12) : rdOf ByteArray.empty ([(⟨#[74, 97, 110]⟩ : ByteArray), (⟨#[70, 101, 98]⟩ : ByteArray), (⟨#[77, 97, 114]⟩ : ByteArray), (⟨#[65, 112, 114]⟩ : ByteArray), (⟨#[77, 97, 121]⟩ : ByteArray), (⟨#[74, 117, 110]⟩ : ByteArray), (⟨#[74, 117, 108]⟩ : ByteArray), (⟨#[65, 117, 103]⟩ : ByteArray), (⟨#[83, 101, 112]⟩ : ByteArray), (⟨#[79, 99, 116]⟩ : ByteArray), (⟨#[78, 111, 118]⟩ : ByteArray), (⟨#[68, 101, 99]⟩ : ByteArray)] : List ByteArray) (m - 1) = strOfNums (monL m) := by
  have hm : m = 1 ∨ m = 2 ∨ m = 3 ∨ m = 4 ∨ m = 5 ∨ m = 6 ∨ m = 7 ∨ m = 8 ∨ m = 9 ∨ m = 10 ∨ m = 11 ∨ m = 12 := by omega
  rcases hm with rfl | rfl | rfl | rfl | rfl | rfl | rfl | rfl | rfl | rfl | rfl | rfl <;> rfl
theorem week_rd {d : Int} (h1 : 0 ≤ d) (h2 : d < 7) : rdOf ByteArray.empty ([(⟨#[84, 104, 117]⟩ : ByteArray), (⟨#[70, 114, 105]⟩ : ByteArray), (⟨#[83, 97, 116]⟩ : ByteArray), (⟨#[83, 117, 110]⟩ : ByteArray), (⟨#[77, 111, 110]⟩ : ByteArray), (⟨#[84, 117, 101]⟩ : ByteArray), (⟨#[87, 101, 100]⟩ : ByteArray)] : List ByteArray) d = strOfNums (weekL d) := by
  have hm : d = 0 ∨ d = 1 ∨ d = 2 ∨ d = 3 ∨ d = 4 ∨ d = 5 ∨ d = 6 := by omega
  rcases hm with rfl | rfl | rfl | rfl | rfl | rfl | rfl <;> rfl
theorem ydL_more : ∀ (f j : Nat) (y d : Int), 0 ≤ d → d < 365 * f → ydL (f + j) y d = ydL f y d
  | 0, j, y, d, h0, h => by omega
  | f + 1, j, y, d, h0, h => by
    have hb := yearD_bd y
    rw [show f + 1 + j = (f + j) + 1 by omega, ydL, ydL]
    split
    · exact ydL_more f j (y + 1) _ (by omega) (by omega)
    · rfl

end Go.Proofs.YtjldfmkpdkhnnaaGreatDoor.Dom

namespace Go.Proofs.YtjldfmkpdkhnnaaGreatDoor.Dom
set_option linter.unusedVariables false
set_option linter.unusedSimpArgs false
open Go.RowKit Go.Proofs.YtjldfmkpdkhnnaaGreatDoorW.PrintWords Go.Proofs.YtjldfmkpdkhnnaaGreatDoorW.PrintLast Go.Proofs.YtjldfmkpdkhnnaaGreatDoorW.PrintMore Go.Proofs.YtjldfmkpdkhnnaaGreatDoor.Aux

def numP (l : List Int) : Int := if l.all digC = true then valL 0 l else -1
theorem valL_bd : ∀ (l : List Int) (n : Int) (j : Nat), l.all digC = true → 0 ≤ n → n < 10 ^ j → 0 ≤ valL n l ∧ valL n l < 10 ^ (j + l.length)
  | [], n, j, _, h0, h1 => ⟨h0, by simpa [valL] using h1⟩
  | c :: r, n, j, h, h0, h1 => by
    rw [List.all_cons, Bool.and_eq_true, digC_iff] at h
    have := valL_bd r (n * 10 + (c - 48)) (j + 1) h.2 (by omega) (by rw [Int.pow_succ]; omega)
    rw [valL, List.length_cons, show j + (r.length + 1) = j + 1 + r.length by omega]
    exact this
theorem numP_bd (l : List Int) (k : Nat) (hk : l.length ≤ k) : -1 ≤ numP l ∧ numP l < 10 ^ k := by
  have hp : (0 : Int) < 10 ^ k := Int.pow_pos (by decide)
  unfold numP
  split
  · rename_i h
    have h1 := valL_bd l 0 0 h (by omega) (by decide)
    have h2 : (10 : Int) ^ (0 + l.length) ≤ 10 ^ k := pow_le 10 (by decide) (by omega)
    omega
  · omega
theorem numP_two {n : Int} (h0 : 0 ≤ n) (h1 : n ≤ 99) : numP (twoL n) = n := by
  unfold numP twoL
  rw [if_pos (by simp only [List.all_cons, List.all_nil, Bool.and_true, Bool.and_eq_true, digC_iff]; omega)]
  simp only [valL]
  omega
theorem numP_year {y : Int} (h0 : 1000 ≤ y) (h1 : y ≤ 9999) : numP (decP y) = y := by
  rw [decP_year h0 h1]
  unfold numP
  rw [if_pos (by simp only [List.all_cons, List.all_nil, Bool.and_true, Bool.and_eq_true, digC_iff]; omega)]
  simp only [valL]
  omega
def monF (w : List Int) : Nat → Int → Int → Int
  | 0, _, acc => acc
  | d + 1, m, acc => monF w d (m + 1) (if w = monL m then m else acc)
def monI (w : List Int) : Int := monF w 12 1 0
theorem monI_monL {m : Int} (h1 : 1 ≤ m) (h2 : m ≤ 12) : monI (monL m) = m := by
  have hm : m = 1 ∨ m = 2 ∨ m = 3 ∨ m = 4 ∨ m = 5 ∨ m = 6 ∨ m = 7 ∨ m = 8 ∨ m = 9 ∨ m = 10 ∨ m = 11 ∨ m = 12 := by omega
  rcases hm with rfl | rfl | rfl | rfl | rfl | rfl | rfl | rfl | rfl | rfl | rfl | rfl <;> decide
def sub (l : List Int) (a n : Nat) : List Int := (l.drop a).take n
def daysI (l : List Int) : Int := daysP (numP (sub l 12 4)) (monI (sub l 8 3)) (numP (sub l 5 2))
def readL (l : List Int) : Int := daysI l * 86400 + numP (sub l 17 2) * 3600 + numP (sub l 20 2) * 60 + numP (sub l 23 2)
def readDateP (s : ByteArray) : Int × Bool := if s.size = 29 ∧ dateB (readL (bytesOf s)) = s then (readL (bytesOf s), true) else (0, false)
def dateOfP (l : List (ByteArray × ByteArray)) (nm : ByteArray) : Int × Bool := if (!(getL nm l).isEmpty) = true then readDateP (joinG nm l) else (0, false)
theorem three {l : List Int} (h : l.length = 3) : ∃ a b c, l = [a, b, c] := by
  match l, h with
  | [a, b, c], _ => exact ⟨a, b, c, rfl⟩
theorem dateL_pieces {sec : Int} (h0 : 0 ≤ sec) (h1 : sec ≤ 2000000000) :
    sub (dateL sec) 12 4 = decP (ymd (sec / 86400)).1 ∧ sub (dateL sec) 8 3 = monL (ymd (sec / 86400)).2.1 ∧ sub (dateL sec) 5 2 = twoL (ymd (sec / 86400)).2.2 ∧
    sub (dateL sec) 17 2 = twoL (sec / 3600 % 24) ∧ sub (dateL sec) 20 2 = twoL (sec / 60 % 60) ∧ sub (dateL sec) 23 2 = twoL (sec % 60) := by
  obtain ⟨a1, a2, _⟩ := ymd_spec (days := sec / 86400) (by omega) (by omega)
  obtain ⟨w1, w2, w3, ew⟩ := three (weekL_length (sec / 86400 % 7))
  obtain ⟨m1, m2, m3, em⟩ := three (monL_length (ymd (sec / 86400)).2.1)
  unfold dateL sub
  rw [decP_year (by omega) (by omega), ew, em]
  exact ⟨rfl, rfl, rfl, rfl, rfl, rfl⟩
theorem date_facts {sec : Int} (h0 : 0 ≤ sec) (h1 : sec ≤ 2000000000) : daysI (dateL sec) = sec / 86400 ∧ numP (sub (dateL sec) 17 2) = sec / 3600 % 24 ∧ numP (sub (dateL sec) 20 2) = sec / 60 % 60 ∧ numP (sub (dateL sec) 23 2) = sec % 60 := by
  obtain ⟨e1, e2, e3, e4, e5, e6⟩ := dateL_pieces h0 h1
  obtain ⟨a1, a2, a3, a4, a5, a6, _⟩ := ymd_spec (days := sec / 86400) (by omega) (by omega)
  have hb := monthD_bd (ymd (sec / 86400)).1 (ymd (sec / 86400)).2.1
  unfold daysI
  rw [e1, e2, e3, e4, e5, e6, numP_year (by omega) (by omega), monI_monL a3 a4, numP_two (n := (ymd (sec / 86400)).2.2) (by omega) (by omega), daysP_ymd (by omega) (by omega)]
  exact ⟨rfl, numP_two (by omega) (by omega), numP_two (by omega) (by omega), numP_two (by omega) (by omega)⟩
theorem readL_dateL {sec : Int} (h0 : 0 ≤ sec) (h1 : sec ≤ 2000000000) : readL (dateL sec) = sec := by
  obtain ⟨e1, e2, e3, e4⟩ := date_facts h0 h1
  unfold readL
  rw [e1, e2, e3, e4]
  omega
theorem weekL_ge (d : Int) : ∀ c ∈ weekL d, 65 ≤ c ∧ c < 256 := by
  intro c hc
  unfold weekL at hc
  (repeat' split at hc) <;> simp at hc <;> omega
theorem monL_ge (d : Int) : ∀ c ∈ monL d, 65 ≤ c ∧ c < 256 := by
  intro c hc
  unfold monL at hc
  (repeat' split at hc) <;> simp at hc <;> omega
theorem dateL_range {sec : Int} (h0 : 0 ≤ sec) (h1 : sec ≤ 2000000000) : ∀ c ∈ dateL sec, 0 ≤ c ∧ c < 256 := by
  obtain ⟨a1, a2, _⟩ := ymd_spec (days := sec / 86400) (by omega) (by omega)
  have hw : ∀ d : Int, ∀ c ∈ weekL d, 0 ≤ c ∧ c < 256 := fun d c hc => by have := weekL_ge d c hc; omega
  have hm : ∀ d : Int, ∀ c ∈ monL d, 0 ≤ c ∧ c < 256 := fun d c hc => by have := monL_ge d c hc; omega
  have ht : ∀ n : Int, ∀ c ∈ twoL n, 0 ≤ c ∧ c < 256 := by
    intro n c hc
    simp [twoL] at hc
    omega
  intro c hc
  unfold dateL at hc
  rw [decP_year (by omega) (by omega)] at hc
  simp only [List.mem_append] at hc
  rcases hc with ((((((((((((hc | hc) | hc) | hc) | hc) | hc) | hc) | hc) | hc) | hc) | hc) | hc) | hc) | hc
  · exact hw _ c hc
  · simp at hc; omega
  · exact ht _ c hc
  · simp at hc; omega
  · exact hm _ c hc
  · simp at hc; omega
  · simp at hc; omega
  · simp at hc; omega
  · exact ht _ c hc
  · simp at hc; omega
  · exact ht _ c hc
  · simp at hc; omega
  · exact ht _ c hc
  · simp at hc; omega
theorem dateB_some {s : ByteArray} {sec : Int} (hs : s.size = 29) (h : dateB sec = s) : 0 ≤ sec ∧ sec ≤ 2000000000 ∧ bytesOf s = dateL sec ∧ readL (bytesOf s) = sec := by
  unfold dateB at h
  split at h
  · rename_i hr
    have e : bytesOf s = dateL sec := by rw [← h]; exact bytesOf_strOfNums (dateL_range hr.1 hr.2)
    exact ⟨hr.1, hr.2, e, by rw [e]; exact readL_dateL hr.1 hr.2⟩
  · subst h
    cases hs
theorem readDateP_some {s : ByteArray} {sec : Int} (hs : s.size = 29) (h : dateB sec = s) : readDateP s = (sec, true) := by
  obtain ⟨_, _, _, e⟩ := dateB_some hs h
  unfold readDateP
  rw [e, if_pos ⟨hs, h⟩]
theorem readDateP_none {s : ByteArray} (h : ∀ sec, s.size = 29 → dateB sec = s → False) : readDateP s = (0, false) := by
  unfold readDateP
  exact if_neg fun hh => h _ hh.1 hh.2
theorem daysP_bd (y m d : Int) : -1 ≤ daysP y m d ∧ daysP y m d ≤ 30000 := by
  unfold daysP
  split
  · rename_i h
    have h1 := yearsD_bd (y - 1970).toNat 1970
    have h2 := monthsD_bd y (m - 1).toNat 1
    have h3 := monthD_bd y m
    omega
  · omega
theorem splC_date {sec : Int} (h0 : 0 ≤ sec) (h1 : sec ≤ 2000000000) : splC 32 (dateL sec) = [weekL (sec / 86400 % 7) ++ [44], twoL (ymd (sec / 86400)).2.2, monL (ymd (sec / 86400)).2.1, decP (ymd (sec / 86400)).1, twoL (sec / 3600 % 24) ++ [58] ++ twoL (sec / 60 % 60) ++ [58] ++ twoL (sec % 60), [71, 77, 84]] := by
  obtain ⟨a1, a2, a3, a4, a5, a6, _⟩ := ymd_spec (days := sec / 86400) (by omega) (by omega)
  have hb := monthD_bd (ymd (sec / 86400)).1 (ymd (sec / 86400)).2.1
  have hw : ∀ d : Int, (32 : Int) ∉ weekL d := fun d hc => by have := weekL_ge d 32 hc; omega
  have hm : ∀ d : Int, (32 : Int) ∉ monL d := fun d hc => by have := monL_ge d 32 hc; omega
  have ht : ∀ n : Int, (32 : Int) ∉ twoL n := by
    intro n hc
    simp [twoL] at hc
    omega
  have hy : (32 : Int) ∉ decP (ymd (sec / 86400)).1 := by
    rw [decP_year (by omega) (by omega)]
    intro hc
    simp at hc
    omega
  unfold dateL
  generalize decP (ymd (sec / 86400)).1 = Y at hy
  have hmm := hm (ymd (sec / 86400)).2.1
  generalize monL (ymd (sec / 86400)).2.1 = M at hmm
  have hww := hw (sec / 86400 % 7)
  generalize weekL (sec / 86400 % 7) = W at hww
  have hdd := ht (ymd (sec / 86400)).2.2
  generalize twoL (ymd (sec / 86400)).2.2 = D at hdd
  have hh := ht (sec / 3600 % 24)
  generalize twoL (sec / 3600 % 24) = H at hh
  have hi := ht (sec / 60 % 60)
  generalize twoL (sec / 60 % 60) = I at hi
  have hx := ht (sec % 60)
  generalize twoL (sec % 60) = X at hx
  have e : W ++ [44, 32] ++ D ++ [32] ++ M ++ [32] ++ Y ++ [32] ++ H ++ [58] ++ I ++ [58] ++ X ++ [32, 71, 77, 84] = (W ++ [44]) ++ 32 :: (D ++ 32 :: (M ++ 32 :: (Y ++ 32 :: ((H ++ [58] ++ I ++ [58] ++ X) ++ 32 :: [71, 77, 84])))) := by simp
  rw [e, splC_hit _ (by simp [hww]), splC_hit _ hdd, splC_hit _ hmm, splC_hit _ hy, splC_hit _ (by simp [hh, hi, hx]), splC_miss (by simp)]
def idxT (w : ByteArray) : List ByteArray → Int
  | [] => -1
  | x :: r => if w = x then 0 else if idxT w r = -1 then -1 else idxT w r + 1
theorem idxT_bd (w : ByteArray) : ∀ l, -1 ≤ idxT w l ∧ idxT w l < l.length
  | [] => by simp [idxT]
  | x :: r => by
    have := idxT_bd w r
    rw [idxT, List.length_cons]
    split
    · omega
    · split <;> omega
def monthsB : List ByteArray := [(⟨#[74, 97, 110]⟩ : ByteArray), (⟨#[70, 101, 98]⟩ : ByteArray), (⟨#[77, 97, 114]⟩ : ByteArray), (⟨#[65, 112, 114]⟩ : ByteArray), (⟨#[77, 97, 121]⟩ : ByteArray), (⟨#[74, 117, 110]⟩ : ByteArray), (⟨#[74, 117, 108]⟩ : ByteArray), (⟨#[65, 117, 103]⟩ : ByteArray), (⟨#[83, 101, 112]⟩ : ByteArray), (⟨#[79, 99, 116]⟩ : ByteArray), (⟨#[78, 111, 118]⟩ : ByteArray), (⟨#[68, 101, 99]⟩ : ByteArray)]
theorem idxT_month {m : Int} (h1 : 1 ≤ m) (h2 : m ≤ 12) : idxT (strOfNums (monL m)) monthsB = m - 1 := by
  have hm : m = 1 ∨ m = 2 ∨ m = 3 ∨ m = 4 ∨ m = 5 ∨ m = 6 ∨ m = 7 ∨ m = 8 ∨ m = 9 ∨ m = 10 ∨ m = 11 ∨ m = 12 := by omega
  rcases hm with rfl | rfl | rfl | rfl | rfl | rfl | rfl | rfl | rfl | rfl | rfl | rfl <;> decide
end Go.Proofs.YtjldfmkpdkhnnaaGreatDoor.Dom

namespace Go.Proofs.YtjldfmkpdkhnnaaGreatDoor.Dom
set_option linter.unusedVariables false
set_option linter.unusedSimpArgs false
open Go.RowKit Go.Proofs.YtjldfmkpdkhnnaaGreatDoorW.PrintWords Go.Proofs.YtjldfmkpdkhnnaaGreatDoorW.PrintLast Go.Proofs.YtjldfmkpdkhnnaaGreatDoorW.PrintMore Go.Proofs.YtjldfmkpdkhnnaaGreatDoor.Aux

def withinP (a : Int) : Int := mx 0 (mn a 2147483648)
def satP (a b : Int) : Int := mn (withinP a + withinP b) 2147483648
def laterP (a b : Int) : Int := if b < 0 then 0 else if a ≤ b then 0 else a - b
theorem withinP_bd (a : Int) : 0 ≤ withinP a ∧ withinP a ≤ 2147483648 := by unfold withinP mx mn; split <;> split <;> omega
theorem readDateP_bd (s : ByteArray) : 0 ≤ (readDateP s).1 ∧ (readDateP s).1 ≤ 2000000000 := by
  unfold readDateP
  split
  · rename_i h
    obtain ⟨a, b, _, _⟩ := dateB_some h.1 h.2
    exact ⟨a, b⟩
  · simp
theorem dateOfP_bd (l : List (ByteArray × ByteArray)) (nm : ByteArray) : 0 ≤ (dateOfP l nm).1 ∧ (dateOfP l nm).1 ≤ 2000000000 := by
  unfold dateOfP
  split
  · exact readDateP_bd _
  · simp
def nmAge : ByteArray := ⟨#[97, 103, 101]⟩
def nmDate : ByteArray := ⟨#[100, 97, 116, 101]⟩
def appP (q : Int × Bool) (came : Int) : Int := if q.2 = true then withinP (laterP came q.1) else 0
def firstAgeP (l : List (ByteArray × ByteArray)) (asked came : Int) : Int := mx (appP (dateOfP l nmDate) came) (satP (secP (bytesOf (joinG nmAge l))).1 (laterP came asked))
end Go.Proofs.YtjldfmkpdkhnnaaGreatDoor.Dom

namespace Go.Proofs.YtjldfmkpdkhnnaaGreatDoor.Pure
set_option linter.unusedVariables false
set_option linter.unusedSimpArgs false
open Go.RowKit Go.Proofs.YtjldfmkpdkhnnaaGreatDoor.QL Go.Proofs.YtjldfmkpdkhnnaaGreatDoorW.PrintWords Go.Proofs.YtjldfmkpdkhnnaaGreatDoorW.PrintLast Go.Proofs.YtjldfmkpdkhnnaaGreatDoorW.PrintMore Go.Proofs.YtjldfmkpdkhnnaaGreatDoor.Aux Go.Proofs.YtjldfmkpdkhnnaaGreatDoor.Dom Go.Proofs.YtjldfmkpdkhnnaaGreatDoor.Ext
theorem laws_szField_eq (a b : ByteArray) (n : Int) (ha : a.size ≤ maxLen) (hb : b.size ≤ maxLen) (h0 : 0 ≤ n) (h1 : n ≤ 9223372036854775807) :
    laws_szField.f a b n = some (if n - a.size - b.size < 0 then -1 else n - a.size - b.size) := by
  unfold maxLen at ha hb
  unfold laws_szField.f
  by_cases h : n - a.size < 0
  · rw [wrap_id (by omega) (by omega), if_pos h, if_pos (by omega)]
  · rw [wrap_id (x := n - a.size) (by omega) (by omega), if_neg h, wrap_id (by omega) (by omega)]
    by_cases h2 : n - a.size - b.size < 0
    · rw [if_pos h2, if_pos h2]
    · rw [if_neg h2, if_neg h2]

end Go.Proofs.YtjldfmkpdkhnnaaGreatDoor.Pure

namespace Go.Proofs.YtjldfmkpdkhnnaaGreatDoor.Pure
set_option linter.unusedVariables false
set_option linter.unusedSimpArgs false
open Go.RowKit Go.Proofs.YtjldfmkpdkhnnaaGreatDoor.QL Go.Proofs.YtjldfmkpdkhnnaaGreatDoorW.PrintWords Go.Proofs.YtjldfmkpdkhnnaaGreatDoorW.PrintLast Go.Proofs.YtjldfmkpdkhnnaaGreatDoorW.PrintMore Go.Proofs.YtjldfmkpdkhnnaaGreatDoor.Aux Go.Proofs.YtjldfmkpdkhnnaaGreatDoor.Dom Go.Proofs.YtjldfmkpdkhnnaaGreatDoor.Ext
theorem laws_szFieldS_l0 (l : List S107) (hl : l.length ≤ maxLen) (hm : ∀ x ∈ l, x.f0.size ≤ maxLen ∧ x.f1.size ≤ maxLen) : ∀ (d : Nat) (n i : Int), 0 ≤ i → (l.length : Int) - i = d → 0 ≤ n → n ≤ 1048576 →
    Ev (fun k => laws_szFieldS.l0 k l n i) (szL n ((l.drop i.toNat).map fun x => (x.f0, x.f1)))
  | 0, n, i, h0, hd, n0, n1 => by
    refine ev_last fun k => ?_
    simp only [laws_szFieldS.l0]
    rw [if_neg (by omega), drop_nil (by omega)]
    rfl
  | d + 1, n, i, h0, hd, n0, n1 => by
    have hlt : i < (l.length : Int) := by omega
    have hx : (rd_T107 l i) ∈ l := by
      unfold rd_T107
      rw [List.getD_eq_getElem?_getD, List.getElem?_eq_getElem (by omega)]
      exact List.getElem_mem _
    have e := laws_szField_eq (rd_T107 l i).f0 (rd_T107 l i).f1 n (hm _ hx).1 (hm _ hx).2 n0 (by omega)
    have hdrop : l.drop i.toNat = rd_T107 l i :: l.drop (i + 1).toNat := drop_rdOf (d := z107) h0 hlt
    rw [hdrop]
    simp only [List.map_cons, szL]
    by_cases h : n - ((rd_T107 l i).f0.size : Int) - ((rd_T107 l i).f1.size : Int) < 0
    · refine ev_last fun k => ?_
      simp only [laws_szFieldS.l0]
      rw [if_pos hlt, if_pos h0, e, if_pos h, Option.bind_some, if_pos (by omega), if_pos h]
    · refine Ev.step (f := fun k => laws_szFieldS.l0 k l (n - ((rd_T107 l i).f0.size : Int) - ((rd_T107 l i).f1.size : Int)) (i + 1)) (fun k => ?_) (ev_eq (laws_szFieldS_l0 l hl hm d _ (i + 1) (by omega) (by omega) (by omega) (by omega)) ?_)
      · simp only [laws_szFieldS.l0]
        rw [if_pos hlt, if_pos h0, e, if_neg h, Option.bind_some, if_neg h, wrap_id (by omega) (by unfold maxLen at hl; omega)]
      · rw [if_neg h]
theorem laws_szFieldS_ev (l : List S107) (n : Int) (hl : l.length ≤ maxLen) (hm : ∀ x ∈ l, x.f0.size ≤ maxLen ∧ x.f1.size ≤ maxLen) (n0 : 0 ≤ n) (n1 : n ≤ 1048576) :
    Ev (fun k => laws_szFieldS.f k l n) (szF n (l.map fun x => (x.f0, x.f1))) := by
  unfold szF
  rw [List.length_map]
  by_cases h : n - (l.length : Int) < 0
  · rw [if_pos h]
    refine ev_some fun k => ?_
    unfold laws_szFieldS.f
    rw [wrap_id (by unfold maxLen at hl; omega) (by omega), if_pos h]
  · rw [if_neg h]
    refine Ev.congr (fun k => by unfold laws_szFieldS.f; rw [wrap_id (by unfold maxLen at hl; omega) (by omega), if_neg h]) ?_
    have e := laws_szFieldS_l0 l hl hm l.length (n - l.length) 0 (by omega) (by omega) (by omega) (by omega)
    simpa using e

end Go.Proofs.YtjldfmkpdkhnnaaGreatDoor.Pure

namespace Go.Proofs.YtjldfmkpdkhnnaaGreatDoor.Pure
set_option linter.unusedVariables false
set_option linter.unusedSimpArgs false
open Go.RowKit Go.Proofs.YtjldfmkpdkhnnaaGreatDoor.QL Go.Proofs.YtjldfmkpdkhnnaaGreatDoorW.PrintWords Go.Proofs.YtjldfmkpdkhnnaaGreatDoorW.PrintLast Go.Proofs.YtjldfmkpdkhnnaaGreatDoorW.PrintMore Go.Proofs.YtjldfmkpdkhnnaaGreatDoor.Aux Go.Proofs.YtjldfmkpdkhnnaaGreatDoor.Dom Go.Proofs.YtjldfmkpdkhnnaaGreatDoor.Ext
theorem laws_toFieldS_l0 (l : List S107) (hl : l.length ≤ 1048576) : ∀ (d : Nat) (ys : List S99) (i : Int), 0 ≤ i → (l.length : Int) - i = d → (ys.length : Int) = i →
    Ev (fun k => laws_toFieldS.l0 k l (ys ++ List.replicate d z99) i) (ys ++ (l.drop i.toNat).map fun x => (⟨x.f0, x.f1⟩ : S99))
  | 0, ys, i, h0, hd, hy => by
    refine ev_last fun k => ?_
    simp only [laws_toFieldS.l0]
    rw [if_neg (by omega), drop_nil (by omega)]
    simp
  | d + 1, ys, i, h0, hd, hy => by
    have hlt : i < (l.length : Int) := by omega
    have hdrop : l.drop i.toNat = rd_T107 l i :: l.drop (i + 1).toNat := drop_rdOf (d := z107) h0 hlt
    refine Ev.step (f := fun k => laws_toFieldS.l0 k l ((ys ++ [(⟨(rd_T107 l i).f0, (rd_T107 l i).f1⟩ : S99)]) ++ List.replicate d z99) (i + 1)) (fun k => ?_) (ev_eq (laws_toFieldS_l0 l hl d _ (i + 1) (by omega) (by omega) (by simp; omega)) ?_)
    · simp only [laws_toFieldS.l0, laws_toField.f, Option.bind_some]
      have e : (ys ++ List.replicate (d + 1) z99).set i.toNat (⟨(rd_T107 l i).f0, (rd_T107 l i).f1⟩ : S99) = (ys ++ [(⟨(rd_T107 l i).f0, (rd_T107 l i).f1⟩ : S99)]) ++ List.replicate d z99 := by
        rw [List.set_append_right _ _ (by omega), show i.toNat - ys.length = 0 by omega, List.replicate_succ]
        simp
      rw [if_pos hlt, if_pos h0, if_pos (by simp; omega), e, wrap_id (by omega) (by omega)]
    · rw [hdrop]; simp
theorem laws_toFieldS_ev (l : List S107) (hl : l.length ≤ 1048576) : Ev (fun k => laws_toFieldS.f k l) (l.map fun x => (⟨x.f0, x.f1⟩ : S99)) := by
  refine Ev.congr (fun k => by unfold laws_toFieldS.f; rw [if_pos (by omega), if_pos (by omega)]) ?_
  have e := laws_toFieldS_l0 l hl l.length [] 0 (by omega) (by omega) (by simp)
  simpa using e

end Go.Proofs.YtjldfmkpdkhnnaaGreatDoor.Pure

namespace Go.Proofs.YtjldfmkpdkhnnaaGreatDoor.Pure
set_option linter.unusedVariables false
set_option linter.unusedSimpArgs false
open Go.RowKit Go.Proofs.YtjldfmkpdkhnnaaGreatDoor.QL Go.Proofs.YtjldfmkpdkhnnaaGreatDoorW.PrintWords Go.Proofs.YtjldfmkpdkhnnaaGreatDoorW.PrintLast Go.Proofs.YtjldfmkpdkhnnaaGreatDoorW.PrintMore Go.Proofs.YtjldfmkpdkhnnaaGreatDoor.Aux Go.Proofs.YtjldfmkpdkhnnaaGreatDoor.Dom Go.Proofs.YtjldfmkpdkhnnaaGreatDoor.Ext
theorem laws_eqFieldS_l0 (l : List S99) (hl : l.length ≤ 9223372036854775806) : ∀ (d : Nat) (i : Int), 0 ≤ i → (l.length : Int) - i = d → Ev (fun k => laws_eqFieldS.l0 k l l i) true
  | 0, i, h0, hd => by
    refine ev_last fun k => ?_
    simp only [laws_eqFieldS.l0]
    rw [if_neg (by omega)]
  | d + 1, i, h0, hd => by
    have hlt : i < (l.length : Int) := by omega
    refine Ev.step (f := fun k => laws_eqFieldS.l0 k l l (i + 1)) (fun k => ?_) (laws_eqFieldS_l0 l hl d (i + 1) (by omega) (by omega))
    simp only [laws_eqFieldS.l0, laws_eqField.f]
    rw [if_pos hlt, if_pos h0, if_pos hlt]
    simp only [if_true, Option.bind_some]
    rw [wrap_id (by omega) (by omega)]
theorem laws_eqFieldS_ev (l : List S99) (hl : l.length ≤ 9223372036854775806) : Ev (fun k => laws_eqFieldS.f k l l) true := by
  refine Ev.congr (fun k => by unfold laws_eqFieldS.f; rw [if_pos rfl]) ?_
  exact laws_eqFieldS_l0 l hl l.length 0 (by omega) (by omega)

end Go.Proofs.YtjldfmkpdkhnnaaGreatDoor.Pure

namespace Go.Proofs.YtjldfmkpdkhnnaaGreatDoor.Pure
set_option linter.unusedVariables false
set_option linter.unusedSimpArgs false
open Go.RowKit Go.Proofs.YtjldfmkpdkhnnaaGreatDoor.QL Go.Proofs.YtjldfmkpdkhnnaaGreatDoorW.PrintWords Go.Proofs.YtjldfmkpdkhnnaaGreatDoorW.PrintLast Go.Proofs.YtjldfmkpdkhnnaaGreatDoorW.PrintMore Go.Proofs.YtjldfmkpdkhnnaaGreatDoor.Aux Go.Proofs.YtjldfmkpdkhnnaaGreatDoor.Dom Go.Proofs.YtjldfmkpdkhnnaaGreatDoor.Ext
theorem laws_szResponse_ev (a : Int) (l : List S107) (b : ByteArray) (n : Int) (hl : l.length ≤ maxLen) (hm : ∀ x ∈ l, x.f0.size ≤ maxLen ∧ x.f1.size ≤ maxLen) (hb : b.size ≤ maxLen) (n0 : 0 ≤ n) (n1 : n ≤ 1048576) :
    Ev (fun k => laws_szResponse.f k a l b n) (szR n (l.map fun x => (x.f0, x.f1)) b) := by
  have q := szF_le n (l.map fun x => (x.f0, x.f1)) n0
  unfold maxLen at hb
  refine Ev.congr (fun k => by unfold laws_szResponse.f; rfl) (ev_bind (laws_szFieldS_ev l n hl hm n0 n1) ?_)
  unfold szR
  refine ev_ite (fun h => Ev.now _) (fun h => ?_)
  rw [wrap_id (by omega) (by omega)]
  exact ev_ite (fun h => Ev.now _) (fun h => Ev.now _)
theorem laws_toResponse_ev (a : Int) (l : List S107) (b : ByteArray) (hl : l.length ≤ 1048576) : Ev (fun k => laws_toResponse.f k a l b) (a, l.map (fun x => (⟨x.f0, x.f1⟩ : S99)), b) :=
  Ev.congr (fun k => by unfold laws_toResponse.f; rfl) (ev_bind (laws_toFieldS_ev l hl) (Ev.now _))
theorem laws_eqResponse_ev (a : Int) (l : List S99) (b : ByteArray) (hl : l.length ≤ 9223372036854775806) : Ev (fun k => laws_eqResponse.f k a l b a l b) true :=
  Ev.congr (fun k => by unfold laws_eqResponse.f; rw [if_pos rfl]) (ev_bind (laws_eqFieldS_ev l hl) (ev_if_pos rfl (ev_if_pos rfl (Ev.now _))))

end Go.Proofs.YtjldfmkpdkhnnaaGreatDoor.Pure

namespace Go.Proofs.YtjldfmkpdkhnnaaGreatDoor.Pure
set_option linter.unusedVariables false
set_option linter.unusedSimpArgs false
open Go.RowKit Go.Proofs.YtjldfmkpdkhnnaaGreatDoor.QL Go.Proofs.YtjldfmkpdkhnnaaGreatDoorW.PrintWords Go.Proofs.YtjldfmkpdkhnnaaGreatDoorW.PrintLast Go.Proofs.YtjldfmkpdkhnnaaGreatDoorW.PrintMore Go.Proofs.YtjldfmkpdkhnnaaGreatDoor.Aux Go.Proofs.YtjldfmkpdkhnnaaGreatDoor.Dom Go.Proofs.YtjldfmkpdkhnnaaGreatDoor.Ext
theorem spec_FieldGet_l0 (l : List S99) (nm : ByteArray) (hl : l.length ≤ 1048576) (V : List ByteArray) (hV : (V.map fun v => v.size + 2).sum ≤ 8388608) : ∀ (d : Nat) (acc : List ByteArray) (i : Int), 0 ≤ i → (l.length : Int) - i = d → acc ++ getL nm ((l.drop i.toNat).map fun x => (x.f0, x.f1)) = V →
    Ev (fun k => spec_FieldGet.l0 k l nm (joinB ⟨#[44, 32]⟩ acc) (!acc.isEmpty) i) (joinB ⟨#[44, 32]⟩ V, !V.isEmpty)
  | 0, acc, i, h0, hd, ha => by
    refine ev_last fun k => ?_
    simp only [spec_FieldGet.l0]
    rw [drop_nil (by omega)] at ha
    simp only [List.map_nil, getL, List.append_nil] at ha
    rw [if_neg (by omega), ha]
  | d + 1, acc, i, h0, hd, ha => by
    have hlt : i < (l.length : Int) := by omega
    have hdrop : l.drop i.toNat = rd_T99 l i :: l.drop (i + 1).toNat := drop_rdOf (d := z99) h0 hlt
    rw [hdrop] at ha
    simp only [List.map_cons, getL] at ha
    by_cases h : (rd_T99 l i).f0 = nm
    · rw [if_pos h] at ha
      have hs := joinB_size ⟨#[44, 32]⟩ acc
      have hb : (acc.map fun v => v.size + 2).sum + ((rd_T99 l i).f1.size + 2) ≤ 8388608 := by
        rw [← ha] at hV
        simp only [List.map_append, List.sum_append, List.map_cons, List.sum_cons] at hV
        omega
      have hs2 : (joinB ⟨#[44, 32]⟩ acc).size ≤ (acc.map fun v => v.size + 2).sum := hs
      cases acc with
      | nil =>
        refine Ev.step (f := fun k => spec_FieldGet.l0 k l nm (joinB ⟨#[44, 32]⟩ [(rd_T99 l i).f1]) true (i + 1)) (fun k => ?_) (spec_FieldGet_l0 l nm hl V hV d [(rd_T99 l i).f1] (i + 1) (by omega) (by omega) ha)
        simp only [spec_FieldGet.l0]
        have e0 : (joinB ⟨#[44, 32]⟩ [] ++ (rd_T99 l i).f1) = (rd_T99 l i).f1 := ByteArray.empty_append
        have e1 : (joinB ⟨#[44, 32]⟩ []).size = 0 := rfl
        rw [if_pos hlt, if_pos h0, if_pos (by rw [h]), if_neg (by decide), if_pos (by omega), wrap_id (by omega) (by omega), e0]
        rfl
      | cons a acc =>
        refine Ev.step (f := fun k => spec_FieldGet.l0 k l nm (joinB ⟨#[44, 32]⟩ ((a :: acc) ++ [(rd_T99 l i).f1])) true (i + 1)) (fun k => ?_) (spec_FieldGet_l0 l nm hl V hV d ((a :: acc) ++ [(rd_T99 l i).f1]) (i + 1) (by omega) (by omega) (by rw [← ha]; simp))
        simp only [spec_FieldGet.l0]
        rw [if_pos hlt, if_pos h0, if_pos (by rw [h]), if_pos (show (!(a :: acc).isEmpty) = true from rfl), if_pos (by omega), if_pos (by rw [ByteArray.size_append]; have : (⟨#[44, 32]⟩ : ByteArray).size = 2 := rfl; omega), wrap_id (by omega) (by omega), joinB_snoc _ _ _ (by simp)]
    · rw [if_neg h] at ha
      refine Ev.step (f := fun k => spec_FieldGet.l0 k l nm (joinB ⟨#[44, 32]⟩ acc) (!acc.isEmpty) (i + 1)) (fun k => ?_) (spec_FieldGet_l0 l nm hl V hV d acc (i + 1) (by omega) (by omega) ha)
      simp only [spec_FieldGet.l0]
      rw [if_pos hlt, if_pos h0, if_neg (by rw [toList_eq_iff]; exact h), wrap_id (by omega) (by omega)]
theorem spec_FieldGet_ev (l : List S99) (nm : ByteArray) (hl : l.length ≤ 1048576) (hV : ((getL nm (l.map fun x => (x.f0, x.f1))).map fun v => v.size + 2).sum ≤ 8388608) : Ev (fun k => spec_FieldGet.f k l nm) (joinB ⟨#[44, 32]⟩ (getL nm (l.map fun x => (x.f0, x.f1))), !(getL nm (l.map fun x => (x.f0, x.f1))).isEmpty) := by
  have h := spec_FieldGet_l0 l nm hl _ hV l.length [] 0 (by omega) (by omega) (by simp)
  simpa [spec_FieldGet.f, joinB] using h

end Go.Proofs.YtjldfmkpdkhnnaaGreatDoor.Pure

namespace Go.Proofs.YtjldfmkpdkhnnaaGreatDoor.Pure
set_option linter.unusedVariables false
set_option linter.unusedSimpArgs false
open Go.RowKit Go.Proofs.YtjldfmkpdkhnnaaGreatDoor.QL Go.Proofs.YtjldfmkpdkhnnaaGreatDoorW.PrintWords Go.Proofs.YtjldfmkpdkhnnaaGreatDoorW.PrintLast Go.Proofs.YtjldfmkpdkhnnaaGreatDoorW.PrintMore Go.Proofs.YtjldfmkpdkhnnaaGreatDoor.Aux Go.Proofs.YtjldfmkpdkhnnaaGreatDoor.Dom Go.Proofs.YtjldfmkpdkhnnaaGreatDoor.Ext
theorem spec_l1In_eq (a b c : Int) : spec_l1In.f a b c = some (decide (b ≤ a ∧ a ≤ c)) := by
  unfold spec_l1In.f
  by_cases h : a ≥ b
  · rw [if_pos h]; simp [show b ≤ a from h]
  · rw [if_neg h]; simp [show ¬ b ≤ a from h]

end Go.Proofs.YtjldfmkpdkhnnaaGreatDoor.Pure

namespace Go.Proofs.YtjldfmkpdkhnnaaGreatDoor.Pure
set_option linter.unusedVariables false
set_option linter.unusedSimpArgs false
open Go.RowKit Go.Proofs.YtjldfmkpdkhnnaaGreatDoor.QL Go.Proofs.YtjldfmkpdkhnnaaGreatDoorW.PrintWords Go.Proofs.YtjldfmkpdkhnnaaGreatDoorW.PrintLast Go.Proofs.YtjldfmkpdkhnnaaGreatDoorW.PrintMore Go.Proofs.YtjldfmkpdkhnnaaGreatDoor.Aux Go.Proofs.YtjldfmkpdkhnnaaGreatDoor.Dom Go.Proofs.YtjldfmkpdkhnnaaGreatDoor.Ext
theorem spec_IsLeap_eq {y : Int} (h : 0 ≤ y) : spec_IsLeap.f y = some (leapB y) := by
  unfold spec_IsLeap.f leapB
  rw [Int.tmod_eq_emod_of_nonneg h, Int.tmod_eq_emod_of_nonneg h, Int.tmod_eq_emod_of_nonneg h]
  by_cases h4 : y % 4 = 0
  · rw [if_pos h4]
    by_cases h100 : y % 100 = 0
    · rw [if_pos h100]
      congr 1
      rw [Bool.eq_iff_iff]; simp; omega
    · rw [if_neg h100, decide_eq_true (Or.inl ⟨h4, h100⟩)]
  · rw [if_neg h4, decide_eq_false (by omega)]

end Go.Proofs.YtjldfmkpdkhnnaaGreatDoor.Pure

namespace Go.Proofs.YtjldfmkpdkhnnaaGreatDoor.Pure
set_option linter.unusedVariables false
set_option linter.unusedSimpArgs false
open Go.RowKit Go.Proofs.YtjldfmkpdkhnnaaGreatDoor.QL Go.Proofs.YtjldfmkpdkhnnaaGreatDoorW.PrintWords Go.Proofs.YtjldfmkpdkhnnaaGreatDoorW.PrintLast Go.Proofs.YtjldfmkpdkhnnaaGreatDoorW.PrintMore Go.Proofs.YtjldfmkpdkhnnaaGreatDoor.Aux Go.Proofs.YtjldfmkpdkhnnaaGreatDoor.Dom Go.Proofs.YtjldfmkpdkhnnaaGreatDoor.Ext
theorem spec_l4Months_eq {y : Int} (h : 0 ≤ y) : ∃ l, spec_l4Months.f y = some l ∧ l.length = 12 ∧ ∀ m : Int, 1 ≤ m → m ≤ 12 → rd l (m - 1) = monthD y m := by
  unfold spec_l4Months.f
  rw [spec_IsLeap_eq h, Option.bind_some]
  have hm : ∀ m : Int, 1 ≤ m → m ≤ 12 → m = 1 ∨ m = 2 ∨ m = 3 ∨ m = 4 ∨ m = 5 ∨ m = 6 ∨ m = 7 ∨ m = 8 ∨ m = 9 ∨ m = 10 ∨ m = 11 ∨ m = 12 := fun m h1 h2 => by omega
  cases hl : leapB y with
  | true =>
    refine ⟨_, if_pos rfl, rfl, fun m h1 h2 => ?_⟩
    rcases hm m h1 h2 with rfl | rfl | rfl | rfl | rfl | rfl | rfl | rfl | rfl | rfl | rfl | rfl <;> simp [monthD, hl, rd]
  | false =>
    refine ⟨_, if_neg (by decide), rfl, fun m h1 h2 => ?_⟩
    rcases hm m h1 h2 with rfl | rfl | rfl | rfl | rfl | rfl | rfl | rfl | rfl | rfl | rfl | rfl <;> simp [monthD, hl, rd]
theorem spec_DaysOf_l1 (y m : Int) (hy : 0 ≤ y) (hm : m ≤ 13) : ∀ (d : Nat) (n i : Int), 1 ≤ i → m - i = d → 0 ≤ n → n + 31 * d ≤ 100000 → Ev (fun k => spec_DaysOf.l1 k y m n i) (n + monthsD y d i)
  | 0, n, i, h1, hd, n0, n1 => by
    refine ev_last fun k => ?_
    simp only [spec_DaysOf.l1]
    rw [if_neg (by omega)]
    simp [monthsD]
  | d + 1, n, i, h1, hd, n0, n1 => by
    obtain ⟨l, e, hl, hr⟩ := spec_l4Months_eq hy
    have hb := monthD_bd y i
    refine Ev.step (f := fun k => spec_DaysOf.l1 k y m (n + monthD y i) (i + 1)) (fun k => ?_) (ev_eq (spec_DaysOf_l1 y m hy hm d _ (i + 1) (by omega) (by omega) (by omega) (by omega)) (by rw [monthsD]; omega))
    simp only [spec_DaysOf.l1]
    rw [if_pos (by omega), e, Option.bind_some, wrap_id (x := i - 1) (by omega) (by omega), if_pos (by omega), if_pos (by omega), hr i h1 (by omega), wrap_id (by omega) (by omega), wrap_id (by omega) (by omega)]
theorem spec_DaysOf_l0 (y m : Int) (hy : y ≤ 2037) (h1970 : 1970 ≤ y) (hm1 : 1 ≤ m) (hm : m ≤ 12) : ∀ (d : Nat) (n i : Int), 1970 ≤ i → y - i = d → 0 ≤ n → n + 366 * d ≤ 50000 → Ev (fun k => spec_DaysOf.l0 k y m n i) (n + yearsD d i + monthsD y (m - 1).toNat 1)
  | 0, n, i, h1, hd, n0, n1 => by
    refine Ev.step (f := fun k => spec_DaysOf.l1 k y m n 1) (fun k => ?_) (ev_eq (spec_DaysOf_l1 y m (by omega) (by omega) (m - 1).toNat n 1 (by omega) (by omega) n0 (by omega)) (by simp [yearsD]))
    simp only [spec_DaysOf.l0]
    rw [if_neg (by omega)]
  | d + 1, n, i, h1, hd, n0, n1 => by
    have hb := yearD_bd i
    refine Ev.step (f := fun k => spec_DaysOf.l0 k y m (n + yearD i) (i + 1)) (fun k => ?_) (ev_eq (spec_DaysOf_l0 y m hy h1970 hm1 hm d _ (i + 1) (by omega) (by omega) (by omega) (by omega)) (by rw [yearsD]; omega))
    simp only [spec_DaysOf.l0]
    rw [if_pos (by omega), spec_IsLeap_eq (by omega), Option.bind_some, wrap_id (x := n + 365) (by omega) (by omega), wrap_id (x := i + 1) (by omega) (by omega), wrap_id (x := n + 365 + 1) (by omega) (by omega)]
    unfold yearD
    cases leapB i with
    | true => rw [if_pos rfl, if_pos rfl, show n + 365 + 1 = n + 366 by omega]
    | false => rw [if_neg (by decide), if_neg (by decide)]
theorem spec_DaysOf_ev (y m d : Int) : Ev (fun k => spec_DaysOf.f k y m d) (daysP y m d) := by
  have hbad : ∀ k, spec_DaysOf.j0 (k + 1) y m d true = some (-1) := fun k => by simp only [spec_DaysOf.j0]; rw [if_pos trivial]
  refine Ev.congr (fun k => by unfold spec_DaysOf.f; rw [spec_l1In_eq, Option.bind_some]) ?_
  unfold daysP
  by_cases h1 : 1970 ≤ y ∧ y ≤ 2037
  · refine ev_if_pos (by simpa using h1) ?_
    refine Ev.congr (fun k => by rw [spec_l1In_eq, Option.bind_some]) ?_
    by_cases h2 : 1 ≤ m ∧ m ≤ 12
    · refine ev_if_pos (by simpa using h2) ?_
      obtain ⟨l, e, hl, hr⟩ := spec_l4Months_eq (y := y) (by omega)
      refine Ev.congr (fun k => by rw [e, Option.bind_some, wrap_id (x := m - 1) (by omega) (by omega), if_pos (by omega), if_pos (by omega), hr m h2.1 h2.2, spec_l1In_eq, Option.bind_some]) ?_
      have hb := monthD_bd y m
      by_cases h3 : 1 ≤ d ∧ d ≤ monthD y m
      · rw [decide_eq_true h3, if_pos ⟨h1, h2, h3⟩]
        refine Ev.step (f := fun k => spec_DaysOf.l0 k y m (d - 1) 1970) (fun k => ?_) (ev_eq (spec_DaysOf_l0 y m h1.2 h1.1 h2.1 h2.2 (y - 1970).toNat (d - 1) 1970 (by omega) (by omega) (by omega) (by omega)) (by omega))
        simp only [spec_DaysOf.j0]
        rw [if_neg (by decide), wrap_id (by omega) (by omega)]
      · rw [decide_eq_false h3, if_neg (fun h => h3 h.2.2)]
        exact ev_last hbad
    · rw [if_neg (fun h => h2 h.2.1)]
      exact ev_if_neg (by simpa using h2) (ev_last hbad)
  · rw [if_neg (fun h => h1 h.1)]
    exact ev_if_neg (by simpa using h1) (ev_last hbad)

end Go.Proofs.YtjldfmkpdkhnnaaGreatDoor.Pure

namespace Go.Proofs.YtjldfmkpdkhnnaaGreatDoor.Pure
set_option linter.unusedVariables false
set_option linter.unusedSimpArgs false
open Go.RowKit Go.Proofs.YtjldfmkpdkhnnaaGreatDoor.QL Go.Proofs.YtjldfmkpdkhnnaaGreatDoorW.PrintWords Go.Proofs.YtjldfmkpdkhnnaaGreatDoorW.PrintLast Go.Proofs.YtjldfmkpdkhnnaaGreatDoorW.PrintMore Go.Proofs.YtjldfmkpdkhnnaaGreatDoor.Aux Go.Proofs.YtjldfmkpdkhnnaaGreatDoor.Dom Go.Proofs.YtjldfmkpdkhnnaaGreatDoor.Ext
theorem spec_Dec_pos : ∀ (d : Nat) (n : Int) (acc : List Int), 0 ≤ n → n ≤ 9223372036854775807 → n < 10 ^ d → acc.length + d ≤ 100 → Ev (fun k => spec_Dec.l0 k n (strOfNums acc) false) (strOfNums (decL d n acc))
  | 0, n, acc, h0, h1, hn, ha => by
    refine ev_last fun k => ?_
    simp only [spec_Dec.l0]
    rw [if_pos (by simp at hn; omega), if_neg (by decide)]
    rfl
  | d + 1, n, acc, h0, h1, hn, ha => by
    by_cases h : n > 0
    · refine Ev.step (f := fun k => spec_Dec.l0 k (n / 10) (strOfNums ((48 + n % 10) :: acc)) false) (fun k => ?_) (ev_eq (spec_Dec_pos d (n / 10) _ (by omega) (by omega) (by rw [Int.pow_succ] at hn; omega) (by simp; omega)) (by rw [decL, if_pos h]))
      simp only [spec_Dec.l0, Option.bind_some]
      rw [if_neg (by omega), Int.tmod_eq_emod_of_nonneg (by omega), Int.tdiv_eq_ediv_of_nonneg (by omega), if_neg (by omega), if_pos (by rw [strOfNums_size, strOfNums_size]; simp; omega), wrap_id (x := 48 + n % 10) (by omega) (by omega), wrap_id (by omega) (by omega), Int.emod_eq_of_lt (a := 48 + n % 10) (by omega) (by omega), ← strOfNums_append]
      rfl
    · refine ev_last fun k => ?_
      simp only [spec_Dec.l0]
      rw [if_pos (by omega), if_neg (by decide), decL, if_neg h]
theorem spec_Dec_neg : ∀ (d : Nat) (n : Int) (acc : List Int), 0 ≤ n → n ≤ 9223372036854775808 → n < 10 ^ d → acc.length + d ≤ 100 → Ev (fun k => spec_Dec.l0 k (-n) (strOfNums acc) true) (strOfNums (45 :: decL d n acc))
  | 0, n, acc, h0, h1, hn, ha => by
    refine ev_last fun k => ?_
    simp only [spec_Dec.l0]
    rw [if_pos (by simp at hn; omega), if_pos (by trivial), if_pos (by rw [strOfNums_size]; omega)]
    rw [show (45 :: decL 0 n acc : List Int) = [45] ++ acc from rfl, strOfNums_append]
    rfl
  | d + 1, n, acc, h0, h1, hn, ha => by
    by_cases h : n > 0
    · refine Ev.step (f := fun k => spec_Dec.l0 k (-(n / 10)) (strOfNums ((48 + n % 10) :: acc)) true) (fun k => ?_) (ev_eq (spec_Dec_neg d (n / 10) _ (by omega) (by omega) (by rw [Int.pow_succ] at hn; omega) (by simp; omega)) (by rw [decL, if_pos h]))
      simp only [spec_Dec.l0, Option.bind_some]
      rw [if_neg (by omega), Int.neg_tmod, Int.neg_tdiv, Int.tmod_eq_emod_of_nonneg (by omega), Int.tdiv_eq_ediv_of_nonneg (by omega)]
      by_cases hr : -(n % 10) < 0
      · rw [if_pos hr, if_pos (by rw [strOfNums_size, strOfNums_size]; simp; omega), Int.neg_neg, wrap_id (x := n % 10) (by omega) (by omega), wrap_id (x := 48 + n % 10) (by omega) (by omega), wrap_id (by omega) (by omega), Int.emod_eq_of_lt (a := 48 + n % 10) (by omega) (by omega), ← strOfNums_append]
        rfl
      · have hr0 : n % 10 = 0 := by omega
        rw [if_neg hr, if_pos (by rw [strOfNums_size, strOfNums_size]; simp; omega), hr0, wrap_id (x := -(n / 10)) (by omega) (by omega), ← strOfNums_append, show (wrap64 (48 + -0) % 256 : Int) = 48 + 0 by rw [wrap_id (by omega) (by omega)]; omega]
        rfl
    · refine ev_last fun k => ?_
      simp only [spec_Dec.l0]
      rw [if_pos (by omega), if_pos (by trivial), if_pos (by rw [strOfNums_size]; omega), decL, if_neg h]
      rw [show (45 :: acc : List Int) = [45] ++ acc from rfl, strOfNums_append]
      rfl
theorem spec_Dec_ev (n : Int) (h0 : -9223372036854775808 ≤ n) (h1 : n ≤ 9223372036854775807) : Ev (fun k => spec_Dec.f k n) (decB n) := by
  have hp : (10 : Int) ^ 20 = 100000000000000000000 := by decide
  unfold decB decP
  by_cases hz : n = 0
  · rw [if_pos hz]
    exact ev_some fun k => by unfold spec_Dec.f; rw [if_pos hz]; rfl
  · rw [if_neg hz]
    refine Ev.congr (fun k => by unfold spec_Dec.f; rw [if_neg hz]) ?_
    by_cases hn : n < 0
    · rw [if_pos hn, decide_eq_true hn]
      have h := spec_Dec_neg 20 (-n) [] (by omega) (by omega) (by rw [hp]; omega) (by simp)
      rw [Int.neg_neg] at h
      exact h
    · rw [if_neg hn, decide_eq_false hn]
      exact spec_Dec_pos 20 n [] (by omega) (by omega) (by rw [hp]; omega) (by simp)

end Go.Proofs.YtjldfmkpdkhnnaaGreatDoor.Pure

namespace Go.Proofs.YtjldfmkpdkhnnaaGreatDoor.Pure
set_option linter.unusedVariables false
set_option linter.unusedSimpArgs false
open Go.RowKit Go.Proofs.YtjldfmkpdkhnnaaGreatDoor.QL Go.Proofs.YtjldfmkpdkhnnaaGreatDoorW.PrintWords Go.Proofs.YtjldfmkpdkhnnaaGreatDoorW.PrintLast Go.Proofs.YtjldfmkpdkhnnaaGreatDoorW.PrintMore Go.Proofs.YtjldfmkpdkhnnaaGreatDoor.Aux Go.Proofs.YtjldfmkpdkhnnaaGreatDoor.Dom Go.Proofs.YtjldfmkpdkhnnaaGreatDoor.Ext
theorem spec_l4Two_eq {n : Int} (h0 : 0 ≤ n) (h1 : n ≤ 99) : spec_l4Two.f n = some (strOfNums (twoL n)) := by
  unfold spec_l4Two.f twoL
  rw [Int.tdiv_eq_ediv_of_nonneg h0, wrap_id (x := n / 10) (by omega) (by omega), Int.tmod_eq_emod_of_nonneg (by omega), Int.tmod_eq_emod_of_nonneg h0, wrap_id (by omega) (by omega), wrap_id (by omega) (by omega), Int.emod_eq_of_lt (a := 48 + n / 10 % 10) (by omega) (by omega), Int.emod_eq_of_lt (a := 48 + n % 10) (by omega) (by omega)]
theorem daysP_year {y : Int} (h : 1970 ≤ y) (h2 : y ≤ 2037) : daysP y 1 1 = yearsD (y - 1970).toNat 1970 := by
  have hb := monthD_bd y 1
  unfold daysP
  rw [if_pos ⟨⟨h, h2⟩, by omega, by omega⟩]
  simp [monthsD]
theorem daysP_month {y m : Int} (h : 1970 ≤ y) (h2 : y ≤ 2037) (h3 : 1 ≤ m) (h4 : m ≤ 12) : daysP y m 1 = yearsD (y - 1970).toNat 1970 + monthsD y (m - 1).toNat 1 := by
  have hb := monthD_bd y m
  unfold daysP
  rw [if_pos ⟨⟨h, h2⟩, ⟨h3, h4⟩, by omega⟩]
  omega
theorem spec_ShowDate_j3 (sec y m : Int) (hs0 : 0 ≤ sec) (hs1 : sec ≤ 2000000000) (hy : 1970 ≤ y) (hy2 : y ≤ 2037) (hm : 1 ≤ m) (hm2 : m ≤ 12) (hd : daysP y m 1 ≤ sec / 86400) (hd2 : sec / 86400 < daysP y m 1 + monthD y m) :
    Ev (fun k => spec_ShowDate.j3 k sec (sec / 86400) y m) (strOfNums (weekL (sec / 86400 % 7) ++ [44, 32] ++ twoL (sec / 86400 - daysP y m 1 + 1) ++ [32] ++ monL m ++ [32] ++ decP y ++ [32] ++ twoL (sec / 3600 % 24) ++ [58] ++ twoL (sec / 60 % 60) ++ [58] ++ twoL (sec % 60) ++ [32, 71, 77, 84])) := by
  have hb := monthD_bd y m
  have hdp := daysP_month hy hy2 hm hm2
  have hyb := yearsD_bd (y - 1970).toNat 1970
  have hmb := monthsD_bd y (m - 1).toNat 1
  have w2 : wrap64 (m - 1) = m - 1 := wrap_id (by omega) (by omega)
  have w1 : wrap64 (wrap64 (sec / 86400 - daysP y m 1) + 1) = sec / 86400 - daysP y m 1 + 1 := by rw [wrap_id (x := sec / 86400 - daysP y m 1) (by omega) (by omega), wrap_id (by omega) (by omega)]
  have w3 : Int.tmod (wrap64 (Int.tdiv sec 3600)) 24 = sec / 3600 % 24 := by rw [Int.tdiv_eq_ediv_of_nonneg hs0, wrap_id (by omega) (by omega), Int.tmod_eq_emod_of_nonneg (by omega)]
  have w4 : Int.tmod (wrap64 (Int.tdiv sec 60)) 60 = sec / 60 % 60 := by rw [Int.tdiv_eq_ediv_of_nonneg hs0, wrap_id (by omega) (by omega), Int.tmod_eq_emod_of_nonneg (by omega)]
  have w5 : Int.tmod sec 60 = sec % 60 := Int.tmod_eq_emod_of_nonneg hs0
  have w6 : Int.tmod (sec / 86400) 7 = sec / 86400 % 7 := Int.tmod_eq_emod_of_nonneg (by omega)
  have s1 : (strOfNums (weekL (sec / 86400 % 7))).size = 3 := by rw [strOfNums_size, weekL_length]
  have s2 : ∀ n, (strOfNums (twoL n)).size = 2 := fun n => by rw [strOfNums_size]; rfl
  have s3 : (strOfNums (monL m)).size = 3 := by rw [strOfNums_size, monL_length]
  have s4 : (decB y).size = 4 := by unfold decB; rw [decP_year (by omega) (by omega), strOfNums_size]; rfl
  have z1 : (⟨#[44, 32]⟩ : ByteArray).size = 2 := rfl
  have z2 : (⟨#[32]⟩ : ByteArray).size = 1 := rfl
  have z3 : (⟨#[58]⟩ : ByteArray).size = 1 := rfl
  refine Ev.step (fun k => by simp only [spec_ShowDate.j3]; rfl) (ev_bind (spec_DaysOf_ev y m 1) ?_)
  refine Ev.congr (fun k => by
    simp only [Option.bind_some]
    rw [w6, if_pos (c := 0 ≤ sec / 86400 % 7) (by omega), if_pos (c := sec / 86400 % 7 < _) (by simp; omega), w2, if_pos (c := 0 ≤ m - 1) (by omega), if_pos (c := m - 1 < _) (by simp; omega), week_rd (by omega) (by omega), months_rd hm hm2, if_pos (by rw [s1]; decide), w1, spec_l4Two_eq (n := sec / 86400 - daysP y m 1 + 1) (by omega) (by omega), Option.bind_some]) ?_
  refine Ev.congr (fun k => by
    simp only [ByteArray.size_append, s1, s2, s3, z1, z2, Nat.reduceAdd, Nat.reduceLeDiff, if_true]
    rfl) ?_
  refine ev_bind (spec_Dec_ev y (by omega) (by omega)) ?_
  refine ev_some fun k => ?_
  rw [w3, w4, w5, spec_l4Two_eq (n := sec / 3600 % 24) (by omega) (by omega), spec_l4Two_eq (n := sec / 60 % 60) (by omega) (by omega), spec_l4Two_eq (n := sec % 60) (by omega) (by omega)]
  simp only [Option.bind_some, ByteArray.size_append, s1, s2, s3, s4, z1, z2, z3, Nat.reduceAdd, Nat.reduceLeDiff, if_true]
  congr 1
  simp only [strOfNums_append, decB]
  rfl
theorem spec_ShowDate_l1 (sec y : Int) (hs0 : 0 ≤ sec) (hs1 : sec ≤ 2000000000) (hy : 1970 ≤ y) (hy2 : y ≤ 2037) : ∀ (f : Nat) (m d : Int), 1 ≤ m → m + f = 13 → 0 ≤ d → d < monthsD y f m → daysP y m 1 + d = sec / 86400 →
    Ev (fun k => spec_ShowDate.l1 k sec (sec / 86400) y m) (strOfNums (weekL (sec / 86400 % 7) ++ [44, 32] ++ twoL ((mdL y f m d).2 + 1) ++ [32] ++ monL (mdL y f m d).1 ++ [32] ++ decP y ++ [32] ++ twoL (sec / 3600 % 24) ++ [58] ++ twoL (sec / 60 % 60) ++ [58] ++ twoL (sec % 60) ++ [32, 71, 77, 84]))
  | 0, m, d, h1, hf, h0, hd, he => by simp [monthsD] at hd; omega
  | f + 1, m, d, h1, hf, h0, hd, he => by
    have hb := monthD_bd y m
    rw [monthsD] at hd
    rw [mdL]
    have e3 : d = sec / 86400 - daysP y m 1 := by omega
    by_cases h12 : m < 12
    · have hn : daysP y (m + 1) 1 = daysP y m 1 + monthD y m := by
        rw [daysP_month hy hy2 (by omega) (by omega), daysP_month hy hy2 h1 (by omega), show (m + 1 - 1).toNat = (m - 1).toNat + 1 by omega, monthsD_succ, show 1 + (((m - 1).toNat : Nat) : Int) = m by omega]
        omega
      refine Ev.step (fun k => by simp only [spec_ShowDate.l1]; rw [if_pos h12, wrap_id (x := m + 1) (by omega) (by omega)]) (ev_bind (spec_DaysOf_ev y (m + 1) 1) ?_)
      by_cases h : monthD y m ≤ d
      · rw [if_pos h]
        exact ev_if_pos (by omega) (spec_ShowDate_l1 sec y hs0 hs1 hy hy2 f (m + 1) (d - monthD y m) (by omega) (by omega) (by omega) (by omega) (by omega))
      · rw [if_neg h]
        refine ev_if_neg (by omega) ?_
        have := spec_ShowDate_j3 sec y m hs0 hs1 hy hy2 h1 (by omega) (by omega) (by omega)
        rw [← e3] at this
        exact this
    · refine Ev.step (f := fun k => spec_ShowDate.j3 k sec (sec / 86400) y m) (fun k => by simp only [spec_ShowDate.l1]; rw [if_neg h12]) ?_
      have hf0 : f = 0 := by omega
      subst hf0
      simp only [monthsD] at hd
      rw [if_neg (by omega)]
      have := spec_ShowDate_j3 sec y m hs0 hs1 hy hy2 h1 (by omega) (by omega) (by omega)
      rw [← e3] at this
      exact this
theorem spec_ShowDate_l0 (sec : Int) (hs0 : 0 ≤ sec) (hs1 : sec ≤ 2000000000) : ∀ (f : Nat) (y d : Int), 1970 ≤ y → y + f = 2037 → 0 ≤ d → d < 365 * f → daysP y 1 1 + d = sec / 86400 →
    Ev (fun k => spec_ShowDate.l0 k sec (sec / 86400) y 1) (strOfNums (weekL (sec / 86400 % 7) ++ [44, 32] ++ twoL ((mdL (ydL f y d).1 12 1 (ydL f y d).2).2 + 1) ++ [32] ++ monL (mdL (ydL f y d).1 12 1 (ydL f y d).2).1 ++ [32] ++ decP (ydL f y d).1 ++ [32] ++ twoL (sec / 3600 % 24) ++ [58] ++ twoL (sec / 60 % 60) ++ [58] ++ twoL (sec % 60) ++ [32, 71, 77, 84]))
  | 0, y, d, h1, hf, h0, hd, he => by omega
  | f + 1, y, d, h1, hf, h0, hd, he => by
    have hb := yearD_bd y
    rw [ydL]
    have hn : daysP (y + 1) 1 1 = daysP y 1 1 + yearD y := by
      rw [daysP_year (by omega) (by omega), daysP_year h1 (by omega), show (y + 1 - 1970).toNat = (y - 1970).toNat + 1 by omega, yearsD_succ, show 1970 + (((y - 1970).toNat : Nat) : Int) = y by omega]
    refine Ev.step (fun k => by simp only [spec_ShowDate.l0]; rw [if_pos (by omega), wrap_id (x := y + 1) (by omega) (by omega)]) (ev_bind (spec_DaysOf_ev (y + 1) 1 1) ?_)
    by_cases h : yearD y ≤ d
    · rw [if_pos h]
      exact ev_if_pos (by omega) (spec_ShowDate_l0 sec hs0 hs1 f (y + 1) (d - yearD y) (by omega) (by omega) (by omega) (by omega) (by omega))
    · rw [if_neg h]
      have hw := yearW_eq y
      unfold yearW at hw
      refine ev_if_neg (by omega) (Ev.step (f := fun k => spec_ShowDate.l1 k sec (sec / 86400) y 1) (fun k => by simp only [spec_ShowDate.j1]) ?_)
      exact spec_ShowDate_l1 sec y hs0 hs1 h1 (by omega) 12 1 d (by omega) (by omega) h0 (by omega) he
theorem spec_ShowDate_ev (sec : Int) (h0 : -9223372036854775808 ≤ sec) (h1 : sec ≤ 9223372036854775807) : Ev (fun k => spec_ShowDate.f k sec) (dateB sec) := by
  refine Ev.congr (fun k => by unfold spec_ShowDate.f; rw [spec_l1In_eq, Option.bind_some]) ?_
  unfold dateB
  by_cases h : 0 ≤ sec ∧ sec ≤ 2000000000
  · rw [if_pos h]
    refine ev_if_pos (by simpa using h) ?_
    have w1 : wrap64 (Int.tdiv sec 86400) = sec / 86400 := by rw [Int.tdiv_eq_ediv_of_nonneg h.1, wrap_id (by omega) (by omega)]
    refine Ev.congr (fun k => by rw [w1]) ?_
    have hy0 : daysP 1970 1 1 = 0 := by rw [daysP_year (by omega) (by omega)]; rfl
    refine ev_eq (spec_ShowDate_l0 sec h.1 h.2 67 1970 (sec / 86400) (by omega) (by omega) (by omega) (by omega) (by omega)) ?_
    unfold dateL ymd
    rw [show (70 : Nat) = 67 + 3 from rfl, ydL_more 67 3 1970 (sec / 86400) (by omega) (by omega)]
  · rw [if_neg h]
    exact ev_if_neg (by simpa using h) (Ev.now _)

end Go.Proofs.YtjldfmkpdkhnnaaGreatDoor.Pure

namespace Go.Proofs.YtjldfmkpdkhnnaaGreatDoor.Pure
set_option linter.unusedVariables false
set_option linter.unusedSimpArgs false
open Go.RowKit Go.Proofs.YtjldfmkpdkhnnaaGreatDoor.QL Go.Proofs.YtjldfmkpdkhnnaaGreatDoorW.PrintWords Go.Proofs.YtjldfmkpdkhnnaaGreatDoorW.PrintLast Go.Proofs.YtjldfmkpdkhnnaaGreatDoorW.PrintMore Go.Proofs.YtjldfmkpdkhnnaaGreatDoor.Aux Go.Proofs.YtjldfmkpdkhnnaaGreatDoor.Dom Go.Proofs.YtjldfmkpdkhnnaaGreatDoor.Ext
theorem take_cons_drop (s : ByteArray) (i : Int) (n : Nat) (h0 : 0 ≤ i) (h1 : i < (s.size : Int)) : ((bytesOf s).drop i.toNat).take (n + 1) = bt s i :: ((bytesOf s).drop (i + 1).toNat).take n := by
  rw [drop_bt h0 h1, List.take_succ_cons]
theorem spec_l4Num_l0 (s : ByteArray) (a n : Int) (hs : s.size ≤ 8388608) (ha : 0 ≤ a) (hn : n ≤ 9) (hb : a + n ≤ s.size) : ∀ (d : Nat) (x i : Int) (j : Nat), a ≤ i → a + n - i = d → 0 ≤ x → x < 10 ^ j → (j : Int) = i - a →
    Ev (fun k => spec_l4Num.l0 k s a n x i) (if (((bytesOf s).drop i.toNat).take d).all digC = true then valL x (((bytesOf s).drop i.toNat).take d) else -1)
  | 0, x, i, j, h0, hd, x0, x1, hj => by
    refine ev_last fun k => ?_
    simp only [spec_l4Num.l0]
    rw [wrap_id (x := a + n) (by omega) (by omega), if_neg (by omega), List.take_zero]
    rfl
  | d + 1, x, i, j, h0, hd, x0, x1, hj => by
    have hlt : i < (s.size : Int) := by omega
    have hp : (10 : Int) ^ 9 = 1000000000 := by decide
    have hle : (10 : Int) ^ j ≤ 10 ^ 9 := pow_le 10 (by decide) (by omega)
    rw [take_cons_drop s i d (by omega) hlt, List.all_cons]
    by_cases h1 : digC (bt s i) = true
    · have h2 := digC_iff.1 h1
      refine Ev.step (f := fun k => spec_l4Num.l0 k s a n (x * 10 + (bt s i - 48)) (i + 1)) (fun k => ?_) (ev_eq (spec_l4Num_l0 s a n hs ha hn hb d _ (i + 1) (j + 1) (by omega) (by omega) (by omega) (by rw [Int.pow_succ]; omega) (by omega)) (by rw [h1, Bool.true_and, valL]))
      simp only [spec_l4Num.l0]
      rw [wrap_id (x := a + n) (by omega) (by omega), if_pos (by omega), if_pos (by omega), if_pos hlt, if_neg (by omega), if_neg (by omega), Int.emod_eq_of_lt (a := bt s i - 48) (by omega) (by omega), wrap_id (x := x * 10) (by omega) (by omega), wrap_id (x := x * 10 + (bt s i - 48)) (by omega) (by omega), wrap_id (x := i + 1) (by omega) (by omega)]
    · rw [Bool.eq_false_iff.2 h1, Bool.false_and, if_neg (by decide)]
      rw [digC_iff] at h1
      refine ev_last fun k => ?_
      simp only [spec_l4Num.l0]
      rw [wrap_id (x := a + n) (by omega) (by omega), if_pos (by omega), if_pos (by omega), if_pos hlt]
      by_cases h3 : bt s i < 48
      · rw [if_pos h3]
      · rw [if_neg h3, if_pos (by omega)]
theorem spec_l4Num_ev (s : ByteArray) (a n : Nat) (hs : s.size ≤ 8388608) (hn : n ≤ 9) (hb : a + n ≤ s.size) : Ev (fun k => spec_l4Num.f k s a n) (numP (sub (bytesOf s) a n)) := by
  have h := spec_l4Num_l0 s a n hs (by omega) (by omega) (by omega) n 0 a 0 (by omega) (by omega) (by omega) (by decide) (by omega)
  rw [Int.toNat_natCast] at h
  exact h
theorem spec_ReadDate_j1 (s : ByteArray) (hs : s.size = 29) (days h m x : Int) (hd : days = daysI (bytesOf s)) (hh : h = numP (sub (bytesOf s) 17 2)) (hm : m = numP (sub (bytesOf s) 20 2)) (hx : x = numP (sub (bytesOf s) 23 2)) (b : Bool) (hb : b = decide (days < 0 ∨ h < 0 ∨ m < 0 ∨ x < 0)) :
    Ev (fun k => spec_ReadDate.j1 k s days h m x b) (readDateP s) := by
  have hl := bytesOf_length s
  have b1 : -1 ≤ days ∧ days ≤ 30000 := by rw [hd]; exact daysP_bd _ _ _
  have e2 : (10 : Int) ^ 2 = 100 := by decide
  have b2 := numP_bd (sub (bytesOf s) 17 2) 2 (by unfold sub; rw [List.length_take]; omega)
  have b3 := numP_bd (sub (bytesOf s) 20 2) 2 (by unfold sub; rw [List.length_take]; omega)
  have b4 := numP_bd (sub (bytesOf s) 23 2) 2 (by unfold sub; rw [List.length_take]; omega)
  rw [← hh] at b2
  rw [← hm] at b3
  rw [← hx] at b4
  cases b with
  | true =>
    have hneg := of_decide_eq_true hb.symm
    rw [readDateP_none (fun sec _ e => by
      obtain ⟨q0, q1, q2, _⟩ := dateB_some hs e
      obtain ⟨f1, f2, f3, f4⟩ := date_facts q0 q1
      rw [← q2] at f1 f2 f3 f4
      rw [← hd] at f1
      rw [← hh] at f2
      rw [← hm] at f3
      rw [← hx] at f4
      omega)]
    exact ev_last fun k => by simp only [spec_ReadDate.j1]; rw [if_pos (by trivial)]
  | false =>
    have hnn := of_decide_eq_false hb.symm
    have hr : readL (bytesOf s) = days * 86400 + h * 3600 + m * 60 + x := by unfold readL; rw [← hd, ← hh, ← hm, ← hx]
    refine Ev.step (fun k => by simp only [spec_ReadDate.j1]; rw [if_neg (by decide), wrap_id (x := days * 86400) (by omega) (by omega), wrap_id (x := h * 3600) (by omega) (by omega), wrap_id (x := days * 86400 + h * 3600) (by omega) (by omega), wrap_id (x := m * 60) (by omega) (by omega), wrap_id (x := days * 86400 + h * 3600 + m * 60) (by omega) (by omega), wrap_id (x := days * 86400 + h * 3600 + m * 60 + x) (by omega) (by omega)]) (ev_bind (spec_ShowDate_ev (days * 86400 + h * 3600 + m * 60 + x) (by omega) (by omega)) ?_)
    rw [← hr]
    by_cases he : dateB (readL (bytesOf s)) = s
    · refine ev_if_pos (by rw [he]) (ev_eq (Ev.now _) ?_)
      rw [readDateP_some hs he]
    · refine ev_if_neg (by rw [toList_eq_iff]; exact he) (ev_eq (Ev.now _) ?_)
      unfold readDateP
      rw [if_neg (fun h => he h.2)]
theorem spec_ReadDate_l0 (s : ByteArray) (hs : s.size = 29) : ∀ (d : Nat) (mon m : Int), 1 ≤ m → m + d = 13 → monF (sub (bytesOf s) 8 3) d m mon = monI (sub (bytesOf s) 8 3) → Ev (fun k => spec_ReadDate.l0 k s mon m) (readDateP s)
  | 0, mon, m, h1, hd, he => by
    have hmon : mon = monI (sub (bytesOf s) 8 3) := he
    have w1 : Ev (fun k => spec_l4Num.f k s 12 4) (numP (sub (bytesOf s) 12 4)) := spec_l4Num_ev s 12 4 (by omega) (by omega) (by omega)
    have w2 : Ev (fun k => spec_l4Num.f k s 5 2) (numP (sub (bytesOf s) 5 2)) := spec_l4Num_ev s 5 2 (by omega) (by omega) (by omega)
    have w3 : Ev (fun k => spec_l4Num.f k s 17 2) (numP (sub (bytesOf s) 17 2)) := spec_l4Num_ev s 17 2 (by omega) (by omega) (by omega)
    have w4 : Ev (fun k => spec_l4Num.f k s 20 2) (numP (sub (bytesOf s) 20 2)) := spec_l4Num_ev s 20 2 (by omega) (by omega) (by omega)
    have w5 : Ev (fun k => spec_l4Num.f k s 23 2) (numP (sub (bytesOf s) 23 2)) := spec_l4Num_ev s 23 2 (by omega) (by omega) (by omega)
    refine Ev.step (fun k => by simp only [spec_ReadDate.l0]; rw [if_neg (by omega)]) (ev_bind w1 (ev_bind w2 (ev_bind (spec_DaysOf_ev _ mon _) (ev_bind w3 (ev_bind w4 (ev_bind w5 ?_))))))
    have hj := spec_ReadDate_j1 s hs (daysI (bytesOf s)) _ _ _ rfl rfl rfl rfl
    have ed : daysP (numP (sub (bytesOf s) 12 4)) mon (numP (sub (bytesOf s) 5 2)) = daysI (bytesOf s) := by rw [hmon]; rfl
    simp only [ed]
    by_cases c1 : daysI (bytesOf s) < 0
    · exact ev_if_pos c1 (hj true (decide_eq_true (.inl c1)).symm)
    · refine ev_if_neg c1 ?_
      by_cases c2 : numP (sub (bytesOf s) 17 2) < 0
      · exact ev_if_pos c2 (hj true (decide_eq_true (.inr (.inl c2))).symm)
      · refine ev_if_neg c2 ?_
        by_cases c3 : numP (sub (bytesOf s) 20 2) < 0
        · exact ev_if_pos c3 (hj true (decide_eq_true (.inr (.inr (.inl c3)))).symm)
        · refine ev_if_neg c3 (hj _ ?_)
          rw [decide_eq_decide]
          exact ⟨fun h => .inr (.inr (.inr h)), fun h => by omega⟩
  | d + 1, mon, m, h1, hd, he => by
    rw [monF] at he
    have hw : bytesOf (s.extract 8 11) = sub (bytesOf s) 8 3 := by
      rw [bytesOf_extract, sub, List.drop_take]
    have hmm : (s.extract 8 11 = strOfNums (monL m)) ↔ sub (bytesOf s) 8 3 = monL m := by
      rw [← hw]
      have hr := bytesOf_strOfNums (xs := monL m) (fun c hc => by have := monL_ge m c hc; omega)
      exact ⟨fun h => by rw [h, hr], fun h => bytesOf_inj (by rw [h, hr])⟩
    by_cases h : sub (bytesOf s) 8 3 = monL m
    · rw [if_pos h] at he
      refine Ev.step (f := fun k => spec_ReadDate.l0 k s m (m + 1)) (fun k => ?_) (spec_ReadDate_l0 s hs d m (m + 1) (by omega) (by omega) he)
      simp only [spec_ReadDate.l0]
      rw [if_pos (by omega), if_pos (by decide), if_pos (by omega), Option.bind_some, wrap_id (x := m - 1) (by omega) (by omega), if_pos (by omega), if_pos (by simp; omega), months_rd h1 (by omega), if_pos (by rw [hmm.2 h]), wrap_id (x := m + 1) (by omega) (by omega)]
    · rw [if_neg h] at he
      refine Ev.step (f := fun k => spec_ReadDate.l0 k s mon (m + 1)) (fun k => ?_) (spec_ReadDate_l0 s hs d mon (m + 1) (by omega) (by omega) he)
      simp only [spec_ReadDate.l0]
      rw [if_pos (by omega), if_pos (by decide), if_pos (by omega), Option.bind_some, wrap_id (x := m - 1) (by omega) (by omega), if_pos (by omega), if_pos (by simp; omega), months_rd h1 (by omega), if_neg (by rw [toList_eq_iff]; exact fun hh => h (hmm.1 hh)), wrap_id (x := m + 1) (by omega) (by omega)]
theorem spec_ReadDate_ev (s : ByteArray) (hs : s.size ≤ 8388608) : Ev (fun k => spec_ReadDate.f k s) (readDateP s) := by
  by_cases h : (s.size : Int) = 29
  · exact Ev.congr (fun k => by unfold spec_ReadDate.f; rw [if_pos h]) (spec_ReadDate_l0 s (by omega) 12 0 1 (by omega) (by omega) rfl)
  · rw [readDateP_none (fun sec e1 e2 => h (by omega))]
    exact Ev.congr (fun k => by unfold spec_ReadDate.f; rw [if_neg h]) (Ev.now _)

end Go.Proofs.YtjldfmkpdkhnnaaGreatDoor.Pure

namespace Go.Proofs.YtjldfmkpdkhnnaaGreatDoor.Pure
set_option linter.unusedVariables false
set_option linter.unusedSimpArgs false
open Go.RowKit Go.Proofs.YtjldfmkpdkhnnaaGreatDoor.QL Go.Proofs.YtjldfmkpdkhnnaaGreatDoorW.PrintWords Go.Proofs.YtjldfmkpdkhnnaaGreatDoorW.PrintLast Go.Proofs.YtjldfmkpdkhnnaaGreatDoorW.PrintMore Go.Proofs.YtjldfmkpdkhnnaaGreatDoor.Aux Go.Proofs.YtjldfmkpdkhnnaaGreatDoor.Dom Go.Proofs.YtjldfmkpdkhnnaaGreatDoor.Ext
theorem spec_DateOf_ev (l : List S99) (nm : ByteArray) (hl : l.length ≤ 1048576) (hz : ¬ szF 1048576 (l.map fun x => (x.f0, x.f1)) < 0) : Ev (fun k => spec_DateOf.f k l nm) (dateOfP (l.map fun x => (x.f0, x.f1)) nm) := by
  have q1 := szF_sum nm (by omega) hz
  have j1 := joinG_size nm _ (by omega) hz
  have rdt := spec_ReadDate_ev (joinG nm (l.map fun x => (x.f0, x.f1))) (by omega)
  refine Ev.congr (fun k => by unfold spec_DateOf.f; rfl) (ev_bind (spec_FieldGet_ev l nm hl (by omega)) ?_)
  unfold dateOfP
  exact ev_ite (fun h1 => ev_bind rdt (Ev.now _)) (fun h1 => Ev.now _)

end Go.Proofs.YtjldfmkpdkhnnaaGreatDoor.Pure

namespace Go.Proofs.YtjldfmkpdkhnnaaGreatDoor.Pure
set_option linter.unusedVariables false
set_option linter.unusedSimpArgs false
open Go.RowKit Go.Proofs.YtjldfmkpdkhnnaaGreatDoor.QL Go.Proofs.YtjldfmkpdkhnnaaGreatDoorW.PrintWords Go.Proofs.YtjldfmkpdkhnnaaGreatDoorW.PrintLast Go.Proofs.YtjldfmkpdkhnnaaGreatDoorW.PrintMore Go.Proofs.YtjldfmkpdkhnnaaGreatDoor.Aux Go.Proofs.YtjldfmkpdkhnnaaGreatDoor.Dom Go.Proofs.YtjldfmkpdkhnnaaGreatDoor.Ext
theorem spec_Seconds_l0 (s : ByteArray) (hs : s.size ≤ 8388608) : ∀ (d : Nat) (n i : Int), 0 ≤ i → (s.size : Int) - i = d → 0 ≤ n → n ≤ 2147483648 →
    Ev (fun k => spec_Seconds.l0 k s n i) (if ((bytesOf s).drop i.toNat).all digC = true then (satV n ((bytesOf s).drop i.toNat), decide (0 < s.size)) else (0, false))
  | 0, n, i, h0, hd, hn, hm => by
    refine ev_last fun k => ?_
    simp only [spec_Seconds.l0]
    rw [if_neg (by omega), drop_end (by omega), if_pos (show ([] : List Int).all digC = true from rfl), satV]
    congr 2
    rw [decide_eq_decide]
    omega
  | d + 1, n, i, h0, hd, hn, hm => by
    have hlt : i < (s.size : Int) := by omega
    rw [drop_bt h0 hlt, List.all_cons]
    by_cases h1 : bt s i < 48
    · refine ev_last fun k => ?_
      simp only [spec_Seconds.l0]
      have e : digC (bt s i) = false := by rw [Bool.eq_false_iff, Ne, digC_iff]; omega
      rw [if_pos hlt, if_pos h0, if_pos h1, e]
      rfl
    · by_cases h2 : bt s i > 57
      · refine ev_last fun k => ?_
        simp only [spec_Seconds.l0]
        have e : digC (bt s i) = false := by rw [Bool.eq_false_iff, Ne, digC_iff]; omega
        rw [if_pos hlt, if_pos h0, if_neg h1, if_pos h2, e]
        rfl
      · have e : digC (bt s i) = true := digC_iff.2 (by omega)
        have w1 : wrap64 (n * 10) = n * 10 := wrap_id (by omega) (by omega)
        have w2 : (bt s i - 48) % 256 = bt s i - 48 := Int.emod_eq_of_lt (by omega) (by omega)
        have w3 : wrap64 (n * 10 + (bt s i - 48)) = n * 10 + (bt s i - 48) := wrap_id (by omega) (by omega)
        have hmn : 0 ≤ mn (n * 10 + (bt s i - 48)) 2147483648 ∧ mn (n * 10 + (bt s i - 48)) 2147483648 ≤ 2147483648 := by unfold mn; split <;> omega
        refine Ev.step (f := fun k => spec_Seconds.l0 k s (mn (n * 10 + (bt s i - 48)) 2147483648) (i + 1)) (fun k => ?_) (ev_eq (spec_Seconds_l0 s hs d _ (i + 1) (by omega) (by omega) hmn.1 hmn.2) (by rw [e, Bool.true_and, satV]))
        simp only [spec_Seconds.l0]
        rw [if_pos hlt, if_pos h0, if_neg h1, if_neg h2, w1, w2, w3, wrap_id (by omega) (by omega)]
theorem spec_Seconds_ev (s : ByteArray) (hs : s.size ≤ 8388608) : Ev (fun k => spec_Seconds.f k s) (secP (bytesOf s)) := by
  have h := spec_Seconds_l0 s hs s.size 0 0 (by omega) (by omega) (by omega) (by omega)
  unfold secP
  rw [bytesOf_length]
  exact h

end Go.Proofs.YtjldfmkpdkhnnaaGreatDoor.Pure

namespace Go.Proofs.YtjldfmkpdkhnnaaGreatDoor.Pure
set_option linter.unusedVariables false
set_option linter.unusedSimpArgs false
open Go.RowKit Go.Proofs.YtjldfmkpdkhnnaaGreatDoor.QL Go.Proofs.YtjldfmkpdkhnnaaGreatDoorW.PrintWords Go.Proofs.YtjldfmkpdkhnnaaGreatDoorW.PrintLast Go.Proofs.YtjldfmkpdkhnnaaGreatDoorW.PrintMore Go.Proofs.YtjldfmkpdkhnnaaGreatDoor.Aux Go.Proofs.YtjldfmkpdkhnnaaGreatDoor.Dom Go.Proofs.YtjldfmkpdkhnnaaGreatDoor.Ext
theorem spec_SatAdd_eq (a b : Int) : spec_SatAdd.f a b = some (satP a b) := rfl

end Go.Proofs.YtjldfmkpdkhnnaaGreatDoor.Pure

namespace Go.Proofs.YtjldfmkpdkhnnaaGreatDoor.Pure
set_option linter.unusedVariables false
set_option linter.unusedSimpArgs false
open Go.RowKit Go.Proofs.YtjldfmkpdkhnnaaGreatDoor.QL Go.Proofs.YtjldfmkpdkhnnaaGreatDoorW.PrintWords Go.Proofs.YtjldfmkpdkhnnaaGreatDoorW.PrintLast Go.Proofs.YtjldfmkpdkhnnaaGreatDoorW.PrintMore Go.Proofs.YtjldfmkpdkhnnaaGreatDoor.Aux Go.Proofs.YtjldfmkpdkhnnaaGreatDoor.Dom Go.Proofs.YtjldfmkpdkhnnaaGreatDoor.Ext
theorem spec_FirstAge_j0 (asked came told date : Int) (ha : -9223372036854775808 ≤ asked) (hc : came ≤ 9223372036854775807) (b : Bool) (hb : b = true → came > date ∧ 0 ≤ date) :
    Ev (fun k => spec_FirstAge.j0 k asked came told date 0 b) (mx (if b = true then mn (came - date) 2147483648 else 0) (satP told (laterP came asked))) := by
  have key : ∀ ap : Int, (if came > asked then (if asked ≥ 0 then (some (mx ap (satP told (came - asked)))) else some (mx ap (satP told 0))) else some (mx ap (satP told 0))) = some (mx ap (satP told (laterP came asked))) := by
    intro ap
    unfold laterP
    by_cases h1 : came > asked
    · rw [if_pos h1]
      by_cases h2 : asked ≥ 0
      · rw [if_pos h2, if_neg (by omega), if_neg (by omega)]
      · rw [if_neg h2, if_pos (by omega)]
    · rw [if_neg h1]
      by_cases h2 : asked < 0
      · rw [if_pos h2]
      · rw [if_neg h2, if_pos (by omega)]
  cases b with
  | true =>
    obtain ⟨h1, h2⟩ := hb rfl
    refine ev_last fun k => ?_
    rw [if_pos rfl, ← key]
    simp only [spec_FirstAge.j0]
    rw [if_pos (by trivial), wrap_id (x := came - date) (by omega) (by omega)]
    by_cases c1 : came > asked
    · rw [if_pos c1, if_pos c1]
      by_cases c2 : asked ≥ 0
      · rw [if_pos c2, if_pos c2, wrap_id (x := came - asked) (by omega) (by omega), spec_SatAdd_eq, Option.bind_some]
      · rw [if_neg c2, if_neg c2, spec_SatAdd_eq, Option.bind_some]
    · rw [if_neg c1, if_neg c1, spec_SatAdd_eq, Option.bind_some]
  | false =>
    refine ev_last fun k => ?_
    rw [if_neg (by decide), ← key]
    simp only [spec_FirstAge.j0]
    rw [if_neg (by decide)]
    by_cases c1 : came > asked
    · rw [if_pos c1, if_pos c1]
      by_cases c2 : asked ≥ 0
      · rw [if_pos c2, if_pos c2, wrap_id (x := came - asked) (by omega) (by omega), spec_SatAdd_eq, Option.bind_some]
      · rw [if_neg c2, if_neg c2, spec_SatAdd_eq, Option.bind_some]
    · rw [if_neg c1, if_neg c1, spec_SatAdd_eq, Option.bind_some]
theorem spec_FirstAge_ev (st : Int) (l : List S99) (b : ByteArray) (asked came : Int) (hl : l.length ≤ 1048576) (hz : ¬ szF 1048576 (l.map fun x => (x.f0, x.f1)) < 0) (ha : -9223372036854775808 ≤ asked) (hc : came ≤ 9223372036854775807) : Ev (fun k => spec_FirstAge.f k st l b asked came) (firstAgeP (l.map fun x => (x.f0, x.f1)) asked came) := by
  have q1 := szF_sum nmAge (by omega) hz
  have j1 := joinG_size nmAge _ (by omega) hz
  have sc := spec_Seconds_ev (joinG nmAge (l.map fun x => (x.f0, x.f1))) (by omega)
  refine Ev.congr (fun k => by unfold spec_FirstAge.f; rfl) (ev_bind (spec_FieldGet_ev l nmAge hl (by omega)) (ev_bind sc (ev_bind (spec_DateOf_ev l nmDate hl hz) ?_)))
  have hd := dateOfP_bd (l.map fun x => (x.f0, x.f1)) nmDate
  unfold firstAgeP appP
  generalize dateOfP (l.map fun x => (x.f0, x.f1)) nmDate = q at hd
  by_cases h : q.2 = true
  · rw [if_pos h]
    refine ev_if_pos h (ev_eq (spec_FirstAge_j0 asked came _ q.1 ha hc (decide (came > q.1)) (fun e => ⟨of_decide_eq_true e, hd.1⟩)) ?_)
    congr 1
    unfold laterP withinP
    by_cases c : came > q.1
    · rw [if_pos (decide_eq_true c), if_neg (by omega), if_neg (by omega)]
      unfold mx mn
      (repeat' split) <;> omega
    · rw [if_neg (by rw [decide_eq_false c]; decide), if_neg (by omega), if_pos (by omega)]
      rfl
  · rw [if_neg h]
    exact ev_if_neg h (spec_FirstAge_j0 asked came _ q.1 ha hc false (fun e => by cases e))

end Go.Proofs.YtjldfmkpdkhnnaaGreatDoor.Pure

namespace Go.Proofs.YtjldfmkpdkhnnaaGreatDoor.Pure
set_option linter.unusedVariables false
set_option linter.unusedSimpArgs false
open Go.RowKit Go.Proofs.YtjldfmkpdkhnnaaGreatDoor.QL Go.Proofs.YtjldfmkpdkhnnaaGreatDoorW.PrintWords Go.Proofs.YtjldfmkpdkhnnaaGreatDoorW.PrintLast Go.Proofs.YtjldfmkpdkhnnaaGreatDoorW.PrintMore Go.Proofs.YtjldfmkpdkhnnaaGreatDoor.Aux Go.Proofs.YtjldfmkpdkhnnaaGreatDoor.Dom Go.Proofs.YtjldfmkpdkhnnaaGreatDoor.Ext
theorem impl_FieldGet_l0 (l : List S99) (nm : ByteArray) (hl : l.length ≤ 1048576) (V : List ByteArray) (hV : (V.map fun v => v.size + 2).sum ≤ 8388608) (hW : V.length ≤ 1048576) : ∀ (d : Nat) (acc : List ByteArray) (i : Int), 0 ≤ i → (l.length : Int) - i = d → acc ++ getL nm ((l.drop i.toNat).map fun x => (x.f0, x.f1)) = V →
    Ev (fun k => impl_FieldGet.l0 k nm acc l (l.length : Int) i) (joinB ⟨#[44, 32]⟩ V, !V.isEmpty)
  | 0, acc, i, h0, hd, ha => by
    refine ev_last fun k => ?_
    simp only [impl_FieldGet.l0]
    rw [drop_nil (by omega)] at ha
    simp only [List.map_nil, getL, List.append_nil] at ha
    subst ha
    have hs : (joinB ⟨#[44, 32]⟩ acc).size ≤ (acc.map fun v => v.size + 2).sum := joinB_size ⟨#[44, 32]⟩ acc
    rw [if_neg (by omega), strings_Join.f, if_pos ⟨by omega, by omega⟩, Option.bind_some]
    cases acc <;> simp
  | d + 1, acc, i, h0, hd, ha => by
    have hlt : i < (l.length : Int) := by omega
    have hdrop : l.drop i.toNat = rd_T99 l i :: l.drop (i + 1).toNat := drop_rdOf (d := z99) h0 hlt
    rw [hdrop] at ha
    simp only [List.map_cons, getL] at ha
    by_cases h : (rd_T99 l i).f0 = nm
    · rw [if_pos h] at ha
      have hlen : acc.length < 8796093022208 := by
        have := congrArg List.length ha
        simp at this
        omega
      refine Ev.step (f := fun k => impl_FieldGet.l0 k nm (acc ++ [(rd_T99 l i).f1]) l (l.length : Int) (i + 1)) (fun k => ?_) (impl_FieldGet_l0 l nm hl V hV hW d (acc ++ [(rd_T99 l i).f1]) (i + 1) (by omega) (by omega) (by rw [← ha]; simp))
      simp only [impl_FieldGet.l0]
      rw [if_pos hlt, if_pos h0, if_pos hlt, if_pos (by rw [h]), if_pos hlen, wrap_id (by omega) (by omega)]
    · rw [if_neg h] at ha
      refine Ev.step (f := fun k => impl_FieldGet.l0 k nm acc l (l.length : Int) (i + 1)) (fun k => ?_) (impl_FieldGet_l0 l nm hl V hV hW d acc (i + 1) (by omega) (by omega) ha)
      simp only [impl_FieldGet.l0]
      rw [if_pos hlt, if_pos h0, if_pos hlt, if_neg (by rw [toList_eq_iff]; exact h), wrap_id (by omega) (by omega)]
theorem impl_FieldGet_ev (l : List S99) (nm : ByteArray) (hl : l.length ≤ 1048576) (hV : ((getL nm (l.map fun x => (x.f0, x.f1))).map fun v => v.size + 2).sum ≤ 8388608) : Ev (fun k => impl_FieldGet.f k l nm) (joinB ⟨#[44, 32]⟩ (getL nm (l.map fun x => (x.f0, x.f1))), !(getL nm (l.map fun x => (x.f0, x.f1))).isEmpty) := by
  have hW := getL_length nm (l.map fun x => (x.f0, x.f1))
  rw [List.length_map] at hW
  have h := impl_FieldGet_l0 l nm hl _ hV (by omega) l.length [] 0 (by omega) (by omega) (by simp)
  simpa [impl_FieldGet.f] using h

end Go.Proofs.YtjldfmkpdkhnnaaGreatDoor.Pure

namespace Go.Proofs.YtjldfmkpdkhnnaaGreatDoor.Pure
set_option linter.unusedVariables false
set_option linter.unusedSimpArgs false
open Go.RowKit Go.Proofs.YtjldfmkpdkhnnaaGreatDoor.QL Go.Proofs.YtjldfmkpdkhnnaaGreatDoorW.PrintWords Go.Proofs.YtjldfmkpdkhnnaaGreatDoorW.PrintLast Go.Proofs.YtjldfmkpdkhnnaaGreatDoorW.PrintMore Go.Proofs.YtjldfmkpdkhnnaaGreatDoor.Aux Go.Proofs.YtjldfmkpdkhnnaaGreatDoor.Dom Go.Proofs.YtjldfmkpdkhnnaaGreatDoor.Ext
theorem strconv_Atoi_short (s : ByteArray) (n : Int) (hs : s.size ≤ 18) (h : Lib.atoi s.data.toList = some n) : strconv_Atoi.f s = some (n, none) := by
  unfold strconv_Atoi.f
  rw [if_pos (by omega), Lib.atoiAll_short _ (by rw [← Lib.size_eq]; exact hs), h]
  rfl
theorem atoi_dig (ds : List Int) (hd : ds.all digC = true) (hne : ds ≠ []) : Lib.atoi (strOfNums ds).data.toList = some (valL 0 ds) := by
  have hr : bytesOf (strOfNums ds) = ds := bytesOf_strOfNums fun c hc => by
    have := digC_iff.1 (List.all_eq_true.1 hd c hc)
    omega
  have hm : ((strOfNums ds).data.toList.map fun b : UInt8 => (b.toNat : Int)) = ds := hr
  obtain ⟨m, h1, h2⟩ := decFrom_val (strOfNums ds).data.toList 0 (by rw [hm]; exact hd)
  rw [hm] at h2
  cases hl : (strOfNums ds).data.toList with
  | nil => rw [hl] at hm; exact absurd hm.symm hne
  | cons b r =>
    rw [hl] at hm h1
    have hb : digC (b.toNat : Int) = true := by
      rw [← hm] at hd
      rw [List.map_cons, List.all_cons, Bool.and_eq_true] at hd
      exact hd.1
    rw [digC_iff] at hb
    have n45 : (b == 45) = false := beq_eq_false_iff_ne.mpr fun e => by subst e; simp at hb
    have n43 : (b == 43) = false := beq_eq_false_iff_ne.mpr fun e => by subst e; simp at hb
    rw [Lib.atoi, if_neg (by rw [n45]; decide), if_neg (by rw [n43]; decide), Lib.decNat, if_neg (by simp), h1, Option.map_some, h2]
    rfl
theorem strconv_Atoi_dig (ds : List Int) (hd : ds.all digC = true) (hne : ds ≠ []) (hl : ds.length ≤ 18) : strconv_Atoi.f (strOfNums ds) = some (valL 0 ds, none) :=
  strconv_Atoi_short _ _ (by rw [strOfNums_size]; exact hl) (atoi_dig ds hd hne)
theorem strconv_Atoi_dec (ds : List Int) (hd : ds.all digC = true) (hl : ds.length ≤ 10) : strconv_Atoi.f ((⟨#[48]⟩ : ByteArray) ++ strOfNums ds) = some (valL 0 ds, none) := by
  have e : (⟨#[48]⟩ : ByteArray) ++ strOfNums ds = strOfNums (48 :: ds) := by
    rw [show (48 :: ds : List Int) = [48] ++ ds from rfl, strOfNums_append]
    rfl
  rw [e, strconv_Atoi_dig (48 :: ds) (by rw [List.all_cons, hd]; rfl) (by simp) (by simp; omega)]
  rfl
end Go.Proofs.YtjldfmkpdkhnnaaGreatDoor.Pure

namespace Go.Proofs.YtjldfmkpdkhnnaaGreatDoor.Pure
set_option linter.unusedVariables false
set_option linter.unusedSimpArgs false
open Go.RowKit Go.Proofs.YtjldfmkpdkhnnaaGreatDoor.QL Go.Proofs.YtjldfmkpdkhnnaaGreatDoorW.PrintWords Go.Proofs.YtjldfmkpdkhnnaaGreatDoorW.PrintLast Go.Proofs.YtjldfmkpdkhnnaaGreatDoorW.PrintMore Go.Proofs.YtjldfmkpdkhnnaaGreatDoor.Aux Go.Proofs.YtjldfmkpdkhnnaaGreatDoor.Dom Go.Proofs.YtjldfmkpdkhnnaaGreatDoor.Ext
def numA (s : ByteArray) : Int := if (bytesOf s).all digC = true then (match Lib.atoiAll s.data.toList with
  | .ok v => v
  | .range => Lib.atoiSat s.data.toList
  | _ => 0) else -1
theorem numA_short {s : ByteArray} (h : s.size ≤ 18) : numA s = numP (bytesOf s) := by
  unfold numA numP
  by_cases ha : (bytesOf s).all digC = true
  · rw [if_pos ha, if_pos ha]
    by_cases hn : bytesOf s = []
    · have hs : s = ⟨#[]⟩ := bytesOf_inj (hn.trans rfl)
      subst hs
      rfl
    · have h1 := atoi_dig (bytesOf s) ha hn
      rw [strOfNums_bytesOf] at h1
      rw [Lib.atoiAll_short _ (by rw [← Lib.size_eq]; exact h), h1]
      rfl
  · rw [if_neg ha, if_neg ha]
theorem strconv_Atoi_num (s : ByteArray) (hs : s.size ≤ 8388608) (ha : (bytesOf s).all digC = true) : ∃ e, strconv_Atoi.f s = some (numA s, e) := by
  unfold strconv_Atoi.f numA
  rw [if_pos hs, if_pos ha]
  cases hc : Lib.atoiAll s.data.toList with
  | ok v => exact ⟨none, rfl⟩
  | range => exact ⟨some 0, rfl⟩
  | _ => exact ⟨some 0, rfl⟩
theorem impl_number_l0 (s : ByteArray) (hs : s.size ≤ 8388608) : ∀ (d : Nat) (i : Int), 0 ≤ i → (s.size : Int) - i = d → ((bytesOf s).take i.toNat).all digC = true →
    Ev (fun k => impl_number.l0 k s (s.size : Int) i) (numA s)
  | 0, i, h0, hd, ht => by
    have hl := bytesOf_length s
    have hall : (bytesOf s).all digC = true := by rw [List.take_of_length_le (by omega)] at ht; exact ht
    obtain ⟨e, he⟩ := strconv_Atoi_num s hs hall
    refine ev_last fun k => ?_
    simp only [impl_number.l0]
    rw [if_neg (by omega), he, Option.bind_some]
  | d + 1, i, h0, hd, ht => by
    have hlt : i < (s.size : Int) := by omega
    have hl := bytesOf_length s
    have hmem : bt s i ∈ bytesOf s := List.mem_of_mem_drop (i := i.toNat) (by rw [drop_bt h0 hlt]; exact List.mem_cons_self)
    by_cases h1 : digC (bt s i) = true
    · have h2 := digC_iff.1 h1
      refine Ev.step (f := fun k => impl_number.l0 k s (s.size : Int) (i + 1)) (fun k => ?_) (impl_number_l0 s hs d (i + 1) (by omega) (by omega) ?_)
      · simp only [impl_number.l0]
        rw [if_pos hlt, if_pos h0, if_pos hlt, if_neg (by omega), if_neg (by omega), wrap_id (by omega) (by omega)]
      · have e : (bytesOf s).take (i + 1).toNat = (bytesOf s).take i.toNat ++ [bt s i] := by
          have h3 := List.take_append_drop i.toNat ((bytesOf s).take (i + 1).toNat)
          rw [List.take_take, Nat.min_eq_left (by omega), List.drop_take, drop_bt h0 hlt, show (i + 1).toNat - i.toNat = 1 by omega] at h3
          rw [← h3]
          rfl
        rw [e, List.all_append, ht, List.all_cons, h1]
        rfl
    · have hn : ¬ (bytesOf s).all digC = true := fun h => h1 (List.all_eq_true.1 h _ hmem)
      unfold numA
      rw [if_neg hn]
      rw [digC_iff] at h1
      refine ev_last fun k => ?_
      simp only [impl_number.l0]
      rw [if_pos hlt, if_pos h0, if_pos hlt]
      by_cases h3 : bt s i < 48
      · rw [if_pos h3]
      · rw [if_neg h3, if_pos (by omega)]
theorem impl_number_ev (s : ByteArray) (hs : s.size ≤ 8388608) : Ev (fun k => impl_number.f k s) (numA s) :=
  impl_number_l0 s hs s.size 0 (by omega) (by omega) (by simp)

end Go.Proofs.YtjldfmkpdkhnnaaGreatDoor.Pure

namespace Go.Proofs.YtjldfmkpdkhnnaaGreatDoor.Pure
set_option linter.unusedVariables false
set_option linter.unusedSimpArgs false
open Go.RowKit Go.Proofs.YtjldfmkpdkhnnaaGreatDoor.QL Go.Proofs.YtjldfmkpdkhnnaaGreatDoorW.PrintWords Go.Proofs.YtjldfmkpdkhnnaaGreatDoorW.PrintLast Go.Proofs.YtjldfmkpdkhnnaaGreatDoorW.PrintMore Go.Proofs.YtjldfmkpdkhnnaaGreatDoor.Aux Go.Proofs.YtjldfmkpdkhnnaaGreatDoor.Dom Go.Proofs.YtjldfmkpdkhnnaaGreatDoor.Ext
theorem slices_Index_l0 (L : List ByteArray) (w : ByteArray) (hL : L.length ≤ 1000000) : ∀ (d : Nat) (i : Int), 0 ≤ i → (L.length : Int) - i = d →
    Ev (fun k => slices_Index_string_string.l0 k L w (L.length : Int) i) (if idxT w (L.drop i.toNat) = -1 then -1 else idxT w (L.drop i.toNat) + i)
  | 0, i, h0, hd => by
    refine ev_last fun k => ?_
    simp only [slices_Index_string_string.l0]
    rw [if_neg (by omega), drop_nil (by omega)]
    rfl
  | d + 1, i, h0, hd => by
    have hlt : i < (L.length : Int) := by omega
    have hdrop : L.drop i.toNat = rdOf ByteArray.empty L i :: L.drop (i + 1).toNat := drop_rdOf (d := ByteArray.empty) h0 hlt
    rw [hdrop, idxT]
    by_cases h : w = rdOf ByteArray.empty L i
    · rw [if_pos h, if_neg (by decide)]
      refine ev_last fun k => ?_
      simp only [slices_Index_string_string.l0]
      rw [if_pos hlt, if_pos h0, if_pos hlt, if_pos (by rw [← h]), Int.zero_add]
    · rw [if_neg h]
      refine Ev.step (f := fun k => slices_Index_string_string.l0 k L w (L.length : Int) (i + 1)) (fun k => ?_) (ev_eq (slices_Index_l0 L w hL d (i + 1) (by omega) (by omega)) ?_)
      · simp only [slices_Index_string_string.l0]
        rw [if_pos hlt, if_pos h0, if_pos hlt, if_neg (by rw [toList_eq_iff]; exact h), wrap_id (by omega) (by omega)]
      · have hb := idxT_bd w (L.drop (i + 1).toNat)
        by_cases h2 : idxT w (L.drop (i + 1).toNat) = -1
        · rw [if_pos h2, if_pos h2, if_pos rfl]
        · rw [if_neg h2, if_neg h2, if_neg (by omega)]
          omega
theorem slices_Index_ev (L : List ByteArray) (w : ByteArray) (hL : L.length ≤ 1000000) : Ev (fun k => slices_Index_string_string.f k L w) (idxT w L) := by
  refine ev_eq (slices_Index_l0 L w hL L.length 0 (by omega) (by omega)) ?_
  simp only [Int.toNat_zero, List.drop_zero, Int.add_zero]
  split
  · rename_i h; exact h.symm
  · rfl

end Go.Proofs.YtjldfmkpdkhnnaaGreatDoor.Pure

namespace Go.Proofs.YtjldfmkpdkhnnaaGreatDoor.Pure
set_option linter.unusedVariables false
set_option linter.unusedSimpArgs false
open Go.RowKit Go.Proofs.YtjldfmkpdkhnnaaGreatDoor.QL Go.Proofs.YtjldfmkpdkhnnaaGreatDoorW.PrintWords Go.Proofs.YtjldfmkpdkhnnaaGreatDoorW.PrintLast Go.Proofs.YtjldfmkpdkhnnaaGreatDoorW.PrintMore Go.Proofs.YtjldfmkpdkhnnaaGreatDoor.Aux Go.Proofs.YtjldfmkpdkhnnaaGreatDoor.Dom Go.Proofs.YtjldfmkpdkhnnaaGreatDoor.Ext
theorem impl_in_eq (a b c : Int) : impl_in.f a b c = some (decide (b ≤ a ∧ a ≤ c)) := by
  unfold impl_in.f
  by_cases h : a ≥ b
  · rw [if_pos h]; simp [show b ≤ a from h]
  · rw [if_neg h]; simp [show ¬ b ≤ a from h]

end Go.Proofs.YtjldfmkpdkhnnaaGreatDoor.Pure

namespace Go.Proofs.YtjldfmkpdkhnnaaGreatDoor.Pure
set_option linter.unusedVariables false
set_option linter.unusedSimpArgs false
open Go.RowKit Go.Proofs.YtjldfmkpdkhnnaaGreatDoor.QL Go.Proofs.YtjldfmkpdkhnnaaGreatDoorW.PrintWords Go.Proofs.YtjldfmkpdkhnnaaGreatDoorW.PrintLast Go.Proofs.YtjldfmkpdkhnnaaGreatDoorW.PrintMore Go.Proofs.YtjldfmkpdkhnnaaGreatDoor.Aux Go.Proofs.YtjldfmkpdkhnnaaGreatDoor.Dom Go.Proofs.YtjldfmkpdkhnnaaGreatDoor.Ext
theorem impl_IsLeap_eq {y : Int} (h : 0 ≤ y) : impl_IsLeap.f y = some (leapB y) := by
  unfold impl_IsLeap.f leapB
  rw [Int.tmod_eq_emod_of_nonneg h, Int.tmod_eq_emod_of_nonneg h, Int.tmod_eq_emod_of_nonneg h]
  by_cases h4 : y % 4 = 0
  · rw [if_pos h4]
    by_cases h100 : y % 100 = 0
    · rw [if_pos h100]
      congr 1
      rw [Bool.eq_iff_iff]; simp; omega
    · rw [if_neg h100, decide_eq_true (Or.inl ⟨h4, h100⟩)]
  · rw [if_neg h4]
    congr 1
    rw [Bool.eq_iff_iff]; simp; omega

end Go.Proofs.YtjldfmkpdkhnnaaGreatDoor.Pure

namespace Go.Proofs.YtjldfmkpdkhnnaaGreatDoor.Pure
set_option linter.unusedVariables false
set_option linter.unusedSimpArgs false
open Go.RowKit Go.Proofs.YtjldfmkpdkhnnaaGreatDoor.QL Go.Proofs.YtjldfmkpdkhnnaaGreatDoorW.PrintWords Go.Proofs.YtjldfmkpdkhnnaaGreatDoorW.PrintLast Go.Proofs.YtjldfmkpdkhnnaaGreatDoorW.PrintMore Go.Proofs.YtjldfmkpdkhnnaaGreatDoor.Aux Go.Proofs.YtjldfmkpdkhnnaaGreatDoor.Dom Go.Proofs.YtjldfmkpdkhnnaaGreatDoor.Ext
theorem impl_monthDays_eq {y m : Int} (hy : 0 ≤ y) (h1 : 1 ≤ m) (h2 : m ≤ 12) : impl_monthDays.f y m = some (monthD y m) := by
  unfold impl_monthDays.f
  rw [impl_IsLeap_eq hy]
  have hm : m = 1 ∨ m = 2 ∨ m = 3 ∨ m = 4 ∨ m = 5 ∨ m = 6 ∨ m = 7 ∨ m = 8 ∨ m = 9 ∨ m = 10 ∨ m = 11 ∨ m = 12 := by omega
  cases hl : leapB y with
  | true => rcases hm with rfl | rfl | rfl | rfl | rfl | rfl | rfl | rfl | rfl | rfl | rfl | rfl <;> simp [monthD, hl, rd, wrap64]
  | false => rcases hm with rfl | rfl | rfl | rfl | rfl | rfl | rfl | rfl | rfl | rfl | rfl | rfl <;> simp [monthD, hl, rd, wrap64]
theorem impl_yearDays_eq {y : Int} (hy : 0 ≤ y) : impl_yearDays.f y = some (yearD y) := by
  unfold impl_yearDays.f yearD
  rw [impl_IsLeap_eq hy, Option.bind_some]
  cases leapB y <;> rfl
theorem impl_DaysOf_l1 (y m : Int) (hy : 0 ≤ y) (hm : m ≤ 13) : ∀ (d : Nat) (n i : Int), 1 ≤ i → m - i = d → 0 ≤ n → n + 31 * d ≤ 100000 → Ev (fun k => impl_DaysOf.l1 k y m n i) (n + monthsD y d i)
  | 0, n, i, h1, hd, n0, n1 => by
    refine ev_last fun k => ?_
    simp only [impl_DaysOf.l1]
    rw [if_neg (by omega)]
    simp [monthsD]
  | d + 1, n, i, h1, hd, n0, n1 => by
    have hb := monthD_bd y i
    refine Ev.step (f := fun k => impl_DaysOf.l1 k y m (n + monthD y i) (i + 1)) (fun k => ?_) (ev_eq (impl_DaysOf_l1 y m hy hm d _ (i + 1) (by omega) (by omega) (by omega) (by omega)) (by rw [monthsD]; omega))
    simp only [impl_DaysOf.l1]
    rw [if_pos (by omega), impl_monthDays_eq hy h1 (by omega), Option.bind_some, wrap_id (by omega) (by omega), wrap_id (by omega) (by omega)]
theorem impl_DaysOf_l0 (y m : Int) (hy : y ≤ 2037) (h1970 : 1970 ≤ y) (hm1 : 1 ≤ m) (hm : m ≤ 12) : ∀ (d : Nat) (n i : Int), 1970 ≤ i → y - i = d → 0 ≤ n → n + 366 * d ≤ 50000 → Ev (fun k => impl_DaysOf.l0 k y m n i) (n + yearsD d i + monthsD y (m - 1).toNat 1)
  | 0, n, i, h1, hd, n0, n1 => by
    refine Ev.step (f := fun k => impl_DaysOf.l1 k y m n 1) (fun k => ?_) (ev_eq (impl_DaysOf_l1 y m (by omega) (by omega) (m - 1).toNat n 1 (by omega) (by omega) n0 (by omega)) (by simp [yearsD]))
    simp only [impl_DaysOf.l0]
    rw [if_neg (by omega)]
  | d + 1, n, i, h1, hd, n0, n1 => by
    have hb := yearD_bd i
    refine Ev.step (f := fun k => impl_DaysOf.l0 k y m (n + yearD i) (i + 1)) (fun k => ?_) (ev_eq (impl_DaysOf_l0 y m hy h1970 hm1 hm d _ (i + 1) (by omega) (by omega) (by omega) (by omega)) (by rw [yearsD]; omega))
    simp only [impl_DaysOf.l0]
    rw [if_pos (by omega), impl_yearDays_eq (by omega), Option.bind_some, wrap_id (by omega) (by omega), wrap_id (by omega) (by omega)]
theorem impl_DaysOf_ev (y m d : Int) : Ev (fun k => impl_DaysOf.f k y m d) (daysP y m d) := by
  have hbad : ∀ k, impl_DaysOf.j0 (k + 1) y m d true = some (-1) := fun k => by simp only [impl_DaysOf.j0]; rw [if_pos trivial]
  refine Ev.congr (fun k => by unfold impl_DaysOf.f; rw [impl_in_eq, Option.bind_some]) ?_
  unfold daysP
  by_cases h1 : 1970 ≤ y ∧ y ≤ 2037
  · refine ev_if_pos (by simpa using h1) ?_
    refine Ev.congr (fun k => by rw [impl_in_eq, Option.bind_some]) ?_
    by_cases h2 : 1 ≤ m ∧ m ≤ 12
    · refine ev_if_pos (by simpa using h2) ?_
      refine Ev.congr (fun k => by rw [impl_monthDays_eq (by omega) h2.1 h2.2, Option.bind_some, impl_in_eq, Option.bind_some]) ?_
      have hb := monthD_bd y m
      by_cases h3 : 1 ≤ d ∧ d ≤ monthD y m
      · rw [decide_eq_true h3, if_pos ⟨h1, h2, h3⟩]
        refine Ev.step (f := fun k => impl_DaysOf.l0 k y m (d - 1) 1970) (fun k => ?_) (ev_eq (impl_DaysOf_l0 y m h1.2 h1.1 h2.1 h2.2 (y - 1970).toNat (d - 1) 1970 (by omega) (by omega) (by omega) (by omega)) (by omega))
        simp only [impl_DaysOf.j0]
        rw [if_neg (by decide), wrap_id (by omega) (by omega)]
      · rw [decide_eq_false h3, if_neg (fun h => h3 h.2.2)]
        exact ev_last hbad
    · rw [if_neg (fun h => h2 h.2.1)]
      exact ev_if_neg (by simpa using h2) (ev_last hbad)
  · rw [if_neg (fun h => h1 h.1)]
    exact ev_if_neg (by simpa using h1) (ev_last hbad)

end Go.Proofs.YtjldfmkpdkhnnaaGreatDoor.Pure

namespace Go.Proofs.YtjldfmkpdkhnnaaGreatDoor.Pure
set_option linter.unusedVariables false
set_option linter.unusedSimpArgs false
open Go.RowKit Go.Proofs.YtjldfmkpdkhnnaaGreatDoor.QL Go.Proofs.YtjldfmkpdkhnnaaGreatDoorW.PrintWords Go.Proofs.YtjldfmkpdkhnnaaGreatDoorW.PrintLast Go.Proofs.YtjldfmkpdkhnnaaGreatDoorW.PrintMore Go.Proofs.YtjldfmkpdkhnnaaGreatDoor.Aux Go.Proofs.YtjldfmkpdkhnnaaGreatDoor.Dom Go.Proofs.YtjldfmkpdkhnnaaGreatDoor.Ext
theorem impl_two_eq {n : Int} (h0 : 0 ≤ n) (h1 : n ≤ 99) : impl_two.f n = some (strOfNums (twoL n)) := by
  unfold impl_two.f strconv_Itoa.f
  rw [wrap_id (by omega) (by omega), if_pos ⟨by omega, by omega⟩, Option.bind_some]
  have e : decB (100 + n) = strOfNums (49 :: twoL n) := by unfold decB; rw [decP_100 h0 h1]
  rw [e, if_pos (by rw [strOfNums_size]; simp [twoL])]
  congr 1
theorem impl_ShowDate_fin (k : Nat) (d rest y m wd : Int) (hy : 1970 ≤ y) (hy2 : y ≤ 2037) (hm : 1 ≤ m) (hm2 : m ≤ 12) (hd : 0 ≤ d) (hd2 : d < monthD y m) (hr0 : 0 ≤ rest) (hr1 : rest < 86400) :
    impl_ShowDate.l1 (k + 1) d rest (strOfNums (weekL wd)) y m = some (strOfNums (weekL wd ++ [44, 32] ++ twoL (d + 1) ++ [32] ++ monL m ++ [32] ++ decP y ++ [32] ++ twoL (rest / 3600) ++ [58] ++ twoL (rest / 60 % 60) ++ [58] ++ twoL (rest % 60) ++ [32, 71, 77, 84])) := by
  have hb := monthD_bd y m
  have w1 : wrap64 (d + 1) = d + 1 := wrap_id (by omega) (by omega)
  have w2 : wrap64 (m - 1) = m - 1 := wrap_id (by omega) (by omega)
  have w3 : wrap64 (Int.tdiv rest 3600) = rest / 3600 := by rw [Int.tdiv_eq_ediv_of_nonneg hr0, wrap_id (by omega) (by omega)]
  have w4 : Int.tmod (wrap64 (Int.tdiv rest 60)) 60 = rest / 60 % 60 := by rw [Int.tdiv_eq_ediv_of_nonneg hr0, wrap_id (by omega) (by omega), Int.tmod_eq_emod_of_nonneg (by omega)]
  have w5 : Int.tmod rest 60 = rest % 60 := Int.tmod_eq_emod_of_nonneg hr0
  have s1 : (strOfNums (weekL wd)).size = 3 := by rw [strOfNums_size, weekL_length]
  have s2 : ∀ n, (strOfNums (twoL n)).size = 2 := fun n => by rw [strOfNums_size]; rfl
  have s3 : (strOfNums (monL m)).size = 3 := by rw [strOfNums_size, monL_length]
  have s4 : (decB y).size = 4 := by unfold decB; rw [decP_year (by omega) (by omega), strOfNums_size]; rfl
  have z1 : (⟨#[44, 32]⟩ : ByteArray).size = 2 := rfl
  have z2 : (⟨#[32]⟩ : ByteArray).size = 1 := rfl
  have z3 : (⟨#[58]⟩ : ByteArray).size = 1 := rfl
  have i1 : strconv_Itoa.f y = some (decB y) := by unfold strconv_Itoa.f; rw [if_pos ⟨by omega, by omega⟩]
  simp only [impl_ShowDate.l1, impl_monthDays_eq (y := y) (m := m) (by omega) hm hm2, Option.bind_some]
  rw [if_neg (by omega), w1, w2, w3, w4, w5, impl_two_eq (n := d + 1) (by omega) (by omega), impl_two_eq (n := rest / 3600) (by omega) (by omega), impl_two_eq (n := rest / 60 % 60) (by omega) (by omega), impl_two_eq (n := rest % 60) (by omega) (by omega), i1]
  simp only [impl_months.f, Option.bind_some]
  rw [if_pos (c := 0 ≤ m - 1) (by omega), if_pos (c := m - 1 < _) (by simp; omega)]
  simp only [months_rd hm hm2, ByteArray.size_append, s1, s2, s3, s4, z1, z2, z3, Nat.reduceAdd, Nat.reduceLeDiff, if_true]
  congr 1
  simp only [strOfNums_append, decB]
  rfl
theorem impl_ShowDate_l1 (rest y wd : Int) (hy : 1970 ≤ y) (hy2 : y ≤ 2037) (hr0 : 0 ≤ rest) (hr1 : rest < 86400) : ∀ (f : Nat) (m d : Int), 1 ≤ m → m + f = 13 → 0 ≤ d → d < monthsD y f m →
    Ev (fun k => impl_ShowDate.l1 k d rest (strOfNums (weekL wd)) y m) (strOfNums (weekL wd ++ [44, 32] ++ twoL ((mdL y f m d).2 + 1) ++ [32] ++ monL (mdL y f m d).1 ++ [32] ++ decP y ++ [32] ++ twoL (rest / 3600) ++ [58] ++ twoL (rest / 60 % 60) ++ [58] ++ twoL (rest % 60) ++ [32, 71, 77, 84]))
  | 0, m, d, h1, hf, h0, hd => by simp [monthsD] at hd; omega
  | f + 1, m, d, h1, hf, h0, hd => by
    have hb := monthD_bd y m
    have hb2 := monthsD_bd y f (m + 1)
    rw [monthsD] at hd
    rw [mdL]
    by_cases h : monthD y m ≤ d
    · rw [if_pos h]
      refine Ev.step (f := fun k => impl_ShowDate.l1 k (d - monthD y m) rest (strOfNums (weekL wd)) y (m + 1)) (fun k => ?_) (impl_ShowDate_l1 rest y wd hy hy2 hr0 hr1 f (m + 1) (d - monthD y m) (by omega) (by omega) (by omega) (by omega))
      simp only [impl_ShowDate.l1, impl_monthDays_eq (y := y) (m := m) (by omega) h1 (by omega), Option.bind_some]
      rw [if_pos h, wrap_id (x := d - monthD y m) (by omega) (by omega), wrap_id (x := m + 1) (by omega) (by omega)]
    · rw [if_neg h]
      exact ev_last fun k => impl_ShowDate_fin k d rest y m wd hy hy2 h1 (by omega) h0 (by omega) hr0 hr1
theorem impl_ShowDate_l0 (rest wd : Int) (hr0 : 0 ≤ rest) (hr1 : rest < 86400) : ∀ (f : Nat) (y d : Int), 1970 ≤ y → y + f = 2038 → 0 ≤ d → d < 365 * f →
    Ev (fun k => impl_ShowDate.l0 k d rest (strOfNums (weekL wd)) y 1) (strOfNums (weekL wd ++ [44, 32] ++ twoL ((mdL (ydL f y d).1 12 1 (ydL f y d).2).2 + 1) ++ [32] ++ monL (mdL (ydL f y d).1 12 1 (ydL f y d).2).1 ++ [32] ++ decP (ydL f y d).1 ++ [32] ++ twoL (rest / 3600) ++ [58] ++ twoL (rest / 60 % 60) ++ [58] ++ twoL (rest % 60) ++ [32, 71, 77, 84]))
  | 0, y, d, h1, hf, h0, hd => by omega
  | f + 1, y, d, h1, hf, h0, hd => by
    have hb := yearD_bd y
    rw [ydL]
    by_cases h : yearD y ≤ d
    · rw [if_pos h]
      refine Ev.step (f := fun k => impl_ShowDate.l0 k (d - yearD y) rest (strOfNums (weekL wd)) (y + 1) 1) (fun k => ?_) (impl_ShowDate_l0 rest wd hr0 hr1 f (y + 1) (d - yearD y) (by omega) (by omega) (by omega) (by omega))
      simp only [impl_ShowDate.l0, impl_yearDays_eq (y := y) (by omega), Option.bind_some]
      rw [if_pos h, wrap_id (x := d - yearD y) (by omega) (by omega), wrap_id (x := y + 1) (by omega) (by omega)]
    · rw [if_neg h]
      have hw := yearW_eq y
      unfold yearW at hw
      refine Ev.step (f := fun k => impl_ShowDate.l1 k d rest (strOfNums (weekL wd)) y 1) (fun k => ?_) (impl_ShowDate_l1 rest y wd h1 (by omega) hr0 hr1 12 1 d (by omega) (by omega) h0 (by omega))
      simp only [impl_ShowDate.l0, impl_yearDays_eq (y := y) (by omega), Option.bind_some]
      rw [if_neg (by omega)]
theorem impl_ShowDate_ev (sec : Int) (h0 : -9223372036854775808 ≤ sec) (h1 : sec ≤ 9223372036854775807) : Ev (fun k => impl_ShowDate.f k sec) (dateB sec) := by
  refine Ev.congr (fun k => by unfold impl_ShowDate.f; rw [impl_in_eq, Option.bind_some]) ?_
  unfold dateB
  by_cases h : 0 ≤ sec ∧ sec ≤ 2000000000
  · rw [if_pos h]
    refine ev_if_pos (by simpa using h) ?_
    have w1 : wrap64 (Int.tdiv sec 86400) = sec / 86400 := by rw [Int.tdiv_eq_ediv_of_nonneg h.1, wrap_id (by omega) (by omega)]
    have w2 : Int.tmod (sec / 86400) 7 = sec / 86400 % 7 := Int.tmod_eq_emod_of_nonneg (by omega)
    have w3 : Int.tmod sec 86400 = sec % 86400 := Int.tmod_eq_emod_of_nonneg h.1
    refine Ev.congr (fun k => by rw [w1, w2, w3, Option.bind_some, if_pos (by omega), if_pos (by simp; omega), week_rd (by omega) (by omega)]) ?_
    refine ev_eq (impl_ShowDate_l0 (sec % 86400) (sec / 86400 % 7) (by omega) (by omega) 68 1970 (sec / 86400) (by omega) (by omega) (by omega) (by omega)) ?_
    unfold dateL ymd
    rw [show (70 : Nat) = 68 + 2 from rfl, ydL_more 68 2 1970 (sec / 86400) (by omega) (by omega), show sec % 86400 / 3600 = sec / 3600 % 24 by omega, show sec % 86400 / 60 % 60 = sec / 60 % 60 by omega, show sec % 86400 % 60 = sec % 60 by omega]
  · rw [if_neg h]
    exact ev_if_neg (by simpa using h) (Ev.now _)

end Go.Proofs.YtjldfmkpdkhnnaaGreatDoor.Pure

namespace Go.Proofs.YtjldfmkpdkhnnaaGreatDoor.Pure
set_option linter.unusedVariables false
set_option linter.unusedSimpArgs false
open Go.RowKit Go.Proofs.YtjldfmkpdkhnnaaGreatDoor.QL Go.Proofs.YtjldfmkpdkhnnaaGreatDoorW.PrintWords Go.Proofs.YtjldfmkpdkhnnaaGreatDoorW.PrintLast Go.Proofs.YtjldfmkpdkhnnaaGreatDoorW.PrintMore Go.Proofs.YtjldfmkpdkhnnaaGreatDoor.Aux Go.Proofs.YtjldfmkpdkhnnaaGreatDoor.Dom Go.Proofs.YtjldfmkpdkhnnaaGreatDoor.Ext
theorem impl_ReadDate_ev (s : ByteArray) (hs : s.size ≤ 8388608) : Ev (fun k => impl_ReadDate.f k s) (readDateP s) := by
  have hsp : strings_Split.f s (⟨#[32]⟩ : ByteArray) = some ((splC 32 (bytesOf s)).map strOfNums) := by unfold strings_Split.f; rw [if_pos ⟨hs, rfl⟩]
  have hbad : ∀ L, Ev (fun k => impl_ReadDate.j0 k s L true) ((0 : Int), false) := fun L => ev_last fun k => by simp only [impl_ReadDate.j0]; rw [if_pos (by trivial)]
  -- what a date's parts are
  have hok : ∀ sec, s.size = 29 → dateB sec = s → 0 ≤ sec ∧ sec ≤ 2000000000 ∧ splC 32 (bytesOf s) = [weekL (sec / 86400 % 7) ++ [44], twoL (ymd (sec / 86400)).2.2, monL (ymd (sec / 86400)).2.1, decP (ymd (sec / 86400)).1, twoL (sec / 3600 % 24) ++ [58] ++ twoL (sec / 60 % 60) ++ [58] ++ twoL (sec % 60), [71, 77, 84]] := by
    intro sec h1 h2
    obtain ⟨a, b, c, _⟩ := dateB_some h1 h2
    exact ⟨a, b, by rw [c]; exact splC_date a b⟩
  refine Ev.congr (fun k => by unfold impl_ReadDate.f; rw [hsp, Option.bind_some]) ?_
  generalize hP : (splC 32 (bytesOf s)).map strOfNums = L
  have hPl : ∀ p ∈ L, p.size ≤ s.size := by
    intro p hp
    rw [← hP] at hp
    obtain ⟨q, hq, rfl⟩ := List.mem_map.1 hp
    rw [strOfNums_size]
    have := splC_mem (bytesOf s) 32 q hq
    rw [bytesOf_length] at this
    exact this
  by_cases h6 : (L.length : Int) = 6
  · refine ev_if_pos h6 ?_
    by_cases h29 : (s.size : Int) = 29
    · refine ev_if_pos h29 (ev_if_pos (by omega) ?_)
      by_cases h8 : ((rdOf ByteArray.empty L 4).size : Int) = 8
      · refine ev_if_pos h8 (ev_if_pos (by omega) ?_)
        by_cases h4 : ((rdOf ByteArray.empty L 3).size : Int) = 4
        · have hin : ∀ i : Int, 0 ≤ i → i < 6 → (rdOf ByteArray.empty L i).size ≤ s.size := by
            intro i i0 i1
            refine hPl _ (List.mem_of_mem_drop (i := i.toNat) ?_)
            rw [drop_rdOf (d := ByteArray.empty) i0 (by omega)]
            exact List.mem_cons_self
          have hc : (rdOf ByteArray.empty L 4).size = 8 := by omega
          have x1 : ((rdOf ByteArray.empty L 4).extract 0 2).size = 2 := by rw [ByteArray.size_extract]; omega
          have x2 : ((rdOf ByteArray.empty L 4).extract 3 5).size = 2 := by rw [ByteArray.size_extract]; omega
          have x3 : ((rdOf ByteArray.empty L 4).extract 6 (rdOf ByteArray.empty L 4).size).size = 2 := by rw [ByteArray.size_extract]; omega
          have n3 := impl_number_ev (rdOf ByteArray.empty L 3) (by omega)
          have n1 := impl_number_ev (rdOf ByteArray.empty L 1) (by have := hin 1 (by omega) (by omega); omega)
          have c1 := impl_number_ev ((rdOf ByteArray.empty L 4).extract 0 2) (by omega)
          have c2 := impl_number_ev ((rdOf ByteArray.empty L 4).extract 3 5) (by omega)
          have c3 := impl_number_ev ((rdOf ByteArray.empty L 4).extract 6 (rdOf ByteArray.empty L 4).size) (by omega)
          rw [numA_short (s := (rdOf ByteArray.empty L 4).extract 0 2) (by omega)] at c1
          rw [numA_short (s := (rdOf ByteArray.empty L 4).extract 3 5) (by omega)] at c2
          rw [numA_short (s := (rdOf ByteArray.empty L 4).extract 6 (rdOf ByteArray.empty L 4).size) (by omega)] at c3
          rw [numA_short (s := rdOf ByteArray.empty L 3) (by omega)] at n3
          have e2 : (10 : Int) ^ 2 = 100 := by decide
          have b1 := numP_bd (bytesOf ((rdOf ByteArray.empty L 4).extract 0 2)) 2 (by rw [bytesOf_length]; omega)
          have b2 := numP_bd (bytesOf ((rdOf ByteArray.empty L 4).extract 3 5)) 2 (by rw [bytesOf_length]; omega)
          have b3 := numP_bd (bytesOf ((rdOf ByteArray.empty L 4).extract 6 (rdOf ByteArray.empty L 4).size)) 2 (by rw [bytesOf_length]; omega)
          have ix := slices_Index_ev monthsB (rdOf ByteArray.empty L 2) (by decide)
          have ib := idxT_bd (rdOf ByteArray.empty L 2) monthsB
          have ibl : (monthsB.length : Int) = 12 := rfl
          have hmo : impl_months.f = some monthsB := rfl
          have key : ∀ sec, dateB sec = s → sec = daysP (numP (bytesOf (rdOf ByteArray.empty L 3))) (idxT (rdOf ByteArray.empty L 2) monthsB + 1) (numA (rdOf ByteArray.empty L 1)) * 86400 + 3600 * numP (bytesOf ((rdOf ByteArray.empty L 4).extract 0 2)) + 60 * numP (bytesOf ((rdOf ByteArray.empty L 4).extract 3 5)) + numP (bytesOf ((rdOf ByteArray.empty L 4).extract 6 (rdOf ByteArray.empty L 4).size)) ∧ 0 ≤ daysP (numP (bytesOf (rdOf ByteArray.empty L 3))) (idxT (rdOf ByteArray.empty L 2) monthsB + 1) (numA (rdOf ByteArray.empty L 1)) := by
            intro sec e
            obtain ⟨q0, q1, q2⟩ := hok sec (by omega) e
            obtain ⟨a1, a2, a3, a4, a5, a6, _⟩ := ymd_spec (days := sec / 86400) (by omega) (by omega)
            have hmb := monthD_bd (ymd (sec / 86400)).1 (ymd (sec / 86400)).2.1
            rw [q2] at hP
            subst hP
            have rT : ∀ n : Int, 0 ≤ n → n ≤ 99 → bytesOf (strOfNums (twoL n)) = twoL n := fun n h0 h1 => bytesOf_strOfNums (fun c hc => by simp [twoL] at hc; omega)
            have rY : bytesOf (strOfNums (decP (ymd (sec / 86400)).1)) = decP (ymd (sec / 86400)).1 := bytesOf_strOfNums (fun c hc => by rw [decP_year (by omega) (by omega)] at hc; simp at hc; omega)
            have rC : bytesOf (strOfNums (twoL (sec / 3600 % 24) ++ [58] ++ twoL (sec / 60 % 60) ++ [58] ++ twoL (sec % 60))) = twoL (sec / 3600 % 24) ++ [58] ++ twoL (sec / 60 % 60) ++ [58] ++ twoL (sec % 60) := bytesOf_strOfNums (fun c hc => by simp [twoL] at hc; omega)
            have sC : (strOfNums (twoL (sec / 3600 % 24) ++ [58] ++ twoL (sec / 60 % 60) ++ [58] ++ twoL (sec % 60))).size = 8 := by rw [strOfNums_size]; rfl
            show sec = daysP (numP (bytesOf (strOfNums (decP (ymd (sec / 86400)).1)))) (idxT (strOfNums (monL (ymd (sec / 86400)).2.1)) monthsB + 1) (numA (strOfNums (twoL (ymd (sec / 86400)).2.2))) * 86400 + 3600 * numP (bytesOf ((strOfNums (twoL (sec / 3600 % 24) ++ [58] ++ twoL (sec / 60 % 60) ++ [58] ++ twoL (sec % 60))).extract 0 2)) + 60 * numP (bytesOf ((strOfNums (twoL (sec / 3600 % 24) ++ [58] ++ twoL (sec / 60 % 60) ++ [58] ++ twoL (sec % 60))).extract 3 5)) + numP (bytesOf ((strOfNums (twoL (sec / 3600 % 24) ++ [58] ++ twoL (sec / 60 % 60) ++ [58] ++ twoL (sec % 60))).extract 6 (strOfNums (twoL (sec / 3600 % 24) ++ [58] ++ twoL (sec / 60 % 60) ++ [58] ++ twoL (sec % 60))).size)) ∧ 0 ≤ daysP (numP (bytesOf (strOfNums (decP (ymd (sec / 86400)).1)))) (idxT (strOfNums (monL (ymd (sec / 86400)).2.1)) monthsB + 1) (numA (strOfNums (twoL (ymd (sec / 86400)).2.2)))
            rw [sC, bytesOf_extract, bytesOf_extract, bytesOf_extract, rC, rY, idxT_month a3 a4, numA_short (s := strOfNums (twoL (ymd (sec / 86400)).2.2)) (by rw [strOfNums_size]; show 2 ≤ 18; omega), rT _ (by omega) (by omega), numP_year (by omega) (by omega), numP_two (n := (ymd (sec / 86400)).2.2) (by omega) (by omega), show (ymd (sec / 86400)).2.1 - 1 + 1 = (ymd (sec / 86400)).2.1 by omega, daysP_ymd (by omega) (by omega)]
            have p1 : numP (((twoL (sec / 3600 % 24) ++ [58] ++ twoL (sec / 60 % 60) ++ [58] ++ twoL (sec % 60)).take 2).drop 0) = sec / 3600 % 24 := numP_two (by omega) (by omega)
            have p2 : numP (((twoL (sec / 3600 % 24) ++ [58] ++ twoL (sec / 60 % 60) ++ [58] ++ twoL (sec % 60)).take 5).drop 3) = sec / 60 % 60 := numP_two (by omega) (by omega)
            have p3 : numP (((twoL (sec / 3600 % 24) ++ [58] ++ twoL (sec / 60 % 60) ++ [58] ++ twoL (sec % 60)).take 8).drop 6) = sec % 60 := numP_two (by omega) (by omega)
            rw [p1, p2, p3]
            omega
          have db := daysP_bd (numP (bytesOf (rdOf ByteArray.empty L 3))) (idxT (rdOf ByteArray.empty L 2) monthsB + 1) (numA (rdOf ByteArray.empty L 1))
          refine Ev.congr (fun k => by rw [show (((rdOf ByteArray.empty L 3).size : Int) != 4) = false from bne_eq_false_iff_eq.2 h4]) ?_
          refine Ev.step (fun k => by simp only [impl_ReadDate.j0]; rw [if_neg (by decide), if_pos (by omega), if_pos (by omega), hmo]) ?_
          refine ev_bind n3 (Ev.congr (fun k => by rw [Option.bind_some, if_pos (by omega)]) (ev_bind ix ?_))
          refine ev_if_pos (show (1 : Int) < (L.length : Int) by omega) (ev_bind n1 ?_)
          refine Ev.congr (fun k => by rw [wrap_id (x := idxT (rdOf ByteArray.empty L 2) monthsB + 1) (by omega) (by omega)]) (ev_bind (impl_DaysOf_ev _ _ _) ?_)
          generalize daysP (numP (bytesOf (rdOf ByteArray.empty L 3))) (idxT (rdOf ByteArray.empty L 2) monthsB + 1) (numA (rdOf ByteArray.empty L 1)) = days at key db
          by_cases hd : days < 0
          · rw [readDateP_none (fun sec _ e => by have := (key sec e).2; omega)]
            exact ev_if_pos hd (Ev.now _)
          · refine ev_if_neg hd ?_
            refine ev_if_pos (show (0 : Nat) ≤ 2 by decide) ?_
            refine ev_if_pos (show (2 : Int) ≤ ((rdOf ByteArray.empty L 4).size : Int) by omega) (ev_bind c1 ?_)
            refine ev_if_pos (show (3 : Nat) ≤ 5 by decide) ?_
            refine ev_if_pos (show (5 : Int) ≤ ((rdOf ByteArray.empty L 4).size : Int) by omega) (ev_bind c2 ?_)
            refine ev_if_pos (show (6 : Int) ≤ ((rdOf ByteArray.empty L 4).size : Int) by omega) (ev_bind c3 ?_)
            generalize numP (bytesOf ((rdOf ByteArray.empty L 4).extract 0 2)) = v1 at key b1
            generalize numP (bytesOf ((rdOf ByteArray.empty L 4).extract 3 5)) = v2 at key b2
            generalize numP (bytesOf ((rdOf ByteArray.empty L 4).extract 6 (rdOf ByteArray.empty L 4).size)) = v3 at key b3
            refine Ev.congr (fun k => by rw [wrap_id (x := days * 86400) (by omega) (by omega), wrap_id (x := 3600 * v1) (by omega) (by omega), wrap_id (x := days * 86400 + 3600 * v1) (by omega) (by omega), wrap_id (x := 60 * v2) (by omega) (by omega), wrap_id (x := days * 86400 + 3600 * v1 + 60 * v2) (by omega) (by omega), wrap_id (x := days * 86400 + 3600 * v1 + 60 * v2 + v3) (by omega) (by omega)]) (ev_bind (impl_ShowDate_ev (days * 86400 + 3600 * v1 + 60 * v2 + v3) (by omega) (by omega)) ?_)
            by_cases he : dateB (days * 86400 + 3600 * v1 + 60 * v2 + v3) = s
            · exact ev_if_pos (by rw [he]) (ev_eq (Ev.now _) (readDateP_some (by omega) he).symm)
            · rw [readDateP_none (fun sec _ e => he (by rw [← (key sec e).1]; exact e))]
              exact ev_if_neg (by rw [toList_eq_iff]; exact he) (Ev.now _)
        · rw [readDateP_none (fun sec e1 e2 => by
            obtain ⟨a, b, c⟩ := hok sec e1 e2
            rw [c] at hP
            subst hP
            exact h4 (by
              obtain ⟨a1, a2, _⟩ := ymd_spec (days := sec / 86400) (by omega) (by omega)
              show ((strOfNums (decP _)).size : Int) = 4
              rw [decP_year (by omega) (by omega), strOfNums_size]
              rfl))]
          refine Ev.congr (fun k => by rw [show (((rdOf ByteArray.empty L 3).size : Int) != 4) = true from bne_iff_ne.2 h4]) (hbad L)
      · rw [readDateP_none (fun sec e1 e2 => by
          obtain ⟨a, b, c⟩ := hok sec e1 e2
          rw [c] at hP
          subst hP
          exact h8 (by
            show ((strOfNums (twoL _ ++ [58] ++ twoL _ ++ [58] ++ twoL _)).size : Int) = 8
            rw [strOfNums_size]
            rfl))]
        exact ev_if_neg h8 (hbad L)
    · rw [readDateP_none (fun sec e1 e2 => h29 (by omega))]
      exact ev_if_neg h29 (hbad L)
  · rw [readDateP_none (fun sec e1 e2 => by
      obtain ⟨a, b, c⟩ := hok sec e1 e2
      rw [c] at hP
      subst hP
      exact h6 rfl)]
    exact ev_if_neg h6 (hbad L)

end Go.Proofs.YtjldfmkpdkhnnaaGreatDoor.Pure

namespace Go.Proofs.YtjldfmkpdkhnnaaGreatDoor.Pure
set_option linter.unusedVariables false
set_option linter.unusedSimpArgs false
open Go.RowKit Go.Proofs.YtjldfmkpdkhnnaaGreatDoor.QL Go.Proofs.YtjldfmkpdkhnnaaGreatDoorW.PrintWords Go.Proofs.YtjldfmkpdkhnnaaGreatDoorW.PrintLast Go.Proofs.YtjldfmkpdkhnnaaGreatDoorW.PrintMore Go.Proofs.YtjldfmkpdkhnnaaGreatDoor.Aux Go.Proofs.YtjldfmkpdkhnnaaGreatDoor.Dom Go.Proofs.YtjldfmkpdkhnnaaGreatDoor.Ext
theorem impl_DateOf_ev (l : List S99) (nm : ByteArray) (hl : l.length ≤ 1048576) (hz : ¬ szF 1048576 (l.map fun x => (x.f0, x.f1)) < 0) : Ev (fun k => impl_DateOf.f k l nm) (dateOfP (l.map fun x => (x.f0, x.f1)) nm) := by
  have q1 := szF_sum nm (by omega) hz
  have j1 := joinG_size nm _ (by omega) hz
  have rdt := impl_ReadDate_ev (joinG nm (l.map fun x => (x.f0, x.f1))) (by omega)
  refine Ev.congr (fun k => by unfold impl_DateOf.f; rfl) (ev_bind (impl_FieldGet_ev l nm hl (by omega)) ?_)
  unfold dateOfP
  exact ev_ite (fun h1 => ev_bind rdt (Ev.now _)) (fun h1 => Ev.now _)

end Go.Proofs.YtjldfmkpdkhnnaaGreatDoor.Pure

namespace Go.Proofs.YtjldfmkpdkhnnaaGreatDoor.Pure
set_option linter.unusedVariables false
set_option linter.unusedSimpArgs false
open Go.RowKit Go.Proofs.YtjldfmkpdkhnnaaGreatDoor.QL Go.Proofs.YtjldfmkpdkhnnaaGreatDoorW.PrintWords Go.Proofs.YtjldfmkpdkhnnaaGreatDoorW.PrintLast Go.Proofs.YtjldfmkpdkhnnaaGreatDoorW.PrintMore Go.Proofs.YtjldfmkpdkhnnaaGreatDoor.Aux Go.Proofs.YtjldfmkpdkhnnaaGreatDoor.Dom Go.Proofs.YtjldfmkpdkhnnaaGreatDoor.Ext
theorem impl_Seconds_l0 (s : ByteArray) (hs : s.size ≤ 8388608) (hA : (bytesOf s).all digC = true ∨ True) : ∀ (d : Nat) (i : Int), 0 ≤ i → (s.size : Int) - i = d → ((bytesOf s).take i.toNat).all digC = true →
    Ev (fun k => impl_Seconds.l0 k s (s.size : Int) i) (secP (bytesOf s))
  | 0, i, h0, hd, ht => by
    have hl := bytesOf_length s
    have hall : (bytesOf s).all digC = true := by rw [List.take_of_length_le (by omega)] at ht; exact ht
    refine Ev.step (fun k => by simp only [impl_Seconds.l0]; rw [if_neg (by omega)]) ?_
    unfold secP
    rw [if_pos hall, satV_eq _ 0 (by omega) (by omega) hall, ← valL_cut]
    by_cases he : s.toList = ([] : List UInt8)
    · have hb : bytesOf s = [] := by have := (toList_lit _ _).1 he; simpa using this
      refine ev_if_pos he (ev_eq (Ev.now _) ?_)
      rw [hb]
      rfl
    · have hne : 0 < (bytesOf s).length := by
        rcases Nat.eq_zero_or_pos (bytesOf s).length with h | h
        · exact absurd ((toList_lit _ _).2 (by rw [List.eq_nil_of_length_eq_zero h]; rfl)) he
        · exact h
      rw [decide_eq_true hne]
      have htl : strings_TrimLeft.f s (⟨#[48]⟩ : ByteArray) = some (strOfNums (cutC 48 (bytesOf s))) := by unfold strings_TrimLeft.f; rw [if_pos rfl]
      refine ev_if_neg he (ev_bind (ev_some fun _ => htl) ?_)
      have hca := cutC_all hall
      by_cases h10 : 10 < (cutC 48 (bytesOf s)).length
      · refine ev_if_pos (by rw [strOfNums_size]; omega) (ev_eq (Ev.now _) ?_)
        rw [mn_ge (cutC_big hall h10)]
      · refine ev_if_neg (by rw [strOfNums_size]; omega) (ev_if_pos (by rw [strOfNums_size]; omega) ?_)
        exact ev_bind (ev_some fun _ => strconv_Atoi_dec _ hca (by omega)) (Ev.now _)
  | d + 1, i, h0, hd, ht => by
    have hlt : i < (s.size : Int) := by omega
    have hl := bytesOf_length s
    have hmem : bt s i ∈ bytesOf s := List.mem_of_mem_drop (i := i.toNat) (by rw [drop_bt h0 hlt]; exact List.mem_cons_self)
    by_cases h1 : digC (bt s i) = true
    · have h2 := digC_iff.1 h1
      refine Ev.step (f := fun k => impl_Seconds.l0 k s (s.size : Int) (i + 1)) (fun k => ?_) (impl_Seconds_l0 s hs hA d (i + 1) (by omega) (by omega) ?_)
      · simp only [impl_Seconds.l0]
        rw [if_pos hlt, if_pos h0, if_pos hlt, if_neg (by omega), if_neg (by omega), wrap_id (by omega) (by omega)]
      · have e : (bytesOf s).take (i + 1).toNat = (bytesOf s).take i.toNat ++ [bt s i] := by
          have h3 := List.take_append_drop i.toNat ((bytesOf s).take (i + 1).toNat)
          rw [List.take_take, Nat.min_eq_left (by omega), List.drop_take, drop_bt h0 hlt, show (i + 1).toNat - i.toNat = 1 by omega] at h3
          rw [← h3]
          rfl
        rw [e, List.all_append, ht, List.all_cons, h1]
        rfl
    · have hn : ¬ (bytesOf s).all digC = true := fun h => h1 (List.all_eq_true.1 h _ hmem)
      unfold secP
      rw [if_neg hn]
      rw [digC_iff] at h1
      refine ev_last fun k => ?_
      simp only [impl_Seconds.l0]
      rw [if_pos hlt, if_pos h0, if_pos hlt]
      by_cases h3 : bt s i < 48
      · rw [if_pos h3]
      · rw [if_neg h3, if_pos (by omega)]
theorem impl_Seconds_ev (s : ByteArray) (hs : s.size ≤ 8388608) : Ev (fun k => impl_Seconds.f k s) (secP (bytesOf s)) :=
  impl_Seconds_l0 s hs (.inr trivial) s.size 0 (by omega) (by omega) (by simp)

end Go.Proofs.YtjldfmkpdkhnnaaGreatDoor.Pure

namespace Go.Proofs.YtjldfmkpdkhnnaaGreatDoor.Pure
set_option linter.unusedVariables false
set_option linter.unusedSimpArgs false
open Go.RowKit Go.Proofs.YtjldfmkpdkhnnaaGreatDoor.QL Go.Proofs.YtjldfmkpdkhnnaaGreatDoorW.PrintWords Go.Proofs.YtjldfmkpdkhnnaaGreatDoorW.PrintLast Go.Proofs.YtjldfmkpdkhnnaaGreatDoorW.PrintMore Go.Proofs.YtjldfmkpdkhnnaaGreatDoor.Aux Go.Proofs.YtjldfmkpdkhnnaaGreatDoor.Dom Go.Proofs.YtjldfmkpdkhnnaaGreatDoor.Ext
theorem impl_within_eq (a : Int) : impl_within.f a = some (withinP a) := rfl
theorem impl_later_eq {a b : Int} (h : a ≤ 9223372036854775807) : impl_later.f a b = some (laterP a b) := by
  unfold impl_later.f laterP
  split
  · rfl
  · split
    · rfl
    · rw [wrap_id (by omega) (by omega)]
theorem impl_SatAdd_eq (a b : Int) : impl_SatAdd.f a b = some (satP a b) := by
  have h1 := withinP_bd a
  have h2 := withinP_bd b
  unfold impl_SatAdd.f satP
  rw [impl_within_eq, impl_within_eq, Option.bind_some, Option.bind_some, wrap_id (by omega) (by omega)]

end Go.Proofs.YtjldfmkpdkhnnaaGreatDoor.Pure

namespace Go.Proofs.YtjldfmkpdkhnnaaGreatDoor.Pure
set_option linter.unusedVariables false
set_option linter.unusedSimpArgs false
open Go.RowKit Go.Proofs.YtjldfmkpdkhnnaaGreatDoor.QL Go.Proofs.YtjldfmkpdkhnnaaGreatDoorW.PrintWords Go.Proofs.YtjldfmkpdkhnnaaGreatDoorW.PrintLast Go.Proofs.YtjldfmkpdkhnnaaGreatDoorW.PrintMore Go.Proofs.YtjldfmkpdkhnnaaGreatDoor.Aux Go.Proofs.YtjldfmkpdkhnnaaGreatDoor.Dom Go.Proofs.YtjldfmkpdkhnnaaGreatDoor.Ext
theorem impl_FirstAge_ev (st : Int) (l : List S99) (b : ByteArray) (asked came : Int) (hl : l.length ≤ 1048576) (hz : ¬ szF 1048576 (l.map fun x => (x.f0, x.f1)) < 0) (hc : came ≤ 9223372036854775807) : Ev (fun k => impl_FirstAge.f k st l b asked came) (firstAgeP (l.map fun x => (x.f0, x.f1)) asked came) := by
  have q1 := szF_sum nmAge (by omega) hz
  have j1 := joinG_size nmAge _ (by omega) hz
  have sc := impl_Seconds_ev (joinG nmAge (l.map fun x => (x.f0, x.f1))) (by omega)
  have fin : ∀ ap : Int, Ev (fun k => impl_FirstAge.j0 k asked came ap st l b) (mx ap (satP (secP (bytesOf (joinG nmAge (l.map fun x => (x.f0, x.f1))))).1 (laterP came asked))) := by
    intro ap
    refine Ev.step (fun k => by simp only [impl_FirstAge.j0]; rfl) (ev_bind (impl_FieldGet_ev l nmAge hl (by omega)) (ev_bind sc ?_))
    exact ev_some fun k => by rw [impl_later_eq hc, Option.bind_some, impl_SatAdd_eq, Option.bind_some]
  refine Ev.congr (fun k => by unfold impl_FirstAge.f; rfl) (ev_bind (impl_DateOf_ev l nmDate hl hz) ?_)
  unfold firstAgeP appP
  by_cases h : (dateOfP (l.map fun x => (x.f0, x.f1)) nmDate).2 = true
  · rw [if_pos h]
    exact ev_if_pos h (Ev.congr (fun k => by rw [impl_later_eq hc, Option.bind_some, impl_within_eq, Option.bind_some]) (fin _))
  · rw [if_neg h]
    exact ev_if_neg h (fin 0)

end Go.Proofs.YtjldfmkpdkhnnaaGreatDoor.Pure

namespace Go.Proofs.YtjldfmkpdkhnnaaGreatDoor.Pure
set_option linter.unusedVariables false
set_option linter.unusedSimpArgs false
open Go.RowKit Go.Proofs.YtjldfmkpdkhnnaaGreatDoor.QL Go.Proofs.YtjldfmkpdkhnnaaGreatDoorW.PrintWords Go.Proofs.YtjldfmkpdkhnnaaGreatDoorW.PrintLast Go.Proofs.YtjldfmkpdkhnnaaGreatDoorW.PrintMore Go.Proofs.YtjldfmkpdkhnnaaGreatDoor.Aux Go.Proofs.YtjldfmkpdkhnnaaGreatDoor.Dom Go.Proofs.YtjldfmkpdkhnnaaGreatDoor.Ext

theorem FnExactFirstAge : laws_FnExactFirstAge.Pure := by
  intro st l b asked came hst hl hlm hb hasked hcame
  have wasked := wf_i64 hasked
  have wcame := wf_i64 hcame
  refine Ev.rounds (Ev.congr (fun k => by unfold laws_FnExactFirstAge.f; rfl) ?_)
  refine ev_bind (laws_szResponse_ev st l b 1048576 hl hlm hb (by omega) (by omega)) ?_
  by_cases h1 : szR 1048576 (l.map fun x => (x.f0, x.f1)) b < 0
  · exact ev_if_pos h1 (Ev.now _)
  refine ev_if_neg h1 ?_
  have q0 := szR_szF h1
  have q1 := szR_len h1
  rw [List.length_map] at q1
  have eX : ((l.map fun x => (⟨x.f0, x.f1⟩ : S99)).map fun x => (x.f0, x.f1)) = l.map fun x => (x.f0, x.f1) := by rw [List.map_map]; rfl
  have t1 := laws_toResponse_ev st l b (by omega)
  have sp := spec_FirstAge_ev st (l.map fun x => (⟨x.f0, x.f1⟩ : S99)) b asked came (by rw [List.length_map]; omega) (by rw [eX]; exact q0.1) wasked.1 wcame.2
  have im := impl_FirstAge_ev st (l.map fun x => (⟨x.f0, x.f1⟩ : S99)) b asked came (by rw [List.length_map]; omega) (by rw [eX]; exact q0.1) wcame.2
  have e1 := laws_eqResponse_ev st (l.map fun x => (⟨x.f0, x.f1⟩ : S99)) b (by rw [List.length_map]; omega)
  exact ev_bind t1 (ev_bind sp (ev_bind t1 (ev_bind im (ev_if_pos rfl (ev_bind t1 (ev_bind e1 (ev_if_pos rfl (Ev.now _))))))))

end Go.Proofs.YtjldfmkpdkhnnaaGreatDoor.Pure

