-- Written by this session's own program (a turn of the kit's print, with contracts of the session's own where the print has none).
import Derived.Test.YtjldfmkpdkhnnaaDoorCFnBodiesa
namespace Go.Proofs.YtjldfmkpdkhnnaaDoor.QL
open Go.RowKit Go.Proofs.YtjldfmkpdkhnnaaDoorW.PrintWords Go.Proofs.YtjldfmkpdkhnnaaDoorW.PrintLast Go.Proofs.YtjldfmkpdkhnnaaDoorW.PrintMore Go.Proofs.YtjldfmkpdkhnnaaDoor.Aux Go.Proofs.YtjldfmkpdkhnnaaDoor.Dom Go.Proofs.YtjldfmkpdkhnnaaDoor.Ext Go.Proofs.YtjldfmkpdkhnnaaDoor.Glob
attribute [local go_sem] max2_int min2_int max_two min_two max_three min_three max_four min_four   -- for this text's walks alone
set_option linter.unusedVariables false
set_option linter.unusedSimpArgs false

/-! ### laws_FnBodies: function 7 -/
def laws_FnBodies.j0 : Nat → List Int → ByteArray → ByteArray → Bool → Option (Bool)
 | 0, _, _, _, _ => none
 | k + 1, x0, x3, x5, x55 => if x55 = true then (some false) else (if (x5.size : Int) = 0 then (some false) else ((laws_at.f x0 0).bind fun t108 => (if 0 ≤ (Int.tmod t108 (x5.size : Int)) then (if (Int.tmod t108 (x5.size : Int)) ≤ (x5.size : Int) then ((impl_Unchunk.f k (x5.extract 0 ((Int.tmod t108 (x5.size : Int)) : Int).toNat)).bind fun bt109 => ((spec_DrawHexNum.f k x0).bind fun t112 => ((impl_HexNum.f t112).bind fun t113 => ((impl_ReadHexNum.f k t113).bind fun bt114 => (if x5.size + 4 ≤ 9223372036854775807 then ((impl_BodyOf.f k (([(⟨(⟨#[116, 114, 97, 110, 115, 102, 101, 114, 45, 101, 110, 99, 111, 100, 105, 110, 103]⟩ : ByteArray), (⟨#[99, 104, 117, 110, 107, 101, 100]⟩ : ByteArray)⟩ : S49)] : List (S49))) (x5 ++ (⟨#[116, 97, 105, 108]⟩ : ByteArray)) false).bind fun bt119 => ((spec_Dec.f k (x3.size : Int)).bind fun t122 => (if x3.size + 4 ≤ 9223372036854775807 then ((impl_BodyOf.f k (([(⟨(⟨#[99, 111, 110, 116, 101, 110, 116, 45, 108, 101, 110, 103, 116, 104]⟩ : ByteArray), t122⟩ : S49)] : List (S49))) (x3 ++ (⟨#[116, 97, 105, 108]⟩ : ByteArray)) true).bind fun bt126 => (if bt109.2.2 = 1 then (if bt109.2.1 = 0 then (if t112 < 0 then (if bt119.1.toList = x3.toList then (if bt119.2.1 = (x5.size : Int) then (if bt119.2.2 = 0 then (if bt126.1.toList = x3.toList then (if bt126.2.1 = (x3.size : Int) then (some (bt126.2.2 == 0)) else (some false)) else (some false)) else (some false)) else (some false)) else (some false)) else (if t112 > 16777215 then (if bt119.1.toList = x3.toList then (if bt119.2.1 = (x5.size : Int) then (if bt119.2.2 = 0 then (if bt126.1.toList = x3.toList then (if bt126.2.1 = (x3.size : Int) then (some (bt126.2.2 == 0)) else (some false)) else (some false)) else (some false)) else (some false)) else (some false)) else (if bt114.2 = true then (if bt114.1 = t112 then (if bt119.1.toList = x3.toList then (if bt119.2.1 = (x5.size : Int) then (if bt119.2.2 = 0 then (if bt126.1.toList = x3.toList then (if bt126.2.1 = (x3.size : Int) then (some (bt126.2.2 == 0)) else (some false)) else (some false)) else (some false)) else (some false)) else (some false)) else (some false)) else (some false)))) else (some false)) else (some false))) else (none)))) else (none)))))) else (none)) else (none))))
def laws_FnBodies.f (k : Nat) (l0 : List Int) : Option (Bool) := (laws_big.f l0).bind fun t101 => (if t101 = true then (some true) else ((spec_DrawChunk.f k l0).bind fun bt102 => ((impl_Chunk.f k bt102.1 bt102.2).bind fun t104 => (if bt102.2 < 1 then (some (t104.toList == ([] : List UInt8))) else (if t104.size + 4 ≤ 9223372036854775807 then ((impl_Unchunk.f k (t104 ++ (⟨#[116, 97, 105, 108]⟩ : ByteArray))).bind fun bt105 => (if bt105.2.2 = 0 then (if bt105.1.toList = bt102.1.toList then (laws_FnBodies.j0 k l0 bt102.1 t104 (bt105.2.1 != (t104.size : Int))) else (laws_FnBodies.j0 k l0 bt102.1 t104 true)) else (laws_FnBodies.j0 k l0 bt102.1 t104 true))) else (none))))))
theorem laws_FnBodies.mono_l : ∀ k, (∀ y0 y1 y2 y3, LeO (laws_FnBodies.j0 k y0 y1 y2 y3) (laws_FnBodies.j0 (k + 1) y0 y1 y2 y3))
 | 0 => fun _ _ _ _ r h => by simp [laws_FnBodies.j0] at h
 | k + 1 => by
  have ih0 := laws_FnBodies.mono_l k
  ·intro y0 y1 y2 y3
   unfold laws_FnBodies.j0
   repeat' first
   | (with_reducible exact ih0 _ _ _ _)
   | (with_reducible exact impl_BodyOf.mono _ _ _ _)
   | (with_reducible exact impl_Chunk.mono _ _ _)
   | (with_reducible exact impl_ReadHexNum.mono _ _)
   | (with_reducible exact impl_Unchunk.mono _ _)
   | (with_reducible exact spec_Dec.mono _ _)
   | (with_reducible exact spec_DrawChunk.mono _ _)
   | (with_reducible exact spec_DrawHexNum.mono _ _)
   | (with_reducible exact LeO.refl _)
   | (with_reducible exact LeO.none _)
   | (with_reducible refine LeO.ite ?_ ?_)
   | (with_reducible refine LeO.bind ?_ (fun _ => ?_))
   | exact ih0 _ _ _ _
   | exact impl_BodyOf.mono _ _ _ _
   | exact impl_Chunk.mono _ _ _
   | exact impl_ReadHexNum.mono _ _
   | exact impl_Unchunk.mono _ _
   | exact spec_Dec.mono _ _
   | exact spec_DrawChunk.mono _ _
   | exact spec_DrawHexNum.mono _ _
   | exact LeO.none _
   | refine LeO.ite ?_ ?_
   | refine LeO.bind ?_ (fun _ => ?_)
theorem laws_FnBodies.mono : ∀ a0 k, LeO (laws_FnBodies.f k a0) (laws_FnBodies.f (k + 1) a0) := by
 intro a0 k
 have ih0 := laws_FnBodies.mono_l k
 unfold laws_FnBodies.f
 repeat' first
   | (with_reducible exact ih0 _ _ _ _)
   | (with_reducible exact impl_BodyOf.mono _ _ _ _)
   | (with_reducible exact impl_Chunk.mono _ _ _)
   | (with_reducible exact impl_ReadHexNum.mono _ _)
   | (with_reducible exact impl_Unchunk.mono _ _)
   | (with_reducible exact spec_Dec.mono _ _)
   | (with_reducible exact spec_DrawChunk.mono _ _)
   | (with_reducible exact spec_DrawHexNum.mono _ _)
   | (with_reducible exact LeO.refl _)
   | (with_reducible exact LeO.none _)
   | (with_reducible refine LeO.ite ?_ ?_)
   | (with_reducible refine LeO.bind ?_ (fun _ => ?_))
   | exact ih0 _ _ _ _
   | exact impl_BodyOf.mono _ _ _ _
   | exact impl_Chunk.mono _ _ _
   | exact impl_ReadHexNum.mono _ _
   | exact impl_Unchunk.mono _ _
   | exact spec_Dec.mono _ _
   | exact spec_DrawChunk.mono _ _
   | exact spec_DrawHexNum.mono _ _
   | exact LeO.none _
   | refine LeO.ite ?_ ?_
   | refine LeO.bind ?_ (fun _ => ?_)
set_option maxHeartbeats 8000000 in
set_option maxRecDepth 100000 in
theorem laws_FnBodies.calls (k : Nat) (A0 : Option Addr) (c0 : Nat) (l0 : List Int) (r : Bool) (w : World) (hr0 : Kd.C (Kd.int .u8) w A0 l0.length l0) (hc0 : l0.length ≤ c0) (hGErr : GErr w) (hGMax : GMax w) (hGTz : GTz w) (h : laws_FnBodies.f k l0 = some r) (hr_ : r = true) :
  Calls Tryd.prog 7 #[.slice A0 l0.length c0] w fun e w' => e = .returned (.bool r) ∧ Below w.heap.size w w' := by
 have HR_ := Aside0.mk hr_
 clear hr_
 have hu49 := Tryd.underlying49
 have HR0 := Aside0.mk hr0
 have HC0 := Aside0.mk hc0
 clear hr0 hc0
 have HGErr := Aside0.mk hGErr
 clear hGErr
 have HGMax := Aside0.mk hGMax
 clear hGMax
 have HGTz := Aside0.mk hGTz
 clear hGTz
 have HB := Aside0.mk (Below.refl w.heap.size w)
 have H : ((laws_big.f l0).bind fun t101 => (if t101 = true then (some true) else ((spec_DrawChunk.f k l0).bind fun bt102 => ((impl_Chunk.f k bt102.1 bt102.2).bind fun t104 => (if bt102.2 < 1 then (some (t104.toList == ([] : List UInt8))) else (if t104.size + 4 ≤ 9223372036854775807 then ((impl_Unchunk.f k (t104 ++ (⟨#[116, 97, 105, 108]⟩ : ByteArray))).bind fun bt105 => (if bt105.2.2 = 0 then (if bt105.1.toList = bt102.1.toList then (laws_FnBodies.j0 k l0 bt102.1 t104 (bt105.2.1 != (t104.size : Int))) else (laws_FnBodies.j0 k l0 bt102.1 t104 true)) else (laws_FnBodies.j0 k l0 bt102.1 t104 true))) else (none))))))) = some r := h
 clear h
 replace H := Option.bind_eq_some_iff.mp H
 obtain ⟨t101, A20, H⟩ := H
 try dsimp only at H
 have A2 := Aside0.mk A20
 clear A20
 by_cases c3 : t101 = true
 ·subst c3
  rw [if_pos rfl] at H
  obtain rfl := Option.some.inj H
  go_enter Tryd.func7, Tryd.ntmps7
  go_wp2_with (first | ((with_reducible refine gate_callee (f := 13) rfl ?_); refine goesL_ (some 23) rfl rfl Tryd.func13 (by kernel_rfl) rfl #[.slice A0 l0.length c0] rfl am ?_; (with_reducible refine (laws_big.calls _ _ l0 true _ ?side1 ?side2 A2.out).mono ?_); (case side1 => repeat (first | exact HR0.out | (with_reducible refine Kd.C_alloc ?_ _) | (with_reducible refine Kd.C_drewN ?_ _) | (with_reducible refine Kd.C_drew ?_))); (case side2 => exact HC0.out); rintro e w' ⟨rfl, ⟨nd, rfl⟩⟩; refine ⟨_, rfl, ?_⟩))
  go_ret
  exact ⟨by first | rfl | (simp [errW_none, errW_some] <;> rfl) | (simp [*, errW_none, errW_some] <;> rfl), bq⟩
 ·replace c3 := Bool.eq_false_iff.mpr c3
  subst c3
  rw [if_neg (show ¬ (false = true) by decide)] at H
  replace H := Option.bind_eq_some_iff.mp H
  obtain ⟨⟨t102, t103⟩, A40, H⟩ := H
  try dsimp only at H
  have A4 := Aside0.mk A40
  clear A40
  replace H := Option.bind_eq_some_iff.mp H
  obtain ⟨t104, A50, H⟩ := H
  try dsimp only at H
  have A5 := Aside0.mk A50
  clear A50
  by_cases c6 : t103 < 1
  ·rw [if_pos c6] at H
   have c6b0 : decide (t103 < 1) = true := decide_eq_true c6
   clear c6
   obtain rfl := Option.some.inj H
   go_enter Tryd.func7, Tryd.ntmps7
   go_wp2_with (first | ((with_reducible refine gate_callee (f := 13) rfl ?_); refine goesL_ (some 23) rfl rfl Tryd.func13 (by kernel_rfl) rfl #[.slice A0 l0.length c0] rfl am ?_; (with_reducible refine (laws_big.calls _ _ l0 false _ ?side1 ?side2 A2.out).mono ?_); (case side1 => repeat (first | exact HR0.out | (with_reducible refine Kd.C_alloc ?_ _) | (with_reducible refine Kd.C_drewN ?_ _) | (with_reducible refine Kd.C_drew ?_))); (case side2 => exact HC0.out); rintro e w' ⟨rfl, ⟨nd, rfl⟩⟩; refine ⟨_, rfl, ?_⟩) | ((with_reducible refine gate_callee (f := 41) rfl ?_); refine goesL_ (some 26) rfl rfl Tryd.func41 (by kernel_rfl) rfl #[.slice A0 l0.length c0] rfl am ?_; (with_reducible refine (spec_DrawChunk.calls k _ _ l0 t102 t103 _ ?side1 ?side2 A4.out).mono ?_); (case side1 => repeat (first | exact HR0.out | (with_reducible refine Kd.C_alloc ?_ _) | (with_reducible refine Kd.C_drewN ?_ _) | (with_reducible refine Kd.C_drew ?_))); (case side2 => exact HC0.out); rintro e w7 ⟨rfl, hb⟩; refine ⟨_, rfl, ?_⟩; have n0_ := Aside0.mk (below_step bq hb); clear HB; have HB := n0_; clear n0_; (try clear hb); (try clear hb2); (try clear hk); (try clear hi)) | ((with_reducible refine gate_callee (f := 42) rfl ?_); refine goesL_ (some 31) rfl rfl Tryd.func42 (by kernel_rfl) rfl #[.string t102, .int .i64 t103] rfl am ?_; (with_reducible refine (impl_Chunk.calls k t102 t103 t104 _ ?side1 A5.out).mono ?_); (case side1 => refine GTz.of_below HGTz.out ?_; repeat (first | (with_reducible first | exact HB.out | apply below_alloc | apply pw_below_drewN | apply below_drew1) | exact HB.out)); rintro e w8 ⟨rfl, hb⟩; refine ⟨_, rfl, ?_⟩; have n0_ := Aside0.mk (below_step bq hb); clear HB; have HB := n0_; clear n0_; (try clear hb); (try clear hb2); (try clear hk); (try clear hi)))
   go_ret
   exact ⟨by first | rfl | (simp [errW_none, errW_some] <;> rfl) | (simp [*, errW_none, errW_some] <;> rfl), bq⟩
  ·rw [if_neg c6] at H
   have c6b0 : decide (t103 < 1) = false := decide_eq_false c6
   clear c6
   by_cases c9 : t104.size + 4 ≤ 9223372036854775807
   ·rw [if_pos c9] at H
    have c9b0 := eq_true c9
    have c9b1 : decide (t104.size + 4 ≤ 9223372036854775807) = true := decide_eq_true c9
    try have c9b2 : (9223372036854775807 < t104.size + 4) = False := eq_false (Nat.not_lt.2 c9)
    replace H := Option.bind_eq_some_iff.mp H
    obtain ⟨⟨t105, t106, t107⟩, A100, H⟩ := H
    try dsimp only at H
    have A10 := Aside0.mk A100
    clear A100
    have HC11 := Aside0.mk H
    clear H
    go_enter Tryd.func7, Tryd.ntmps7
    go_upto_region 8 with (first | ((with_reducible refine gate_callee (f := 13) rfl ?_); refine goesL_ (some 23) rfl rfl Tryd.func13 (by kernel_rfl) rfl #[.slice A0 l0.length c0] rfl am ?_; (with_reducible refine (laws_big.calls _ _ l0 false _ ?side1 ?side2 A2.out).mono ?_); (case side1 => repeat (first | exact HR0.out | (with_reducible refine Kd.C_alloc ?_ _) | (with_reducible refine Kd.C_drewN ?_ _) | (with_reducible refine Kd.C_drew ?_))); (case side2 => exact HC0.out); rintro e w' ⟨rfl, ⟨nd, rfl⟩⟩; refine ⟨_, rfl, ?_⟩) | ((with_reducible refine gate_callee (f := 41) rfl ?_); refine goesL_ (some 26) rfl rfl Tryd.func41 (by kernel_rfl) rfl #[.slice A0 l0.length c0] rfl am ?_; (with_reducible refine (spec_DrawChunk.calls k _ _ l0 t102 t103 _ ?side1 ?side2 A4.out).mono ?_); (case side1 => repeat (first | exact HR0.out | (with_reducible refine Kd.C_alloc ?_ _) | (with_reducible refine Kd.C_drewN ?_ _) | (with_reducible refine Kd.C_drew ?_))); (case side2 => exact HC0.out); rintro e w12 ⟨rfl, hb⟩; refine ⟨_, rfl, ?_⟩; have n0_ := Aside0.mk (below_step bq hb); clear HB; have HB := n0_; clear n0_; (try clear hb); (try clear hb2); (try clear hk); (try clear hi)) | ((with_reducible refine gate_callee (f := 42) rfl ?_); refine goesL_ (some 31) rfl rfl Tryd.func42 (by kernel_rfl) rfl #[.string t102, .int .i64 t103] rfl am ?_; (with_reducible refine (impl_Chunk.calls k t102 t103 t104 _ ?side1 A5.out).mono ?_); (case side1 => refine GTz.of_below HGTz.out ?_; repeat (first | (with_reducible first | exact HB.out | apply below_alloc | apply pw_below_drewN | apply below_drew1) | exact HB.out)); rintro e w13 ⟨rfl, hb⟩; refine ⟨_, rfl, ?_⟩; have n0_ := Aside0.mk (below_step bq hb); clear HB; have HB := n0_; clear n0_; (try clear hb); (try clear hb2); (try clear hk); (try clear hi)) | ((with_reducible refine gate_callee (f := 43) rfl ?_); refine goesL_ (some 39) rfl rfl Tryd.func43 (by kernel_rfl) rfl #[.string (t104 ++ (⟨#[116, 97, 105, 108]⟩ : ByteArray))] rfl am ?_; (with_reducible refine (impl_Unchunk.calls k (t104 ++ (⟨#[116, 97, 105, 108]⟩ : ByteArray)) t105 t106 t107 _ ?side1 A10.out).mono ?_); (case side1 => refine GMax.of_below HGMax.out ?_; repeat (first | (with_reducible first | exact HB.out | apply below_alloc | apply pw_below_drewN | apply below_drew1) | exact HB.out)); rintro e w14 ⟨rfl, hb⟩; refine ⟨_, rfl, ?_⟩; have n0_ := Aside0.mk (below_step bq hb); clear HB; have HB := n0_; clear n0_; (try clear hb); (try clear hb2); (try clear hk); (try clear hi)))
    (try simp only [Act.put, List.setIfInBounds_toArray, List.set_cons_zero, List.set_cons_succ])
    go_cut [55] (fun v55 wc => ∃ (kq : Nat) (x55_10 : Bool), v55 = .bool x55_10 ∧ Aside0 (laws_FnBodies.j0 kq l0 t102 t104 x55_10 = some r) ∧ Aside0 (kq ≤ k) ∧ Aside0 (Below w.heap.size w wc))
    case first =>
     have H := HC11.out
     clear HC11
     by_cases c15 : t107 = 0
     ·rw [if_pos c15] at H
      have c15b0 : (t107 == 0) = true := beq_iff_eq.mpr c15
      have c15b1 : (t107 != 0) = false := bne_eq_false_iff_eq.mpr c15
      clear c15
      (first | rw [c15b0] | (simp only [i64_w, i32_w]; rw [c15b0]) | skip)
      by_cases c16 : t105.toList = t102.toList
      ·rw [if_pos c16] at H
       have c16b0 : (t105.toList == t102.toList) = true := beq_iff_eq.mpr c16
       have c16b1 : (t105.toList != t102.toList) = false := bne_eq_false_iff_eq.mpr c16
       clear c16
       have H' := Aside0.mk H
       clear H
       go_wp2
       go_meet
       case rel => exact ⟨_, ((t106 != (t104.size : Int))), (by first | rfl | (simp; done) | (simp [*]; done)), H', ⟨by first | omega | exact Nat.le_refl _⟩, ⟨by repeat (first | (with_reducible first | exact HB.out | apply below_alloc | apply pw_below_drewN | apply below_drew1) | exact HB.out)⟩⟩
      ·rw [if_neg c16] at H
       have c16b0 : (t105.toList == t102.toList) = false := beq_eq_false_iff_ne.mpr c16
       have c16b1 : (t105.toList != t102.toList) = true := bne_iff_ne.mpr c16
       have H' := Aside0.mk H
       clear H
       go_wp2
       go_meet
       case rel => exact ⟨_, (true), (by first | rfl | (simp; done) | (simp [*]; done)), H', ⟨by first | omega | exact Nat.le_refl _⟩, ⟨by repeat (first | (with_reducible first | exact HB.out | apply below_alloc | apply pw_below_drewN | apply below_drew1) | exact HB.out)⟩⟩
     ·rw [if_neg c15] at H
      have c15b0 : (t107 == 0) = false := beq_eq_false_iff_ne.mpr c15
      have c15b1 : (t107 != 0) = true := bne_iff_ne.mpr c15
      (first | rw [c15b0] | (simp only [i64_w, i32_w]; rw [c15b0]) | skip)
      have H' := Aside0.mk H
      clear H
      go_wp2
      go_meet
      case rel => exact ⟨_, (true), (by first | rfl | (simp; done) | (simp [*]; done)), H', ⟨by first | omega | exact Nat.le_refl _⟩, ⟨by repeat (first | (with_reducible first | exact HB.out | apply below_alloc | apply pw_below_drewN | apply below_drew1) | exact HB.out)⟩⟩
    case rest =>
     clear HC11
     try clear c1
     try clear p2
     try clear c3
     try clear c4
     try clear c6
     try clear c6b0
     try clear c7
     try clear c9
     try clear c9b0
     try clear c9b1
     try clear c9b2
     try clear c13
     try clear c15
     try clear c15b0
     try clear c15b1
     try clear c16
     try clear c16b0
     try clear c16b1
     obtain ⟨kq, x55_10, rfl, HA, HJ10, HB⟩ := hcut
     cases kq with
     | zero => exact absurd HA.out (by simp [laws_FnBodies.j0])
     | succ kj10 =>
      have H := HA.out
      clear HA
      simp only [laws_FnBodies.j0] at H
      by_cases c17 : x55_10 = true
      ·subst c17
       rw [if_pos rfl] at H
       obtain rfl := Option.some.inj H
       go_wp2
       go_ret
       exact ⟨by first | rfl | (simp [errW_none, errW_some] <;> rfl) | (simp [*, errW_none, errW_some] <;> rfl), bq⟩
      ·replace c17 := Bool.eq_false_iff.mpr c17
       subst c17
       rw [if_neg (show ¬ (false = true) by decide)] at H
       by_cases c18 : (t104.size : Int) = 0
       ·rw [if_pos c18] at H
        have c18b0 : ((t104.size : Int) == 0) = true := beq_iff_eq.mpr c18
        have c18b1 : ((t104.size : Int) != 0) = false := bne_eq_false_iff_eq.mpr c18
        clear c18
        obtain rfl := Option.some.inj H
        go_wp2
        go_ret
        exact ⟨by first | rfl | (simp [errW_none, errW_some] <;> rfl) | (simp [*, errW_none, errW_some] <;> rfl), bq⟩
       ·rw [if_neg c18] at H
        have c18b0 : ((t104.size : Int) == 0) = false := beq_eq_false_iff_ne.mpr c18
        have c18b1 : ((t104.size : Int) != 0) = true := bne_iff_ne.mpr c18
        replace H := Option.bind_eq_some_iff.mp H
        obtain ⟨t108, A190, H⟩ := H
        try dsimp only at H
        have A19 := Aside0.mk A190
        clear A190
        obtain ⟨ji20, hji20⟩ : ∃ j_ : Int, (Int.tmod t108 (t104.size : Int)) = j_ := ⟨_, rfl⟩
        replace H : (if 0 ≤ (ji20) then (if (ji20) ≤ (t104.size : Int) then ((impl_Unchunk.f kj10 (t104.extract 0 ((ji20) : Int).toNat)).bind fun bt109 => ((spec_DrawHexNum.f kj10 l0).bind fun t112 => ((impl_HexNum.f t112).bind fun t113 => ((impl_ReadHexNum.f kj10 t113).bind fun bt114 => (if t104.size + 4 ≤ 9223372036854775807 then ((impl_BodyOf.f kj10 (([(⟨(⟨#[116, 114, 97, 110, 115, 102, 101, 114, 45, 101, 110, 99, 111, 100, 105, 110, 103]⟩ : ByteArray), (⟨#[99, 104, 117, 110, 107, 101, 100]⟩ : ByteArray)⟩ : S49)] : List (S49))) (t104 ++ (⟨#[116, 97, 105, 108]⟩ : ByteArray)) false).bind fun bt119 => ((spec_Dec.f kj10 (t102.size : Int)).bind fun t122 => (if t102.size + 4 ≤ 9223372036854775807 then ((impl_BodyOf.f kj10 (([(⟨(⟨#[99, 111, 110, 116, 101, 110, 116, 45, 108, 101, 110, 103, 116, 104]⟩ : ByteArray), t122⟩ : S49)] : List (S49))) (t102 ++ (⟨#[116, 97, 105, 108]⟩ : ByteArray)) true).bind fun bt126 => (if bt109.2.2 = 1 then (if bt109.2.1 = 0 then (if t112 < 0 then (if bt119.1.toList = t102.toList then (if bt119.2.1 = (t104.size : Int) then (if bt119.2.2 = 0 then (if bt126.1.toList = t102.toList then (if bt126.2.1 = (t102.size : Int) then (some (bt126.2.2 == 0)) else (some false)) else (some false)) else (some false)) else (some false)) else (some false)) else (if t112 > 16777215 then (if bt119.1.toList = t102.toList then (if bt119.2.1 = (t104.size : Int) then (if bt119.2.2 = 0 then (if bt126.1.toList = t102.toList then (if bt126.2.1 = (t102.size : Int) then (some (bt126.2.2 == 0)) else (some false)) else (some false)) else (some false)) else (some false)) else (some false)) else (if bt114.2 = true then (if bt114.1 = t112 then (if bt119.1.toList = t102.toList then (if bt119.2.1 = (t104.size : Int) then (if bt119.2.2 = 0 then (if bt126.1.toList = t102.toList then (if bt126.2.1 = (t102.size : Int) then (some (bt126.2.2 == 0)) else (some false)) else (some false)) else (some false)) else (some false)) else (some false)) else (some false)) else (some false)))) else (some false)) else (some false))) else (none)))) else (none)))))) else (none)) else (none)) = some r := by first | (rw [hji20] at H; exact H) | (simp only [hji20] at H ⊢; exact H)
        (try rw [hji20] at A19)
        by_cases c21 : 0 ≤ (ji20)
        ·rw [if_pos c21] at H
         have c21b0 := eq_true c21
         have c21b1 : decide (0 ≤ (ji20)) = true := decide_eq_true c21
         clear c21
         by_cases c22 : (ji20) ≤ (t104.size : Int)
         ·rw [if_pos c22] at H
          have c22b0 := eq_true c22
          have c22b1 : decide ((ji20) ≤ (t104.size : Int)) = true := decide_eq_true c22
          clear c22
          replace H := Option.bind_eq_some_iff.mp H
          obtain ⟨⟨t109, t110, t111⟩, A230, H⟩ := H
          try dsimp only at H
          have A23 := Aside0.mk A230
          clear A230
          replace H := Option.bind_eq_some_iff.mp H
          obtain ⟨t112, A240, H⟩ := H
          try dsimp only at H
          have A24 := Aside0.mk A240
          clear A240
          replace H := Option.bind_eq_some_iff.mp H
          obtain ⟨t113, A250, H⟩ := H
          try dsimp only at H
          have A25 := Aside0.mk A250
          clear A250
          replace H := Option.bind_eq_some_iff.mp H
          obtain ⟨⟨t114, t115⟩, A260, H⟩ := H
          try dsimp only at H
          have A26 := Aside0.mk A260
          clear A260
          obtain ⟨y116, hy116⟩ : ∃ y_ : List (S49), y_ = (([(⟨(⟨#[116, 114, 97, 110, 115, 102, 101, 114, 45, 101, 110, 99, 111, 100, 105, 110, 103]⟩ : ByteArray), (⟨#[99, 104, 117, 110, 107, 101, 100]⟩ : ByteArray)⟩ : S49)] : List (S49))) := ⟨_, rfl⟩
          replace H : (if t104.size + 4 ≤ 9223372036854775807 then ((impl_BodyOf.f kj10 y116 (t104 ++ (⟨#[116, 97, 105, 108]⟩ : ByteArray)) false).bind fun bt119 => ((spec_Dec.f kj10 (t102.size : Int)).bind fun t122 => (if t102.size + 4 ≤ 9223372036854775807 then ((impl_BodyOf.f kj10 (([(⟨(⟨#[99, 111, 110, 116, 101, 110, 116, 45, 108, 101, 110, 103, 116, 104]⟩ : ByteArray), t122⟩ : S49)] : List (S49))) (t102 ++ (⟨#[116, 97, 105, 108]⟩ : ByteArray)) true).bind fun bt126 => (if t111 = 1 then (if t110 = 0 then (if t112 < 0 then (if bt119.1.toList = t102.toList then (if bt119.2.1 = (t104.size : Int) then (if bt119.2.2 = 0 then (if bt126.1.toList = t102.toList then (if bt126.2.1 = (t102.size : Int) then (some (bt126.2.2 == 0)) else (some false)) else (some false)) else (some false)) else (some false)) else (some false)) else (if t112 > 16777215 then (if bt119.1.toList = t102.toList then (if bt119.2.1 = (t104.size : Int) then (if bt119.2.2 = 0 then (if bt126.1.toList = t102.toList then (if bt126.2.1 = (t102.size : Int) then (some (bt126.2.2 == 0)) else (some false)) else (some false)) else (some false)) else (some false)) else (some false)) else (if t115 = true then (if t114 = t112 then (if bt119.1.toList = t102.toList then (if bt119.2.1 = (t104.size : Int) then (if bt119.2.2 = 0 then (if bt126.1.toList = t102.toList then (if bt126.2.1 = (t102.size : Int) then (some (bt126.2.2 == 0)) else (some false)) else (some false)) else (some false)) else (some false)) else (some false)) else (some false)) else (some false)))) else (some false)) else (some false))) else (none)))) else (none)) = some r := by first | (rw [hy116]; with_reducible exact H) | (have H2_ := (Option.bind_some _ _).symm.trans H; rw [hy116]; with_reducible exact H2_) | (have H2_ := (Option.bind_some _ _).symm.trans H; with_reducible exact H2_) | with_reducible exact H | (rw [hy116]; exact H) | exact H
          have Ny116 := Aside0.mk hy116
          clear hy116
          by_cases c27 : t104.size + 4 ≤ 9223372036854775807
          ·rw [if_pos c27] at H
           have c27b0 := eq_true c27
           have c27b1 : decide (t104.size + 4 ≤ 9223372036854775807) = true := decide_eq_true c27
           try have c27b2 : (9223372036854775807 < t104.size + 4) = False := eq_false (Nat.not_lt.2 c27)
           replace H := Option.bind_eq_some_iff.mp H
           obtain ⟨⟨t119, t120, t121⟩, A280, H⟩ := H
           try dsimp only at H
           have A28 := Aside0.mk A280
           clear A280
           replace H := Option.bind_eq_some_iff.mp H
           obtain ⟨t122, A290, H⟩ := H
           try dsimp only at H
           have A29 := Aside0.mk A290
           clear A290
           obtain ⟨y123, hy123⟩ : ∃ y_ : List (S49), y_ = (([(⟨(⟨#[99, 111, 110, 116, 101, 110, 116, 45, 108, 101, 110, 103, 116, 104]⟩ : ByteArray), t122⟩ : S49)] : List (S49))) := ⟨_, rfl⟩
           replace H : (if t102.size + 4 ≤ 9223372036854775807 then ((impl_BodyOf.f kj10 y123 (t102 ++ (⟨#[116, 97, 105, 108]⟩ : ByteArray)) true).bind fun bt126 => (if t111 = 1 then (if t110 = 0 then (if t112 < 0 then (if t119.toList = t102.toList then (if t120 = (t104.size : Int) then (if t121 = 0 then (if bt126.1.toList = t102.toList then (if bt126.2.1 = (t102.size : Int) then (some (bt126.2.2 == 0)) else (some false)) else (some false)) else (some false)) else (some false)) else (some false)) else (if t112 > 16777215 then (if t119.toList = t102.toList then (if t120 = (t104.size : Int) then (if t121 = 0 then (if bt126.1.toList = t102.toList then (if bt126.2.1 = (t102.size : Int) then (some (bt126.2.2 == 0)) else (some false)) else (some false)) else (some false)) else (some false)) else (some false)) else (if t115 = true then (if t114 = t112 then (if t119.toList = t102.toList then (if t120 = (t104.size : Int) then (if t121 = 0 then (if bt126.1.toList = t102.toList then (if bt126.2.1 = (t102.size : Int) then (some (bt126.2.2 == 0)) else (some false)) else (some false)) else (some false)) else (some false)) else (some false)) else (some false)) else (some false)))) else (some false)) else (some false))) else (none)) = some r := by first | (rw [hy123]; with_reducible exact H) | (have H2_ := (Option.bind_some _ _).symm.trans H; rw [hy123]; with_reducible exact H2_) | (have H2_ := (Option.bind_some _ _).symm.trans H; with_reducible exact H2_) | with_reducible exact H | (rw [hy123]; exact H) | exact H
           have Ny123 := Aside0.mk hy123
           clear hy123
           by_cases c30 : t102.size + 4 ≤ 9223372036854775807
           ·rw [if_pos c30] at H
            have c30b0 := eq_true c30
            have c30b1 : decide (t102.size + 4 ≤ 9223372036854775807) = true := decide_eq_true c30
            try have c30b2 : (9223372036854775807 < t102.size + 4) = False := eq_false (Nat.not_lt.2 c30)
            replace H := Option.bind_eq_some_iff.mp H
            obtain ⟨⟨t126, t127, t128⟩, A310, H⟩ := H
            try dsimp only at H
            have A31 := Aside0.mk A310
            clear A310
            by_cases c32 : t111 = 1
            ·rw [if_pos c32] at H
             have c32b0 : (t111 == 1) = true := beq_iff_eq.mpr c32
             have c32b1 : (t111 != 1) = false := bne_eq_false_iff_eq.mpr c32
             clear c32
             by_cases c33 : t110 = 0
             ·rw [if_pos c33] at H
              have c33b0 : (t110 == 0) = true := beq_iff_eq.mpr c33
              have c33b1 : (t110 != 0) = false := bne_eq_false_iff_eq.mpr c33
              clear c33
              by_cases c34 : t112 < 0
              ·rw [if_pos c34] at H
               have c34b0 : decide (t112 < 0) = true := decide_eq_true c34
               clear c34
               by_cases c35 : t119.toList = t102.toList
               ·rw [if_pos c35] at H
                have c35b0 : (t119.toList == t102.toList) = true := beq_iff_eq.mpr c35
                have c35b1 : (t119.toList != t102.toList) = false := bne_eq_false_iff_eq.mpr c35
                clear c35
                by_cases c36 : t120 = (t104.size : Int)
                ·rw [if_pos c36] at H
                 have c36b0 : (t120 == (t104.size : Int)) = true := beq_iff_eq.mpr c36
                 have c36b1 : (t120 != (t104.size : Int)) = false := bne_eq_false_iff_eq.mpr c36
                 clear c36
                 by_cases c37 : t121 = 0
                 ·rw [if_pos c37] at H
                  have c37b0 : (t121 == 0) = true := beq_iff_eq.mpr c37
                  have c37b1 : (t121 != 0) = false := bne_eq_false_iff_eq.mpr c37
                  clear c37
                  by_cases c38 : t126.toList = t102.toList
                  ·rw [if_pos c38] at H
                   have c38b0 : (t126.toList == t102.toList) = true := beq_iff_eq.mpr c38
                   have c38b1 : (t126.toList != t102.toList) = false := bne_eq_false_iff_eq.mpr c38
                   clear c38
                   by_cases c39 : t127 = (t102.size : Int)
                   ·rw [if_pos c39] at H
                    have c39b0 : (t127 == (t102.size : Int)) = true := beq_iff_eq.mpr c39
                    have c39b1 : (t127 != (t102.size : Int)) = false := bne_eq_false_iff_eq.mpr c39
                    clear c39
                    obtain rfl := Option.some.inj H
                    go_wp2_with (first | ((with_reducible refine gate_callee (f := 44) rfl ?_); refine goesL_ (some 60) rfl rfl Tryd.func44 (by kernel_rfl) rfl #[.slice A0 l0.length c0, .int .i64 0] rfl am ?_; (with_reducible refine (laws_at.calls _ _ l0 0 t108 _ ?side1 ?side2 A19.out).mono ?_); (case side1 => repeat (first | exact (Kd.C_below HR0.out HB.out) | (with_reducible refine Kd.C_alloc ?_ _) | (with_reducible refine Kd.C_drewN ?_ _) | (with_reducible refine Kd.C_drew ?_))); (case side2 => exact HC0.out); rintro e w' ⟨rfl, ⟨nd, rfl⟩⟩; refine ⟨_, rfl, ?_⟩) | ((with_reducible refine gate_callee (f := 43) rfl ?_); refine goesL_ (some 68) rfl rfl Tryd.func43 (by kernel_rfl) rfl #[.string (t104.extract 0 ((ji20) : Int).toNat)] rfl (by (try simp only [List.map_toArray, List.map_cons, List.map_nil]); first | done | (simp only [hji20]; rfl) | rfl | (simp only [List.length_drop, List.length_take]; rfl)) ?_; (with_reducible refine (impl_Unchunk.calls kj10 (t104.extract 0 ((ji20) : Int).toNat) t109 t110 t111 _ ?side1 A23.out).mono ?_); (case side1 => refine GMax.of_below HGMax.out ?_; repeat (first | (with_reducible first | exact HB.out | apply below_alloc | apply pw_below_drewN | apply below_drew1) | exact HB.out)); rintro e w40 ⟨rfl, hb⟩; refine ⟨_, rfl, ?_⟩; have n0_ := Aside0.mk (below_step bq hb); clear HB; have HB := n0_; clear n0_; (try clear hb); (try clear hb2); (try clear hk); (try clear hi)) | ((with_reducible refine gate_callee (f := 45) rfl ?_); refine goesL_ (some 73) rfl rfl Tryd.func45 (by kernel_rfl) rfl #[.slice A0 l0.length c0] rfl am ?_; (with_reducible refine (spec_DrawHexNum.calls kj10 _ _ l0 t112 _ ?side1 ?side2 A24.out).mono ?_); (case side1 => repeat (first | exact (Kd.C_below HR0.out HB.out) | (with_reducible refine Kd.C_alloc ?_ _) | (with_reducible refine Kd.C_drewN ?_ _) | (with_reducible refine Kd.C_drew ?_))); (case side2 => exact HC0.out); rintro e w41 ⟨rfl, hb⟩; refine ⟨_, rfl, ?_⟩; have n0_ := Aside0.mk (below_step bq hb); clear HB; have HB := n0_; clear n0_; (try clear hb); (try clear hb2); (try clear hk); (try clear hi)) | ((with_reducible refine gate_callee (f := 47) rfl ?_); refine goesL_ (some 76) rfl rfl Tryd.func47 (by kernel_rfl) rfl #[.int .i64 t112] rfl am ?_; (with_reducible refine (impl_HexNum.calls t112 t113 _ ?side1 A25.out).mono ?_); (case side1 => refine GTz.of_below HGTz.out ?_; repeat (first | (with_reducible first | exact HB.out | apply below_alloc | apply pw_below_drewN | apply below_drew1) | exact HB.out)); rintro e w42 ⟨rfl, hb⟩; refine ⟨_, rfl, ?_⟩; have n0_ := Aside0.mk (below_step bq hb); clear HB; have HB := n0_; clear n0_; (try clear hb); (try clear hb2); (try clear hk); (try clear hi)) | ((with_reducible refine gate_callee (f := 46) rfl ?_); refine goesL_ (some 77) rfl rfl Tryd.func46 (by kernel_rfl) rfl #[.string t113] rfl am ?_; (with_reducible refine (impl_ReadHexNum.calls kj10 t113 t114 t115 _ A26.out).mono ?_); rintro e w' ⟨rfl, ⟨nd, rfl⟩⟩; refine ⟨_, rfl, ?_⟩) | ((with_reducible refine gate_dst (N := 82) rfl ?_); (try (refine gate_guard (by rfl) ?_; dsimp only)); refine Kd.R_lit k49 _ 49 ?hg (N := 82) ?hd (xs := ([(⟨(⟨#[116, 114, 97, 110, 115, 102, 101, 114, 45, 101, 110, 99, 111, 100, 105, 110, 103]⟩ : ByteArray), (⟨#[99, 104, 117, 110, 107, 101, 100]⟩ : ByteArray)⟩ : S49)] : List (S49))) (inner := [.string (⟨#[116, 114, 97, 110, 115, 102, 101, 114, 45, 101, 110, 99, 111, 100, 105, 110, 103]⟩ : ByteArray), .string (⟨#[99, 104, 117, 110, 107, 101, 100]⟩ : ByteArray)]) (ok := fun _ => True) (okp := fun _ => True) ?hr ?hp (fun _ hk => hk) trivial (Below.refl _ _) (Nat.le_refl _) (by simp) ?_; (case hd => rfl); (case hg => rfl); (case hr => first | (go_simp; done) | (go_simp; rfl)); (case hp => exact (Reps.c2 (show Kd.M k49 _ _ _ (⟨(⟨#[116, 114, 97, 110, 115, 102, 101, 114, 45, 101, 110, 99, 111, 100, 105, 110, 103]⟩ : ByteArray), (⟨#[99, 104, 117, 110, 107, 101, 100]⟩ : ByteArray)⟩ : S49) [.string (⟨#[116, 114, 97, 110, 115, 102, 101, 114, 45, 101, 110, 99, 111, 100, 105, 110, 103]⟩ : ByteArray), .string (⟨#[99, 104, 117, 110, 107, 101, 100]⟩ : ByteArray)] from (k49_mkM _ _ _ (⟨(⟨#[116, 114, 97, 110, 115, 102, 101, 114, 45, 101, 110, 99, 111, 100, 105, 110, 103]⟩ : ByteArray), (⟨#[99, 104, 117, 110, 107, 101, 100]⟩ : ByteArray)⟩ : S49) )) (Reps.none _ _))); intro v117 w43 ho44 hb hg_ hnew_; clear hg_ hnew_; (first | rw [← Ny116.out] at ho44 | (simp only [Int.reduceToNat] at ho44; rw [← Ny116.out] at ho44)); have n0_ := Aside0.mk (Kd.R_lower ho44 (below_size bq)); have n1_ := Aside0.mk (below_step bq hb); clear HB; have HO118 := n0_; have HB := n1_; clear n0_ n1_; clear hb ho44; obtain ⟨Ao45, co45, eo45⟩ := Kd.R_slice HO118.out; subst eo45) | ((with_reducible refine gate_callee (f := 48) rfl ?_); refine goesL_ (some 85) rfl rfl Tryd.func48 (by kernel_rfl) rfl #[.slice Ao45 y116.length co45, .string (t104 ++ (⟨#[116, 97, 105, 108]⟩ : ByteArray)), .bool false] rfl am ?_; (with_reducible refine (impl_BodyOf.calls kj10 _ _ y116 (t104 ++ (⟨#[116, 97, 105, 108]⟩ : ByteArray)) false t119 t120 t121 _ ?side1 ?side2 ?side3 ?side4 A28.out).mono ?_); (case side1 => repeat (first | exact (Kd.R_reads' HO118.out).2.2 | (with_reducible refine Kd.C_alloc ?_ _) | (with_reducible refine Kd.C_drewN ?_ _) | (with_reducible refine Kd.C_drew ?_))); (case side2 => exact (Kd.R_reads' HO118.out).2.1); (case side3 => refine GErr.of_below HGErr.out ?_; repeat (first | (with_reducible first | exact HB.out | apply below_alloc | apply pw_below_drewN | apply below_drew1) | exact HB.out)); (case side4 => refine GMax.of_below HGMax.out ?_; repeat (first | (with_reducible first | exact HB.out | apply below_alloc | apply pw_below_drewN | apply below_drew1) | exact HB.out)); rintro e w46 ⟨rfl, hb⟩; refine ⟨_, rfl, ?_⟩; have n0_ := Aside0.mk (Kd.R_below (by (with_reducible repeat (first | apply Kd.R_alloc | apply Kd.R_drewN | apply Kd.R_drew)); exact HO118.out) hb); have n1_ := Aside0.mk (below_step bq hb); clear HO118; clear HB; have HO118 := n0_; have HB := n1_; clear n0_ n1_; (try clear hb); (try clear hb2); (try clear hk); (try clear hi)) | ((with_reducible refine gate_callee (f := 49) rfl ?_); refine goesL_ (some 92) rfl rfl Tryd.func49 (by kernel_rfl) rfl #[.int .i64 (t102.size : Int)] rfl am ?_; (with_reducible refine (spec_Dec.calls kj10 (t102.size : Int) t122 _ A29.out).mono ?_); rintro e w47 ⟨rfl, hb⟩; refine ⟨_, rfl, ?_⟩; have n0_ := Aside0.mk (Kd.R_below (by (with_reducible repeat (first | apply Kd.R_alloc | apply Kd.R_drewN | apply Kd.R_drew)); exact HO118.out) hb); have n1_ := Aside0.mk (below_step bq hb); clear HO118; clear HB; have HO118 := n0_; have HB := n1_; clear n0_ n1_; (try clear hb); (try clear hb2); (try clear hk); (try clear hi)) | ((with_reducible refine gate_dst (N := 94) rfl ?_); (try (refine gate_guard (by rfl) ?_; dsimp only)); refine Kd.R_lit k49 _ 49 ?hg (N := 94) ?hd (xs := ([(⟨(⟨#[99, 111, 110, 116, 101, 110, 116, 45, 108, 101, 110, 103, 116, 104]⟩ : ByteArray), t122⟩ : S49)] : List (S49))) (inner := [.string (⟨#[99, 111, 110, 116, 101, 110, 116, 45, 108, 101, 110, 103, 116, 104]⟩ : ByteArray), .string t122]) (ok := fun _ => True) (okp := fun _ => True) ?hr ?hp (fun _ hk => hk) trivial (Below.refl _ _) (Nat.le_refl _) (by simp) ?_; (case hd => rfl); (case hg => rfl); (case hr => first | (go_simp; done) | (go_simp; rfl)); (case hp => exact (Reps.c2 (show Kd.M k49 _ _ _ (⟨(⟨#[99, 111, 110, 116, 101, 110, 116, 45, 108, 101, 110, 103, 116, 104]⟩ : ByteArray), t122⟩ : S49) [.string (⟨#[99, 111, 110, 116, 101, 110, 116, 45, 108, 101, 110, 103, 116, 104]⟩ : ByteArray), .string t122] from (k49_mkM _ _ _ (⟨(⟨#[99, 111, 110, 116, 101, 110, 116, 45, 108, 101, 110, 103, 116, 104]⟩ : ByteArray), t122⟩ : S49) )) (Reps.none _ _))); intro v124 w48 ho49 hb hg_ hnew_; clear hg_ hnew_; (first | rw [← Ny123.out] at ho49 | (simp only [Int.reduceToNat] at ho49; rw [← Ny123.out] at ho49)); have n0_ := Aside0.mk (Kd.R_elder' (by (with_reducible repeat (first | apply Kd.R_alloc | apply Kd.R_drewN | apply Kd.R_drew)); exact HO118.out) (Kd.R_base ho49) hb); have n1_ := Aside0.mk (Kd.R_lower (Kd.R_new' ho49 (Kd.R_lt (by (with_reducible repeat (first | apply Kd.R_alloc | apply Kd.R_drewN | apply Kd.R_drew)); exact HO118.out))) (below_size bq)); have n2_ := Aside0.mk (below_step bq hb); clear HO118; clear HB; have HO118 := n0_; have HO125 := n1_; have HB := n2_; clear n0_ n1_ n2_; clear hb ho49; obtain ⟨Ao50, co50, eo50⟩ := Kd.R_slice HO125.out; subst eo50) | ((with_reducible refine gate_callee (f := 48) rfl ?_); refine goesL_ (some 97) rfl rfl Tryd.func48 (by kernel_rfl) rfl #[.slice Ao50 y123.length co50, .string (t102 ++ (⟨#[116, 97, 105, 108]⟩ : ByteArray)), .bool true] rfl am ?_; (with_reducible refine (impl_BodyOf.calls kj10 _ _ y123 (t102 ++ (⟨#[116, 97, 105, 108]⟩ : ByteArray)) true t126 t127 t128 _ ?side1 ?side2 ?side3 ?side4 A31.out).mono ?_); (case side1 => repeat (first | exact (Kd.R_reads' HO125.out).2.2 | (with_reducible refine Kd.C_alloc ?_ _) | (with_reducible refine Kd.C_drewN ?_ _) | (with_reducible refine Kd.C_drew ?_))); (case side2 => exact (Kd.R_reads' HO125.out).2.1); (case side3 => refine GErr.of_below HGErr.out ?_; repeat (first | (with_reducible first | exact HB.out | apply below_alloc | apply pw_below_drewN | apply below_drew1) | exact HB.out)); (case side4 => refine GMax.of_below HGMax.out ?_; repeat (first | (with_reducible first | exact HB.out | apply below_alloc | apply pw_below_drewN | apply below_drew1) | exact HB.out)); rintro e w51 ⟨rfl, hb⟩; refine ⟨_, rfl, ?_⟩; have n0_ := Aside0.mk (Kd.R_below (by (with_reducible repeat (first | apply Kd.R_alloc | apply Kd.R_drewN | apply Kd.R_drew)); exact HO118.out) hb); have n1_ := Aside0.mk (Kd.R_below (by (with_reducible repeat (first | apply Kd.R_alloc | apply Kd.R_drewN | apply Kd.R_drew)); exact HO125.out) hb); have n2_ := Aside0.mk (below_step bq hb); clear HO118; clear HO125; clear HB; have HO118 := n0_; have HO125 := n1_; have HB := n2_; clear n0_ n1_ n2_; (try clear hb); (try clear hb2); (try clear hk); (try clear hi)))
                    go_ret
                    exact ⟨by first | rfl | (simp [errW_none, errW_some] <;> rfl) | (simp only [← hji20]; first | rfl | (simp [errW_none, errW_some] <;> rfl)) | (simp [*, errW_none, errW_some] <;> rfl), bq⟩
                   ·rw [if_neg c39] at H
                    have c39b0 : (t127 == (t102.size : Int)) = false := beq_eq_false_iff_ne.mpr c39
                    have c39b1 : (t127 != (t102.size : Int)) = true := bne_iff_ne.mpr c39
                    obtain rfl := Option.some.inj H
                    exact absurd HR_.out (by decide)
                  ·rw [if_neg c38] at H
                   have c38b0 : (t126.toList == t102.toList) = false := beq_eq_false_iff_ne.mpr c38
                   have c38b1 : (t126.toList != t102.toList) = true := bne_iff_ne.mpr c38
                   obtain rfl := Option.some.inj H
                   exact absurd HR_.out (by decide)
                 ·rw [if_neg c37] at H
                  have c37b0 : (t121 == 0) = false := beq_eq_false_iff_ne.mpr c37
                  have c37b1 : (t121 != 0) = true := bne_iff_ne.mpr c37
                  obtain rfl := Option.some.inj H
                  exact absurd HR_.out (by decide)
                ·rw [if_neg c36] at H
                 have c36b0 : (t120 == (t104.size : Int)) = false := beq_eq_false_iff_ne.mpr c36
                 have c36b1 : (t120 != (t104.size : Int)) = true := bne_iff_ne.mpr c36
                 obtain rfl := Option.some.inj H
                 exact absurd HR_.out (by decide)
               ·rw [if_neg c35] at H
                have c35b0 : (t119.toList == t102.toList) = false := beq_eq_false_iff_ne.mpr c35
                have c35b1 : (t119.toList != t102.toList) = true := bne_iff_ne.mpr c35
                obtain rfl := Option.some.inj H
                exact absurd HR_.out (by decide)
              ·rw [if_neg c34] at H
               have c34b0 : decide (t112 < 0) = false := decide_eq_false c34
               clear c34
               by_cases c112 : t112 > 16777215
               ·rw [if_pos c112] at H
                have c112b0 : decide (16777215 < t112) = true := decide_eq_true c112
                clear c112
                by_cases c113 : t119.toList = t102.toList
                ·rw [if_pos c113] at H
                 have c113b0 : (t119.toList == t102.toList) = true := beq_iff_eq.mpr c113
                 have c113b1 : (t119.toList != t102.toList) = false := bne_eq_false_iff_eq.mpr c113
                 clear c113
                 by_cases c114 : t120 = (t104.size : Int)
                 ·rw [if_pos c114] at H
                  have c114b0 : (t120 == (t104.size : Int)) = true := beq_iff_eq.mpr c114
                  have c114b1 : (t120 != (t104.size : Int)) = false := bne_eq_false_iff_eq.mpr c114
                  clear c114
                  by_cases c115 : t121 = 0
                  ·rw [if_pos c115] at H
                   have c115b0 : (t121 == 0) = true := beq_iff_eq.mpr c115
                   have c115b1 : (t121 != 0) = false := bne_eq_false_iff_eq.mpr c115
                   clear c115
                   by_cases c116 : t126.toList = t102.toList
                   ·rw [if_pos c116] at H
                    have c116b0 : (t126.toList == t102.toList) = true := beq_iff_eq.mpr c116
                    have c116b1 : (t126.toList != t102.toList) = false := bne_eq_false_iff_eq.mpr c116
                    clear c116
                    by_cases c117 : t127 = (t102.size : Int)
                    ·rw [if_pos c117] at H
                     have c117b0 : (t127 == (t102.size : Int)) = true := beq_iff_eq.mpr c117
                     have c117b1 : (t127 != (t102.size : Int)) = false := bne_eq_false_iff_eq.mpr c117
                     clear c117
                     obtain rfl := Option.some.inj H
                     go_wp2_with (first | ((with_reducible refine gate_callee (f := 44) rfl ?_); refine goesL_ (some 60) rfl rfl Tryd.func44 (by kernel_rfl) rfl #[.slice A0 l0.length c0, .int .i64 0] rfl am ?_; (with_reducible refine (laws_at.calls _ _ l0 0 t108 _ ?side1 ?side2 A19.out).mono ?_); (case side1 => repeat (first | exact (Kd.C_below HR0.out HB.out) | (with_reducible refine Kd.C_alloc ?_ _) | (with_reducible refine Kd.C_drewN ?_ _) | (with_reducible refine Kd.C_drew ?_))); (case side2 => exact HC0.out); rintro e w' ⟨rfl, ⟨nd, rfl⟩⟩; refine ⟨_, rfl, ?_⟩) | ((with_reducible refine gate_callee (f := 43) rfl ?_); refine goesL_ (some 68) rfl rfl Tryd.func43 (by kernel_rfl) rfl #[.string (t104.extract 0 ((ji20) : Int).toNat)] rfl (by (try simp only [List.map_toArray, List.map_cons, List.map_nil]); first | done | (simp only [hji20]; rfl) | rfl | (simp only [List.length_drop, List.length_take]; rfl)) ?_; (with_reducible refine (impl_Unchunk.calls kj10 (t104.extract 0 ((ji20) : Int).toNat) t109 t110 t111 _ ?side1 A23.out).mono ?_); (case side1 => refine GMax.of_below HGMax.out ?_; repeat (first | (with_reducible first | exact HB.out | apply below_alloc | apply pw_below_drewN | apply below_drew1) | exact HB.out)); rintro e w118 ⟨rfl, hb⟩; refine ⟨_, rfl, ?_⟩; have n0_ := Aside0.mk (below_step bq hb); clear HB; have HB := n0_; clear n0_; (try clear hb); (try clear hb2); (try clear hk); (try clear hi)) | ((with_reducible refine gate_callee (f := 45) rfl ?_); refine goesL_ (some 73) rfl rfl Tryd.func45 (by kernel_rfl) rfl #[.slice A0 l0.length c0] rfl am ?_; (with_reducible refine (spec_DrawHexNum.calls kj10 _ _ l0 t112 _ ?side1 ?side2 A24.out).mono ?_); (case side1 => repeat (first | exact (Kd.C_below HR0.out HB.out) | (with_reducible refine Kd.C_alloc ?_ _) | (with_reducible refine Kd.C_drewN ?_ _) | (with_reducible refine Kd.C_drew ?_))); (case side2 => exact HC0.out); rintro e w119 ⟨rfl, hb⟩; refine ⟨_, rfl, ?_⟩; have n0_ := Aside0.mk (below_step bq hb); clear HB; have HB := n0_; clear n0_; (try clear hb); (try clear hb2); (try clear hk); (try clear hi)) | ((with_reducible refine gate_callee (f := 47) rfl ?_); refine goesL_ (some 76) rfl rfl Tryd.func47 (by kernel_rfl) rfl #[.int .i64 t112] rfl am ?_; (with_reducible refine (impl_HexNum.calls t112 t113 _ ?side1 A25.out).mono ?_); (case side1 => refine GTz.of_below HGTz.out ?_; repeat (first | (with_reducible first | exact HB.out | apply below_alloc | apply pw_below_drewN | apply below_drew1) | exact HB.out)); rintro e w120 ⟨rfl, hb⟩; refine ⟨_, rfl, ?_⟩; have n0_ := Aside0.mk (below_step bq hb); clear HB; have HB := n0_; clear n0_; (try clear hb); (try clear hb2); (try clear hk); (try clear hi)) | ((with_reducible refine gate_callee (f := 46) rfl ?_); refine goesL_ (some 77) rfl rfl Tryd.func46 (by kernel_rfl) rfl #[.string t113] rfl am ?_; (with_reducible refine (impl_ReadHexNum.calls kj10 t113 t114 t115 _ A26.out).mono ?_); rintro e w' ⟨rfl, ⟨nd, rfl⟩⟩; refine ⟨_, rfl, ?_⟩) | ((with_reducible refine gate_dst (N := 82) rfl ?_); (try (refine gate_guard (by rfl) ?_; dsimp only)); refine Kd.R_lit k49 _ 49 ?hg (N := 82) ?hd (xs := ([(⟨(⟨#[116, 114, 97, 110, 115, 102, 101, 114, 45, 101, 110, 99, 111, 100, 105, 110, 103]⟩ : ByteArray), (⟨#[99, 104, 117, 110, 107, 101, 100]⟩ : ByteArray)⟩ : S49)] : List (S49))) (inner := [.string (⟨#[116, 114, 97, 110, 115, 102, 101, 114, 45, 101, 110, 99, 111, 100, 105, 110, 103]⟩ : ByteArray), .string (⟨#[99, 104, 117, 110, 107, 101, 100]⟩ : ByteArray)]) (ok := fun _ => True) (okp := fun _ => True) ?hr ?hp (fun _ hk => hk) trivial (Below.refl _ _) (Nat.le_refl _) (by simp) ?_; (case hd => rfl); (case hg => rfl); (case hr => first | (go_simp; done) | (go_simp; rfl)); (case hp => exact (Reps.c2 (show Kd.M k49 _ _ _ (⟨(⟨#[116, 114, 97, 110, 115, 102, 101, 114, 45, 101, 110, 99, 111, 100, 105, 110, 103]⟩ : ByteArray), (⟨#[99, 104, 117, 110, 107, 101, 100]⟩ : ByteArray)⟩ : S49) [.string (⟨#[116, 114, 97, 110, 115, 102, 101, 114, 45, 101, 110, 99, 111, 100, 105, 110, 103]⟩ : ByteArray), .string (⟨#[99, 104, 117, 110, 107, 101, 100]⟩ : ByteArray)] from (k49_mkM _ _ _ (⟨(⟨#[116, 114, 97, 110, 115, 102, 101, 114, 45, 101, 110, 99, 111, 100, 105, 110, 103]⟩ : ByteArray), (⟨#[99, 104, 117, 110, 107, 101, 100]⟩ : ByteArray)⟩ : S49) )) (Reps.none _ _))); intro v117 w121 ho122 hb hg_ hnew_; clear hg_ hnew_; (first | rw [← Ny116.out] at ho122 | (simp only [Int.reduceToNat] at ho122; rw [← Ny116.out] at ho122)); have n0_ := Aside0.mk (Kd.R_lower ho122 (below_size bq)); have n1_ := Aside0.mk (below_step bq hb); clear HB; have HO118 := n0_; have HB := n1_; clear n0_ n1_; clear hb ho122; obtain ⟨Ao123, co123, eo123⟩ := Kd.R_slice HO118.out; subst eo123) | ((with_reducible refine gate_callee (f := 48) rfl ?_); refine goesL_ (some 85) rfl rfl Tryd.func48 (by kernel_rfl) rfl #[.slice Ao123 y116.length co123, .string (t104 ++ (⟨#[116, 97, 105, 108]⟩ : ByteArray)), .bool false] rfl am ?_; (with_reducible refine (impl_BodyOf.calls kj10 _ _ y116 (t104 ++ (⟨#[116, 97, 105, 108]⟩ : ByteArray)) false t119 t120 t121 _ ?side1 ?side2 ?side3 ?side4 A28.out).mono ?_); (case side1 => repeat (first | exact (Kd.R_reads' HO118.out).2.2 | (with_reducible refine Kd.C_alloc ?_ _) | (with_reducible refine Kd.C_drewN ?_ _) | (with_reducible refine Kd.C_drew ?_))); (case side2 => exact (Kd.R_reads' HO118.out).2.1); (case side3 => refine GErr.of_below HGErr.out ?_; repeat (first | (with_reducible first | exact HB.out | apply below_alloc | apply pw_below_drewN | apply below_drew1) | exact HB.out)); (case side4 => refine GMax.of_below HGMax.out ?_; repeat (first | (with_reducible first | exact HB.out | apply below_alloc | apply pw_below_drewN | apply below_drew1) | exact HB.out)); rintro e w124 ⟨rfl, hb⟩; refine ⟨_, rfl, ?_⟩; have n0_ := Aside0.mk (Kd.R_below (by (with_reducible repeat (first | apply Kd.R_alloc | apply Kd.R_drewN | apply Kd.R_drew)); exact HO118.out) hb); have n1_ := Aside0.mk (below_step bq hb); clear HO118; clear HB; have HO118 := n0_; have HB := n1_; clear n0_ n1_; (try clear hb); (try clear hb2); (try clear hk); (try clear hi)) | ((with_reducible refine gate_callee (f := 49) rfl ?_); refine goesL_ (some 92) rfl rfl Tryd.func49 (by kernel_rfl) rfl #[.int .i64 (t102.size : Int)] rfl am ?_; (with_reducible refine (spec_Dec.calls kj10 (t102.size : Int) t122 _ A29.out).mono ?_); rintro e w125 ⟨rfl, hb⟩; refine ⟨_, rfl, ?_⟩; have n0_ := Aside0.mk (Kd.R_below (by (with_reducible repeat (first | apply Kd.R_alloc | apply Kd.R_drewN | apply Kd.R_drew)); exact HO118.out) hb); have n1_ := Aside0.mk (below_step bq hb); clear HO118; clear HB; have HO118 := n0_; have HB := n1_; clear n0_ n1_; (try clear hb); (try clear hb2); (try clear hk); (try clear hi)) | ((with_reducible refine gate_dst (N := 94) rfl ?_); (try (refine gate_guard (by rfl) ?_; dsimp only)); refine Kd.R_lit k49 _ 49 ?hg (N := 94) ?hd (xs := ([(⟨(⟨#[99, 111, 110, 116, 101, 110, 116, 45, 108, 101, 110, 103, 116, 104]⟩ : ByteArray), t122⟩ : S49)] : List (S49))) (inner := [.string (⟨#[99, 111, 110, 116, 101, 110, 116, 45, 108, 101, 110, 103, 116, 104]⟩ : ByteArray), .string t122]) (ok := fun _ => True) (okp := fun _ => True) ?hr ?hp (fun _ hk => hk) trivial (Below.refl _ _) (Nat.le_refl _) (by simp) ?_; (case hd => rfl); (case hg => rfl); (case hr => first | (go_simp; done) | (go_simp; rfl)); (case hp => exact (Reps.c2 (show Kd.M k49 _ _ _ (⟨(⟨#[99, 111, 110, 116, 101, 110, 116, 45, 108, 101, 110, 103, 116, 104]⟩ : ByteArray), t122⟩ : S49) [.string (⟨#[99, 111, 110, 116, 101, 110, 116, 45, 108, 101, 110, 103, 116, 104]⟩ : ByteArray), .string t122] from (k49_mkM _ _ _ (⟨(⟨#[99, 111, 110, 116, 101, 110, 116, 45, 108, 101, 110, 103, 116, 104]⟩ : ByteArray), t122⟩ : S49) )) (Reps.none _ _))); intro v124 w126 ho127 hb hg_ hnew_; clear hg_ hnew_; (first | rw [← Ny123.out] at ho127 | (simp only [Int.reduceToNat] at ho127; rw [← Ny123.out] at ho127)); have n0_ := Aside0.mk (Kd.R_elder' (by (with_reducible repeat (first | apply Kd.R_alloc | apply Kd.R_drewN | apply Kd.R_drew)); exact HO118.out) (Kd.R_base ho127) hb); have n1_ := Aside0.mk (Kd.R_lower (Kd.R_new' ho127 (Kd.R_lt (by (with_reducible repeat (first | apply Kd.R_alloc | apply Kd.R_drewN | apply Kd.R_drew)); exact HO118.out))) (below_size bq)); have n2_ := Aside0.mk (below_step bq hb); clear HO118; clear HB; have HO118 := n0_; have HO125 := n1_; have HB := n2_; clear n0_ n1_ n2_; clear hb ho127; obtain ⟨Ao128, co128, eo128⟩ := Kd.R_slice HO125.out; subst eo128) | ((with_reducible refine gate_callee (f := 48) rfl ?_); refine goesL_ (some 97) rfl rfl Tryd.func48 (by kernel_rfl) rfl #[.slice Ao128 y123.length co128, .string (t102 ++ (⟨#[116, 97, 105, 108]⟩ : ByteArray)), .bool true] rfl am ?_; (with_reducible refine (impl_BodyOf.calls kj10 _ _ y123 (t102 ++ (⟨#[116, 97, 105, 108]⟩ : ByteArray)) true t126 t127 t128 _ ?side1 ?side2 ?side3 ?side4 A31.out).mono ?_); (case side1 => repeat (first | exact (Kd.R_reads' HO125.out).2.2 | (with_reducible refine Kd.C_alloc ?_ _) | (with_reducible refine Kd.C_drewN ?_ _) | (with_reducible refine Kd.C_drew ?_))); (case side2 => exact (Kd.R_reads' HO125.out).2.1); (case side3 => refine GErr.of_below HGErr.out ?_; repeat (first | (with_reducible first | exact HB.out | apply below_alloc | apply pw_below_drewN | apply below_drew1) | exact HB.out)); (case side4 => refine GMax.of_below HGMax.out ?_; repeat (first | (with_reducible first | exact HB.out | apply below_alloc | apply pw_below_drewN | apply below_drew1) | exact HB.out)); rintro e w129 ⟨rfl, hb⟩; refine ⟨_, rfl, ?_⟩; have n0_ := Aside0.mk (Kd.R_below (by (with_reducible repeat (first | apply Kd.R_alloc | apply Kd.R_drewN | apply Kd.R_drew)); exact HO118.out) hb); have n1_ := Aside0.mk (Kd.R_below (by (with_reducible repeat (first | apply Kd.R_alloc | apply Kd.R_drewN | apply Kd.R_drew)); exact HO125.out) hb); have n2_ := Aside0.mk (below_step bq hb); clear HO118; clear HO125; clear HB; have HO118 := n0_; have HO125 := n1_; have HB := n2_; clear n0_ n1_ n2_; (try clear hb); (try clear hb2); (try clear hk); (try clear hi)))
                     go_ret
                     exact ⟨by first | rfl | (simp [errW_none, errW_some] <;> rfl) | (simp only [← hji20]; first | rfl | (simp [errW_none, errW_some] <;> rfl)) | (simp [*, errW_none, errW_some] <;> rfl), bq⟩
                    ·rw [if_neg c117] at H
                     have c117b0 : (t127 == (t102.size : Int)) = false := beq_eq_false_iff_ne.mpr c117
                     have c117b1 : (t127 != (t102.size : Int)) = true := bne_iff_ne.mpr c117
                     obtain rfl := Option.some.inj H
                     exact absurd HR_.out (by decide)
                   ·rw [if_neg c116] at H
                    have c116b0 : (t126.toList == t102.toList) = false := beq_eq_false_iff_ne.mpr c116
                    have c116b1 : (t126.toList != t102.toList) = true := bne_iff_ne.mpr c116
                    obtain rfl := Option.some.inj H
                    exact absurd HR_.out (by decide)
                  ·rw [if_neg c115] at H
                   have c115b0 : (t121 == 0) = false := beq_eq_false_iff_ne.mpr c115
                   have c115b1 : (t121 != 0) = true := bne_iff_ne.mpr c115
                   obtain rfl := Option.some.inj H
                   exact absurd HR_.out (by decide)
                 ·rw [if_neg c114] at H
                  have c114b0 : (t120 == (t104.size : Int)) = false := beq_eq_false_iff_ne.mpr c114
                  have c114b1 : (t120 != (t104.size : Int)) = true := bne_iff_ne.mpr c114
                  obtain rfl := Option.some.inj H
                  exact absurd HR_.out (by decide)
                ·rw [if_neg c113] at H
                 have c113b0 : (t119.toList == t102.toList) = false := beq_eq_false_iff_ne.mpr c113
                 have c113b1 : (t119.toList != t102.toList) = true := bne_iff_ne.mpr c113
                 obtain rfl := Option.some.inj H
                 exact absurd HR_.out (by decide)
               ·rw [if_neg c112] at H
                have c112b0 : decide (16777215 < t112) = false := decide_eq_false c112
                clear c112
                by_cases c190 : t115 = true
                ·subst c190
                 rw [if_pos rfl] at H
                 by_cases c191 : t114 = t112
                 ·rw [if_pos c191] at H
                  have c191b0 : (t114 == t112) = true := beq_iff_eq.mpr c191
                  have c191b1 : (t114 != t112) = false := bne_eq_false_iff_eq.mpr c191
                  clear c191
                  by_cases c192 : t119.toList = t102.toList
                  ·rw [if_pos c192] at H
                   have c192b0 : (t119.toList == t102.toList) = true := beq_iff_eq.mpr c192
                   have c192b1 : (t119.toList != t102.toList) = false := bne_eq_false_iff_eq.mpr c192
                   clear c192
                   by_cases c193 : t120 = (t104.size : Int)
                   ·rw [if_pos c193] at H
                    have c193b0 : (t120 == (t104.size : Int)) = true := beq_iff_eq.mpr c193
                    have c193b1 : (t120 != (t104.size : Int)) = false := bne_eq_false_iff_eq.mpr c193
                    clear c193
                    by_cases c194 : t121 = 0
                    ·rw [if_pos c194] at H
                     have c194b0 : (t121 == 0) = true := beq_iff_eq.mpr c194
                     have c194b1 : (t121 != 0) = false := bne_eq_false_iff_eq.mpr c194
                     clear c194
                     by_cases c195 : t126.toList = t102.toList
                     ·rw [if_pos c195] at H
                      have c195b0 : (t126.toList == t102.toList) = true := beq_iff_eq.mpr c195
                      have c195b1 : (t126.toList != t102.toList) = false := bne_eq_false_iff_eq.mpr c195
                      clear c195
                      by_cases c196 : t127 = (t102.size : Int)
                      ·rw [if_pos c196] at H
                       have c196b0 : (t127 == (t102.size : Int)) = true := beq_iff_eq.mpr c196
                       have c196b1 : (t127 != (t102.size : Int)) = false := bne_eq_false_iff_eq.mpr c196
                       clear c196
                       obtain rfl := Option.some.inj H
                       go_wp2_with (first | ((with_reducible refine gate_callee (f := 44) rfl ?_); refine goesL_ (some 60) rfl rfl Tryd.func44 (by kernel_rfl) rfl #[.slice A0 l0.length c0, .int .i64 0] rfl am ?_; (with_reducible refine (laws_at.calls _ _ l0 0 t108 _ ?side1 ?side2 A19.out).mono ?_); (case side1 => repeat (first | exact (Kd.C_below HR0.out HB.out) | (with_reducible refine Kd.C_alloc ?_ _) | (with_reducible refine Kd.C_drewN ?_ _) | (with_reducible refine Kd.C_drew ?_))); (case side2 => exact HC0.out); rintro e w' ⟨rfl, ⟨nd, rfl⟩⟩; refine ⟨_, rfl, ?_⟩) | ((with_reducible refine gate_callee (f := 43) rfl ?_); refine goesL_ (some 68) rfl rfl Tryd.func43 (by kernel_rfl) rfl #[.string (t104.extract 0 ((ji20) : Int).toNat)] rfl (by (try simp only [List.map_toArray, List.map_cons, List.map_nil]); first | done | (simp only [hji20]; rfl) | rfl | (simp only [List.length_drop, List.length_take]; rfl)) ?_; (with_reducible refine (impl_Unchunk.calls kj10 (t104.extract 0 ((ji20) : Int).toNat) t109 t110 t111 _ ?side1 A23.out).mono ?_); (case side1 => refine GMax.of_below HGMax.out ?_; repeat (first | (with_reducible first | exact HB.out | apply below_alloc | apply pw_below_drewN | apply below_drew1) | exact HB.out)); rintro e w197 ⟨rfl, hb⟩; refine ⟨_, rfl, ?_⟩; have n0_ := Aside0.mk (below_step bq hb); clear HB; have HB := n0_; clear n0_; (try clear hb); (try clear hb2); (try clear hk); (try clear hi)) | ((with_reducible refine gate_callee (f := 45) rfl ?_); refine goesL_ (some 73) rfl rfl Tryd.func45 (by kernel_rfl) rfl #[.slice A0 l0.length c0] rfl am ?_; (with_reducible refine (spec_DrawHexNum.calls kj10 _ _ l0 t112 _ ?side1 ?side2 A24.out).mono ?_); (case side1 => repeat (first | exact (Kd.C_below HR0.out HB.out) | (with_reducible refine Kd.C_alloc ?_ _) | (with_reducible refine Kd.C_drewN ?_ _) | (with_reducible refine Kd.C_drew ?_))); (case side2 => exact HC0.out); rintro e w198 ⟨rfl, hb⟩; refine ⟨_, rfl, ?_⟩; have n0_ := Aside0.mk (below_step bq hb); clear HB; have HB := n0_; clear n0_; (try clear hb); (try clear hb2); (try clear hk); (try clear hi)) | ((with_reducible refine gate_callee (f := 47) rfl ?_); refine goesL_ (some 76) rfl rfl Tryd.func47 (by kernel_rfl) rfl #[.int .i64 t112] rfl am ?_; (with_reducible refine (impl_HexNum.calls t112 t113 _ ?side1 A25.out).mono ?_); (case side1 => refine GTz.of_below HGTz.out ?_; repeat (first | (with_reducible first | exact HB.out | apply below_alloc | apply pw_below_drewN | apply below_drew1) | exact HB.out)); rintro e w199 ⟨rfl, hb⟩; refine ⟨_, rfl, ?_⟩; have n0_ := Aside0.mk (below_step bq hb); clear HB; have HB := n0_; clear n0_; (try clear hb); (try clear hb2); (try clear hk); (try clear hi)) | ((with_reducible refine gate_callee (f := 46) rfl ?_); refine goesL_ (some 77) rfl rfl Tryd.func46 (by kernel_rfl) rfl #[.string t113] rfl am ?_; (with_reducible refine (impl_ReadHexNum.calls kj10 t113 t114 true _ A26.out).mono ?_); rintro e w' ⟨rfl, ⟨nd, rfl⟩⟩; refine ⟨_, rfl, ?_⟩) | ((with_reducible refine gate_dst (N := 82) rfl ?_); (try (refine gate_guard (by rfl) ?_; dsimp only)); refine Kd.R_lit k49 _ 49 ?hg (N := 82) ?hd (xs := ([(⟨(⟨#[116, 114, 97, 110, 115, 102, 101, 114, 45, 101, 110, 99, 111, 100, 105, 110, 103]⟩ : ByteArray), (⟨#[99, 104, 117, 110, 107, 101, 100]⟩ : ByteArray)⟩ : S49)] : List (S49))) (inner := [.string (⟨#[116, 114, 97, 110, 115, 102, 101, 114, 45, 101, 110, 99, 111, 100, 105, 110, 103]⟩ : ByteArray), .string (⟨#[99, 104, 117, 110, 107, 101, 100]⟩ : ByteArray)]) (ok := fun _ => True) (okp := fun _ => True) ?hr ?hp (fun _ hk => hk) trivial (Below.refl _ _) (Nat.le_refl _) (by simp) ?_; (case hd => rfl); (case hg => rfl); (case hr => first | (go_simp; done) | (go_simp; rfl)); (case hp => exact (Reps.c2 (show Kd.M k49 _ _ _ (⟨(⟨#[116, 114, 97, 110, 115, 102, 101, 114, 45, 101, 110, 99, 111, 100, 105, 110, 103]⟩ : ByteArray), (⟨#[99, 104, 117, 110, 107, 101, 100]⟩ : ByteArray)⟩ : S49) [.string (⟨#[116, 114, 97, 110, 115, 102, 101, 114, 45, 101, 110, 99, 111, 100, 105, 110, 103]⟩ : ByteArray), .string (⟨#[99, 104, 117, 110, 107, 101, 100]⟩ : ByteArray)] from (k49_mkM _ _ _ (⟨(⟨#[116, 114, 97, 110, 115, 102, 101, 114, 45, 101, 110, 99, 111, 100, 105, 110, 103]⟩ : ByteArray), (⟨#[99, 104, 117, 110, 107, 101, 100]⟩ : ByteArray)⟩ : S49) )) (Reps.none _ _))); intro v117 w200 ho201 hb hg_ hnew_; clear hg_ hnew_; (first | rw [← Ny116.out] at ho201 | (simp only [Int.reduceToNat] at ho201; rw [← Ny116.out] at ho201)); have n0_ := Aside0.mk (Kd.R_lower ho201 (below_size bq)); have n1_ := Aside0.mk (below_step bq hb); clear HB; have HO118 := n0_; have HB := n1_; clear n0_ n1_; clear hb ho201; obtain ⟨Ao202, co202, eo202⟩ := Kd.R_slice HO118.out; subst eo202) | ((with_reducible refine gate_callee (f := 48) rfl ?_); refine goesL_ (some 85) rfl rfl Tryd.func48 (by kernel_rfl) rfl #[.slice Ao202 y116.length co202, .string (t104 ++ (⟨#[116, 97, 105, 108]⟩ : ByteArray)), .bool false] rfl am ?_; (with_reducible refine (impl_BodyOf.calls kj10 _ _ y116 (t104 ++ (⟨#[116, 97, 105, 108]⟩ : ByteArray)) false t119 t120 t121 _ ?side1 ?side2 ?side3 ?side4 A28.out).mono ?_); (case side1 => repeat (first | exact (Kd.R_reads' HO118.out).2.2 | (with_reducible refine Kd.C_alloc ?_ _) | (with_reducible refine Kd.C_drewN ?_ _) | (with_reducible refine Kd.C_drew ?_))); (case side2 => exact (Kd.R_reads' HO118.out).2.1); (case side3 => refine GErr.of_below HGErr.out ?_; repeat (first | (with_reducible first | exact HB.out | apply below_alloc | apply pw_below_drewN | apply below_drew1) | exact HB.out)); (case side4 => refine GMax.of_below HGMax.out ?_; repeat (first | (with_reducible first | exact HB.out | apply below_alloc | apply pw_below_drewN | apply below_drew1) | exact HB.out)); rintro e w203 ⟨rfl, hb⟩; refine ⟨_, rfl, ?_⟩; have n0_ := Aside0.mk (Kd.R_below (by (with_reducible repeat (first | apply Kd.R_alloc | apply Kd.R_drewN | apply Kd.R_drew)); exact HO118.out) hb); have n1_ := Aside0.mk (below_step bq hb); clear HO118; clear HB; have HO118 := n0_; have HB := n1_; clear n0_ n1_; (try clear hb); (try clear hb2); (try clear hk); (try clear hi)) | ((with_reducible refine gate_callee (f := 49) rfl ?_); refine goesL_ (some 92) rfl rfl Tryd.func49 (by kernel_rfl) rfl #[.int .i64 (t102.size : Int)] rfl am ?_; (with_reducible refine (spec_Dec.calls kj10 (t102.size : Int) t122 _ A29.out).mono ?_); rintro e w204 ⟨rfl, hb⟩; refine ⟨_, rfl, ?_⟩; have n0_ := Aside0.mk (Kd.R_below (by (with_reducible repeat (first | apply Kd.R_alloc | apply Kd.R_drewN | apply Kd.R_drew)); exact HO118.out) hb); have n1_ := Aside0.mk (below_step bq hb); clear HO118; clear HB; have HO118 := n0_; have HB := n1_; clear n0_ n1_; (try clear hb); (try clear hb2); (try clear hk); (try clear hi)) | ((with_reducible refine gate_dst (N := 94) rfl ?_); (try (refine gate_guard (by rfl) ?_; dsimp only)); refine Kd.R_lit k49 _ 49 ?hg (N := 94) ?hd (xs := ([(⟨(⟨#[99, 111, 110, 116, 101, 110, 116, 45, 108, 101, 110, 103, 116, 104]⟩ : ByteArray), t122⟩ : S49)] : List (S49))) (inner := [.string (⟨#[99, 111, 110, 116, 101, 110, 116, 45, 108, 101, 110, 103, 116, 104]⟩ : ByteArray), .string t122]) (ok := fun _ => True) (okp := fun _ => True) ?hr ?hp (fun _ hk => hk) trivial (Below.refl _ _) (Nat.le_refl _) (by simp) ?_; (case hd => rfl); (case hg => rfl); (case hr => first | (go_simp; done) | (go_simp; rfl)); (case hp => exact (Reps.c2 (show Kd.M k49 _ _ _ (⟨(⟨#[99, 111, 110, 116, 101, 110, 116, 45, 108, 101, 110, 103, 116, 104]⟩ : ByteArray), t122⟩ : S49) [.string (⟨#[99, 111, 110, 116, 101, 110, 116, 45, 108, 101, 110, 103, 116, 104]⟩ : ByteArray), .string t122] from (k49_mkM _ _ _ (⟨(⟨#[99, 111, 110, 116, 101, 110, 116, 45, 108, 101, 110, 103, 116, 104]⟩ : ByteArray), t122⟩ : S49) )) (Reps.none _ _))); intro v124 w205 ho206 hb hg_ hnew_; clear hg_ hnew_; (first | rw [← Ny123.out] at ho206 | (simp only [Int.reduceToNat] at ho206; rw [← Ny123.out] at ho206)); have n0_ := Aside0.mk (Kd.R_elder' (by (with_reducible repeat (first | apply Kd.R_alloc | apply Kd.R_drewN | apply Kd.R_drew)); exact HO118.out) (Kd.R_base ho206) hb); have n1_ := Aside0.mk (Kd.R_lower (Kd.R_new' ho206 (Kd.R_lt (by (with_reducible repeat (first | apply Kd.R_alloc | apply Kd.R_drewN | apply Kd.R_drew)); exact HO118.out))) (below_size bq)); have n2_ := Aside0.mk (below_step bq hb); clear HO118; clear HB; have HO118 := n0_; have HO125 := n1_; have HB := n2_; clear n0_ n1_ n2_; clear hb ho206; obtain ⟨Ao207, co207, eo207⟩ := Kd.R_slice HO125.out; subst eo207) | ((with_reducible refine gate_callee (f := 48) rfl ?_); refine goesL_ (some 97) rfl rfl Tryd.func48 (by kernel_rfl) rfl #[.slice Ao207 y123.length co207, .string (t102 ++ (⟨#[116, 97, 105, 108]⟩ : ByteArray)), .bool true] rfl am ?_; (with_reducible refine (impl_BodyOf.calls kj10 _ _ y123 (t102 ++ (⟨#[116, 97, 105, 108]⟩ : ByteArray)) true t126 t127 t128 _ ?side1 ?side2 ?side3 ?side4 A31.out).mono ?_); (case side1 => repeat (first | exact (Kd.R_reads' HO125.out).2.2 | (with_reducible refine Kd.C_alloc ?_ _) | (with_reducible refine Kd.C_drewN ?_ _) | (with_reducible refine Kd.C_drew ?_))); (case side2 => exact (Kd.R_reads' HO125.out).2.1); (case side3 => refine GErr.of_below HGErr.out ?_; repeat (first | (with_reducible first | exact HB.out | apply below_alloc | apply pw_below_drewN | apply below_drew1) | exact HB.out)); (case side4 => refine GMax.of_below HGMax.out ?_; repeat (first | (with_reducible first | exact HB.out | apply below_alloc | apply pw_below_drewN | apply below_drew1) | exact HB.out)); rintro e w208 ⟨rfl, hb⟩; refine ⟨_, rfl, ?_⟩; have n0_ := Aside0.mk (Kd.R_below (by (with_reducible repeat (first | apply Kd.R_alloc | apply Kd.R_drewN | apply Kd.R_drew)); exact HO118.out) hb); have n1_ := Aside0.mk (Kd.R_below (by (with_reducible repeat (first | apply Kd.R_alloc | apply Kd.R_drewN | apply Kd.R_drew)); exact HO125.out) hb); have n2_ := Aside0.mk (below_step bq hb); clear HO118; clear HO125; clear HB; have HO118 := n0_; have HO125 := n1_; have HB := n2_; clear n0_ n1_ n2_; (try clear hb); (try clear hb2); (try clear hk); (try clear hi)))
                       go_ret
                       exact ⟨by first | rfl | (simp [errW_none, errW_some] <;> rfl) | (simp only [← hji20]; first | rfl | (simp [errW_none, errW_some] <;> rfl)) | (simp [*, errW_none, errW_some] <;> rfl), bq⟩
                      ·rw [if_neg c196] at H
                       have c196b0 : (t127 == (t102.size : Int)) = false := beq_eq_false_iff_ne.mpr c196
                       have c196b1 : (t127 != (t102.size : Int)) = true := bne_iff_ne.mpr c196
                       obtain rfl := Option.some.inj H
                       exact absurd HR_.out (by decide)
                     ·rw [if_neg c195] at H
                      have c195b0 : (t126.toList == t102.toList) = false := beq_eq_false_iff_ne.mpr c195
                      have c195b1 : (t126.toList != t102.toList) = true := bne_iff_ne.mpr c195
                      obtain rfl := Option.some.inj H
                      exact absurd HR_.out (by decide)
                    ·rw [if_neg c194] at H
                     have c194b0 : (t121 == 0) = false := beq_eq_false_iff_ne.mpr c194
                     have c194b1 : (t121 != 0) = true := bne_iff_ne.mpr c194
                     obtain rfl := Option.some.inj H
                     exact absurd HR_.out (by decide)
                   ·rw [if_neg c193] at H
                    have c193b0 : (t120 == (t104.size : Int)) = false := beq_eq_false_iff_ne.mpr c193
                    have c193b1 : (t120 != (t104.size : Int)) = true := bne_iff_ne.mpr c193
                    obtain rfl := Option.some.inj H
                    exact absurd HR_.out (by decide)
                  ·rw [if_neg c192] at H
                   have c192b0 : (t119.toList == t102.toList) = false := beq_eq_false_iff_ne.mpr c192
                   have c192b1 : (t119.toList != t102.toList) = true := bne_iff_ne.mpr c192
                   obtain rfl := Option.some.inj H
                   exact absurd HR_.out (by decide)
                 ·rw [if_neg c191] at H
                  have c191b0 : (t114 == t112) = false := beq_eq_false_iff_ne.mpr c191
                  have c191b1 : (t114 != t112) = true := bne_iff_ne.mpr c191
                  obtain rfl := Option.some.inj H
                  exact absurd HR_.out (by decide)
                ·replace c190 := Bool.eq_false_iff.mpr c190
                 subst c190
                 rw [if_neg (show ¬ (false = true) by decide)] at H
                 obtain rfl := Option.some.inj H
                 exact absurd HR_.out (by decide)
             ·rw [if_neg c33] at H
              have c33b0 : (t110 == 0) = false := beq_eq_false_iff_ne.mpr c33
              have c33b1 : (t110 != 0) = true := bne_iff_ne.mpr c33
              obtain rfl := Option.some.inj H
              exact absurd HR_.out (by decide)
            ·rw [if_neg c32] at H
             have c32b0 : (t111 == 1) = false := beq_eq_false_iff_ne.mpr c32
             have c32b1 : (t111 != 1) = true := bne_iff_ne.mpr c32
             obtain rfl := Option.some.inj H
             exact absurd HR_.out (by decide)
           ·rw [if_neg c30] at H
            exact absurd H (by simp)
          ·rw [if_neg c27] at H
           exact absurd H (by simp)
         ·rw [if_neg c22] at H
          exact absurd H (by simp)
        ·rw [if_neg c21] at H
         exact absurd H (by simp)
   ·rw [if_neg c9] at H
    exact absurd H (by simp)

end Go.Proofs.YtjldfmkpdkhnnaaDoor.QL

namespace Go.Proofs.YtjldfmkpdkhnnaaDoor.QL
open Go.RowKit Go.Proofs.YtjldfmkpdkhnnaaDoorW.PrintWords Go.Proofs.YtjldfmkpdkhnnaaDoorW.PrintLast Go.Proofs.YtjldfmkpdkhnnaaDoorW.PrintMore Go.Proofs.YtjldfmkpdkhnnaaDoor.Aux Go.Proofs.YtjldfmkpdkhnnaaDoor.Dom Go.Proofs.YtjldfmkpdkhnnaaDoor.Ext Go.Proofs.YtjldfmkpdkhnnaaDoor.Glob
attribute [local go_sem] max2_int min2_int max_two min_two max_three min_three max_four min_four   -- for this text's walks alone
set_option linter.unusedVariables false
set_option linter.unusedSimpArgs false

/-! ### spec_l1Pick: function 69 -/
def spec_l1Pick.f (s0_0 : List Int) (s0_1 : Int) (s0_2 : Int) (l1 : List ByteArray) : Option (ByteArray × Int × Int) := (spec_l1Below.f s0_0 s0_1 s0_2 (l1.length : Int)).bind fun bt101 => (if 0 ≤ bt101.1 then (if bt101.1 < (l1.length : Int) then (some (rdOf ByteArray.empty l1 bt101.1, bt101.2.1, bt101.2.2)) else (none)) else (none))
set_option maxHeartbeats 8000000 in
set_option maxRecDepth 100000 in
theorem spec_l1Pick.calls (g : Nat) (s0_0 : List Int) (s0_1 : Int) (s0_2 : Int) (A1 : Option Addr) (c1 : Nat) (l1 : List ByteArray) (r1 : ByteArray) (r2 : Int) (r3 : Int) (w0 w : World) (hI : IsS110 w0 w g s0_0 s0_1 s0_2) (hB : Below w0.heap.size w0 w) (hr1 : Kd.C Kd.string w A1 l1.length l1) (hc1 : l1.length ≤ c1) (hf1 : ∀ ad, A1 = some ad → 0 < l1.length → ad.block ≠ g) (h : spec_l1Pick.f s0_0 s0_1 s0_2 l1 = some (r1, r2, r3)) :
  Calls Tryd.prog 69 #[.pointer (some ⟨g, 0, none⟩), .slice A1 l1.length c1] w fun e w' => e = .returned (.string r1) ∧ IsS110 w0 w' g s0_0 r2 r3 ∧ Below w0.heap.size w0 w' ∧ KeepBut w w' g none := by
 have HR1 := Aside0.mk hr1
 have HC1 := Aside0.mk hc1
 clear hr1 hc1
 have HI0 := Aside0.mk hI
 have HK := Aside0.mk (KeepBut.refl w g none)
 have HL := Aside0.mk hB.size
 clear hI
 have HW0 := Aside0.mk hB.size
 have HB := Aside0.mk hB
 clear hB
 have H : ((spec_l1Below.f s0_0 s0_1 s0_2 (l1.length : Int)).bind fun bt101 => (if 0 ≤ bt101.1 then (if bt101.1 < (l1.length : Int) then (some (rdOf ByteArray.empty l1 bt101.1, bt101.2.1, bt101.2.2)) else (none)) else (none))) = some (r1, r2, r3) := h
 clear h
 replace H := Option.bind_eq_some_iff.mp H
 obtain ⟨⟨t101, t102, t103⟩, A30, H⟩ := H
 try dsimp only at H
 have A3 := Aside0.mk A30
 clear A30
 by_cases c4 : 0 ≤ t101
 ·rw [if_pos c4] at H
  have c4b0 : decide (0 ≤ t101) = true := decide_eq_true c4
  clear c4
  by_cases c5 : t101 < (l1.length : Int)
  ·rw [if_pos c5] at H
   have c5b0 : decide (t101 < (l1.length : Int)) = true := decide_eq_true c5
   clear c5
   simp only [Option.some.injEq, Prod.mk.injEq] at H
   obtain ⟨rfl, rfl, rfl⟩ := H
   go_enter Tryd.func69, Tryd.ntmps69
   go_wp2_with (first | ((with_reducible refine gate_callee (f := 89) rfl ?_); refine goesL_ (some 9) rfl rfl Tryd.func89 (by kernel_rfl) rfl #[.pointer (some ⟨g, 0, none⟩), .int .i64 (l1.length : Int)] rfl am ?_; (with_reducible refine (spec_l1Below.calls g s0_0 s0_1 s0_2 (l1.length : Int) t101 t102 t103 w0 _ ?side1 ?side2 A3.out).mono ?_); (case side1 => repeat (first | (with_reducible first | exact HI0.out | apply IsS110.alloc | apply IsS110.drewN | apply IsS110.drew | apply IsS110.set_1 | apply IsS110.set_2) | exact HI0.out)); (case side2 => repeat (first | (with_reducible first | exact HB.out | apply below_alloc | apply pw_below_drewN | apply below_drew1 | refine below_set ?_ (IsS110.ge HI0.out)) | exact HB.out)); rintro e w6 ⟨rfl, hi, hb, hk⟩; refine ⟨_, rfl, ?_⟩; have n0_ := Aside0.mk (KeepBut.trans (by repeat (first | (with_reducible first | exact HK.out | apply KeepBut.set_ | apply keep_drewN | apply keep_drew | apply keep_alloc) | exact HK.out)) hk (.inl rfl)); have n1_ := Aside0.mk (hb); have n2_ := Aside0.mk (hi); clear HK; clear HB; clear HI0; have HK := n0_; have HB := n1_; have HI0 := n2_; clear n0_ n1_ n2_; (try clear hb); (try clear hb2); (try clear hk); (try clear hi); have p104 : 0 ≤ (t101 : Int) := of_decide_eq_true asm; have q104 : t101 < (l1.length : Int) := of_decide_eq_true asm; obtain ⟨ad104, e104, hx104_0⟩ := Kd.at_string HR1.out t101 p104 q104; cases e104; replace hx104_0 := keep_cell HK.out hx104_0 (by first | (rw [add_block]; exact hf1 _ rfl (by omega)) | exact hf1 _ rfl (by omega) | exact hf1 ad104 rfl (by omega)); replace p104 := eq_true p104; replace q104 := eq_true q104))
   go_ret
   exact ⟨by first | rfl | (simp [errW_none, errW_some] <;> rfl) | (simp [*, errW_none, errW_some] <;> rfl), by repeat (first | (with_reducible first | exact HI0.out | apply IsS110.alloc | apply IsS110.drewN | apply IsS110.drew | apply IsS110.set_1 | apply IsS110.set_2) | exact HI0.out), by repeat (first | (with_reducible first | exact HB.out | apply below_alloc | apply pw_below_drewN | apply below_drew1 | refine below_set ?_ (IsS110.ge HI0.out)) | exact HB.out), by repeat (first | (with_reducible first | exact HK.out | apply KeepBut.set_ | apply keep_drewN | apply keep_drew | apply keep_alloc) | exact HK.out)⟩
  ·rw [if_neg c5] at H
   exact absurd H (by simp)
 ·rw [if_neg c4] at H
  exact absurd H (by simp)

end Go.Proofs.YtjldfmkpdkhnnaaDoor.QL
