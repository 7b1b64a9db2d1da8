-- Written by this session's own program (a turn of the kit's print, with contracts of the session's own where the print has none).
import Derived.Test.YtjldfmkpdkhnnaaDoorCFnDatesb
namespace Go.Proofs.YtjldfmkpdkhnnaaDoor.QL
open Go.RowKit Go.Proofs.YtjldfmkpdkhnnaaDoorW.PrintWords Go.Proofs.YtjldfmkpdkhnnaaDoorW.PrintLast Go.Proofs.YtjldfmkpdkhnnaaDoorW.PrintMore Go.Proofs.YtjldfmkpdkhnnaaDoor.Aux Go.Proofs.YtjldfmkpdkhnnaaDoor.Dom Go.Proofs.YtjldfmkpdkhnnaaDoor.Ext Go.Proofs.YtjldfmkpdkhnnaaDoor.Glob
attribute [local go_sem] max2_int min2_int max_two min_two max_three min_three max_four min_four   -- for this text's walks alone
set_option linter.unusedVariables false
set_option linter.unusedSimpArgs false

/-! ### laws_FnDates: function 6 -/
mutual
def laws_FnDates.j0 : Nat → List Int → Bool → Option (Bool)
 | 0, _, _ => none
 | k + 1, x0, x58 => if x58 = true then (some false) else ((spec_DrawDaysOf.f k x0).bind fun bt106 => ((impl_DaysOf.f k bt106.1 bt106.2.1 bt106.2.2).bind fun t109 => ((impl_DaysOf.f k bt106.1 bt106.2.1 (wrap64 (bt106.2.2 + 1))).bind fun t110 => (if t109 ≥ 0 then (if t110 ≥ 0 then (laws_FnDates.j1 k x0 bt106.1 bt106.2.1 t109 t110 (t110 != (wrap64 (t109 + 1)))) else (laws_FnDates.j1 k x0 bt106.1 bt106.2.1 t109 t110 false)) else (laws_FnDates.j1 k x0 bt106.1 bt106.2.1 t109 t110 false)))))
def laws_FnDates.j1 : Nat → List Int → Int → Int → Int → Int → Bool → Option (Bool)
 | 0, _, _, _, _, _, _ => none
 | k + 1, x0, x7, x8, x10, x11, x85 => if x85 = true then (some false) else (if x10 ≥ 0 then (laws_FnDates.j2 k x0 x7 x8 x10 (decide (x11 < 0))) else (laws_FnDates.j2 k x0 x7 x8 x10 false))
def laws_FnDates.j2 : Nat → List Int → Int → Int → Int → Bool → Option (Bool)
 | 0, _, _, _, _, _ => none
 | k + 1, x0, x7, x8, x10, x91 => if x91 = true then ((impl_DaysOf.f k x7 (wrap64 (x8 + 1)) 1).bind fun t111 => (if x8 = 12 then ((impl_DaysOf.f k (wrap64 (x7 + 1)) 1 1).bind fun t112 => (laws_FnDates.j3 k x0 x7 x10 t112)) else (laws_FnDates.j3 k x0 x7 x10 t111))) else ((spec_DrawReadDate.f k x0).bind fun t117 => ((impl_ReadDate.f k t117).bind fun bt118 => (if bt118.2 = true then ((impl_ShowDate.f k bt118.1).bind fun t120 => (some (t120.toList == t117.toList))) else (some true))))
def laws_FnDates.j3 : Nat → List Int → Int → Int → Int → Option (Bool)
 | 0, _, _, _, _ => none
 | k + 1, x0, x7, x10, x12 => if x12 = (wrap64 (x10 + 1)) then (laws_FnDates.j4 k x0 false) else (laws_FnDates.j4 k x0 (decide (x7 < 2037)))
def laws_FnDates.j4 : Nat → List Int → Bool → Option (Bool)
 | 0, _, _ => none
 | k + 1, x0, x108 => if x108 = true then (some false) else ((spec_DrawReadDate.f k x0).bind fun t113 => ((impl_ReadDate.f k t113).bind fun bt114 => (if bt114.2 = true then ((impl_ShowDate.f k bt114.1).bind fun t116 => (some (t116.toList == t113.toList))) else (some true))))
end
def laws_FnDates.f (k : Nat) (l0 : List Int) : Option (Bool) := (laws_big.f l0).bind fun t101 => (if t101 = true then (some true) else ((spec_DrawShowDate.f k l0).bind fun t102 => ((impl_ShowDate.f k t102).bind fun t103 => ((impl_ReadDate.f k t103).bind fun bt104 => (if t102 ≥ 0 then (if ((t103.toList != ([] : List UInt8)) != (decide (t102 ≤ 2000000000))) = true then (laws_FnDates.j0 k l0 true) else (if (bt104.2 != (t103.toList != ([] : List UInt8))) = true then (laws_FnDates.j0 k l0 true) else (if bt104.2 = true then (if bt104.1 = t102 then (if t103.toList = ([] : List UInt8) then (laws_FnDates.j0 k l0 false) else (laws_FnDates.j0 k l0 ((t103.size : Int) != 29))) else (laws_FnDates.j0 k l0 true)) else (if t103.toList = ([] : List UInt8) then (laws_FnDates.j0 k l0 false) else (laws_FnDates.j0 k l0 ((t103.size : Int) != 29)))))) else (if ((t103.toList != ([] : List UInt8)) != false) = true then (laws_FnDates.j0 k l0 true) else (if (bt104.2 != (t103.toList != ([] : List UInt8))) = true then (laws_FnDates.j0 k l0 true) else (if bt104.2 = true then (if bt104.1 = t102 then (if t103.toList = ([] : List UInt8) then (laws_FnDates.j0 k l0 false) else (laws_FnDates.j0 k l0 ((t103.size : Int) != 29))) else (laws_FnDates.j0 k l0 true)) else (if t103.toList = ([] : List UInt8) then (laws_FnDates.j0 k l0 false) else (laws_FnDates.j0 k l0 ((t103.size : Int) != 29)))))))))))
theorem laws_FnDates.mono_l : ∀ k, (∀ y0 y1, LeO (laws_FnDates.j0 k y0 y1) (laws_FnDates.j0 (k + 1) y0 y1)) ∧ (∀ y0 y1 y2 y3 y4 y5, LeO (laws_FnDates.j1 k y0 y1 y2 y3 y4 y5) (laws_FnDates.j1 (k + 1) y0 y1 y2 y3 y4 y5)) ∧ (∀ y0 y1 y2 y3 y4, LeO (laws_FnDates.j2 k y0 y1 y2 y3 y4) (laws_FnDates.j2 (k + 1) y0 y1 y2 y3 y4)) ∧ (∀ y0 y1 y2 y3, LeO (laws_FnDates.j3 k y0 y1 y2 y3) (laws_FnDates.j3 (k + 1) y0 y1 y2 y3)) ∧ (∀ y0 y1, LeO (laws_FnDates.j4 k y0 y1) (laws_FnDates.j4 (k + 1) y0 y1))
 | 0 => ⟨fun _ _ r h => by simp [laws_FnDates.j0] at h, fun _ _ _ _ _ _ r h => by simp [laws_FnDates.j1] at h, fun _ _ _ _ _ r h => by simp [laws_FnDates.j2] at h, fun _ _ _ _ r h => by simp [laws_FnDates.j3] at h, fun _ _ r h => by simp [laws_FnDates.j4] at h⟩
 | k + 1 => by
  obtain ⟨ih0, ih1, ih2, ih3, ih4⟩ := laws_FnDates.mono_l k
  refine ⟨?_, ?_, ?_, ?_, ?_⟩
  ·intro y0 y1
   unfold laws_FnDates.j0
   repeat' first
   | (with_reducible exact ih0 _ _)
   | (with_reducible exact ih1 _ _ _ _ _ _)
   | (with_reducible exact ih2 _ _ _ _ _)
   | (with_reducible exact ih3 _ _ _ _)
   | (with_reducible exact ih4 _ _)
   | (with_reducible exact impl_DaysOf.mono _ _ _ _)
   | (with_reducible exact impl_ReadDate.mono _ _)
   | (with_reducible exact impl_ShowDate.mono _ _)
   | (with_reducible exact spec_DrawDaysOf.mono _ _)
   | (with_reducible exact spec_DrawReadDate.mono _ _)
   | (with_reducible exact spec_DrawShowDate.mono _ _)
   | (with_reducible exact LeO.refl _)
   | (with_reducible exact LeO.none _)
   | (with_reducible refine LeO.ite ?_ ?_)
   | (with_reducible refine LeO.bind ?_ (fun _ => ?_))
   | exact ih0 _ _
   | exact ih1 _ _ _ _ _ _
   | exact ih2 _ _ _ _ _
   | exact ih3 _ _ _ _
   | exact ih4 _ _
   | exact impl_DaysOf.mono _ _ _ _
   | exact impl_ReadDate.mono _ _
   | exact impl_ShowDate.mono _ _
   | exact spec_DrawDaysOf.mono _ _
   | exact spec_DrawReadDate.mono _ _
   | exact spec_DrawShowDate.mono _ _
   | exact LeO.none _
   | refine LeO.ite ?_ ?_
   | refine LeO.bind ?_ (fun _ => ?_)
  ·intro y0 y1 y2 y3 y4 y5
   unfold laws_FnDates.j1
   repeat' first
   | (with_reducible exact ih0 _ _)
   | (with_reducible exact ih1 _ _ _ _ _ _)
   | (with_reducible exact ih2 _ _ _ _ _)
   | (with_reducible exact ih3 _ _ _ _)
   | (with_reducible exact ih4 _ _)
   | (with_reducible exact impl_DaysOf.mono _ _ _ _)
   | (with_reducible exact impl_ReadDate.mono _ _)
   | (with_reducible exact impl_ShowDate.mono _ _)
   | (with_reducible exact spec_DrawDaysOf.mono _ _)
   | (with_reducible exact spec_DrawReadDate.mono _ _)
   | (with_reducible exact spec_DrawShowDate.mono _ _)
   | (with_reducible exact LeO.refl _)
   | (with_reducible exact LeO.none _)
   | (with_reducible refine LeO.ite ?_ ?_)
   | (with_reducible refine LeO.bind ?_ (fun _ => ?_))
   | exact ih0 _ _
   | exact ih1 _ _ _ _ _ _
   | exact ih2 _ _ _ _ _
   | exact ih3 _ _ _ _
   | exact ih4 _ _
   | exact impl_DaysOf.mono _ _ _ _
   | exact impl_ReadDate.mono _ _
   | exact impl_ShowDate.mono _ _
   | exact spec_DrawDaysOf.mono _ _
   | exact spec_DrawReadDate.mono _ _
   | exact spec_DrawShowDate.mono _ _
   | exact LeO.none _
   | refine LeO.ite ?_ ?_
   | refine LeO.bind ?_ (fun _ => ?_)
  ·intro y0 y1 y2 y3 y4
   unfold laws_FnDates.j2
   repeat' first
   | (with_reducible exact ih0 _ _)
   | (with_reducible exact ih1 _ _ _ _ _ _)
   | (with_reducible exact ih2 _ _ _ _ _)
   | (with_reducible exact ih3 _ _ _ _)
   | (with_reducible exact ih4 _ _)
   | (with_reducible exact impl_DaysOf.mono _ _ _ _)
   | (with_reducible exact impl_ReadDate.mono _ _)
   | (with_reducible exact impl_ShowDate.mono _ _)
   | (with_reducible exact spec_DrawDaysOf.mono _ _)
   | (with_reducible exact spec_DrawReadDate.mono _ _)
   | (with_reducible exact spec_DrawShowDate.mono _ _)
   | (with_reducible exact LeO.refl _)
   | (with_reducible exact LeO.none _)
   | (with_reducible refine LeO.ite ?_ ?_)
   | (with_reducible refine LeO.bind ?_ (fun _ => ?_))
   | exact ih0 _ _
   | exact ih1 _ _ _ _ _ _
   | exact ih2 _ _ _ _ _
   | exact ih3 _ _ _ _
   | exact ih4 _ _
   | exact impl_DaysOf.mono _ _ _ _
   | exact impl_ReadDate.mono _ _
   | exact impl_ShowDate.mono _ _
   | exact spec_DrawDaysOf.mono _ _
   | exact spec_DrawReadDate.mono _ _
   | exact spec_DrawShowDate.mono _ _
   | exact LeO.none _
   | refine LeO.ite ?_ ?_
   | refine LeO.bind ?_ (fun _ => ?_)
  ·intro y0 y1 y2 y3
   unfold laws_FnDates.j3
   repeat' first
   | (with_reducible exact ih0 _ _)
   | (with_reducible exact ih1 _ _ _ _ _ _)
   | (with_reducible exact ih2 _ _ _ _ _)
   | (with_reducible exact ih3 _ _ _ _)
   | (with_reducible exact ih4 _ _)
   | (with_reducible exact impl_DaysOf.mono _ _ _ _)
   | (with_reducible exact impl_ReadDate.mono _ _)
   | (with_reducible exact impl_ShowDate.mono _ _)
   | (with_reducible exact spec_DrawDaysOf.mono _ _)
   | (with_reducible exact spec_DrawReadDate.mono _ _)
   | (with_reducible exact spec_DrawShowDate.mono _ _)
   | (with_reducible exact LeO.refl _)
   | (with_reducible exact LeO.none _)
   | (with_reducible refine LeO.ite ?_ ?_)
   | (with_reducible refine LeO.bind ?_ (fun _ => ?_))
   | exact ih0 _ _
   | exact ih1 _ _ _ _ _ _
   | exact ih2 _ _ _ _ _
   | exact ih3 _ _ _ _
   | exact ih4 _ _
   | exact impl_DaysOf.mono _ _ _ _
   | exact impl_ReadDate.mono _ _
   | exact impl_ShowDate.mono _ _
   | exact spec_DrawDaysOf.mono _ _
   | exact spec_DrawReadDate.mono _ _
   | exact spec_DrawShowDate.mono _ _
   | exact LeO.none _
   | refine LeO.ite ?_ ?_
   | refine LeO.bind ?_ (fun _ => ?_)
  ·intro y0 y1
   unfold laws_FnDates.j4
   repeat' first
   | (with_reducible exact ih0 _ _)
   | (with_reducible exact ih1 _ _ _ _ _ _)
   | (with_reducible exact ih2 _ _ _ _ _)
   | (with_reducible exact ih3 _ _ _ _)
   | (with_reducible exact ih4 _ _)
   | (with_reducible exact impl_DaysOf.mono _ _ _ _)
   | (with_reducible exact impl_ReadDate.mono _ _)
   | (with_reducible exact impl_ShowDate.mono _ _)
   | (with_reducible exact spec_DrawDaysOf.mono _ _)
   | (with_reducible exact spec_DrawReadDate.mono _ _)
   | (with_reducible exact spec_DrawShowDate.mono _ _)
   | (with_reducible exact LeO.refl _)
   | (with_reducible exact LeO.none _)
   | (with_reducible refine LeO.ite ?_ ?_)
   | (with_reducible refine LeO.bind ?_ (fun _ => ?_))
   | exact ih0 _ _
   | exact ih1 _ _ _ _ _ _
   | exact ih2 _ _ _ _ _
   | exact ih3 _ _ _ _
   | exact ih4 _ _
   | exact impl_DaysOf.mono _ _ _ _
   | exact impl_ReadDate.mono _ _
   | exact impl_ShowDate.mono _ _
   | exact spec_DrawDaysOf.mono _ _
   | exact spec_DrawReadDate.mono _ _
   | exact spec_DrawShowDate.mono _ _
   | exact LeO.none _
   | refine LeO.ite ?_ ?_
   | refine LeO.bind ?_ (fun _ => ?_)
theorem laws_FnDates.mono : ∀ a0 k, LeO (laws_FnDates.f k a0) (laws_FnDates.f (k + 1) a0) := by
 intro a0 k
 obtain ⟨ih0, ih1, ih2, ih3, ih4⟩ := laws_FnDates.mono_l k
 unfold laws_FnDates.f
 repeat' first
   | (with_reducible exact ih0 _ _)
   | (with_reducible exact ih1 _ _ _ _ _ _)
   | (with_reducible exact ih2 _ _ _ _ _)
   | (with_reducible exact ih3 _ _ _ _)
   | (with_reducible exact ih4 _ _)
   | (with_reducible exact impl_DaysOf.mono _ _ _ _)
   | (with_reducible exact impl_ReadDate.mono _ _)
   | (with_reducible exact impl_ShowDate.mono _ _)
   | (with_reducible exact spec_DrawDaysOf.mono _ _)
   | (with_reducible exact spec_DrawReadDate.mono _ _)
   | (with_reducible exact spec_DrawShowDate.mono _ _)
   | (with_reducible exact LeO.refl _)
   | (with_reducible exact LeO.none _)
   | (with_reducible refine LeO.ite ?_ ?_)
   | (with_reducible refine LeO.bind ?_ (fun _ => ?_))
   | exact ih0 _ _
   | exact ih1 _ _ _ _ _ _
   | exact ih2 _ _ _ _ _
   | exact ih3 _ _ _ _
   | exact ih4 _ _
   | exact impl_DaysOf.mono _ _ _ _
   | exact impl_ReadDate.mono _ _
   | exact impl_ShowDate.mono _ _
   | exact spec_DrawDaysOf.mono _ _
   | exact spec_DrawReadDate.mono _ _
   | exact spec_DrawShowDate.mono _ _
   | exact LeO.none _
   | refine LeO.ite ?_ ?_
   | refine LeO.bind ?_ (fun _ => ?_)
set_option maxHeartbeats 8000000 in
set_option maxRecDepth 100000 in
theorem laws_FnDates.calls (k : Nat) (A0 : Option Addr) (c0 : Nat) (l0 : List Int) (r : Bool) (w : World) (hr0 : Kd.C (Kd.int .u8) w A0 l0.length l0) (hc0 : l0.length ≤ c0) (hGErr : GErr w) (hGMax : GMax w) (hGPow : GPow w) (h : laws_FnDates.f k l0 = some r) :
  Calls Tryd.prog 6 #[.slice A0 l0.length c0] w fun e w' => e = .returned (.bool r) ∧ Below w.heap.size w w' := by
 have HR0 := Aside0.mk hr0
 have HC0 := Aside0.mk hc0
 clear hr0 hc0
 have HGErr := Aside0.mk hGErr
 clear hGErr
 have HGMax := Aside0.mk hGMax
 clear hGMax
 have HGPow := Aside0.mk hGPow
 clear hGPow
 have HB := Aside0.mk (Below.refl w.heap.size w)
 have H : ((laws_big.f l0).bind fun t101 => (if t101 = true then (some true) else ((spec_DrawShowDate.f k l0).bind fun t102 => ((impl_ShowDate.f k t102).bind fun t103 => ((impl_ReadDate.f k t103).bind fun bt104 => (if t102 ≥ 0 then (if ((t103.toList != ([] : List UInt8)) != (decide (t102 ≤ 2000000000))) = true then (laws_FnDates.j0 k l0 true) else (if (bt104.2 != (t103.toList != ([] : List UInt8))) = true then (laws_FnDates.j0 k l0 true) else (if bt104.2 = true then (if bt104.1 = t102 then (if t103.toList = ([] : List UInt8) then (laws_FnDates.j0 k l0 false) else (laws_FnDates.j0 k l0 ((t103.size : Int) != 29))) else (laws_FnDates.j0 k l0 true)) else (if t103.toList = ([] : List UInt8) then (laws_FnDates.j0 k l0 false) else (laws_FnDates.j0 k l0 ((t103.size : Int) != 29)))))) else (if ((t103.toList != ([] : List UInt8)) != false) = true then (laws_FnDates.j0 k l0 true) else (if (bt104.2 != (t103.toList != ([] : List UInt8))) = true then (laws_FnDates.j0 k l0 true) else (if bt104.2 = true then (if bt104.1 = t102 then (if t103.toList = ([] : List UInt8) then (laws_FnDates.j0 k l0 false) else (laws_FnDates.j0 k l0 ((t103.size : Int) != 29))) else (laws_FnDates.j0 k l0 true)) else (if t103.toList = ([] : List UInt8) then (laws_FnDates.j0 k l0 false) else (laws_FnDates.j0 k l0 ((t103.size : Int) != 29)))))))))))) = some r := h
 clear h
 replace H := Option.bind_eq_some_iff.mp H
 obtain ⟨t101, A20, H⟩ := H
 try dsimp only at H
 have A2 := Aside0.mk A20
 clear A20
 by_cases c3 : t101 = true
 ·subst c3
  rw [if_pos rfl] at H
  obtain rfl := Option.some.inj H
  go_enter Tryd.func6, Tryd.ntmps6
  go_wp2_with (first | ((with_reducible refine gate_callee (f := 13) rfl ?_); refine goesL_ (some 17) rfl rfl Tryd.func13 (by kernel_rfl) rfl #[.slice A0 l0.length c0] rfl am ?_; (with_reducible refine (laws_big.calls _ _ l0 true _ ?side1 ?side2 A2.out).mono ?_); (case side1 => repeat (first | exact HR0.out | (with_reducible refine Kd.C_alloc ?_ _) | (with_reducible refine Kd.C_drewN ?_ _) | (with_reducible refine Kd.C_drew ?_))); (case side2 => exact HC0.out); rintro e w' ⟨rfl, ⟨nd, rfl⟩⟩; refine ⟨_, rfl, ?_⟩))
  go_ret
  exact ⟨by first | rfl | (simp [errW_none, errW_some] <;> rfl) | (simp [*, errW_none, errW_some] <;> rfl), bq⟩
 ·replace c3 := Bool.eq_false_iff.mpr c3
  subst c3
  rw [if_neg (show ¬ (false = true) by decide)] at H
  replace H := Option.bind_eq_some_iff.mp H
  obtain ⟨t102, A40, H⟩ := H
  try dsimp only at H
  have A4 := Aside0.mk A40
  clear A40
  replace H := Option.bind_eq_some_iff.mp H
  obtain ⟨t103, A50, H⟩ := H
  try dsimp only at H
  have A5 := Aside0.mk A50
  clear A50
  replace H := Option.bind_eq_some_iff.mp H
  obtain ⟨⟨t104, t105⟩, A60, H⟩ := H
  try dsimp only at H
  have A6 := Aside0.mk A60
  clear A60
  have HC7 := Aside0.mk H
  clear H
  go_enter Tryd.func6, Tryd.ntmps6
  go_upto_region 6 with (first | ((with_reducible refine gate_callee (f := 13) rfl ?_); refine goesL_ (some 17) rfl rfl Tryd.func13 (by kernel_rfl) rfl #[.slice A0 l0.length c0] rfl am ?_; (with_reducible refine (laws_big.calls _ _ l0 false _ ?side1 ?side2 A2.out).mono ?_); (case side1 => repeat (first | exact HR0.out | (with_reducible refine Kd.C_alloc ?_ _) | (with_reducible refine Kd.C_drewN ?_ _) | (with_reducible refine Kd.C_drew ?_))); (case side2 => exact HC0.out); rintro e w' ⟨rfl, ⟨nd, rfl⟩⟩; refine ⟨_, rfl, ?_⟩) | ((with_reducible refine gate_callee (f := 35) rfl ?_); refine goesL_ (some 19) rfl rfl Tryd.func35 (by kernel_rfl) rfl #[.slice A0 l0.length c0] rfl am ?_; (with_reducible refine (spec_DrawShowDate.calls k _ _ l0 t102 _ ?side1 ?side2 A4.out).mono ?_); (case side1 => repeat (first | exact HR0.out | (with_reducible refine Kd.C_alloc ?_ _) | (with_reducible refine Kd.C_drewN ?_ _) | (with_reducible refine Kd.C_drew ?_))); (case side2 => exact HC0.out); rintro e w8 ⟨rfl, hb⟩; refine ⟨_, rfl, ?_⟩; have n0_ := Aside0.mk (below_step bq hb); clear HB; have HB := n0_; clear n0_; (try clear hb); (try clear hb2); (try clear hk); (try clear hi)) | ((with_reducible refine gate_callee (f := 36) rfl ?_); refine goesL_ (some 21) rfl rfl Tryd.func36 (by kernel_rfl) rfl #[.int .i64 t102] rfl am ?_; (with_reducible refine (impl_ShowDate.calls k t102 t103 _ ?side1 A5.out).mono ?_); (case side1 => refine GPow.of_below HGPow.out ?_; repeat (first | (with_reducible first | exact HB.out | apply below_alloc | apply pw_below_drewN | apply below_drew1) | exact HB.out)); rintro e w9 ⟨rfl, hb⟩; refine ⟨_, rfl, ?_⟩; have n0_ := Aside0.mk (below_step bq hb); clear HB; have HB := n0_; clear n0_; (try clear hb); (try clear hb2); (try clear hk); (try clear hi)) | ((with_reducible refine gate_callee (f := 37) rfl ?_); refine goesL_ (some 24) rfl rfl Tryd.func37 (by kernel_rfl) rfl #[.string t103] rfl am ?_; (with_reducible refine (impl_ReadDate.calls k t103 t104 t105 _ ?side1 ?side2 ?side3 A6.out).mono ?_); (case side1 => refine GErr.of_below HGErr.out ?_; repeat (first | (with_reducible first | exact HB.out | apply below_alloc | apply pw_below_drewN | apply below_drew1) | exact HB.out)); (case side2 => refine GMax.of_below HGMax.out ?_; repeat (first | (with_reducible first | exact HB.out | apply below_alloc | apply pw_below_drewN | apply below_drew1) | exact HB.out)); (case side3 => refine GPow.of_below HGPow.out ?_; repeat (first | (with_reducible first | exact HB.out | apply below_alloc | apply pw_below_drewN | apply below_drew1) | exact HB.out)); rintro e w10 ⟨rfl, hb⟩; refine ⟨_, rfl, ?_⟩; have n0_ := Aside0.mk (below_step bq hb); clear HB; have HB := n0_; clear n0_; (try clear hb); (try clear hb2); (try clear hk); (try clear hi)))
  (try simp only [Act.put, List.setIfInBounds_toArray, List.set_cons_zero, List.set_cons_succ])
  go_cut [5, 6, 58] (fun v5 v6 v58 wc => ∃ (kq : Nat) (x58_6 : Bool), v58 = .bool x58_6 ∧ Aside0 (laws_FnDates.j0 kq l0 x58_6 = some r) ∧ Aside0 (kq ≤ k) ∧ Aside0 (Below w.heap.size w wc))
  case first =>
   have H := HC7.out
   clear HC7
   by_cases c11 : 0 ≤ t102 <;> by_cases c12 : t102 ≤ 2000000000 <;> by_cases c16 : t103.toList = ([] : List UInt8) <;> by_cases c15 : t104 = t102 <;> by_cases c29 : (t103.size : Int) = 29 <;> cases t105 <;>
   (first | (have f11 : decide (0 ≤ t102) = true := decide_eq_true c11) | (have f11 : decide (0 ≤ t102) = false := decide_eq_false c11)) <;>
   (first | (have f12 : decide (t102 ≤ 2000000000) = true := decide_eq_true c12) | (have f12 : decide (t102 ≤ 2000000000) = false := decide_eq_false c12)) <;>
   (first | (have f16 : (t103.toList == ([] : List UInt8)) = true := beq_iff_eq.mpr c16; have g16 : (t103.toList != ([] : List UInt8)) = false := bne_eq_false_iff_eq.mpr c16) | (have f16 : (t103.toList == ([] : List UInt8)) = false := beq_eq_false_iff_ne.mpr c16; have g16 : (t103.toList != ([] : List UInt8)) = true := bne_iff_ne.mpr c16)) <;>
   (first | (have f15 : (t104 == t102) = true := beq_iff_eq.mpr c15; have g15 : (t104 != t102) = false := bne_eq_false_iff_eq.mpr c15) | (have f15 : (t104 == t102) = false := beq_eq_false_iff_ne.mpr c15; have g15 : (t104 != t102) = true := bne_iff_ne.mpr c15)) <;>
   (first | (have f29 : ((t103.size : Int) == 29) = true := beq_iff_eq.mpr c29; have g29 : ((t103.size : Int) != 29) = false := bne_eq_false_iff_eq.mpr c29) | (have f29 : ((t103.size : Int) == 29) = false := beq_eq_false_iff_ne.mpr c29; have g29 : ((t103.size : Int) != 29) = true := bne_iff_ne.mpr c29)) <;>
   (simp only [ge_iff_le, c11, c16, c15, g16, f12, g29, if_true, if_false, bne_self_eq_false, Bool.true_bne, Bool.false_bne, Bool.bne_true, Bool.bne_false, Bool.not_true, Bool.not_false, reduceIte, reduceCtorEq, Bool.false_eq_true] at H
    have H' := Aside0.mk H
    clear H c11 c12 c16 c15 c29
    go_wp2
    go_meet
    case rel => exact ⟨_, _, rfl, H', ⟨Nat.le_refl _⟩, ⟨by repeat (first | (with_reducible first | exact HB.out | apply below_alloc | apply pw_below_drewN | apply below_drew1) | exact HB.out)⟩⟩)
  case rest =>
   clear HC7
   try clear c1
   try clear c2
   try clear p2
   try clear c3
   try clear c6
   try clear c11
   try clear c11b0
   try clear c12
   try clear c12b0
   try clear c12b1
   try clear c12b2
   try clear c13
   try clear c13b0
   try clear c13b1
   try clear c13b2
   try clear c14
   try clear c15
   try clear c15b0
   try clear c15b1
   try clear c16
   try clear c16b0
   try clear c16b1
   try clear c17
   try clear c17b0
   try clear c17b1
   try clear c18
   try clear c18b0
   try clear c18b1
   try clear c18b2
   try clear c19
   try clear c19b0
   try clear c19b1
   try clear c19b2
   try clear c20
   try clear c21
   try clear c21b0
   try clear c21b1
   try clear c22
   try clear c22b0
   try clear c22b1
   try clear c23
   try clear c23b0
   try clear c23b1
   obtain ⟨kq, x58_6, rfl, HA, HJ6, HB⟩ := hcut
   cases kq with
   | zero => exact absurd HA.out (by simp [laws_FnDates.j0])
   | succ kj6 =>
    have H := HA.out
    clear HA
    simp only [laws_FnDates.j0] at H
    by_cases c24 : x58_6 = true
    ·subst c24
     rw [if_pos rfl] at H
     obtain rfl := Option.some.inj H
     go_wp2
     go_ret
     exact ⟨by first | rfl | (simp [errW_none, errW_some] <;> rfl) | (simp [*, errW_none, errW_some] <;> rfl), bq⟩
    ·replace c24 := Bool.eq_false_iff.mpr c24
     subst c24
     rw [if_neg (show ¬ (false = true) by decide)] at H
     replace H := Option.bind_eq_some_iff.mp H
     obtain ⟨⟨t106, t107, t108⟩, A250, H⟩ := H
     try dsimp only at H
     have A25 := Aside0.mk A250
     clear A250
     replace H := Option.bind_eq_some_iff.mp H
     obtain ⟨t109, A260, H⟩ := H
     try dsimp only at H
     have A26 := Aside0.mk A260
     clear A260
     replace H := Option.bind_eq_some_iff.mp H
     obtain ⟨t110, A270, H⟩ := H
     try dsimp only at H
     have A27 := Aside0.mk A270
     clear A270
     have HC28 := Aside0.mk H
     clear H
     go_upto_region 11 with (first | ((with_reducible refine gate_callee (f := 38) rfl ?_); refine goesL_ (some 61) rfl rfl Tryd.func38 (by kernel_rfl) rfl #[.slice A0 l0.length c0] rfl am ?_; (with_reducible refine (spec_DrawDaysOf.calls kj6 _ _ l0 t106 t107 t108 _ ?side1 ?side2 A25.out).mono ?_); (case side1 => repeat (first | exact (Kd.C_below HR0.out HB.out) | (with_reducible refine Kd.C_alloc ?_ _) | (with_reducible refine Kd.C_drewN ?_ _) | (with_reducible refine Kd.C_drew ?_))); (case side2 => exact HC0.out); rintro e w29 ⟨rfl, hb⟩; refine ⟨_, rfl, ?_⟩; have n0_ := Aside0.mk (below_step bq hb); clear HB; have HB := n0_; clear n0_; (try clear hb); (try clear hb2); (try clear hk); (try clear hi)) | ((with_reducible refine gate_callee (f := 39) rfl ?_); refine goesL_ (some 68) rfl rfl Tryd.func39 (by kernel_rfl) rfl #[.int .i64 t106, .int .i64 t107, .int .i64 t108] rfl am ?_; (with_reducible refine (impl_DaysOf.calls kj6 t106 t107 t108 t109 _ A26.out).mono ?_); rintro e w30 ⟨rfl, hb⟩; refine ⟨_, rfl, ?_⟩; have n0_ := Aside0.mk (below_step bq hb); clear HB; have HB := n0_; clear n0_; (try clear hb); (try clear hb2); (try clear hk); (try clear hi)) | ((with_reducible refine gate_callee (f := 39) rfl ?_); refine goesL_ (some 73) rfl rfl Tryd.func39 (by kernel_rfl) rfl #[.int .i64 t106, .int .i64 t107, .int .i64 (wrap64 (t108 + 1))] rfl am ?_; (with_reducible refine (impl_DaysOf.calls kj6 t106 t107 (wrap64 (t108 + 1)) t110 _ A27.out).mono ?_); rintro e w31 ⟨rfl, hb⟩; refine ⟨_, rfl, ?_⟩; have n0_ := Aside0.mk (below_step bq hb); clear HB; have HB := n0_; clear n0_; (try clear hb); (try clear hb2); (try clear hk); (try clear hi)))
     (try simp only [Act.put, List.setIfInBounds_toArray, List.set_cons_zero, List.set_cons_succ])
     go_cut [85] (fun v85 wc => ∃ (kq : Nat) (x85_27 : Bool), v85 = .bool x85_27 ∧ Aside0 (laws_FnDates.j1 kq l0 t106 t107 t109 t110 x85_27 = some r) ∧ Aside0 (kq ≤ kj6) ∧ Aside0 (Below w.heap.size w wc))
     case first =>
      have H := HC28.out
      clear HC28
      by_cases c32 : t109 ≥ 0
      ·rw [if_pos c32] at H
       have c32b0 : decide (0 ≤ t109) = true := decide_eq_true c32
       clear c32
       (first | rw [c32b0] | (simp only [i64_w, i32_w]; rw [c32b0]) | skip)
       by_cases c33 : t110 ≥ 0
       ·rw [if_pos c33] at H
        have c33b0 : decide (0 ≤ t110) = true := decide_eq_true c33
        clear c33
        have H' := Aside0.mk H
        clear H
        go_wp2
        go_meet
        case rel => exact ⟨_, ((t110 != (wrap64 (t109 + 1)))), (by first | rfl | (simp; done) | (simp [*]; done)), H', ⟨by have := HJ6.out; first | omega | exact Nat.le_refl _⟩, ⟨by repeat (first | (with_reducible first | exact HB.out | apply below_alloc | apply pw_below_drewN | apply below_drew1) | exact HB.out)⟩⟩
       ·rw [if_neg c33] at H
        have c33b0 : decide (0 ≤ t110) = false := decide_eq_false c33
        clear c33
        have H' := Aside0.mk H
        clear H
        go_wp2
        go_meet
        case rel => exact ⟨_, (false), (by first | rfl | (simp; done) | (simp [*]; done)), H', ⟨by have := HJ6.out; first | omega | exact Nat.le_refl _⟩, ⟨by repeat (first | (with_reducible first | exact HB.out | apply below_alloc | apply pw_below_drewN | apply below_drew1) | exact HB.out)⟩⟩
      ·rw [if_neg c32] at H
       have c32b0 : decide (0 ≤ t109) = false := decide_eq_false c32
       clear c32
       (first | rw [c32b0] | (simp only [i64_w, i32_w]; rw [c32b0]) | skip)
       have H' := Aside0.mk H
       clear H
       go_wp2
       go_meet
       case rel => exact ⟨_, (false), (by first | rfl | (simp; done) | (simp [*]; done)), H', ⟨by have := HJ6.out; first | omega | exact Nat.le_refl _⟩, ⟨by repeat (first | (with_reducible first | exact HB.out | apply below_alloc | apply pw_below_drewN | apply below_drew1) | exact HB.out)⟩⟩
     case rest =>
      clear HC28
      try clear c1
      try clear c2
      try clear p2
      try clear c3
      try clear c6
      try clear p6
      try clear c11
      try clear c11b0
      try clear c12
      try clear c12b0
      try clear c12b1
      try clear c12b2
      try clear c13
      try clear c13b0
      try clear c13b1
      try clear c13b2
      try clear c14
      try clear c15
      try clear c15b0
      try clear c15b1
      try clear c16
      try clear c16b0
      try clear c16b1
      try clear c17
      try clear c17b0
      try clear c17b1
      try clear c18
      try clear c18b0
      try clear c18b1
      try clear c18b2
      try clear c19
      try clear c19b0
      try clear c19b1
      try clear c19b2
      try clear c20
      try clear c21
      try clear c21b0
      try clear c21b1
      try clear c22
      try clear c22b0
      try clear c22b1
      try clear c23
      try clear c23b0
      try clear c23b1
      try clear c24
      try clear c32
      try clear c32b0
      try clear c33
      try clear c33b0
      try clear p2
      obtain ⟨kq, x85_27, rfl, HA, HJ27, HB⟩ := hcut
      cases kq with
      | zero => exact absurd HA.out (by simp [laws_FnDates.j1])
      | succ kj27 =>
       have H := HA.out
       clear HA
       simp only [laws_FnDates.j1] at H
       by_cases c34 : x85_27 = true
       ·subst c34
        rw [if_pos rfl] at H
        obtain rfl := Option.some.inj H
        go_wp2
        go_ret
        exact ⟨by first | rfl | (simp [errW_none, errW_some] <;> rfl) | (simp [*, errW_none, errW_some] <;> rfl), bq⟩
       ·replace c34 := Bool.eq_false_iff.mpr c34
        subst c34
        rw [if_neg (show ¬ (false = true) by decide)] at H
        have HC35 := Aside0.mk H
        clear H
        go_upto_region 13 with (fail)
        go_cut [91] (fun v91 wc => ∃ (kq : Nat) (x91_34 : Bool), v91 = .bool x91_34 ∧ Aside0 (laws_FnDates.j2 kq l0 t106 t107 t109 x91_34 = some r) ∧ Aside0 (kq ≤ kj27) ∧ Aside0 (Below w.heap.size w wc))
        case first =>
         have H := HC35.out
         clear HC35
         by_cases c36 : t109 ≥ 0
         ·rw [if_pos c36] at H
          have c36b0 : decide (0 ≤ t109) = true := decide_eq_true c36
          clear c36
          (first | rw [c36b0] | (simp only [i64_w, i32_w]; rw [c36b0]) | skip)
          have H' := Aside0.mk H
          clear H
          go_wp2
          go_meet
          case rel => exact ⟨_, (decide (t110 < 0)), (by first | rfl | (simp; done) | (simp [*]; done)), H', ⟨by have := HJ6.out; have := HJ27.out; first | omega | exact Nat.le_refl _⟩, ⟨by repeat (first | (with_reducible first | exact HB.out | apply below_alloc | apply pw_below_drewN | apply below_drew1) | exact HB.out)⟩⟩
         ·rw [if_neg c36] at H
          have c36b0 : decide (0 ≤ t109) = false := decide_eq_false c36
          clear c36
          (first | rw [c36b0] | (simp only [i64_w, i32_w]; rw [c36b0]) | skip)
          have H' := Aside0.mk H
          clear H
          go_wp2
          go_meet
          case rel => exact ⟨_, (false), (by first | rfl | (simp; done) | (simp [*]; done)), H', ⟨by have := HJ6.out; have := HJ27.out; first | omega | exact Nat.le_refl _⟩, ⟨by repeat (first | (with_reducible first | exact HB.out | apply below_alloc | apply pw_below_drewN | apply below_drew1) | exact HB.out)⟩⟩
        case rest =>
         clear HC35
         try clear c1
         try clear c2
         try clear p2
         try clear c3
         try clear c6
         try clear p6
         try clear c11
         try clear c11b0
         try clear c12
         try clear c12b0
         try clear c12b1
         try clear c12b2
         try clear c13
         try clear c13b0
         try clear c13b1
         try clear c13b2
         try clear c14
         try clear c15
         try clear c15b0
         try clear c15b1
         try clear c16
         try clear c16b0
         try clear c16b1
         try clear c17
         try clear c17b0
         try clear c17b1
         try clear c18
         try clear c18b0
         try clear c18b1
         try clear c18b2
         try clear c19
         try clear c19b0
         try clear c19b1
         try clear c19b2
         try clear c20
         try clear c21
         try clear c21b0
         try clear c21b1
         try clear c22
         try clear c22b0
         try clear c22b1
         try clear c23
         try clear c23b0
         try clear c23b1
         try clear c24
         try clear c32
         try clear c32b0
         try clear c33
         try clear c33b0
         try clear c34
         try clear c35
         try clear c36
         try clear c36b0
         try clear p2
         try clear p6
         obtain ⟨kq, x91_34, rfl, HA, HJ34, HB⟩ := hcut
         cases kq with
         | zero => exact absurd HA.out (by simp [laws_FnDates.j2])
         | succ kj34 =>
          have H := HA.out
          clear HA
          simp only [laws_FnDates.j2] at H
          by_cases c37 : x91_34 = true
          ·subst c37
           rw [if_pos rfl] at H
           replace H := Option.bind_eq_some_iff.mp H
           obtain ⟨t111, A380, H⟩ := H
           try dsimp only at H
           have A38 := Aside0.mk A380
           clear A380
           have HC39 := Aside0.mk H
           clear H
           go_upto_if 97 with (first | ((with_reducible refine gate_callee (f := 39) rfl ?_); refine goesL_ (some 95) rfl rfl Tryd.func39 (by kernel_rfl) rfl #[.int .i64 t106, .int .i64 (wrap64 (t107 + 1)), .int .i64 1] rfl am ?_; (with_reducible refine (impl_DaysOf.calls kj34 t106 (wrap64 (t107 + 1)) 1 t111 _ A38.out).mono ?_); rintro e w40 ⟨rfl, hb⟩; refine ⟨_, rfl, ?_⟩; have n0_ := Aside0.mk (below_step bq hb); clear HB; have HB := n0_; clear n0_; (try clear hb); (try clear hb2); (try clear hk); (try clear hi)))
           (try simp only [Act.put, List.setIfInBounds_toArray, List.set_cons_zero, List.set_cons_succ])
           go_cut [12] (fun v12 wc => ∃ (kq : Nat) (x12_38 : Int), v12 = .int .i64 x12_38 ∧ Aside0 (laws_FnDates.j3 kq l0 t106 t109 x12_38 = some r) ∧ Aside0 (kq ≤ kj34) ∧ Aside0 (Below w.heap.size w wc))
           case first =>
            have H := HC39.out
            clear HC39
            by_cases c41 : t107 = 12
            ·rw [if_pos c41] at H
             have c41b0 : (t107 == 12) = true := beq_iff_eq.mpr c41
             have c41b1 : (t107 != 12) = false := bne_eq_false_iff_eq.mpr c41
             clear c41
             (first | rw [c41b0] | (simp only [i64_w, i32_w]; rw [c41b0]) | skip)
             replace H := Option.bind_eq_some_iff.mp H
             obtain ⟨t112, A420, H⟩ := H
             try dsimp only at H
             have A42 := Aside0.mk A420
             clear A420
             have H' := Aside0.mk H
             clear H
             go_wp2_with (first | ((with_reducible refine gate_callee (f := 39) rfl ?_); refine goesL_ (some 100) rfl rfl Tryd.func39 (by kernel_rfl) rfl #[.int .i64 (wrap64 (t106 + 1)), .int .i64 1, .int .i64 1] rfl am ?_; (with_reducible refine (impl_DaysOf.calls kj34 (wrap64 (t106 + 1)) 1 1 t112 _ A42.out).mono ?_); rintro e w43 ⟨rfl, hb⟩; refine ⟨_, rfl, ?_⟩; have n0_ := Aside0.mk (below_step bq hb); clear HB; have HB := n0_; clear n0_; (try clear hb); (try clear hb2); (try clear hk); (try clear hi)))
             go_meet
             case rel => exact ⟨_, (t112), (by first | rfl | (simp; done) | (simp [*]; done)), H', ⟨by have := HJ6.out; have := HJ27.out; have := HJ34.out; first | omega | exact Nat.le_refl _⟩, ⟨by repeat (first | (with_reducible first | exact HB.out | apply below_alloc | apply pw_below_drewN | apply below_drew1) | exact HB.out)⟩⟩
            ·rw [if_neg c41] at H
             have c41b0 : (t107 == 12) = false := beq_eq_false_iff_ne.mpr c41
             have c41b1 : (t107 != 12) = true := bne_iff_ne.mpr c41
             (first | rw [c41b0] | (simp only [i64_w, i32_w]; rw [c41b0]) | skip)
             have H' := Aside0.mk H
             clear H
             go_wp2
             go_meet
             case rel => exact ⟨_, (t111), (by first | rfl | (simp; done) | (simp [*]; done)), H', ⟨by have := HJ6.out; have := HJ27.out; have := HJ34.out; first | omega | exact Nat.le_refl _⟩, ⟨by repeat (first | (with_reducible first | exact HB.out | apply below_alloc | apply pw_below_drewN | apply below_drew1) | exact HB.out)⟩⟩
           case rest =>
            clear HC39
            try clear c1
            try clear c2
            try clear p2
            try clear c3
            try clear c4
            try clear c6
            try clear p6
            try clear c11
            try clear c11b0
            try clear c12
            try clear c12b0
            try clear c12b1
            try clear c12b2
            try clear c13
            try clear c13b0
            try clear c13b1
            try clear c13b2
            try clear c14
            try clear c15
            try clear c15b0
            try clear c15b1
            try clear c16
            try clear c16b0
            try clear c16b1
            try clear c17
            try clear c17b0
            try clear c17b1
            try clear c18
            try clear c18b0
            try clear c18b1
            try clear c18b2
            try clear c19
            try clear c19b0
            try clear c19b1
            try clear c19b2
            try clear c20
            try clear c21
            try clear c21b0
            try clear c21b1
            try clear c22
            try clear c22b0
            try clear c22b1
            try clear c23
            try clear c23b0
            try clear c23b1
            try clear c24
            try clear c32
            try clear c32b0
            try clear c33
            try clear c33b0
            try clear c34
            try clear c35
            try clear c36
            try clear c36b0
            try clear c37
            try clear c38
            try clear c39
            try clear c41
            try clear c41b0
            try clear c41b1
            try clear p2
            try clear p6
            obtain ⟨kq, x12_38, rfl, HA, HJ38, HB⟩ := hcut
            cases kq with
            | zero => exact absurd HA.out (by simp [laws_FnDates.j3])
            | succ kj38 =>
             have H := HA.out
             clear HA
             simp only [laws_FnDates.j3] at H
             have HC44 := Aside0.mk H
             clear H
             go_upto_region 17 with (fail)
             go_cut [108] (fun v108 wc => ∃ (kq : Nat) (x108_43 : Bool), v108 = .bool x108_43 ∧ Aside0 (laws_FnDates.j4 kq l0 x108_43 = some r) ∧ Aside0 (kq ≤ kj38) ∧ Aside0 (Below w.heap.size w wc))
             case first =>
              have H := HC44.out
              clear HC44
              by_cases c45 : x12_38 = (wrap64 (t109 + 1))
              ·rw [if_pos c45] at H
               have c45b0 : (x12_38 == (wrap64 (t109 + 1))) = true := beq_iff_eq.mpr c45
               have c45b1 : (x12_38 != (wrap64 (t109 + 1))) = false := bne_eq_false_iff_eq.mpr c45
               clear c45
               (first | rw [c45b0] | (simp only [i64_w, i32_w]; rw [c45b0]) | skip)
               have H' := Aside0.mk H
               clear H
               go_wp2
               go_meet
               case rel => exact ⟨_, (false), (by first | rfl | (simp; done) | (simp [*]; done)), H', ⟨by have := HJ6.out; have := HJ27.out; have := HJ34.out; have := HJ38.out; first | omega | exact Nat.le_refl _⟩, ⟨by repeat (first | (with_reducible first | exact HB.out | apply below_alloc | apply pw_below_drewN | apply below_drew1) | exact HB.out)⟩⟩
              ·rw [if_neg c45] at H
               have c45b0 : (x12_38 == (wrap64 (t109 + 1))) = false := beq_eq_false_iff_ne.mpr c45
               have c45b1 : (x12_38 != (wrap64 (t109 + 1))) = true := bne_iff_ne.mpr c45
               (first | rw [c45b0] | (simp only [i64_w, i32_w]; rw [c45b0]) | skip)
               have H' := Aside0.mk H
               clear H
               go_wp2
               go_meet
               case rel => exact ⟨_, (decide (t106 < 2037)), (by first | rfl | (simp; done) | (simp [*]; done)), H', ⟨by have := HJ6.out; have := HJ27.out; have := HJ34.out; have := HJ38.out; first | omega | exact Nat.le_refl _⟩, ⟨by repeat (first | (with_reducible first | exact HB.out | apply below_alloc | apply pw_below_drewN | apply below_drew1) | exact HB.out)⟩⟩
             case rest =>
              clear HC44
              try clear c1
              try clear c2
              try clear p2
              try clear c3
              try clear c4
              try clear c6
              try clear p6
              try clear c11
              try clear c11b0
              try clear c12
              try clear c12b0
              try clear c12b1
              try clear c12b2
              try clear c13
              try clear c13b0
              try clear c13b1
              try clear c13b2
              try clear c14
              try clear c15
              try clear c15b0
              try clear c15b1
              try clear c16
              try clear c16b0
              try clear c16b1
              try clear c17
              try clear c17b0
              try clear c17b1
              try clear c18
              try clear c18b0
              try clear c18b1
              try clear c18b2
              try clear c19
              try clear c19b0
              try clear c19b1
              try clear c19b2
              try clear c20
              try clear c21
              try clear c21b0
              try clear c21b1
              try clear c22
              try clear c22b0
              try clear c22b1
              try clear c23
              try clear c23b0
              try clear c23b1
              try clear c24
              try clear c32
              try clear c32b0
              try clear c33
              try clear c33b0
              try clear c34
              try clear c35
              try clear c36
              try clear c36b0
              try clear c37
              try clear c38
              try clear c39
              try clear c41
              try clear c41b0
              try clear c41b1
              try clear c45
              try clear c45b0
              try clear c45b1
              try clear p2
              try clear p6
              obtain ⟨kq, x108_43, rfl, HA, HJ43, HB⟩ := hcut
              cases kq with
              | zero => exact absurd HA.out (by simp [laws_FnDates.j4])
              | succ kj43 =>
               have H := HA.out
               clear HA
               simp only [laws_FnDates.j4] at H
               by_cases c46 : x108_43 = true
               ·subst c46
                rw [if_pos rfl] at H
                obtain rfl := Option.some.inj H
                go_wp2
                go_ret
                exact ⟨by first | rfl | (simp [errW_none, errW_some] <;> rfl) | (simp [*, errW_none, errW_some] <;> rfl), bq⟩
               ·replace c46 := Bool.eq_false_iff.mpr c46
                subst c46
                rw [if_neg (show ¬ (false = true) by decide)] at H
                replace H := Option.bind_eq_some_iff.mp H
                obtain ⟨t113, A470, H⟩ := H
                try dsimp only at H
                have A47 := Aside0.mk A470
                clear A470
                replace H := Option.bind_eq_some_iff.mp H
                obtain ⟨⟨t114, t115⟩, A480, H⟩ := H
                try dsimp only at H
                have A48 := Aside0.mk A480
                clear A480
                by_cases c49 : t115 = true
                ·subst c49
                 rw [if_pos rfl] at H
                 replace H := Option.bind_eq_some_iff.mp H
                 obtain ⟨t116, A500, H⟩ := H
                 try dsimp only at H
                 have A50 := Aside0.mk A500
                 clear A500
                 obtain rfl := Option.some.inj H
                 go_wp2_with (first | ((with_reducible refine gate_callee (f := 40) rfl ?_); refine goesL_ (some 110) rfl rfl Tryd.func40 (by kernel_rfl) rfl #[.slice A0 l0.length c0] rfl am ?_; (with_reducible refine (spec_DrawReadDate.calls kj43 _ _ l0 t113 _ ?side1 ?side2 A47.out).mono ?_); (case side1 => repeat (first | exact (Kd.C_below HR0.out HB.out) | (with_reducible refine Kd.C_alloc ?_ _) | (with_reducible refine Kd.C_drewN ?_ _) | (with_reducible refine Kd.C_drew ?_))); (case side2 => exact HC0.out); rintro e w51 ⟨rfl, hb⟩; refine ⟨_, rfl, ?_⟩; have n0_ := Aside0.mk (below_step bq hb); clear HB; have HB := n0_; clear n0_; (try clear hb); (try clear hb2); (try clear hk); (try clear hi)) | ((with_reducible refine gate_callee (f := 37) rfl ?_); refine goesL_ (some 113) rfl rfl Tryd.func37 (by kernel_rfl) rfl #[.string t113] rfl am ?_; (with_reducible refine (impl_ReadDate.calls kj43 t113 t114 true _ ?side1 ?side2 ?side3 A48.out).mono ?_); (case side1 => refine GErr.of_below HGErr.out ?_; repeat (first | (with_reducible first | exact HB.out | apply below_alloc | apply pw_below_drewN | apply below_drew1) | exact HB.out)); (case side2 => refine GMax.of_below HGMax.out ?_; repeat (first | (with_reducible first | exact HB.out | apply below_alloc | apply pw_below_drewN | apply below_drew1) | exact HB.out)); (case side3 => refine GPow.of_below HGPow.out ?_; repeat (first | (with_reducible first | exact HB.out | apply below_alloc | apply pw_below_drewN | apply below_drew1) | exact HB.out)); rintro e w52 ⟨rfl, hb⟩; refine ⟨_, rfl, ?_⟩; have n0_ := Aside0.mk (below_step bq hb); clear HB; have HB := n0_; clear n0_; (try clear hb); (try clear hb2); (try clear hk); (try clear hi)) | (go_at_call 36; (with_reducible refine (impl_ShowDate.calls kj43 t114 t116 _ ?side1 A50.out).mono ?_); (case side1 => refine GPow.of_below HGPow.out ?_; repeat (first | (with_reducible first | exact HB.out | apply below_alloc | apply pw_below_drewN | apply below_drew1) | exact HB.out)); rintro e w53 ⟨rfl, hb⟩; have n0_ := Aside0.mk (below_step bq hb); clear HB; have HB := n0_; clear n0_; (try clear hb); (try clear hb2); (try clear hk); (try clear hi)))
                 go_ret
                 exact ⟨by first | rfl | (simp [errW_none, errW_some] <;> rfl) | (simp [*, errW_none, errW_some] <;> rfl), bq⟩
                ·replace c49 := Bool.eq_false_iff.mpr c49
                 subst c49
                 rw [if_neg (show ¬ (false = true) by decide)] at H
                 obtain rfl := Option.some.inj H
                 go_wp2_with (first | ((with_reducible refine gate_callee (f := 40) rfl ?_); refine goesL_ (some 110) rfl rfl Tryd.func40 (by kernel_rfl) rfl #[.slice A0 l0.length c0] rfl am ?_; (with_reducible refine (spec_DrawReadDate.calls kj43 _ _ l0 t113 _ ?side1 ?side2 A47.out).mono ?_); (case side1 => repeat (first | exact (Kd.C_below HR0.out HB.out) | (with_reducible refine Kd.C_alloc ?_ _) | (with_reducible refine Kd.C_drewN ?_ _) | (with_reducible refine Kd.C_drew ?_))); (case side2 => exact HC0.out); rintro e w54 ⟨rfl, hb⟩; refine ⟨_, rfl, ?_⟩; have n0_ := Aside0.mk (below_step bq hb); clear HB; have HB := n0_; clear n0_; (try clear hb); (try clear hb2); (try clear hk); (try clear hi)) | ((with_reducible refine gate_callee (f := 37) rfl ?_); refine goesL_ (some 113) rfl rfl Tryd.func37 (by kernel_rfl) rfl #[.string t113] rfl am ?_; (with_reducible refine (impl_ReadDate.calls kj43 t113 t114 false _ ?side1 ?side2 ?side3 A48.out).mono ?_); (case side1 => refine GErr.of_below HGErr.out ?_; repeat (first | (with_reducible first | exact HB.out | apply below_alloc | apply pw_below_drewN | apply below_drew1) | exact HB.out)); (case side2 => refine GMax.of_below HGMax.out ?_; repeat (first | (with_reducible first | exact HB.out | apply below_alloc | apply pw_below_drewN | apply below_drew1) | exact HB.out)); (case side3 => refine GPow.of_below HGPow.out ?_; repeat (first | (with_reducible first | exact HB.out | apply below_alloc | apply pw_below_drewN | apply below_drew1) | exact HB.out)); rintro e w55 ⟨rfl, hb⟩; refine ⟨_, rfl, ?_⟩; have n0_ := Aside0.mk (below_step bq hb); clear HB; have HB := n0_; clear n0_; (try clear hb); (try clear hb2); (try clear hk); (try clear hi)))
                 go_ret
                 exact ⟨by first | rfl | (simp [errW_none, errW_some] <;> rfl) | (simp [*, errW_none, errW_some] <;> rfl), bq⟩
          ·replace c37 := Bool.eq_false_iff.mpr c37
           subst c37
           rw [if_neg (show ¬ (false = true) by decide)] at H
           replace H := Option.bind_eq_some_iff.mp H
           obtain ⟨t117, A560, H⟩ := H
           try dsimp only at H
           have A56 := Aside0.mk A560
           clear A560
           replace H := Option.bind_eq_some_iff.mp H
           obtain ⟨⟨t118, t119⟩, A570, H⟩ := H
           try dsimp only at H
           have A57 := Aside0.mk A570
           clear A570
           by_cases c58 : t119 = true
           ·subst c58
            rw [if_pos rfl] at H
            replace H := Option.bind_eq_some_iff.mp H
            obtain ⟨t120, A590, H⟩ := H
            try dsimp only at H
            have A59 := Aside0.mk A590
            clear A590
            obtain rfl := Option.some.inj H
            go_wp2_with (first | ((with_reducible refine gate_callee (f := 40) rfl ?_); refine goesL_ (some 110) rfl rfl Tryd.func40 (by kernel_rfl) rfl #[.slice A0 l0.length c0] rfl am ?_; (with_reducible refine (spec_DrawReadDate.calls kj34 _ _ l0 t117 _ ?side1 ?side2 A56.out).mono ?_); (case side1 => repeat (first | exact (Kd.C_below HR0.out HB.out) | (with_reducible refine Kd.C_alloc ?_ _) | (with_reducible refine Kd.C_drewN ?_ _) | (with_reducible refine Kd.C_drew ?_))); (case side2 => exact HC0.out); rintro e w60 ⟨rfl, hb⟩; refine ⟨_, rfl, ?_⟩; have n0_ := Aside0.mk (below_step bq hb); clear HB; have HB := n0_; clear n0_; (try clear hb); (try clear hb2); (try clear hk); (try clear hi)) | ((with_reducible refine gate_callee (f := 37) rfl ?_); refine goesL_ (some 113) rfl rfl Tryd.func37 (by kernel_rfl) rfl #[.string t117] rfl am ?_; (with_reducible refine (impl_ReadDate.calls kj34 t117 t118 true _ ?side1 ?side2 ?side3 A57.out).mono ?_); (case side1 => refine GErr.of_below HGErr.out ?_; repeat (first | (with_reducible first | exact HB.out | apply below_alloc | apply pw_below_drewN | apply below_drew1) | exact HB.out)); (case side2 => refine GMax.of_below HGMax.out ?_; repeat (first | (with_reducible first | exact HB.out | apply below_alloc | apply pw_below_drewN | apply below_drew1) | exact HB.out)); (case side3 => refine GPow.of_below HGPow.out ?_; repeat (first | (with_reducible first | exact HB.out | apply below_alloc | apply pw_below_drewN | apply below_drew1) | exact HB.out)); rintro e w61 ⟨rfl, hb⟩; refine ⟨_, rfl, ?_⟩; have n0_ := Aside0.mk (below_step bq hb); clear HB; have HB := n0_; clear n0_; (try clear hb); (try clear hb2); (try clear hk); (try clear hi)) | (go_at_call 36; (with_reducible refine (impl_ShowDate.calls kj34 t118 t120 _ ?side1 A59.out).mono ?_); (case side1 => refine GPow.of_below HGPow.out ?_; repeat (first | (with_reducible first | exact HB.out | apply below_alloc | apply pw_below_drewN | apply below_drew1) | exact HB.out)); rintro e w62 ⟨rfl, hb⟩; have n0_ := Aside0.mk (below_step bq hb); clear HB; have HB := n0_; clear n0_; (try clear hb); (try clear hb2); (try clear hk); (try clear hi)))
            go_ret
            exact ⟨by first | rfl | (simp [errW_none, errW_some] <;> rfl) | (simp [*, errW_none, errW_some] <;> rfl), bq⟩
           ·replace c58 := Bool.eq_false_iff.mpr c58
            subst c58
            rw [if_neg (show ¬ (false = true) by decide)] at H
            obtain rfl := Option.some.inj H
            go_wp2_with (first | ((with_reducible refine gate_callee (f := 40) rfl ?_); refine goesL_ (some 110) rfl rfl Tryd.func40 (by kernel_rfl) rfl #[.slice A0 l0.length c0] rfl am ?_; (with_reducible refine (spec_DrawReadDate.calls kj34 _ _ l0 t117 _ ?side1 ?side2 A56.out).mono ?_); (case side1 => repeat (first | exact (Kd.C_below HR0.out HB.out) | (with_reducible refine Kd.C_alloc ?_ _) | (with_reducible refine Kd.C_drewN ?_ _) | (with_reducible refine Kd.C_drew ?_))); (case side2 => exact HC0.out); rintro e w63 ⟨rfl, hb⟩; refine ⟨_, rfl, ?_⟩; have n0_ := Aside0.mk (below_step bq hb); clear HB; have HB := n0_; clear n0_; (try clear hb); (try clear hb2); (try clear hk); (try clear hi)) | ((with_reducible refine gate_callee (f := 37) rfl ?_); refine goesL_ (some 113) rfl rfl Tryd.func37 (by kernel_rfl) rfl #[.string t117] rfl am ?_; (with_reducible refine (impl_ReadDate.calls kj34 t117 t118 false _ ?side1 ?side2 ?side3 A57.out).mono ?_); (case side1 => refine GErr.of_below HGErr.out ?_; repeat (first | (with_reducible first | exact HB.out | apply below_alloc | apply pw_below_drewN | apply below_drew1) | exact HB.out)); (case side2 => refine GMax.of_below HGMax.out ?_; repeat (first | (with_reducible first | exact HB.out | apply below_alloc | apply pw_below_drewN | apply below_drew1) | exact HB.out)); (case side3 => refine GPow.of_below HGPow.out ?_; repeat (first | (with_reducible first | exact HB.out | apply below_alloc | apply pw_below_drewN | apply below_drew1) | exact HB.out)); rintro e w64 ⟨rfl, hb⟩; refine ⟨_, rfl, ?_⟩; have n0_ := Aside0.mk (below_step bq hb); clear HB; have HB := n0_; clear n0_; (try clear hb); (try clear hb2); (try clear hk); (try clear hi)))
            go_ret
            exact ⟨by first | rfl | (simp [errW_none, errW_some] <;> rfl) | (simp [*, errW_none, errW_some] <;> rfl), bq⟩

end Go.Proofs.YtjldfmkpdkhnnaaDoor.QL

namespace Go.Proofs.YtjldfmkpdkhnnaaDoor.QL
open Go.RowKit Go.Proofs.YtjldfmkpdkhnnaaDoorW.PrintWords Go.Proofs.YtjldfmkpdkhnnaaDoorW.PrintLast Go.Proofs.YtjldfmkpdkhnnaaDoorW.PrintMore Go.Proofs.YtjldfmkpdkhnnaaDoor.Aux Go.Proofs.YtjldfmkpdkhnnaaDoor.Dom Go.Proofs.YtjldfmkpdkhnnaaDoor.Ext Go.Proofs.YtjldfmkpdkhnnaaDoor.Glob
attribute [local go_sem] max2_int min2_int max_two min_two max_three min_three max_four min_four   -- for this text's walks alone
set_option linter.unusedVariables false
set_option linter.unusedSimpArgs false

/-! ### spec_l1Once: function 65 -/
def spec_l1Once.f (s0_0 : List Int) (s0_1 : Int) (s0_2 : Int) (a1 : Int) : Option (Bool × Int × Int) := (spec_l1Below.f s0_0 s0_1 s0_2 a1).bind fun bt101 => (some ((bt101.1 == 0), bt101.2.1, bt101.2.2))
set_option maxHeartbeats 8000000 in
set_option maxRecDepth 100000 in
theorem spec_l1Once.calls (g : Nat) (s0_0 : List Int) (s0_1 : Int) (s0_2 : Int) (a1 : Int) (r1 : Bool) (r2 : Int) (r3 : Int) (w0 w : World) (hI : IsS110 w0 w g s0_0 s0_1 s0_2) (hB : Below w0.heap.size w0 w) (h : spec_l1Once.f s0_0 s0_1 s0_2 a1 = some (r1, r2, r3)) :
  Calls Tryd.prog 65 #[.pointer (some ⟨g, 0, none⟩), .int .i64 a1] w fun e w' => e = .returned (.bool r1) ∧ IsS110 w0 w' g s0_0 r2 r3 ∧ Below w0.heap.size w0 w' ∧ KeepBut w w' g none := by
 have HI0 := Aside0.mk hI
 have HK := Aside0.mk (KeepBut.refl w g none)
 have HL := Aside0.mk hB.size
 clear hI
 have HW0 := Aside0.mk hB.size
 have HB := Aside0.mk hB
 clear hB
 have H : ((spec_l1Below.f s0_0 s0_1 s0_2 a1).bind fun bt101 => (some ((bt101.1 == 0), bt101.2.1, bt101.2.2))) = some (r1, r2, r3) := h
 clear h
 replace H := Option.bind_eq_some_iff.mp H
 obtain ⟨⟨t101, t102, t103⟩, A30, H⟩ := H
 try dsimp only at H
 have A3 := Aside0.mk A30
 clear A30
 simp only [Option.some.injEq, Prod.mk.injEq] at H
 obtain ⟨rfl, rfl, rfl⟩ := H
 go_enter Tryd.func65, Tryd.ntmps65
 go_wp2_with (first | ((with_reducible refine gate_callee (f := 89) rfl ?_); refine goesL_ (some 7) rfl rfl Tryd.func89 (by kernel_rfl) rfl #[.pointer (some ⟨g, 0, none⟩), .int .i64 a1] rfl am ?_; (with_reducible refine (spec_l1Below.calls g s0_0 s0_1 s0_2 a1 t101 t102 t103 w0 _ ?side1 ?side2 A3.out).mono ?_); (case side1 => repeat (first | (with_reducible first | exact HI0.out | apply IsS110.alloc | apply IsS110.drewN | apply IsS110.drew | apply IsS110.set_1 | apply IsS110.set_2) | exact HI0.out)); (case side2 => repeat (first | (with_reducible first | exact HB.out | apply below_alloc | apply pw_below_drewN | apply below_drew1 | refine below_set ?_ (IsS110.ge HI0.out)) | exact HB.out)); rintro e w4 ⟨rfl, hi, hb, hk⟩; refine ⟨_, rfl, ?_⟩; have n0_ := Aside0.mk (KeepBut.trans (by repeat (first | (with_reducible first | exact HK.out | apply KeepBut.set_ | apply keep_drewN | apply keep_drew | apply keep_alloc) | exact HK.out)) hk (.inl rfl)); have n1_ := Aside0.mk (hb); have n2_ := Aside0.mk (hi); clear HK; clear HB; clear HI0; have HK := n0_; have HB := n1_; have HI0 := n2_; clear n0_ n1_ n2_; (try clear hb); (try clear hb2); (try clear hk); (try clear hi)))
 go_ret
 exact ⟨by first | rfl | (simp [errW_none, errW_some] <;> rfl) | (simp [*, errW_none, errW_some] <;> rfl), by repeat (first | (with_reducible first | exact HI0.out | apply IsS110.alloc | apply IsS110.drewN | apply IsS110.drew | apply IsS110.set_1 | apply IsS110.set_2) | exact HI0.out), by repeat (first | (with_reducible first | exact HB.out | apply below_alloc | apply pw_below_drewN | apply below_drew1 | refine below_set ?_ (IsS110.ge HI0.out)) | exact HB.out), by repeat (first | (with_reducible first | exact HK.out | apply KeepBut.set_ | apply keep_drewN | apply keep_drew | apply keep_alloc) | exact HK.out)⟩

end Go.Proofs.YtjldfmkpdkhnnaaDoor.QL
