/- Names of directives are small, a number is the least that is said, and what stands twice counts once: for all codes that are drawn from (codes of more than 2^20 bytes are let by). -/
import Derived.Test.YtjldfmkpdkhnnaaGreatDoorCFnDirectivesd
set_option linter.unusedVariables false
set_option linter.unusedSimpArgs false
namespace Go.Proofs.YtjldfmkpdkhnnaaGreatDoor.QL
open Go.RowKit Go.Proofs.YtjldfmkpdkhnnaaGreatDoorW.PrintWords Go.Proofs.YtjldfmkpdkhnnaaGreatDoorW.PrintLast Go.Proofs.YtjldfmkpdkhnnaaGreatDoorW.PrintMore Go.Proofs.YtjldfmkpdkhnnaaGreatDoor.Aux Go.Proofs.YtjldfmkpdkhnnaaGreatDoor.Dom Go.Proofs.YtjldfmkpdkhnnaaGreatDoor.Ext Go.Proofs.YtjldfmkpdkhnnaaGreatDoor.Glob
attribute [local go_sem] max2_int min2_int max_two min_two max_three min_three max_four min_four   -- for this text's walks alone

mutual
def laws_FnDirectives.l0 : Nat → List (S99) → ByteArray → Int → Bool → List (S46) → Int → Option (Bool)
 | 0, _, _, _, _, _, _ => none
 | k + 1, x3, x4, x5, x6, x7, x8 => if x8 < (x7.length : Int) then (if 0 ≤ x8 then ((impl_Lower.f ((rd_T46 x7 x8).f0)).bind fun t113 => (if ((rd_T46 x7 x8).f0).toList = t113.toList then ((impl_CcHas.f k x3 ((rd_T46 x7 x8).f0)).bind fun t115 => (laws_FnDirectives.j1 k x3 x4 x5 x6 x7 x8 (!t115))) else (laws_FnDirectives.j1 k x3 x4 x5 x6 x7 x8 true))) else (none)) else ((spec_CcSeconds.f k x3 x4).bind fun bt120 => (if x5 = bt120.1 then (if (x6 != bt120.2) = true then (laws_FnDirectives.j2 k x3 x4 x5 x6 x7 true) else ((spec_Directives.f k x3).bind fun t122 => (laws_FnDirectives.j2 k x3 x4 x5 x6 x7 ((x7.length : Int) != (t122.length : Int))))) else (laws_FnDirectives.j2 k x3 x4 x5 x6 x7 true)))
def laws_FnDirectives.j1 : Nat → List (S99) → ByteArray → Int → Bool → List (S46) → Int → Bool → Option (Bool)
 | 0, _, _, _, _, _, _, _ => none
 | k + 1, x3, x4, x5, x6, x7, x8, x58 => if x58 = true then (some false) else (if 0 ≤ x8 then (if x8 < (x7.length : Int) then (if ((rd_T46 x7 x8).f0).toList = x4.toList then ((spec_Seconds.f k ((rd_T46 x7 x8).f1)).bind fun bt118 => (if x6 = true then (if x5 > bt118.1 then (some false) else (laws_FnDirectives.l0 k x3 x4 x5 x6 x7 (wrap64 (x8 + 1)))) else (some false))) else (laws_FnDirectives.l0 k x3 x4 x5 x6 x7 (wrap64 (x8 + 1)))) else (none)) else (none))
def laws_FnDirectives.j2 : Nat → List (S99) → ByteArray → Int → Bool → List (S46) → Bool → Option (Bool)
 | 0, _, _, _, _, _, _ => none
 | k + 1, x3, x4, x5, x6, x7, x103 => if x103 = true then (some false) else ((some (([] : List (S99)) : List (S99))).bind fun y125 => (if y125.length + x3.length < 4398046511104 then ((some (y125 ++ x3 : List (S99))).bind fun y128 => (if y128.length + x3.length < 4398046511104 then ((some (y128 ++ x3 : List (S99))).bind fun y131 => ((impl_CcSeconds.f k y131 x4).bind fun bt134 => (if x5 ≥ 0 then (if x5 ≤ 2147483648 then (if bt134.1 = x5 then (if (bt134.2 == x6) = true then ((impl_Directives.f k y131).bind fun t136 => (if (t136.length : Int) ≤ (wrap64 ((wrap64 (2 * (x7.length : Int))) + 1)) then ((impl_CcHas.f k x3 x4).bind fun t139 => (some (x6 == t139))) else (some false))) else (some false)) else (some false)) else (some false)) else (some false)))) else (none))) else (none)))
end
def laws_FnDirectives.f (k : Nat) (l0 : List Int) : Option (Bool) := (laws_big.f l0).bind fun t101 => (if t101 = true then (some true) else ((spec_DrawCcSeconds.f k l0).bind fun bt102 => ((impl_CcSeconds.f k bt102.1 bt102.2).bind fun bt106 => ((impl_Directives.f k bt102.1).bind fun t108 => (laws_FnDirectives.l0 k bt102.1 bt102.2 bt106.1 bt106.2 t108 0)))))
theorem laws_FnDirectives.mono_l : ∀ k, (∀ y0 y1 y2 y3 y4 y5, LeO (laws_FnDirectives.l0 k y0 y1 y2 y3 y4 y5) (laws_FnDirectives.l0 (k + 1) y0 y1 y2 y3 y4 y5)) ∧ (∀ y0 y1 y2 y3 y4 y5 y6, LeO (laws_FnDirectives.j1 k y0 y1 y2 y3 y4 y5 y6) (laws_FnDirectives.j1 (k + 1) y0 y1 y2 y3 y4 y5 y6)) ∧ (∀ y0 y1 y2 y3 y4 y5, LeO (laws_FnDirectives.j2 k y0 y1 y2 y3 y4 y5) (laws_FnDirectives.j2 (k + 1) y0 y1 y2 y3 y4 y5))
 | 0 => ⟨fun _ _ _ _ _ _ r h => by simp [laws_FnDirectives.l0] at h, fun _ _ _ _ _ _ _ r h => by simp [laws_FnDirectives.j1] at h, fun _ _ _ _ _ _ r h => by simp [laws_FnDirectives.j2] at h⟩
 | k + 1 => by
  obtain ⟨ih0, ih1, ih2⟩ := laws_FnDirectives.mono_l k
  refine ⟨?_, ?_, ?_⟩
  ·intro y0 y1 y2 y3 y4 y5
   unfold laws_FnDirectives.l0
   repeat' first
   | (with_reducible exact ih0 _ _ _ _ _ _)
   | (with_reducible exact ih1 _ _ _ _ _ _ _)
   | (with_reducible exact ih2 _ _ _ _ _ _)
   | (with_reducible exact impl_CcHas.mono _ _ _)
   | (with_reducible exact impl_CcSeconds.mono _ _ _)
   | (with_reducible exact impl_Directives.mono _ _)
   | (with_reducible exact spec_CcSeconds.mono _ _ _)
   | (with_reducible exact spec_Directives.mono _ _)
   | (with_reducible exact spec_DrawCcSeconds.mono _ _)
   | (with_reducible exact spec_Seconds.mono _ _)
   | (with_reducible exact LeO.refl _)
   | (with_reducible exact LeO.none _)
   | (with_reducible refine LeO.ite ?_ ?_)
   | (with_reducible refine LeO.bind ?_ (fun _ => ?_))
   | exact ih0 _ _ _ _ _ _
   | exact ih1 _ _ _ _ _ _ _
   | exact ih2 _ _ _ _ _ _
   | exact impl_CcHas.mono _ _ _
   | exact impl_CcSeconds.mono _ _ _
   | exact impl_Directives.mono _ _
   | exact spec_CcSeconds.mono _ _ _
   | exact spec_Directives.mono _ _
   | exact spec_DrawCcSeconds.mono _ _
   | exact spec_Seconds.mono _ _
   | exact LeO.none _
   | refine LeO.ite ?_ ?_
   | refine LeO.bind ?_ (fun _ => ?_)
  ·intro y0 y1 y2 y3 y4 y5 y6
   unfold laws_FnDirectives.j1
   repeat' first
   | (with_reducible exact ih0 _ _ _ _ _ _)
   | (with_reducible exact ih1 _ _ _ _ _ _ _)
   | (with_reducible exact ih2 _ _ _ _ _ _)
   | (with_reducible exact impl_CcHas.mono _ _ _)
   | (with_reducible exact impl_CcSeconds.mono _ _ _)
   | (with_reducible exact impl_Directives.mono _ _)
   | (with_reducible exact spec_CcSeconds.mono _ _ _)
   | (with_reducible exact spec_Directives.mono _ _)
   | (with_reducible exact spec_DrawCcSeconds.mono _ _)
   | (with_reducible exact spec_Seconds.mono _ _)
   | (with_reducible exact LeO.refl _)
   | (with_reducible exact LeO.none _)
   | (with_reducible refine LeO.ite ?_ ?_)
   | (with_reducible refine LeO.bind ?_ (fun _ => ?_))
   | exact ih0 _ _ _ _ _ _
   | exact ih1 _ _ _ _ _ _ _
   | exact ih2 _ _ _ _ _ _
   | exact impl_CcHas.mono _ _ _
   | exact impl_CcSeconds.mono _ _ _
   | exact impl_Directives.mono _ _
   | exact spec_CcSeconds.mono _ _ _
   | exact spec_Directives.mono _ _
   | exact spec_DrawCcSeconds.mono _ _
   | exact spec_Seconds.mono _ _
   | exact LeO.none _
   | refine LeO.ite ?_ ?_
   | refine LeO.bind ?_ (fun _ => ?_)
  ·intro y0 y1 y2 y3 y4 y5
   unfold laws_FnDirectives.j2
   repeat' first
   | (with_reducible exact ih0 _ _ _ _ _ _)
   | (with_reducible exact ih1 _ _ _ _ _ _ _)
   | (with_reducible exact ih2 _ _ _ _ _ _)
   | (with_reducible exact impl_CcHas.mono _ _ _)
   | (with_reducible exact impl_CcSeconds.mono _ _ _)
   | (with_reducible exact impl_Directives.mono _ _)
   | (with_reducible exact spec_CcSeconds.mono _ _ _)
   | (with_reducible exact spec_Directives.mono _ _)
   | (with_reducible exact spec_DrawCcSeconds.mono _ _)
   | (with_reducible exact spec_Seconds.mono _ _)
   | (with_reducible exact LeO.refl _)
   | (with_reducible exact LeO.none _)
   | (with_reducible refine LeO.ite ?_ ?_)
   | (with_reducible refine LeO.bind ?_ (fun _ => ?_))
   | exact ih0 _ _ _ _ _ _
   | exact ih1 _ _ _ _ _ _ _
   | exact ih2 _ _ _ _ _ _
   | exact impl_CcHas.mono _ _ _
   | exact impl_CcSeconds.mono _ _ _
   | exact impl_Directives.mono _ _
   | exact spec_CcSeconds.mono _ _ _
   | exact spec_Directives.mono _ _
   | exact spec_DrawCcSeconds.mono _ _
   | exact spec_Seconds.mono _ _
   | exact LeO.none _
   | refine LeO.ite ?_ ?_
   | refine LeO.bind ?_ (fun _ => ?_)
theorem laws_FnDirectives.mono : ∀ a0 k, LeO (laws_FnDirectives.f k a0) (laws_FnDirectives.f (k + 1) a0) := by
 intro a0 k
 obtain ⟨ih0, ih1, ih2⟩ := laws_FnDirectives.mono_l k
 unfold laws_FnDirectives.f
 repeat' first
   | (with_reducible exact ih0 _ _ _ _ _ _)
   | (with_reducible exact ih1 _ _ _ _ _ _ _)
   | (with_reducible exact ih2 _ _ _ _ _ _)
   | (with_reducible exact impl_CcHas.mono _ _ _)
   | (with_reducible exact impl_CcSeconds.mono _ _ _)
   | (with_reducible exact impl_Directives.mono _ _)
   | (with_reducible exact spec_CcSeconds.mono _ _ _)
   | (with_reducible exact spec_Directives.mono _ _)
   | (with_reducible exact spec_DrawCcSeconds.mono _ _)
   | (with_reducible exact spec_Seconds.mono _ _)
   | (with_reducible exact LeO.refl _)
   | (with_reducible exact LeO.none _)
   | (with_reducible refine LeO.ite ?_ ?_)
   | (with_reducible refine LeO.bind ?_ (fun _ => ?_))
   | exact ih0 _ _ _ _ _ _
   | exact ih1 _ _ _ _ _ _ _
   | exact ih2 _ _ _ _ _ _
   | exact impl_CcHas.mono _ _ _
   | exact impl_CcSeconds.mono _ _ _
   | exact impl_Directives.mono _ _
   | exact spec_CcSeconds.mono _ _ _
   | exact spec_Directives.mono _ _
   | exact spec_DrawCcSeconds.mono _ _
   | exact spec_Seconds.mono _ _
   | exact LeO.none _
   | refine LeO.ite ?_ ?_
   | refine LeO.bind ?_ (fun _ => ?_)
def laws_FnDirectives.T9 : Bool × List (List Nat × List Nat) := (true, [([], []), ([], []), ([0, 1], [0, 1]), ([2], [2]), ([3], [3]), ([], []), ([], []), ([5, 6], [5, 6]), ([7], [7]), ([8], [8]), ([9], [9]), ([4, 10], [4, 10]), ([11, 10], [11]), ([12], [12]), ([12], [12]), ([12], [12]), ([14, 15, 12], [12, 14, 15]), ([16, 12], [12, 16]), ([17, 12], [12, 17]), ([13, 18, 12, 12], [12, 13, 18]), ([19, 12], [12, 19]), ([12, 20], [12, 20])])
def laws_FnDirectives.B9 : List Nat := [0, 0, 3, 7, 15, 0, 0, 96, 224, 480, 992, 2047, 4095, 8191, 8191, 8191, 57343, 122879, 253951, 524287, 1048575, 2097151]
theorem laws_FnDirectives.tab9 : rtab .any (opsOf Tryz.f6 9) = laws_FnDirectives.T9 := by kernel_rfl
theorem laws_FnDirectives.bits9 : waitsOk laws_FnDirectives.T9.2 laws_FnDirectives.B9 = true := by kernel_rfl
set_option maxHeartbeats 8000000 in
set_option maxRecDepth 100000 in
theorem laws_FnDirectives.calls (k : Nat) (A0 : Option Addr) (c0 : Nat) (l0 : List Int) (r : Bool) (w : World) (hr0 : Kd.C (Kd.int .u8) w A0 l0.length l0) (hc0 : l0.length ≤ c0) (hGErr : GErr w) (hGMax : GMax w) (h : laws_FnDirectives.f k l0 = some r) :
  Calls Tryz.prog 6 #[.slice A0 l0.length c0] w fun e w' => e = .returned (.bool r) ∧ Below w.heap.size w w' := by
 have HR0 := Aside0.mk hr0
 have HC0 := Aside0.mk hc0
 clear hr0 hc0
 have HGErr := Aside0.mk hGErr
 clear hGErr
 have HGMax := Aside0.mk hGMax
 clear hGMax
 have HB := Aside0.mk (Below.refl w.heap.size w)
 have H : ((laws_big.f l0).bind fun t101 => (if t101 = true then (some true) else ((spec_DrawCcSeconds.f k l0).bind fun bt102 => ((impl_CcSeconds.f k bt102.1 bt102.2).bind fun bt106 => ((impl_Directives.f k bt102.1).bind fun t108 => (laws_FnDirectives.l0 k bt102.1 bt102.2 bt106.1 bt106.2 t108 0)))))) = some r := h
 clear h
 replace H := Option.bind_eq_some_iff.mp H
 obtain ⟨t101, A20, H⟩ := H
 try dsimp only at H
 have A2 := Aside0.mk A20
 clear A20
 by_cases c3 : t101 = true
 ·subst c3
  rw [if_pos rfl] at H
  obtain rfl := Option.some.inj H
  go_enter Tryz.func6, Tryz.ntmps6
  go_wp2_with (first | ((with_reducible refine gate_callee (f := 18) rfl ?_); refine goesL_ (some 17) rfl rfl Tryz.func18 (by kernel_rfl) rfl #[.slice A0 l0.length c0] rfl am ?_; (with_reducible refine (laws_big.calls _ _ l0 true _ ?side1 ?side2 A2.out).mono ?_); (case side1 => repeat (first | exact HR0.out | (with_reducible refine Kd.C_alloc ?_ _) | (with_reducible refine Kd.C_drewN ?_ _) | (with_reducible refine Kd.C_drew ?_))); (case side2 => exact HC0.out); rintro e w' ⟨rfl, ⟨nd, rfl⟩⟩; refine ⟨_, rfl, ?_⟩))
  go_ret
  exact ⟨by first | rfl | (simp [errW_none, errW_some] <;> rfl) | (simp [*, errW_none, errW_some] <;> rfl), bq⟩
 ·replace c3 := Bool.eq_false_iff.mpr c3
  subst c3
  rw [if_neg (show ¬ (false = true) by decide)] at H
  replace H := Option.bind_eq_some_iff.mp H
  obtain ⟨⟨t102, t103⟩, A40, H⟩ := H
  try dsimp only at H
  have A4 := Aside0.mk A40
  clear A40
  replace H := Option.bind_eq_some_iff.mp H
  obtain ⟨⟨t106, t107⟩, A50, H⟩ := H
  try dsimp only at H
  have A5 := Aside0.mk A50
  clear A50
  replace H := Option.bind_eq_some_iff.mp H
  obtain ⟨t108, A60, H⟩ := H
  try dsimp only at H
  have A6 := Aside0.mk A60
  clear A60
  have H' := Aside0.mk H
  clear H
  go_enter Tryz.func6, Tryz.ntmps6
  go_wp2_with (first | ((with_reducible refine gate_callee (f := 18) rfl ?_); refine goesL_ (some 17) rfl rfl Tryz.func18 (by kernel_rfl) rfl #[.slice A0 l0.length c0] rfl am ?_; (with_reducible refine (laws_big.calls _ _ l0 false _ ?side1 ?side2 A2.out).mono ?_); (case side1 => repeat (first | exact HR0.out | (with_reducible refine Kd.C_alloc ?_ _) | (with_reducible refine Kd.C_drewN ?_ _) | (with_reducible refine Kd.C_drew ?_))); (case side2 => exact HC0.out); rintro e w' ⟨rfl, ⟨nd, rfl⟩⟩; refine ⟨_, rfl, ?_⟩) | ((with_reducible refine gate_callee (f := 19) rfl ?_); refine goesL_ (some 20) rfl rfl Tryz.func19 (by kernel_rfl) rfl #[.slice A0 l0.length c0] rfl am ?_; (with_reducible refine (spec_DrawCcSeconds.calls k _ _ l0 t102 t103 _ ?side1 ?side2 A4.out).mono ?_); (case side1 => repeat (first | exact HR0.out | (with_reducible refine Kd.C_alloc ?_ _) | (with_reducible refine Kd.C_drewN ?_ _) | (with_reducible refine Kd.C_drew ?_))); (case side2 => exact HC0.out); rintro e w7 ⟨v104, rfl, ho0, hb⟩; refine ⟨_, rfl, ?_⟩; have n0_ := Aside0.mk (Kd.R_lower ho0 (below_size bq)); have n1_ := Aside0.mk (below_step bq hb); clear HB; have HO105 := n0_; have HB := n1_; clear n0_ n1_; (try clear hb); (try clear hb2); (try clear hk); (try clear hi); (try clear ho0); obtain ⟨Ao8, co8, eo8⟩ := Kd.R_slice HO105.out; subst eo8) | ((with_reducible refine gate_callee (f := 20) rfl ?_); refine goesL_ (some 26) rfl rfl Tryz.func20 (by kernel_rfl) rfl #[.slice Ao8 t102.length co8, .string t103] rfl am ?_; (with_reducible refine (impl_CcSeconds.calls k _ _ t102 t103 t106 t107 _ ?side1 ?side2 ?side3 ?side4 A5.out).mono ?_); (case side1 => repeat (first | exact (Kd.R_reads' HO105.out).2.2 | (with_reducible refine Kd.C_alloc ?_ _) | (with_reducible refine Kd.C_drewN ?_ _) | (with_reducible refine Kd.C_drew ?_))); (case side2 => exact (Kd.R_reads' HO105.out).2.1); (case side3 => refine GErr.of_below HGErr.out ?_; repeat (first | (with_reducible first | exact HB.out | apply below_alloc | apply pw_below_drewN | apply below_drew1) | exact HB.out)); (case side4 => refine GMax.of_below HGMax.out ?_; repeat (first | (with_reducible first | exact HB.out | apply below_alloc | apply pw_below_drewN | apply below_drew1) | exact HB.out)); rintro e w9 ⟨rfl, hb⟩; refine ⟨_, rfl, ?_⟩; have n0_ := Aside0.mk (Kd.R_below (by (with_reducible repeat (first | apply Kd.R_alloc | apply Kd.R_drewN | apply Kd.R_drew)); exact HO105.out) hb); have n1_ := Aside0.mk (below_step bq hb); clear HO105; clear HB; have HO105 := n0_; have HB := n1_; clear n0_ n1_; (try clear hb); (try clear hb2); (try clear hk); (try clear hi)) | ((with_reducible refine gate_callee (f := 21) rfl ?_); refine goesL_ (some 30) rfl rfl Tryz.func21 (by kernel_rfl) rfl #[.slice Ao8 t102.length co8] rfl am ?_; (with_reducible refine (impl_Directives.calls k _ _ t102 t108 _ ?side1 ?side2 ?side3 A6.out).mono ?_); (case side1 => repeat (first | exact (Kd.R_reads' HO105.out).2.2 | (with_reducible refine Kd.C_alloc ?_ _) | (with_reducible refine Kd.C_drewN ?_ _) | (with_reducible refine Kd.C_drew ?_))); (case side2 => exact (Kd.R_reads' HO105.out).2.1); (case side3 => refine GMax.of_below HGMax.out ?_; repeat (first | (with_reducible first | exact HB.out | apply below_alloc | apply pw_below_drewN | apply below_drew1) | exact HB.out)); rintro e w10 ⟨v109, rfl, ho0, hb⟩; refine ⟨_, rfl, ?_⟩; have n0_ := Aside0.mk (Kd.R_below (by (with_reducible repeat (first | apply Kd.R_alloc | apply Kd.R_drewN | apply Kd.R_drew)); exact HO105.out) hb); have n1_ := Aside0.mk (Kd.R_lower ho0 (below_size bq)); have n2_ := Aside0.mk (below_step bq hb); clear HO105; clear HB; have HO105 := n0_; have HO110 := n1_; have HB := n2_; clear n0_ n1_ n2_; (try clear hb); (try clear hb2); (try clear hk); (try clear hi); (try clear ho0)))
  go_loopg [8] k (fun kq v8 w' => ∃ (x8_1 : Int), v8 = .int .i64 x8_1 ∧ Aside0 (laws_FnDirectives.l0 kq t102 t103 t106 t107 t108 x8_1 = some r) ∧ Aside0 (kq ≤ k) ∧ Aside0 (Kd.R k99 99 w' w.heap.size (fun _ => True) (.slice Ao8 t102.length co8) t102) ∧ Aside0 (Kd.R k46 46 w' w.heap.size (fun _ => True) v109 t108) ∧ Aside0 (Below w.heap.size w w'))
  case atStart => exact ⟨(0), (by first | rfl | (simp; done) | (simp [*]; done)), H', ⟨Nat.le_refl _⟩, ⟨by (with_reducible repeat (first | apply Kd.R_alloc | apply Kd.R_drewN | apply Kd.R_drew)); exact HO105.out⟩, ⟨by (with_reducible repeat (first | apply Kd.R_alloc | apply Kd.R_drewN | apply Kd.R_drew)); exact HO110.out⟩, ⟨by repeat (first | (with_reducible first | exact HB.out | apply below_alloc | apply pw_below_drewN | apply below_drew1) | exact HB.out)⟩⟩
  case round =>
   clear H'
   try clear c1
   try clear c2
   try clear p2
   try clear c3
   try clear c6
   obtain ⟨x8_1, rfl, HA, HK1, HO_3, HO_7, HB⟩ := hrel
   cases gk with
   | zero => exact absurd HA.out (by simp [laws_FnDirectives.l0])
   | succ k1 =>
    have H := HA.out
    clear HA
    simp only [laws_FnDirectives.l0] at H
    by_cases c11 : x8_1 < (t108.length : Int)
    ·rw [if_pos c11] at H
     have c11b0 : decide (x8_1 < (t108.length : Int)) = true := decide_eq_true c11
     clear c11
     have HC12 := Aside0.mk H
     clear H
     obtain ⟨Ao13, co13, eo13⟩ := Kd.R_slice HO_7.out
     subst eo13
     go_upto_region 9 with (fail)
     go_cut [58] (fun v58 wc => ∃ (kq : Nat) (x58_11 : Bool), v58 = .bool x58_11 ∧ Aside0 (laws_FnDirectives.j1 kq t102 t103 t106 t107 t108 x8_1 x58_11 = some r) ∧ Aside0 (kq ≤ k1) ∧ Aside0 (Kd.R k99 99 wc w.heap.size (fun _ => True) (.slice Ao8 t102.length co8) t102) ∧ Aside0 (Kd.R k46 46 wc w.heap.size (fun _ => True) (.slice Ao13 t108.length co13) t108) ∧ Aside0 (Below w.heap.size w wc))
     case first =>
      have H := HC12.out
      clear HC12
      by_cases c14 : 0 ≤ x8_1
      ·rw [if_pos c14] at H
       have c14b0 : decide (0 ≤ x8_1) = true := decide_eq_true c14
       clear c14
       (first | rw [c14b0] | (simp only [i64_w, i32_w]; rw [c14b0]) | skip)
       replace H := Option.bind_eq_some_iff.mp H
       obtain ⟨t113, A150, H⟩ := H
       try dsimp only at H
       have A15 := Aside0.mk A150
       clear A150
       by_cases c16 : ((rd_T46 t108 x8_1).f0).toList = t113.toList
       ·rw [if_pos c16] at H
        have c16b0 : (((rd_T46 t108 x8_1).f0).toList == t113.toList) = true := beq_iff_eq.mpr c16
        have c16b1 : (((rd_T46 t108 x8_1).f0).toList != t113.toList) = false := bne_eq_false_iff_eq.mpr c16
        clear c16
        replace H := Option.bind_eq_some_iff.mp H
        obtain ⟨t115, A170, H⟩ := H
        try dsimp only at H
        have A17 := Aside0.mk A170
        clear A170
        have H' := Aside0.mk H
        clear H
        try go_wp2
        have n0_ := Aside0.mk (Kd.R_drew HO_3.out)
        have n1_ := Aside0.mk (Kd.R_drew HO_7.out)
        have n2_ := Aside0.mk (below_drew1 HB.out)
        clear HO_3
        clear HO_7
        clear HB
        have HO_3 := n0_
        have HO_7 := n1_
        have HB := n2_
        clear n0_ n1_ n2_
        have p111 : 0 ≤ (x8_1 : Int) := of_decide_eq_true asm
        have q111 : x8_1 < (t108.length : Int) := of_decide_eq_true asm
        obtain ⟨ad111, e111, hx111_0, hx111_1⟩ := at_T46 (Kd.R_reads' HO_7.out).2.2 x8_1 p111 q111
        cases e111
        replace p111 := eq_true p111
        replace q111 := eq_true q111
        have p112 : 0 ≤ (x8_1 : Int) := of_decide_eq_true asm
        have q112 : x8_1 < (t108.length : Int) := of_decide_eq_true asm
        obtain ⟨ad112, e112, hx112_0, hx112_1⟩ := at_T46 (Kd.R_reads' HO_7.out).2.2 x8_1 p112 q112
        obtain rfl : ad111 = ad112 := (by injection e112)
        replace p112 := eq_true p112
        replace q112 := eq_true q112
        have p114 : 0 ≤ (x8_1 : Int) := of_decide_eq_true asm
        have q114 : x8_1 < (t108.length : Int) := of_decide_eq_true asm
        obtain ⟨ad114, e114, hx114_0, hx114_1⟩ := at_T46 (Kd.R_reads' HO_7.out).2.2 x8_1 p114 q114
        obtain rfl : ad111 = ad114 := (by injection e114)
        replace p114 := eq_true p114
        replace q114 := eq_true q114
        refine start_ (n := 22) (S := fun w' => w'.cell? (ad111.add ((x8_1).toNat * 2)) = some (.string ((rd_T46 t108 x8_1).f0)) ∧ w'.cell? ⟨(ad111.add ((x8_1).toNat * 2)).block, (ad111.add ((x8_1).toNat * 2)).off + 1, none⟩ = some (.string ((rd_T46 t108 x8_1).f1)) ∧ w'.cell? (ad111.add ((x8_1).toNat * 2)) = some (.string ((rd_T46 t108 x8_1).f0)) ∧ w'.cell? ⟨(ad111.add ((x8_1).toNat * 2)).block, (ad111.add ((x8_1).toNat * 2)).off + 1, none⟩ = some (.string ((rd_T46 t108 x8_1).f1)) ∧ w'.cell? (ad111.add ((x8_1).toNat * 2)) = some (.string ((rd_T46 t108 x8_1).f0)) ∧ w'.cell? ⟨(ad111.add ((x8_1).toNat * 2)).block, (ad111.add ((x8_1).toNat * 2)).off + 1, none⟩ = some (.string ((rd_T46 t108 x8_1).f1))) (ds := []) (Array.replicate 22 false) (by kernel_rfl) rfl rfl ⟨hx111_0, hx111_1, hx112_0, hx112_1, hx114_0, hx114_1⟩ (fun hHeld => ?_); refine with_tabW laws_FnDirectives.tab9 laws_FnDirectives.bits9 (fun HT_ HW_ => ?_)
        generalize wr.drew = w18 at HO_3 HO_7 HB hx111_0 hx111_1 hx112_0 hx112_1 hx114_0 hx114_1 hHeld ⊢
        refine pu 0 37 HT_ ?_
        refine pu 1 38 HT_ ?_
        refine pu 2 39 HT_ ?_
        refine pu 3 40 HT_ ?_
        refine pu 5 42 HT_ ?_
        refine pu 6 43 HT_ ?_
        refine pu 7 44 HT_ ?_
        refine pu 8 45 HT_ ?_
        refine tk 4 41 HT_ HW_ hHeld ?_ (hy := by rintro w' ⟨s0, s1, s2, s3, s4, s5⟩; go_simp; with_reducible rfl)
        refine tk 9 46 HT_ HW_ hHeld ?_ (hy := by rintro w' ⟨s0, s1, s2, s3, s4, s5⟩; go_simp; with_reducible rfl)
        refine on1 10 47 HT_ (fun K hK => ?_)
        refine goes_ Tryz.func22 (by kernel_rfl) rfl #[.string ((rd_T46 t108 x8_1).f0)] (by rfl) rfl rfl am ?_
        with_reducible refine (impl_Lower.calls ((rd_T46 t108 x8_1).f0) t113 _ A15.out).mono ?_
        rintro e w19 ⟨rfl, hb⟩
        have HS0_ := (hb.cell (World.block_lt_of_cell? _ _ (hHeld.1))).trans (hHeld.1)
        have HS1_ := (hb.cell (World.block_lt_of_cell? _ _ (hHeld.2.1))).trans (hHeld.2.1)
        have HS2_ := (hb.cell (World.block_lt_of_cell? _ _ (hHeld.2.2.1))).trans (hHeld.2.2.1)
        have HS3_ := (hb.cell (World.block_lt_of_cell? _ _ (hHeld.2.2.2.1))).trans (hHeld.2.2.2.1)
        have HS4_ := (hb.cell (World.block_lt_of_cell? _ _ (hHeld.2.2.2.2.1))).trans (hHeld.2.2.2.2.1)
        have HS5_ := (hb.cell (World.block_lt_of_cell? _ _ (hHeld.2.2.2.2.2))).trans (hHeld.2.2.2.2.2)
        refine ⟨_, rfl, ?_⟩
        have n0_ := Aside0.mk (Kd.R_below (by (with_reducible repeat (first | apply Kd.R_alloc | apply Kd.R_drewN | apply Kd.R_drew)); exact HO_3.out) hb)
        have n1_ := Aside0.mk (Kd.R_below (by (with_reducible repeat (first | apply Kd.R_alloc | apply Kd.R_drewN | apply Kd.R_drew)); exact HO_7.out) hb)
        have n2_ := Aside0.mk (below_step bq hb)
        clear HO_3
        clear HO_7
        clear HB
        have HO_3 := n0_
        have HO_7 := n1_
        have HB := n2_
        clear n0_ n1_ n2_
        (try clear hb)
        (try clear hb2)
        (try clear hk)
        (try clear hi)
        refine hK.out _ _ ⟨HS0_, HS1_, HS2_, HS3_, HS4_, HS5_⟩ (fun hHeld => ?_)
        clear hK K
        refine nrm 47 ?_
        refine pu 11 48 HT_ ?_
        refine pu 12 49 HT_ ?_
        refine pu 13 50 HT_ ?_
        refine pu 14 51 HT_ ?_
        refine pu 15 52 HT_ ?_
        refine pu 16 53 HT_ ?_
        refine pu 17 54 HT_ ?_
        refine tk 18 55 HT_ HW_ hHeld ?_ (hy := by rintro w' ⟨s0, s1, s2, s3, s4, s5⟩; go_simp; with_reducible rfl)
        refine on1 19 56 HT_ (fun K hK => ?_)
        refine goes_ Tryz.func23 (by kernel_rfl) rfl #[.slice Ao8 t102.length co8, .string ((rd_T46 t108 x8_1).f0)] (by rfl) rfl rfl am ?_
        with_reducible refine (impl_CcHas.calls k1 _ _ t102 ((rd_T46 t108 x8_1).f0) t115 _ ?side1 ?side2 ?side3 A17.out).mono ?_
        (case side1 => repeat (first | exact (Kd.R_reads' HO_3.out).2.2 | (with_reducible refine Kd.C_alloc ?_ _) | (with_reducible refine Kd.C_drewN ?_ _) | (with_reducible refine Kd.C_drew ?_)))
        (case side2 => exact (Kd.R_reads' HO_3.out).2.1)
        (case side3 => refine GMax.of_below HGMax.out ?_; repeat (first | (with_reducible first | exact HB.out | apply below_alloc | apply pw_below_drewN | apply below_drew1) | exact HB.out))
        rintro e w20 ⟨rfl, hb⟩
        have HS0_ := (hb.cell (World.block_lt_of_cell? _ _ (hHeld.1))).trans (hHeld.1)
        have HS1_ := (hb.cell (World.block_lt_of_cell? _ _ (hHeld.2.1))).trans (hHeld.2.1)
        have HS2_ := (hb.cell (World.block_lt_of_cell? _ _ (hHeld.2.2.1))).trans (hHeld.2.2.1)
        have HS3_ := (hb.cell (World.block_lt_of_cell? _ _ (hHeld.2.2.2.1))).trans (hHeld.2.2.2.1)
        have HS4_ := (hb.cell (World.block_lt_of_cell? _ _ (hHeld.2.2.2.2.1))).trans (hHeld.2.2.2.2.1)
        have HS5_ := (hb.cell (World.block_lt_of_cell? _ _ (hHeld.2.2.2.2.2))).trans (hHeld.2.2.2.2.2)
        refine ⟨_, rfl, ?_⟩
        have n0_ := Aside0.mk (Kd.R_below (by (with_reducible repeat (first | apply Kd.R_alloc | apply Kd.R_drewN | apply Kd.R_drew)); exact HO_3.out) hb)
        have n1_ := Aside0.mk (Kd.R_below (by (with_reducible repeat (first | apply Kd.R_alloc | apply Kd.R_drewN | apply Kd.R_drew)); exact HO_7.out) hb)
        have n2_ := Aside0.mk (below_step bq hb)
        clear HO_3
        clear HO_7
        clear HB
        have HO_3 := n0_
        have HO_7 := n1_
        have HB := n2_
        clear n0_ n1_ n2_
        (try clear hb)
        (try clear hb2)
        (try clear hk)
        (try clear hi)
        refine hK.out _ _ ⟨HS0_, HS1_, HS2_, HS3_, HS4_, HS5_⟩ (fun hHeld => ?_)
        clear hK K
        refine nrm 56 ?_
        refine pu 20 57 HT_ ?_
        refine pu 21 58 HT_ ?_
        refine done_ (done_of HT_.out (by kernel_rfl)) ?_
        try go_wp2
        go_meet
        case rel => exact ⟨_, (!t115), (by first | rfl | (simp; done) | (simp [*]; done)), H', ⟨by have := HK1.out; first | omega | exact Nat.le_refl _⟩, ⟨by (with_reducible repeat (first | apply Kd.R_alloc | apply Kd.R_drewN | apply Kd.R_drew)); exact HO_3.out⟩, ⟨by (with_reducible repeat (first | apply Kd.R_alloc | apply Kd.R_drewN | apply Kd.R_drew)); exact HO_7.out⟩, ⟨by repeat (first | (with_reducible first | exact HB.out | apply below_alloc | apply pw_below_drewN | apply below_drew1) | exact HB.out)⟩⟩
       ·rw [if_neg c16] at H
        have c16b0 : (((rd_T46 t108 x8_1).f0).toList == t113.toList) = false := beq_eq_false_iff_ne.mpr c16
        have c16b1 : (((rd_T46 t108 x8_1).f0).toList != t113.toList) = true := bne_iff_ne.mpr c16
        have H' := Aside0.mk H
        clear H
        try go_wp2
        have n0_ := Aside0.mk (Kd.R_drew HO_3.out)
        have n1_ := Aside0.mk (Kd.R_drew HO_7.out)
        have n2_ := Aside0.mk (below_drew1 HB.out)
        clear HO_3
        clear HO_7
        clear HB
        have HO_3 := n0_
        have HO_7 := n1_
        have HB := n2_
        clear n0_ n1_ n2_
        have p111 : 0 ≤ (x8_1 : Int) := of_decide_eq_true asm
        have q111 : x8_1 < (t108.length : Int) := of_decide_eq_true asm
        obtain ⟨ad111, e111, hx111_0, hx111_1⟩ := at_T46 (Kd.R_reads' HO_7.out).2.2 x8_1 p111 q111
        cases e111
        replace p111 := eq_true p111
        replace q111 := eq_true q111
        have p112 : 0 ≤ (x8_1 : Int) := of_decide_eq_true asm
        have q112 : x8_1 < (t108.length : Int) := of_decide_eq_true asm
        obtain ⟨ad112, e112, hx112_0, hx112_1⟩ := at_T46 (Kd.R_reads' HO_7.out).2.2 x8_1 p112 q112
        obtain rfl : ad111 = ad112 := (by injection e112)
        replace p112 := eq_true p112
        replace q112 := eq_true q112
        refine start_ (n := 22) (S := fun w' => w'.cell? (ad111.add ((x8_1).toNat * 2)) = some (.string ((rd_T46 t108 x8_1).f0)) ∧ w'.cell? ⟨(ad111.add ((x8_1).toNat * 2)).block, (ad111.add ((x8_1).toNat * 2)).off + 1, none⟩ = some (.string ((rd_T46 t108 x8_1).f1)) ∧ w'.cell? (ad111.add ((x8_1).toNat * 2)) = some (.string ((rd_T46 t108 x8_1).f0)) ∧ w'.cell? ⟨(ad111.add ((x8_1).toNat * 2)).block, (ad111.add ((x8_1).toNat * 2)).off + 1, none⟩ = some (.string ((rd_T46 t108 x8_1).f1))) (ds := []) (Array.replicate 22 false) (by kernel_rfl) rfl rfl ⟨hx111_0, hx111_1, hx112_0, hx112_1⟩ (fun hHeld => ?_); refine with_tabW laws_FnDirectives.tab9 laws_FnDirectives.bits9 (fun HT_ HW_ => ?_)
        generalize wr.drew = w21 at HO_3 HO_7 HB hx111_0 hx111_1 hx112_0 hx112_1 hHeld ⊢
        refine pu 0 37 HT_ ?_
        refine pu 1 38 HT_ ?_
        refine pu 2 39 HT_ ?_
        refine pu 3 40 HT_ ?_
        refine pu 5 42 HT_ ?_
        refine pu 6 43 HT_ ?_
        refine pu 7 44 HT_ ?_
        refine pu 8 45 HT_ ?_
        refine tk 4 41 HT_ HW_ hHeld ?_ (hy := by rintro w' ⟨s0, s1, s2, s3⟩; go_simp; with_reducible rfl)
        refine tk 9 46 HT_ HW_ hHeld ?_ (hy := by rintro w' ⟨s0, s1, s2, s3⟩; go_simp; with_reducible rfl)
        refine on1 10 47 HT_ (fun K hK => ?_)
        refine goes_ Tryz.func22 (by kernel_rfl) rfl #[.string ((rd_T46 t108 x8_1).f0)] (by rfl) rfl rfl am ?_
        with_reducible refine (impl_Lower.calls ((rd_T46 t108 x8_1).f0) t113 _ A15.out).mono ?_
        rintro e w22 ⟨rfl, hb⟩
        have HS0_ := (hb.cell (World.block_lt_of_cell? _ _ (hHeld.1))).trans (hHeld.1)
        have HS1_ := (hb.cell (World.block_lt_of_cell? _ _ (hHeld.2.1))).trans (hHeld.2.1)
        have HS2_ := (hb.cell (World.block_lt_of_cell? _ _ (hHeld.2.2.1))).trans (hHeld.2.2.1)
        have HS3_ := (hb.cell (World.block_lt_of_cell? _ _ (hHeld.2.2.2))).trans (hHeld.2.2.2)
        refine ⟨_, rfl, ?_⟩
        have n0_ := Aside0.mk (Kd.R_below (by (with_reducible repeat (first | apply Kd.R_alloc | apply Kd.R_drewN | apply Kd.R_drew)); exact HO_3.out) hb)
        have n1_ := Aside0.mk (Kd.R_below (by (with_reducible repeat (first | apply Kd.R_alloc | apply Kd.R_drewN | apply Kd.R_drew)); exact HO_7.out) hb)
        have n2_ := Aside0.mk (below_step bq hb)
        clear HO_3
        clear HO_7
        clear HB
        have HO_3 := n0_
        have HO_7 := n1_
        have HB := n2_
        clear n0_ n1_ n2_
        (try clear hb)
        (try clear hb2)
        (try clear hk)
        (try clear hi)
        refine hK.out _ _ ⟨HS0_, HS1_, HS2_, HS3_⟩ (fun hHeld => ?_)
        clear hK K
        refine nrm 47 ?_
        refine pu 11 48 HT_ ?_
        refine pu 12 49 HT_ ?_
        refine pure_ (i := 13) (N := some 50) (v := undef) (a' := ?_) #[true, true, true, true, true, true, true, true, true, true, true, true, true, true, false, false, false, false, false, false, false, false] rfl rfl (any_of HT_.out (by kernel_rfl)) (fun _ _ _ h => h) (Or.inr ⟨by rfl, rfl⟩) ?_ ?_
        rotate_left
        ·simp only [Act.put, List.setIfInBounds_toArray, List.set_cons_zero, List.set_cons_succ, i64_w, i32_w]
         rfl
        refine pure_ (i := 14) (N := some 51) (v := undef) (a' := ?_) #[true, true, true, true, true, true, true, true, true, true, true, true, true, true, true, false, false, false, false, false, false, false] rfl rfl (any_of HT_.out (by kernel_rfl)) (fun _ _ _ h => h) (Or.inr ⟨by rfl, rfl⟩) ?_ ?_
        rotate_left
        ·simp only [Act.put, List.setIfInBounds_toArray, List.set_cons_zero, List.set_cons_succ, i64_w, i32_w]
         rfl
        refine pure_ (i := 15) (N := some 52) (v := undef) (a' := ?_) #[true, true, true, true, true, true, true, true, true, true, true, true, true, true, true, true, false, false, false, false, false, false] rfl rfl (any_of HT_.out (by kernel_rfl)) (fun _ _ _ h => h) (Or.inr ⟨by rfl, rfl⟩) ?_ ?_
        rotate_left
        ·simp only [Act.put, List.setIfInBounds_toArray, List.set_cons_zero, List.set_cons_succ, i64_w, i32_w]
         rfl
        refine pure_ (i := 16) (N := some 53) (v := undef) (a' := ?_) #[true, true, true, true, true, true, true, true, true, true, true, true, true, true, true, true, true, false, false, false, false, false] rfl rfl (any_of HT_.out (by kernel_rfl)) (fun _ _ _ h => h) (Or.inr ⟨by rfl, rfl⟩) ?_ ?_
        rotate_left
        ·simp only [Act.put, List.setIfInBounds_toArray, List.set_cons_zero, List.set_cons_succ, i64_w, i32_w]
         rfl
        refine pure_ (i := 17) (N := some 54) (v := undef) (a' := ?_) #[true, true, true, true, true, true, true, true, true, true, true, true, true, true, true, true, true, true, false, false, false, false] rfl rfl (any_of HT_.out (by kernel_rfl)) (fun _ _ _ h => h) (Or.inr ⟨by rfl, rfl⟩) ?_ ?_
        rotate_left
        ·simp only [Act.put, List.setIfInBounds_toArray, List.set_cons_zero, List.set_cons_succ, i64_w, i32_w]
         rfl
        refine pure_ (i := 18) (N := some 55) (v := undef) (a' := ?_) #[true, true, true, true, true, true, true, true, true, true, true, true, true, true, true, true, true, true, true, false, false, false] rfl rfl (any_of HT_.out (by kernel_rfl)) (fun _ _ _ h => h) (Or.inr ⟨by rfl, rfl⟩) ?_ ?_
        rotate_left
        ·simp only [Act.put, List.setIfInBounds_toArray, List.set_cons_zero, List.set_cons_succ, i64_w, i32_w]
         rfl
        refine pure_ (i := 19) (N := some 56) (v := undef) (a' := ?_) #[true, true, true, true, true, true, true, true, true, true, true, true, true, true, true, true, true, true, true, true, false, false] rfl rfl (any_of HT_.out (by kernel_rfl)) (fun _ _ _ h => h) (Or.inr ⟨by rfl, rfl⟩) ?_ ?_
        rotate_left
        ·simp only [Act.put, List.setIfInBounds_toArray, List.set_cons_zero, List.set_cons_succ, i64_w, i32_w]
         rfl
        refine pure_ (i := 20) (N := some 57) (v := undef) (a' := ?_) #[true, true, true, true, true, true, true, true, true, true, true, true, true, true, true, true, true, true, true, true, true, false] rfl rfl (any_of HT_.out (by kernel_rfl)) (fun _ _ _ h => h) (Or.inr ⟨by rfl, rfl⟩) ?_ ?_
        rotate_left
        ·simp only [Act.put, List.setIfInBounds_toArray, List.set_cons_zero, List.set_cons_succ, i64_w, i32_w]
         rfl
        refine pu 21 58 HT_ ?_
        refine done_ (done_of HT_.out (by kernel_rfl)) ?_
        try go_wp2
        go_meet
        case rel => exact ⟨_, (true), (by first | rfl | (simp; done) | (simp [*]; done)), H', ⟨by have := HK1.out; first | omega | exact Nat.le_refl _⟩, ⟨by (with_reducible repeat (first | apply Kd.R_alloc | apply Kd.R_drewN | apply Kd.R_drew)); exact HO_3.out⟩, ⟨by (with_reducible repeat (first | apply Kd.R_alloc | apply Kd.R_drewN | apply Kd.R_drew)); exact HO_7.out⟩, ⟨by repeat (first | (with_reducible first | exact HB.out | apply below_alloc | apply pw_below_drewN | apply below_drew1) | exact HB.out)⟩⟩
      ·rw [if_neg c14] at H
       exact absurd H (by simp)
     case rest =>
      clear HC12
      try clear c1
      try clear p1
      try clear q1
      try clear hx1
      try clear c2
      try clear p2
      try clear c3
      try clear c6
      try clear c11
      try clear c11b0
      try clear p11
      try clear q11
      try clear hx11
      try clear c14
      try clear c14b0
      try clear c16
      try clear c16b0
      try clear c16b1
      try clear c18
      try clear c19
      try clear c20
      try clear c21
      try clear c22
      try clear hx111_0
      try clear hx111_1
      try clear hx112_0
      try clear hx112_1
      try clear hx114_0
      try clear hx114_1
      try clear p111
      try clear p112
      try clear p114
      try clear p2
      try clear q111
      try clear q112
      try clear q114
      obtain ⟨kq, x58_11, rfl, HA, HJ11, HO_3, HO_7, HB⟩ := hcut
      cases kq with
      | zero => exact absurd HA.out (by simp [laws_FnDirectives.j1])
      | succ kj11 =>
       have H := HA.out
       clear HA
       simp only [laws_FnDirectives.j1] at H
       by_cases c23 : x58_11 = true
       ·subst c23
        rw [if_pos rfl] at H
        obtain rfl := Option.some.inj H
        go_wp2
        go_ret
        exact ⟨by first | rfl | (simp [errW_none, errW_some] <;> rfl) | (simp [*, errW_none, errW_some] <;> rfl), bq⟩
       ·replace c23 := Bool.eq_false_iff.mpr c23
        subst c23
        rw [if_neg (show ¬ (false = true) by decide)] at H
        by_cases c24 : 0 ≤ x8_1
        ·rw [if_pos c24] at H
         have c24b0 : decide (0 ≤ x8_1) = true := decide_eq_true c24
         clear c24
         by_cases c25 : x8_1 < (t108.length : Int)
         ·rw [if_pos c25] at H
          have c25b0 : decide (x8_1 < (t108.length : Int)) = true := decide_eq_true c25
          clear c25
          by_cases c26 : ((rd_T46 t108 x8_1).f0).toList = t103.toList
          ·rw [if_pos c26] at H
           have c26b0 : (((rd_T46 t108 x8_1).f0).toList == t103.toList) = true := beq_iff_eq.mpr c26
           have c26b1 : (((rd_T46 t108 x8_1).f0).toList != t103.toList) = false := bne_eq_false_iff_eq.mpr c26
           clear c26
           replace H := Option.bind_eq_some_iff.mp H
           obtain ⟨⟨t118, t119⟩, A270, H⟩ := H
           try dsimp only at H
           have A27 := Aside0.mk A270
           clear A270
           by_cases c28 : t107 = true
           ·subst c28
            rw [if_pos rfl] at H
            by_cases c29 : t106 > t118
            ·rw [if_pos c29] at H
             have c29b0 : decide (t118 < t106) = true := decide_eq_true c29
             clear c29
             obtain rfl := Option.some.inj H
             have p116 : 0 ≤ (x8_1 : Int) := of_decide_eq_true asm
             have q116 : x8_1 < (t108.length : Int) := of_decide_eq_true asm
             obtain ⟨ad116, e116, hx116_0, hx116_1⟩ := at_T46 (Kd.R_reads' HO_7.out).2.2 x8_1 p116 q116
             cases e116
             replace p116 := eq_true p116
             replace q116 := eq_true q116
             have p117 : 0 ≤ (x8_1 : Int) := of_decide_eq_true asm
             have q117 : x8_1 < (t108.length : Int) := of_decide_eq_true asm
             obtain ⟨ad117, e117, hx117_0, hx117_1⟩ := at_T46 (Kd.R_reads' HO_7.out).2.2 x8_1 p117 q117
             obtain rfl : ad116 = ad117 := (by injection e117)
             replace p117 := eq_true p117
             replace q117 := eq_true q117
             go_wp2_with (first | ((with_reducible refine gate_callee (f := 24) rfl ?_); refine goesL_ (some 72) rfl rfl Tryz.func24 (by kernel_rfl) rfl #[.string ((rd_T46 t108 x8_1).f1)] rfl am ?_; (with_reducible refine (spec_Seconds.calls kj11 ((rd_T46 t108 x8_1).f1) t118 t119 _ A27.out).mono ?_); rintro e w30 ⟨rfl, hb⟩; refine ⟨_, rfl, ?_⟩; have n0_ := Aside0.mk (Kd.R_below (by (with_reducible repeat (first | apply Kd.R_alloc | apply Kd.R_drewN | apply Kd.R_drew)); exact HO_3.out) hb); have n1_ := Aside0.mk (Kd.R_below (by (with_reducible repeat (first | apply Kd.R_alloc | apply Kd.R_drewN | apply Kd.R_drew)); exact HO_7.out) hb); have n2_ := Aside0.mk (below_step bq hb); clear HO_3; clear HO_7; clear HB; have HO_3 := n0_; have HO_7 := n1_; have HB := n2_; clear n0_ n1_ n2_; (try clear hb); (try clear hb2); (try clear hk); (try clear hi)))
             go_ret
             exact ⟨by first | rfl | (simp [errW_none, errW_some] <;> rfl) | (simp [*, errW_none, errW_some] <;> rfl), bq⟩
            ·rw [if_neg c29] at H
             have c29b0 : decide (t118 < t106) = false := decide_eq_false c29
             clear c29
             have H' := Aside0.mk H
             clear H
             have p116 : 0 ≤ (x8_1 : Int) := of_decide_eq_true asm
             have q116 : x8_1 < (t108.length : Int) := of_decide_eq_true asm
             obtain ⟨ad116, e116, hx116_0, hx116_1⟩ := at_T46 (Kd.R_reads' HO_7.out).2.2 x8_1 p116 q116
             cases e116
             replace p116 := eq_true p116
             replace q116 := eq_true q116
             have p117 : 0 ≤ (x8_1 : Int) := of_decide_eq_true asm
             have q117 : x8_1 < (t108.length : Int) := of_decide_eq_true asm
             obtain ⟨ad117, e117, hx117_0, hx117_1⟩ := at_T46 (Kd.R_reads' HO_7.out).2.2 x8_1 p117 q117
             obtain rfl : ad116 = ad117 := (by injection e117)
             replace p117 := eq_true p117
             replace q117 := eq_true q117
             go_wp2_with (first | ((with_reducible refine gate_callee (f := 24) rfl ?_); refine goesL_ (some 72) rfl rfl Tryz.func24 (by kernel_rfl) rfl #[.string ((rd_T46 t108 x8_1).f1)] rfl am ?_; (with_reducible refine (spec_Seconds.calls kj11 ((rd_T46 t108 x8_1).f1) t118 t119 _ A27.out).mono ?_); rintro e w31 ⟨rfl, hb⟩; refine ⟨_, rfl, ?_⟩; have n0_ := Aside0.mk (Kd.R_below (by (with_reducible repeat (first | apply Kd.R_alloc | apply Kd.R_drewN | apply Kd.R_drew)); exact HO_3.out) hb); have n1_ := Aside0.mk (Kd.R_below (by (with_reducible repeat (first | apply Kd.R_alloc | apply Kd.R_drewN | apply Kd.R_drew)); exact HO_7.out) hb); have n2_ := Aside0.mk (below_step bq hb); clear HO_3; clear HO_7; clear HB; have HO_3 := n0_; have HO_7 := n1_; have HB := n2_; clear n0_ n1_ n2_; (try clear hb); (try clear hb2); (try clear hk); (try clear hi)))
             go_roundg kj11
             case measure => have := HK1.out; have := HJ11.out; omega
             case rel => exact ⟨(wrap64 (x8_1 + 1)), (by first | rfl | (simp; done) | (simp [*]; done)), H', ⟨by have := HK1.out; have := HJ11.out; omega⟩, ⟨by (with_reducible repeat (first | apply Kd.R_alloc | apply Kd.R_drewN | apply Kd.R_drew)); exact HO_3.out⟩, ⟨by (with_reducible repeat (first | apply Kd.R_alloc | apply Kd.R_drewN | apply Kd.R_drew)); exact HO_7.out⟩, ⟨by repeat (first | (with_reducible first | exact HB.out | apply below_alloc | apply pw_below_drewN | apply below_drew1) | exact HB.out)⟩⟩
           ·replace c28 := Bool.eq_false_iff.mpr c28
            subst c28
            rw [if_neg (show ¬ (false = true) by decide)] at H
            obtain rfl := Option.some.inj H
            have p116 : 0 ≤ (x8_1 : Int) := of_decide_eq_true asm
            have q116 : x8_1 < (t108.length : Int) := of_decide_eq_true asm
            obtain ⟨ad116, e116, hx116_0, hx116_1⟩ := at_T46 (Kd.R_reads' HO_7.out).2.2 x8_1 p116 q116
            cases e116
            replace p116 := eq_true p116
            replace q116 := eq_true q116
            have p117 : 0 ≤ (x8_1 : Int) := of_decide_eq_true asm
            have q117 : x8_1 < (t108.length : Int) := of_decide_eq_true asm
            obtain ⟨ad117, e117, hx117_0, hx117_1⟩ := at_T46 (Kd.R_reads' HO_7.out).2.2 x8_1 p117 q117
            obtain rfl : ad116 = ad117 := (by injection e117)
            replace p117 := eq_true p117
            replace q117 := eq_true q117
            go_wp2_with (first | ((with_reducible refine gate_callee (f := 24) rfl ?_); refine goesL_ (some 72) rfl rfl Tryz.func24 (by kernel_rfl) rfl #[.string ((rd_T46 t108 x8_1).f1)] rfl am ?_; (with_reducible refine (spec_Seconds.calls kj11 ((rd_T46 t108 x8_1).f1) t118 t119 _ A27.out).mono ?_); rintro e w32 ⟨rfl, hb⟩; refine ⟨_, rfl, ?_⟩; have n0_ := Aside0.mk (Kd.R_below (by (with_reducible repeat (first | apply Kd.R_alloc | apply Kd.R_drewN | apply Kd.R_drew)); exact HO_3.out) hb); have n1_ := Aside0.mk (Kd.R_below (by (with_reducible repeat (first | apply Kd.R_alloc | apply Kd.R_drewN | apply Kd.R_drew)); exact HO_7.out) hb); have n2_ := Aside0.mk (below_step bq hb); clear HO_3; clear HO_7; clear HB; have HO_3 := n0_; have HO_7 := n1_; have HB := n2_; clear n0_ n1_ n2_; (try clear hb); (try clear hb2); (try clear hk); (try clear hi)))
            go_ret
            exact ⟨by first | rfl | (simp [errW_none, errW_some] <;> rfl) | (simp [*, errW_none, errW_some] <;> rfl), bq⟩
          ·rw [if_neg c26] at H
           have c26b0 : (((rd_T46 t108 x8_1).f0).toList == t103.toList) = false := beq_eq_false_iff_ne.mpr c26
           have c26b1 : (((rd_T46 t108 x8_1).f0).toList != t103.toList) = true := bne_iff_ne.mpr c26
           have H' := Aside0.mk H
           clear H
           have p116 : 0 ≤ (x8_1 : Int) := of_decide_eq_true asm
           have q116 : x8_1 < (t108.length : Int) := of_decide_eq_true asm
           obtain ⟨ad116, e116, hx116_0, hx116_1⟩ := at_T46 (Kd.R_reads' HO_7.out).2.2 x8_1 p116 q116
           cases e116
           replace p116 := eq_true p116
           replace q116 := eq_true q116
           go_wp2
           go_roundg kj11
           case measure => have := HK1.out; have := HJ11.out; omega
           case rel => exact ⟨(wrap64 (x8_1 + 1)), (by first | rfl | (simp; done) | (simp [*]; done)), H', ⟨by have := HK1.out; have := HJ11.out; omega⟩, ⟨by (with_reducible repeat (first | apply Kd.R_alloc | apply Kd.R_drewN | apply Kd.R_drew)); exact HO_3.out⟩, ⟨by (with_reducible repeat (first | apply Kd.R_alloc | apply Kd.R_drewN | apply Kd.R_drew)); exact HO_7.out⟩, ⟨by repeat (first | (with_reducible first | exact HB.out | apply below_alloc | apply pw_below_drewN | apply below_drew1) | exact HB.out)⟩⟩
         ·rw [if_neg c25] at H
          exact absurd H (by simp)
        ·rw [if_neg c24] at H
         exact absurd H (by simp)
    ·rw [if_neg c11] at H
     have c11b0 : decide (x8_1 < (t108.length : Int)) = false := decide_eq_false c11
     clear c11
     replace H := Option.bind_eq_some_iff.mp H
     obtain ⟨⟨t120, t121⟩, A330, H⟩ := H
     try dsimp only at H
     have A33 := Aside0.mk A330
     clear A330
     have HC34 := Aside0.mk H
     clear H
     obtain ⟨Ao35, co35, eo35⟩ := Kd.R_slice HO_7.out
     subst eo35
     go_upto_region 16 with (first | ((with_reducible refine gate_callee (f := 25) rfl ?_); refine goesL_ (some 85) rfl rfl Tryz.func25 (by kernel_rfl) rfl #[.slice Ao8 t102.length co8, .string t103] rfl am ?_; (with_reducible refine (spec_CcSeconds.calls k1 _ _ t102 t103 t120 t121 _ ?side1 ?side2 A33.out).mono ?_); (case side1 => repeat (first | exact (Kd.R_reads' HO_3.out).2.2 | (with_reducible refine Kd.C_alloc ?_ _) | (with_reducible refine Kd.C_drewN ?_ _) | (with_reducible refine Kd.C_drew ?_))); (case side2 => exact (Kd.R_reads' HO_3.out).2.1); rintro e w36 ⟨rfl, hb⟩; refine ⟨_, rfl, ?_⟩; have n0_ := Aside0.mk (Kd.R_below (by (with_reducible repeat (first | apply Kd.R_alloc | apply Kd.R_drewN | apply Kd.R_drew)); exact HO_3.out) hb); have n1_ := Aside0.mk (Kd.R_below (by (with_reducible repeat (first | apply Kd.R_alloc | apply Kd.R_drewN | apply Kd.R_drew)); exact HO_7.out) hb); have n2_ := Aside0.mk (below_step bq hb); clear HO_3; clear HO_7; clear HB; have HO_3 := n0_; have HO_7 := n1_; have HB := n2_; clear n0_ n1_ n2_; (try clear hb); (try clear hb2); (try clear hk); (try clear hi)))
     (try simp only [Act.put, List.setIfInBounds_toArray, List.set_cons_zero, List.set_cons_succ])
     go_cut [103] (fun v103 wc => ∃ (kq : Nat) (x103_33 : Bool), v103 = .bool x103_33 ∧ Aside0 (laws_FnDirectives.j2 kq t102 t103 t106 t107 t108 x103_33 = some r) ∧ Aside0 (kq ≤ k1) ∧ Aside0 (Kd.R k99 99 wc w.heap.size (fun _ => True) (.slice Ao8 t102.length co8) t102) ∧ Aside0 (Kd.R k46 46 wc w.heap.size (fun _ => True) (.slice Ao35 t108.length co35) t108) ∧ Aside0 (Below w.heap.size w wc))
     case first =>
      have H := HC34.out
      clear HC34
      by_cases c37 : t106 = t120
      ·rw [if_pos c37] at H
       have c37b0 : (t106 == t120) = true := beq_iff_eq.mpr c37
       have c37b1 : (t106 != t120) = false := bne_eq_false_iff_eq.mpr c37
       clear c37
       (first | rw [c37b0] | (simp only [i64_w, i32_w]; rw [c37b0]) | skip)
       by_cases c38 : (t107 != t121) = true
       ·rw [if_pos c38] at H
        have c38b0 : (t107 != t121) = true := c38
        (try (have c38b1 : decide (t107 = t121) = false := by simpa using c38))
        (try (have c38b2 : (t107 == t121) = false := by simpa using c38))
        (try (have c38b3 : ¬ (t107 = t121) := by simpa using c38))
        clear c38
        have H' := Aside0.mk H
        clear H
        go_wp2
        go_meet
        case rel => exact ⟨_, (true), (by first | rfl | (simp; done) | (simp [*]; done)), H', ⟨by have := HK1.out; first | omega | exact Nat.le_refl _⟩, ⟨by (with_reducible repeat (first | apply Kd.R_alloc | apply Kd.R_drewN | apply Kd.R_drew)); exact HO_3.out⟩, ⟨by (with_reducible repeat (first | apply Kd.R_alloc | apply Kd.R_drewN | apply Kd.R_drew)); exact HO_7.out⟩, ⟨by repeat (first | (with_reducible first | exact HB.out | apply below_alloc | apply pw_below_drewN | apply below_drew1) | exact HB.out)⟩⟩
       ·rw [if_neg c38] at H
        have c38b0 : (t107 != t121) = false := by simpa using c38
        (try (have c38b1 : decide (t107 = t121) = true := by simpa using c38))
        (try (have c38b2 : (t107 == t121) = true := by simpa using c38))
        clear c38
        replace H := Option.bind_eq_some_iff.mp H
        obtain ⟨t122, A390, H⟩ := H
        try dsimp only at H
        have A39 := Aside0.mk A390
        clear A390
        have H' := Aside0.mk H
        clear H
        go_wp2_with (first | (go_at_call 26; (with_reducible refine (spec_Directives.calls k1 _ _ t102 t122 _ ?side1 ?side2 A39.out).mono ?_); (case side1 => repeat (first | exact (Kd.R_reads' HO_3.out).2.2 | (with_reducible refine Kd.C_alloc ?_ _) | (with_reducible refine Kd.C_drewN ?_ _) | (with_reducible refine Kd.C_drew ?_))); (case side2 => exact (Kd.R_reads' HO_3.out).2.1); rintro e w40 ⟨v123, rfl, ho0, hb⟩; have n0_ := Aside0.mk (Kd.R_below (by (with_reducible repeat (first | apply Kd.R_alloc | apply Kd.R_drewN | apply Kd.R_drew)); exact HO_3.out) hb); have n1_ := Aside0.mk (Kd.R_elder' (by (with_reducible repeat (first | apply Kd.R_alloc | apply Kd.R_drewN | apply Kd.R_drew)); exact HO_7.out) (Kd.R_base ho0) hb); have n2_ := Aside0.mk (Kd.R_lower (Kd.R_new' ho0 (Kd.R_lt (by (with_reducible repeat (first | apply Kd.R_alloc | apply Kd.R_drewN | apply Kd.R_drew)); exact HO_7.out))) (below_size bq)); have n3_ := Aside0.mk (below_step bq hb); clear HO_3; clear HO_7; clear HB; have HO_3 := n0_; have HO_7 := n1_; have HO124 := n2_; have HB := n3_; clear n0_ n1_ n2_ n3_; (try clear hb); (try clear hb2); (try clear hk); (try clear hi); (try clear ho0); obtain ⟨Ao41, co41, eo41⟩ := Kd.R_slice HO124.out; subst eo41))
        go_meet
        case rel => exact ⟨_, (((t108.length : Int) != (t122.length : Int))), (by first | rfl | (simp; done) | (simp [*]; done)), H', ⟨by have := HK1.out; first | omega | exact Nat.le_refl _⟩, ⟨by (with_reducible repeat (first | apply Kd.R_alloc | apply Kd.R_drewN | apply Kd.R_drew)); exact HO_3.out⟩, ⟨by (with_reducible repeat (first | apply Kd.R_alloc | apply Kd.R_drewN | apply Kd.R_drew)); exact Kd.R_mono HO_7.out (fun _ hk => trivial)⟩, ⟨by repeat (first | (with_reducible first | exact HB.out | apply below_alloc | apply pw_below_drewN | apply below_drew1) | exact HB.out)⟩⟩
      ·rw [if_neg c37] at H
       have c37b0 : (t106 == t120) = false := beq_eq_false_iff_ne.mpr c37
       have c37b1 : (t106 != t120) = true := bne_iff_ne.mpr c37
       (first | rw [c37b0] | (simp only [i64_w, i32_w]; rw [c37b0]) | skip)
       have H' := Aside0.mk H
       clear H
       go_wp2
       go_meet
       case rel => exact ⟨_, (true), (by first | rfl | (simp; done) | (simp [*]; done)), H', ⟨by have := HK1.out; first | omega | exact Nat.le_refl _⟩, ⟨by (with_reducible repeat (first | apply Kd.R_alloc | apply Kd.R_drewN | apply Kd.R_drew)); exact HO_3.out⟩, ⟨by (with_reducible repeat (first | apply Kd.R_alloc | apply Kd.R_drewN | apply Kd.R_drew)); exact HO_7.out⟩, ⟨by repeat (first | (with_reducible first | exact HB.out | apply below_alloc | apply pw_below_drewN | apply below_drew1) | exact HB.out)⟩⟩
     case rest =>
      clear HC34
      try clear c1
      try clear p1
      try clear q1
      try clear hx1
      try clear c2
      try clear p2
      try clear c3
      try clear c6
      try clear p6
      try clear c11
      try clear c11b0
      try clear p11
      try clear q11
      try clear hx11
      try clear c14
      try clear c14b0
      try clear c16
      try clear c16b0
      try clear c16b1
      try clear c18
      try clear c19
      try clear c20
      try clear c21
      try clear c22
      try clear c23
      try clear c24
      try clear c24b0
      try clear c25
      try clear c25b0
      try clear c26
      try clear c26b0
      try clear c26b1
      try clear c28
      try clear c29
      try clear c29b0
      try clear c37
      try clear c37b0
      try clear c37b1
      try clear c38
      try clear c38b0
      try clear c38b1
      try clear c38b2
      try clear hx111_0
      try clear hx111_1
      try clear hx112_0
      try clear hx112_1
      try clear hx114_0
      try clear hx114_1
      try clear hx116_0
      try clear hx116_1
      try clear hx117_0
      try clear hx117_1
      try clear p1
      try clear p11
      try clear p111
      try clear p112
      try clear p114
      try clear p116
      try clear p117
      try clear p2
      try clear q1
      try clear q11
      try clear q111
      try clear q112
      try clear q114
      try clear q116
      try clear q117
      obtain ⟨kq, x103_33, rfl, HA, HJ33, HO_3, HO_7, HB⟩ := hcut
      cases kq with
      | zero => exact absurd HA.out (by simp [laws_FnDirectives.j2])
      | succ kj33 =>
       have H := HA.out
       clear HA
       simp only [laws_FnDirectives.j2] at H
       by_cases c42 : x103_33 = true
       ·subst c42
        rw [if_pos rfl] at H
        obtain rfl := Option.some.inj H
        go_wp2
        go_ret
        exact ⟨by first | rfl | (simp [errW_none, errW_some] <;> rfl) | (simp [*, errW_none, errW_some] <;> rfl), bq⟩
       ·replace c42 := Bool.eq_false_iff.mpr c42
        subst c42
        rw [if_neg (show ¬ (false = true) by decide)] at H
        obtain ⟨y125, hy125⟩ : ∃ y_ : List (S99), y_ = (([] : List (S99))) := ⟨_, rfl⟩
        replace H : (if y125.length + t102.length < 4398046511104 then ((some (y125 ++ t102 : List (S99))).bind fun y128 => (if y128.length + t102.length < 4398046511104 then ((some (y128 ++ t102 : List (S99))).bind fun y131 => ((impl_CcSeconds.f kj33 y131 t103).bind fun bt134 => (if t106 ≥ 0 then (if t106 ≤ 2147483648 then (if bt134.1 = t106 then (if (bt134.2 == t107) = true then ((impl_Directives.f kj33 y131).bind fun t136 => (if (t136.length : Int) ≤ (wrap64 ((wrap64 (2 * (t108.length : Int))) + 1)) then ((impl_CcHas.f kj33 t102 t103).bind fun t139 => (some (t107 == t139))) else (some false))) else (some false)) else (some false)) else (some false)) else (some false)))) else (none))) else (none)) = some r := by first | (rw [hy125]; with_reducible exact H) | (have H2_ := (Option.bind_some _ _).symm.trans H; rw [hy125]; with_reducible exact H2_) | (have H2_ := (Option.bind_some _ _).symm.trans H; with_reducible exact H2_) | with_reducible exact H | (rw [hy125]; exact H) | exact H
        have Ny125 := Aside0.mk hy125
        clear hy125
        by_cases c43 : y125.length + t102.length < 4398046511104
        ·rw [if_pos c43] at H
         have LMc43 := Aside0.mk c43
         clear c43
         obtain ⟨y128, hy128⟩ : ∃ y_ : List (S99), y_ = (y125 ++ t102) := ⟨_, rfl⟩
         replace H : (if y128.length + t102.length < 4398046511104 then ((some (y128 ++ t102 : List (S99))).bind fun y131 => ((impl_CcSeconds.f kj33 y131 t103).bind fun bt134 => (if t106 ≥ 0 then (if t106 ≤ 2147483648 then (if bt134.1 = t106 then (if (bt134.2 == t107) = true then ((impl_Directives.f kj33 y131).bind fun t136 => (if (t136.length : Int) ≤ (wrap64 ((wrap64 (2 * (t108.length : Int))) + 1)) then ((impl_CcHas.f kj33 t102 t103).bind fun t139 => (some (t107 == t139))) else (some false))) else (some false)) else (some false)) else (some false)) else (some false)))) else (none)) = some r := by first | (rw [hy128]; with_reducible exact H) | (have H2_ := (Option.bind_some _ _).symm.trans H; rw [hy128]; with_reducible exact H2_) | (have H2_ := (Option.bind_some _ _).symm.trans H; with_reducible exact H2_) | with_reducible exact H | (rw [hy128]; exact H) | exact H
         have Ny128 := Aside0.mk hy128
         clear hy128
         by_cases c44 : y128.length + t102.length < 4398046511104
         ·rw [if_pos c44] at H
          have LMc44 := Aside0.mk c44
          clear c44
          obtain ⟨y131, hy131⟩ : ∃ y_ : List (S99), y_ = (y128 ++ t102) := ⟨_, rfl⟩
          replace H : ((impl_CcSeconds.f kj33 y131 t103).bind fun bt134 => (if t106 ≥ 0 then (if t106 ≤ 2147483648 then (if bt134.1 = t106 then (if (bt134.2 == t107) = true then ((impl_Directives.f kj33 y131).bind fun t136 => (if (t136.length : Int) ≤ (wrap64 ((wrap64 (2 * (t108.length : Int))) + 1)) then ((impl_CcHas.f kj33 t102 t103).bind fun t139 => (some (t107 == t139))) else (some false))) else (some false)) else (some false)) else (some false)) else (some false))) = some r := by first | (rw [hy131]; with_reducible exact H) | (have H2_ := (Option.bind_some _ _).symm.trans H; rw [hy131]; with_reducible exact H2_) | (have H2_ := (Option.bind_some _ _).symm.trans H; with_reducible exact H2_) | with_reducible exact H | (rw [hy131]; exact H) | exact H
          have Ny131 := Aside0.mk hy131
          clear hy131
          replace H := Option.bind_eq_some_iff.mp H
          obtain ⟨⟨t134, t135⟩, A450, H⟩ := H
          try dsimp only at H
          have A45 := Aside0.mk A450
          clear A450
          by_cases c46 : t106 ≥ 0
          ·rw [if_pos c46] at H
           have c46b0 : decide (0 ≤ t106) = true := decide_eq_true c46
           clear c46
           by_cases c47 : t106 ≤ 2147483648
           ·rw [if_pos c47] at H
            have c47b0 : decide (t106 ≤ 2147483648) = true := decide_eq_true c47
            clear c47
            by_cases c48 : t134 = t106
            ·rw [if_pos c48] at H
             have c48b0 : (t134 == t106) = true := beq_iff_eq.mpr c48
             have c48b1 : (t134 != t106) = false := bne_eq_false_iff_eq.mpr c48
             clear c48
             by_cases c49 : (t135 == t107) = true
             ·rw [if_pos c49] at H
              have c49b0 : (t135 == t107) = true := c49
              (try (have c49b1 : decide (t135 = t107) = true := by simpa using c49))
              (try (have c49b2 : (t135 == t107) = true := by simpa using c49))
              clear c49
              replace H := Option.bind_eq_some_iff.mp H
              obtain ⟨t136, A500, H⟩ := H
              try dsimp only at H
              have A50 := Aside0.mk A500
              clear A500
              by_cases c51 : (t136.length : Int) ≤ (wrap64 ((wrap64 (2 * (t108.length : Int))) + 1))
              ·rw [if_pos c51] at H
               have c51b0 : decide ((t136.length : Int) ≤ (wrap64 ((wrap64 (2 * (t108.length : Int))) + 1))) = true := decide_eq_true c51
               clear c51
               replace H := Option.bind_eq_some_iff.mp H
               obtain ⟨t139, A520, H⟩ := H
               try dsimp only at H
               have A52 := Aside0.mk A520
               clear A520
               obtain rfl := Option.some.inj H
               go_wp2_with (first | ((with_reducible refine gate_dst (N := 104) rfl ?_); (try (refine gate_guard (by rfl) ?_; dsimp only)); refine Kd.R_lit k99 _ 99 ?hg (N := 104) ?hd (xs := ([] : List (S99))) (inner := []) (ok := fun _ => True) (okp := fun _ => True) ?hr ?hp (fun _ hk => hk) trivial (Below.refl _ _) (Nat.le_refl _) (by simp) ?_; (case hd => rfl); (case hg => rfl); (case hr => first | (go_simp; done) | (go_simp; rfl)); (case hp => exact (Reps.none _ _)); intro v126 w53 ho54 hb hg_ hnew_; clear hg_ hnew_; (first | rw [← Ny125.out] at ho54 | (simp only [Int.reduceToNat] at ho54; rw [← Ny125.out] at ho54)); have n0_ := Aside0.mk (Kd.R_elder' (by (with_reducible repeat (first | apply Kd.R_alloc | apply Kd.R_drewN | apply Kd.R_drew)); exact HO_3.out) (Kd.R_base ho54) hb); have n1_ := Aside0.mk (Kd.R_below (by (with_reducible repeat (first | apply Kd.R_alloc | apply Kd.R_drewN | apply Kd.R_drew)); exact HO_7.out) hb); have n2_ := Aside0.mk (Kd.R_lower (Kd.R_new' ho54 (Kd.R_lt (by (with_reducible repeat (first | apply Kd.R_alloc | apply Kd.R_drewN | apply Kd.R_drew)); exact HO_3.out))) (below_size bq)); have n3_ := Aside0.mk (below_step bq hb); clear HO_3; clear HO_7; clear HB; have HO_3 := n0_; have HO_7 := n1_; have HO127 := n2_; have HB := n3_; clear n0_ n1_ n2_ n3_; clear hb ho54) | ((with_reducible refine gate_builtin (b := .append) (xs := #[.tmp 104, .tmp 105]) rfl ?_); (try (refine gate_guard (by rfl) ?_; dsimp only)); at_builtin; refine Kd.R_append_rows k99 (w0 := w) w.heap.size rfl (.tmp 104) (.tmp 105) 27 99 (.agg #[(.string ⟨#[]⟩), (.string ⟨#[]⟩)]) 32 rfl Tryz.underlying27 info99 rfl (by decide) (by omega) v126 y125 t102 _ _ _ (fun k_ => some k_ ≠ (.slice Ao8 t102.length co8 : Value).ownBlock) (fun _ => False) rfl rfl ?aO ?aR (fun _ _ h => h) (fun _ h => h.elim) ?aF ?aB ?aS ?aL ?_; (case aR => repeat (first | exact (Kd.R_reads' HO_3.out).2.2 | (with_reducible refine Kd.C_alloc ?_ _) | (with_reducible refine Kd.C_drewN ?_ _) | (with_reducible refine Kd.C_drew ?_))); (case aB => exact bq); (case aF => exact (fun k_ hk => Kd.fresh' (Kd.R_lt (by (with_reducible repeat (first | apply Kd.R_alloc | apply Kd.R_drewN | apply Kd.R_drew)); exact HO_3.out)) k_ hk)); (case aO => exact (by (with_reducible repeat (first | apply Kd.R_alloc | apply Kd.R_drewN | apply Kd.R_drew)); exact Kd.R_mono HO127.out (fun _ hk => hk.2))); (case aS => exact (below_size bq)); (case aL => have := LMc43.out; omega); intro v129 w55 ho hb hg hat; rw [← Ny128.out] at ho; have n0_ := Aside0.mk (Kd.R_after (ok := (fun _ => True)) (by (with_reducible repeat (first | apply Kd.R_alloc | apply Kd.R_drewN | apply Kd.R_drew)); exact HO_3.out) hg hat); have n1_ := Aside0.mk (Kd.R_over' (by (with_reducible repeat (first | apply Kd.R_alloc | apply Kd.R_drewN | apply Kd.R_drew)); exact HO_7.out) (Kd.R_typed (by (with_reducible repeat (first | apply Kd.R_alloc | apply Kd.R_drewN | apply Kd.R_drew)); exact HO127.out)) (by decide) hg); have n2_ := Aside0.mk (hb); have n3_ := Aside0.mk (ho); clear HO_3; clear HO_7; clear HB; clear HO127; have HO_3 := n0_; have HO_7 := n1_; have HB := n2_; have HO130 := n3_; clear n0_ n1_ n2_ n3_; clear ho hb hg hat) | ((with_reducible refine gate_builtin (b := .append) (xs := #[.tmp 106, .tmp 107]) rfl ?_); (try (refine gate_guard (by rfl) ?_; dsimp only)); at_builtin; refine Kd.R_append_rows k99 (w0 := w) w.heap.size rfl (.tmp 106) (.tmp 107) 27 99 (.agg #[(.string ⟨#[]⟩), (.string ⟨#[]⟩)]) 32 rfl Tryz.underlying27 info99 rfl (by decide) (by omega) v129 y128 t102 _ _ _ (fun k_ => some k_ ≠ (.slice Ao8 t102.length co8 : Value).ownBlock) (fun _ => False) rfl rfl ?aO ?aR (fun _ _ h => h) (fun _ h => h.elim) ?aF ?aB ?aS ?aL ?_; (case aR => repeat (first | exact (Kd.R_reads' HO_3.out).2.2 | (with_reducible refine Kd.C_alloc ?_ _) | (with_reducible refine Kd.C_drewN ?_ _) | (with_reducible refine Kd.C_drew ?_))); (case aB => exact bq); (case aF => exact (fun k_ hk => Kd.fresh' (Kd.R_lt (by (with_reducible repeat (first | apply Kd.R_alloc | apply Kd.R_drewN | apply Kd.R_drew)); exact HO_3.out)) k_ hk)); (case aO => exact (by (with_reducible repeat (first | apply Kd.R_alloc | apply Kd.R_drewN | apply Kd.R_drew)); exact HO130.out)); (case aS => exact (below_size bq)); (case aL => have := LMc44.out; omega); intro v132 w56 ho hb hg hat; rw [← Ny131.out] at ho; have n0_ := Aside0.mk (Kd.R_after (ok := (fun _ => True)) (by (with_reducible repeat (first | apply Kd.R_alloc | apply Kd.R_drewN | apply Kd.R_drew)); exact HO_3.out) hg hat); have n1_ := Aside0.mk (Kd.R_over' (by (with_reducible repeat (first | apply Kd.R_alloc | apply Kd.R_drewN | apply Kd.R_drew)); exact HO_7.out) (Kd.R_typed (by (with_reducible repeat (first | apply Kd.R_alloc | apply Kd.R_drewN | apply Kd.R_drew)); exact HO130.out)) (by decide) hg); have n2_ := Aside0.mk (hb); have n3_ := Aside0.mk (ho); clear HO_3; clear HO_7; clear HB; clear HO130; have HO_3 := n0_; have HO_7 := n1_; have HB := n2_; have HO133 := n3_; clear n0_ n1_ n2_ n3_; clear ho hb hg hat; obtain ⟨Ao57, co57, eo57⟩ := Kd.R_slice HO133.out; subst eo57) | ((with_reducible refine gate_callee (f := 20) rfl ?_); refine goesL_ (some 112) rfl rfl Tryz.func20 (by kernel_rfl) rfl #[.slice Ao57 y131.length co57, .string t103] rfl am ?_; (with_reducible refine (impl_CcSeconds.calls kj33 _ _ y131 t103 t134 t135 _ ?side1 ?side2 ?side3 ?side4 A45.out).mono ?_); (case side1 => repeat (first | exact (Kd.R_reads' HO133.out).2.2 | (with_reducible refine Kd.C_alloc ?_ _) | (with_reducible refine Kd.C_drewN ?_ _) | (with_reducible refine Kd.C_drew ?_))); (case side2 => exact (Kd.R_reads' HO133.out).2.1); (case side3 => refine GErr.of_below HGErr.out ?_; repeat (first | (with_reducible first | exact HB.out | apply below_alloc | apply pw_below_drewN | apply below_drew1) | exact HB.out)); (case side4 => refine GMax.of_below HGMax.out ?_; repeat (first | (with_reducible first | exact HB.out | apply below_alloc | apply pw_below_drewN | apply below_drew1) | exact HB.out)); rintro e w58 ⟨rfl, hb⟩; refine ⟨_, rfl, ?_⟩; have n0_ := Aside0.mk (Kd.R_below (by (with_reducible repeat (first | apply Kd.R_alloc | apply Kd.R_drewN | apply Kd.R_drew)); exact HO_3.out) hb); have n1_ := Aside0.mk (Kd.R_below (by (with_reducible repeat (first | apply Kd.R_alloc | apply Kd.R_drewN | apply Kd.R_drew)); exact HO_7.out) hb); have n2_ := Aside0.mk (Kd.R_below (by (with_reducible repeat (first | apply Kd.R_alloc | apply Kd.R_drewN | apply Kd.R_drew)); exact HO133.out) hb); have n3_ := Aside0.mk (below_step bq hb); clear HO_3; clear HO_7; clear HO133; clear HB; have HO_3 := n0_; have HO_7 := n1_; have HO133 := n2_; have HB := n3_; clear n0_ n1_ n2_ n3_; (try clear hb); (try clear hb2); (try clear hk); (try clear hi)) | (go_at_call 21; (with_reducible refine (impl_Directives.calls kj33 _ _ y131 t136 _ ?side1 ?side2 ?side3 A50.out).mono ?_); (case side1 => repeat (first | exact (Kd.R_reads' HO133.out).2.2 | (with_reducible refine Kd.C_alloc ?_ _) | (with_reducible refine Kd.C_drewN ?_ _) | (with_reducible refine Kd.C_drew ?_))); (case side2 => exact (Kd.R_reads' HO133.out).2.1); (case side3 => refine GMax.of_below HGMax.out ?_; repeat (first | (with_reducible first | exact HB.out | apply below_alloc | apply pw_below_drewN | apply below_drew1) | exact HB.out)); rintro e w59 ⟨v137, rfl, ho0, hb⟩; have n0_ := Aside0.mk (Kd.R_below (by (with_reducible repeat (first | apply Kd.R_alloc | apply Kd.R_drewN | apply Kd.R_drew)); exact HO_3.out) hb); have n1_ := Aside0.mk (Kd.R_elder' (by (with_reducible repeat (first | apply Kd.R_alloc | apply Kd.R_drewN | apply Kd.R_drew)); exact HO_7.out) (Kd.R_base ho0) hb); have n2_ := Aside0.mk (Kd.R_below (by (with_reducible repeat (first | apply Kd.R_alloc | apply Kd.R_drewN | apply Kd.R_drew)); exact HO133.out) hb); have n3_ := Aside0.mk (Kd.R_lower (Kd.R_new' ho0 (Kd.R_lt (by (with_reducible repeat (first | apply Kd.R_alloc | apply Kd.R_drewN | apply Kd.R_drew)); exact HO_7.out))) (below_size bq)); have n4_ := Aside0.mk (below_step bq hb); clear HO_3; clear HO_7; clear HO133; clear HB; have HO_3 := n0_; have HO_7 := n1_; have HO133 := n2_; have HO138 := n3_; have HB := n4_; clear n0_ n1_ n2_ n3_ n4_; (try clear hb); (try clear hb2); (try clear hk); (try clear hi); (try clear ho0); obtain ⟨Ao60, co60, eo60⟩ := Kd.R_slice HO138.out; subst eo60) | (go_at_call 23; (with_reducible refine (impl_CcHas.calls kj33 _ _ t102 t103 t139 _ ?side1 ?side2 ?side3 A52.out).mono ?_); (case side1 => repeat (first | exact (Kd.R_reads' HO_3.out).2.2 | (with_reducible refine Kd.C_alloc ?_ _) | (with_reducible refine Kd.C_drewN ?_ _) | (with_reducible refine Kd.C_drew ?_))); (case side2 => exact (Kd.R_reads' HO_3.out).2.1); (case side3 => refine GMax.of_below HGMax.out ?_; repeat (first | (with_reducible first | exact HB.out | apply below_alloc | apply pw_below_drewN | apply below_drew1) | exact HB.out)); rintro e w61 ⟨rfl, hb⟩; have n0_ := Aside0.mk (Kd.R_below (by (with_reducible repeat (first | apply Kd.R_alloc | apply Kd.R_drewN | apply Kd.R_drew)); exact HO_3.out) hb); have n1_ := Aside0.mk (Kd.R_below (by (with_reducible repeat (first | apply Kd.R_alloc | apply Kd.R_drewN | apply Kd.R_drew)); exact HO_7.out) hb); have n2_ := Aside0.mk (Kd.R_below (by (with_reducible repeat (first | apply Kd.R_alloc | apply Kd.R_drewN | apply Kd.R_drew)); exact HO133.out) hb); have n3_ := Aside0.mk (Kd.R_below (by (with_reducible repeat (first | apply Kd.R_alloc | apply Kd.R_drewN | apply Kd.R_drew)); exact HO138.out) hb); have n4_ := Aside0.mk (below_step bq hb); clear HO_3; clear HO_7; clear HO133; clear HO138; clear HB; have HO_3 := n0_; have HO_7 := n1_; have HO133 := n2_; have HO138 := n3_; have HB := n4_; clear n0_ n1_ n2_ n3_ n4_; (try clear hb); (try clear hb2); (try clear hk); (try clear hi)))
               go_ret
               exact ⟨by first | rfl | (simp [errW_none, errW_some] <;> rfl) | (simp [*, errW_none, errW_some] <;> rfl), bq⟩
              ·rw [if_neg c51] at H
               have c51b0 : decide ((t136.length : Int) ≤ (wrap64 ((wrap64 (2 * (t108.length : Int))) + 1))) = false := decide_eq_false c51
               clear c51
               obtain rfl := Option.some.inj H
               go_wp2_with (first | ((with_reducible refine gate_dst (N := 104) rfl ?_); (try (refine gate_guard (by rfl) ?_; dsimp only)); refine Kd.R_lit k99 _ 99 ?hg (N := 104) ?hd (xs := ([] : List (S99))) (inner := []) (ok := fun _ => True) (okp := fun _ => True) ?hr ?hp (fun _ hk => hk) trivial (Below.refl _ _) (Nat.le_refl _) (by simp) ?_; (case hd => rfl); (case hg => rfl); (case hr => first | (go_simp; done) | (go_simp; rfl)); (case hp => exact (Reps.none _ _)); intro v126 w62 ho63 hb hg_ hnew_; clear hg_ hnew_; (first | rw [← Ny125.out] at ho63 | (simp only [Int.reduceToNat] at ho63; rw [← Ny125.out] at ho63)); have n0_ := Aside0.mk (Kd.R_elder' (by (with_reducible repeat (first | apply Kd.R_alloc | apply Kd.R_drewN | apply Kd.R_drew)); exact HO_3.out) (Kd.R_base ho63) hb); have n1_ := Aside0.mk (Kd.R_below (by (with_reducible repeat (first | apply Kd.R_alloc | apply Kd.R_drewN | apply Kd.R_drew)); exact HO_7.out) hb); have n2_ := Aside0.mk (Kd.R_lower (Kd.R_new' ho63 (Kd.R_lt (by (with_reducible repeat (first | apply Kd.R_alloc | apply Kd.R_drewN | apply Kd.R_drew)); exact HO_3.out))) (below_size bq)); have n3_ := Aside0.mk (below_step bq hb); clear HO_3; clear HO_7; clear HB; have HO_3 := n0_; have HO_7 := n1_; have HO127 := n2_; have HB := n3_; clear n0_ n1_ n2_ n3_; clear hb ho63) | ((with_reducible refine gate_builtin (b := .append) (xs := #[.tmp 104, .tmp 105]) rfl ?_); (try (refine gate_guard (by rfl) ?_; dsimp only)); at_builtin; refine Kd.R_append_rows k99 (w0 := w) w.heap.size rfl (.tmp 104) (.tmp 105) 27 99 (.agg #[(.string ⟨#[]⟩), (.string ⟨#[]⟩)]) 32 rfl Tryz.underlying27 info99 rfl (by decide) (by omega) v126 y125 t102 _ _ _ (fun k_ => some k_ ≠ (.slice Ao8 t102.length co8 : Value).ownBlock) (fun _ => False) rfl rfl ?aO ?aR (fun _ _ h => h) (fun _ h => h.elim) ?aF ?aB ?aS ?aL ?_; (case aR => repeat (first | exact (Kd.R_reads' HO_3.out).2.2 | (with_reducible refine Kd.C_alloc ?_ _) | (with_reducible refine Kd.C_drewN ?_ _) | (with_reducible refine Kd.C_drew ?_))); (case aB => exact bq); (case aF => exact (fun k_ hk => Kd.fresh' (Kd.R_lt (by (with_reducible repeat (first | apply Kd.R_alloc | apply Kd.R_drewN | apply Kd.R_drew)); exact HO_3.out)) k_ hk)); (case aO => exact (by (with_reducible repeat (first | apply Kd.R_alloc | apply Kd.R_drewN | apply Kd.R_drew)); exact Kd.R_mono HO127.out (fun _ hk => hk.2))); (case aS => exact (below_size bq)); (case aL => have := LMc43.out; omega); intro v129 w64 ho hb hg hat; rw [← Ny128.out] at ho; have n0_ := Aside0.mk (Kd.R_after (ok := (fun _ => True)) (by (with_reducible repeat (first | apply Kd.R_alloc | apply Kd.R_drewN | apply Kd.R_drew)); exact HO_3.out) hg hat); have n1_ := Aside0.mk (Kd.R_over' (by (with_reducible repeat (first | apply Kd.R_alloc | apply Kd.R_drewN | apply Kd.R_drew)); exact HO_7.out) (Kd.R_typed (by (with_reducible repeat (first | apply Kd.R_alloc | apply Kd.R_drewN | apply Kd.R_drew)); exact HO127.out)) (by decide) hg); have n2_ := Aside0.mk (hb); have n3_ := Aside0.mk (ho); clear HO_3; clear HO_7; clear HB; clear HO127; have HO_3 := n0_; have HO_7 := n1_; have HB := n2_; have HO130 := n3_; clear n0_ n1_ n2_ n3_; clear ho hb hg hat) | ((with_reducible refine gate_builtin (b := .append) (xs := #[.tmp 106, .tmp 107]) rfl ?_); (try (refine gate_guard (by rfl) ?_; dsimp only)); at_builtin; refine Kd.R_append_rows k99 (w0 := w) w.heap.size rfl (.tmp 106) (.tmp 107) 27 99 (.agg #[(.string ⟨#[]⟩), (.string ⟨#[]⟩)]) 32 rfl Tryz.underlying27 info99 rfl (by decide) (by omega) v129 y128 t102 _ _ _ (fun k_ => some k_ ≠ (.slice Ao8 t102.length co8 : Value).ownBlock) (fun _ => False) rfl rfl ?aO ?aR (fun _ _ h => h) (fun _ h => h.elim) ?aF ?aB ?aS ?aL ?_; (case aR => repeat (first | exact (Kd.R_reads' HO_3.out).2.2 | (with_reducible refine Kd.C_alloc ?_ _) | (with_reducible refine Kd.C_drewN ?_ _) | (with_reducible refine Kd.C_drew ?_))); (case aB => exact bq); (case aF => exact (fun k_ hk => Kd.fresh' (Kd.R_lt (by (with_reducible repeat (first | apply Kd.R_alloc | apply Kd.R_drewN | apply Kd.R_drew)); exact HO_3.out)) k_ hk)); (case aO => exact (by (with_reducible repeat (first | apply Kd.R_alloc | apply Kd.R_drewN | apply Kd.R_drew)); exact HO130.out)); (case aS => exact (below_size bq)); (case aL => have := LMc44.out; omega); intro v132 w65 ho hb hg hat; rw [← Ny131.out] at ho; have n0_ := Aside0.mk (Kd.R_after (ok := (fun _ => True)) (by (with_reducible repeat (first | apply Kd.R_alloc | apply Kd.R_drewN | apply Kd.R_drew)); exact HO_3.out) hg hat); have n1_ := Aside0.mk (Kd.R_over' (by (with_reducible repeat (first | apply Kd.R_alloc | apply Kd.R_drewN | apply Kd.R_drew)); exact HO_7.out) (Kd.R_typed (by (with_reducible repeat (first | apply Kd.R_alloc | apply Kd.R_drewN | apply Kd.R_drew)); exact HO130.out)) (by decide) hg); have n2_ := Aside0.mk (hb); have n3_ := Aside0.mk (ho); clear HO_3; clear HO_7; clear HB; clear HO130; have HO_3 := n0_; have HO_7 := n1_; have HB := n2_; have HO133 := n3_; clear n0_ n1_ n2_ n3_; clear ho hb hg hat; obtain ⟨Ao66, co66, eo66⟩ := Kd.R_slice HO133.out; subst eo66) | ((with_reducible refine gate_callee (f := 20) rfl ?_); refine goesL_ (some 112) rfl rfl Tryz.func20 (by kernel_rfl) rfl #[.slice Ao66 y131.length co66, .string t103] rfl am ?_; (with_reducible refine (impl_CcSeconds.calls kj33 _ _ y131 t103 t134 t135 _ ?side1 ?side2 ?side3 ?side4 A45.out).mono ?_); (case side1 => repeat (first | exact (Kd.R_reads' HO133.out).2.2 | (with_reducible refine Kd.C_alloc ?_ _) | (with_reducible refine Kd.C_drewN ?_ _) | (with_reducible refine Kd.C_drew ?_))); (case side2 => exact (Kd.R_reads' HO133.out).2.1); (case side3 => refine GErr.of_below HGErr.out ?_; repeat (first | (with_reducible first | exact HB.out | apply below_alloc | apply pw_below_drewN | apply below_drew1) | exact HB.out)); (case side4 => refine GMax.of_below HGMax.out ?_; repeat (first | (with_reducible first | exact HB.out | apply below_alloc | apply pw_below_drewN | apply below_drew1) | exact HB.out)); rintro e w67 ⟨rfl, hb⟩; refine ⟨_, rfl, ?_⟩; have n0_ := Aside0.mk (Kd.R_below (by (with_reducible repeat (first | apply Kd.R_alloc | apply Kd.R_drewN | apply Kd.R_drew)); exact HO_3.out) hb); have n1_ := Aside0.mk (Kd.R_below (by (with_reducible repeat (first | apply Kd.R_alloc | apply Kd.R_drewN | apply Kd.R_drew)); exact HO_7.out) hb); have n2_ := Aside0.mk (Kd.R_below (by (with_reducible repeat (first | apply Kd.R_alloc | apply Kd.R_drewN | apply Kd.R_drew)); exact HO133.out) hb); have n3_ := Aside0.mk (below_step bq hb); clear HO_3; clear HO_7; clear HO133; clear HB; have HO_3 := n0_; have HO_7 := n1_; have HO133 := n2_; have HB := n3_; clear n0_ n1_ n2_ n3_; (try clear hb); (try clear hb2); (try clear hk); (try clear hi)) | (go_at_call 21; (with_reducible refine (impl_Directives.calls kj33 _ _ y131 t136 _ ?side1 ?side2 ?side3 A50.out).mono ?_); (case side1 => repeat (first | exact (Kd.R_reads' HO133.out).2.2 | (with_reducible refine Kd.C_alloc ?_ _) | (with_reducible refine Kd.C_drewN ?_ _) | (with_reducible refine Kd.C_drew ?_))); (case side2 => exact (Kd.R_reads' HO133.out).2.1); (case side3 => refine GMax.of_below HGMax.out ?_; repeat (first | (with_reducible first | exact HB.out | apply below_alloc | apply pw_below_drewN | apply below_drew1) | exact HB.out)); rintro e w68 ⟨v137, rfl, ho0, hb⟩; have n0_ := Aside0.mk (Kd.R_below (by (with_reducible repeat (first | apply Kd.R_alloc | apply Kd.R_drewN | apply Kd.R_drew)); exact HO_3.out) hb); have n1_ := Aside0.mk (Kd.R_elder' (by (with_reducible repeat (first | apply Kd.R_alloc | apply Kd.R_drewN | apply Kd.R_drew)); exact HO_7.out) (Kd.R_base ho0) hb); have n2_ := Aside0.mk (Kd.R_below (by (with_reducible repeat (first | apply Kd.R_alloc | apply Kd.R_drewN | apply Kd.R_drew)); exact HO133.out) hb); have n3_ := Aside0.mk (Kd.R_lower (Kd.R_new' ho0 (Kd.R_lt (by (with_reducible repeat (first | apply Kd.R_alloc | apply Kd.R_drewN | apply Kd.R_drew)); exact HO_7.out))) (below_size bq)); have n4_ := Aside0.mk (below_step bq hb); clear HO_3; clear HO_7; clear HO133; clear HB; have HO_3 := n0_; have HO_7 := n1_; have HO133 := n2_; have HO138 := n3_; have HB := n4_; clear n0_ n1_ n2_ n3_ n4_; (try clear hb); (try clear hb2); (try clear hk); (try clear hi); (try clear ho0); obtain ⟨Ao69, co69, eo69⟩ := Kd.R_slice HO138.out; subst eo69))
               go_ret
               exact ⟨by first | rfl | (simp [errW_none, errW_some] <;> rfl) | (simp [*, errW_none, errW_some] <;> rfl), bq⟩
             ·rw [if_neg c49] at H
              have c49b0 : (t135 == t107) = false := by simpa using c49
              (try (have c49b1 : decide (t135 = t107) = false := by simpa using c49))
              (try (have c49b2 : (t135 == t107) = false := by simpa using c49))
              (try (have c49b3 : ¬ (t135 = t107) := by simpa using c49))
              clear c49
              obtain rfl := Option.some.inj H
              go_wp2_with (first | ((with_reducible refine gate_dst (N := 104) rfl ?_); (try (refine gate_guard (by rfl) ?_; dsimp only)); refine Kd.R_lit k99 _ 99 ?hg (N := 104) ?hd (xs := ([] : List (S99))) (inner := []) (ok := fun _ => True) (okp := fun _ => True) ?hr ?hp (fun _ hk => hk) trivial (Below.refl _ _) (Nat.le_refl _) (by simp) ?_; (case hd => rfl); (case hg => rfl); (case hr => first | (go_simp; done) | (go_simp; rfl)); (case hp => exact (Reps.none _ _)); intro v126 w70 ho71 hb hg_ hnew_; clear hg_ hnew_; (first | rw [← Ny125.out] at ho71 | (simp only [Int.reduceToNat] at ho71; rw [← Ny125.out] at ho71)); have n0_ := Aside0.mk (Kd.R_elder' (by (with_reducible repeat (first | apply Kd.R_alloc | apply Kd.R_drewN | apply Kd.R_drew)); exact HO_3.out) (Kd.R_base ho71) hb); have n1_ := Aside0.mk (Kd.R_below (by (with_reducible repeat (first | apply Kd.R_alloc | apply Kd.R_drewN | apply Kd.R_drew)); exact HO_7.out) hb); have n2_ := Aside0.mk (Kd.R_lower (Kd.R_new' ho71 (Kd.R_lt (by (with_reducible repeat (first | apply Kd.R_alloc | apply Kd.R_drewN | apply Kd.R_drew)); exact HO_3.out))) (below_size bq)); have n3_ := Aside0.mk (below_step bq hb); clear HO_3; clear HO_7; clear HB; have HO_3 := n0_; have HO_7 := n1_; have HO127 := n2_; have HB := n3_; clear n0_ n1_ n2_ n3_; clear hb ho71) | ((with_reducible refine gate_builtin (b := .append) (xs := #[.tmp 104, .tmp 105]) rfl ?_); (try (refine gate_guard (by rfl) ?_; dsimp only)); at_builtin; refine Kd.R_append_rows k99 (w0 := w) w.heap.size rfl (.tmp 104) (.tmp 105) 27 99 (.agg #[(.string ⟨#[]⟩), (.string ⟨#[]⟩)]) 32 rfl Tryz.underlying27 info99 rfl (by decide) (by omega) v126 y125 t102 _ _ _ (fun k_ => some k_ ≠ (.slice Ao8 t102.length co8 : Value).ownBlock) (fun _ => False) rfl rfl ?aO ?aR (fun _ _ h => h) (fun _ h => h.elim) ?aF ?aB ?aS ?aL ?_; (case aR => repeat (first | exact (Kd.R_reads' HO_3.out).2.2 | (with_reducible refine Kd.C_alloc ?_ _) | (with_reducible refine Kd.C_drewN ?_ _) | (with_reducible refine Kd.C_drew ?_))); (case aB => exact bq); (case aF => exact (fun k_ hk => Kd.fresh' (Kd.R_lt (by (with_reducible repeat (first | apply Kd.R_alloc | apply Kd.R_drewN | apply Kd.R_drew)); exact HO_3.out)) k_ hk)); (case aO => exact (by (with_reducible repeat (first | apply Kd.R_alloc | apply Kd.R_drewN | apply Kd.R_drew)); exact Kd.R_mono HO127.out (fun _ hk => hk.2))); (case aS => exact (below_size bq)); (case aL => have := LMc43.out; omega); intro v129 w72 ho hb hg hat; rw [← Ny128.out] at ho; have n0_ := Aside0.mk (Kd.R_after (ok := (fun _ => True)) (by (with_reducible repeat (first | apply Kd.R_alloc | apply Kd.R_drewN | apply Kd.R_drew)); exact HO_3.out) hg hat); have n1_ := Aside0.mk (Kd.R_over' (by (with_reducible repeat (first | apply Kd.R_alloc | apply Kd.R_drewN | apply Kd.R_drew)); exact HO_7.out) (Kd.R_typed (by (with_reducible repeat (first | apply Kd.R_alloc | apply Kd.R_drewN | apply Kd.R_drew)); exact HO127.out)) (by decide) hg); have n2_ := Aside0.mk (hb); have n3_ := Aside0.mk (ho); clear HO_3; clear HO_7; clear HB; clear HO127; have HO_3 := n0_; have HO_7 := n1_; have HB := n2_; have HO130 := n3_; clear n0_ n1_ n2_ n3_; clear ho hb hg hat) | ((with_reducible refine gate_builtin (b := .append) (xs := #[.tmp 106, .tmp 107]) rfl ?_); (try (refine gate_guard (by rfl) ?_; dsimp only)); at_builtin; refine Kd.R_append_rows k99 (w0 := w) w.heap.size rfl (.tmp 106) (.tmp 107) 27 99 (.agg #[(.string ⟨#[]⟩), (.string ⟨#[]⟩)]) 32 rfl Tryz.underlying27 info99 rfl (by decide) (by omega) v129 y128 t102 _ _ _ (fun k_ => some k_ ≠ (.slice Ao8 t102.length co8 : Value).ownBlock) (fun _ => False) rfl rfl ?aO ?aR (fun _ _ h => h) (fun _ h => h.elim) ?aF ?aB ?aS ?aL ?_; (case aR => repeat (first | exact (Kd.R_reads' HO_3.out).2.2 | (with_reducible refine Kd.C_alloc ?_ _) | (with_reducible refine Kd.C_drewN ?_ _) | (with_reducible refine Kd.C_drew ?_))); (case aB => exact bq); (case aF => exact (fun k_ hk => Kd.fresh' (Kd.R_lt (by (with_reducible repeat (first | apply Kd.R_alloc | apply Kd.R_drewN | apply Kd.R_drew)); exact HO_3.out)) k_ hk)); (case aO => exact (by (with_reducible repeat (first | apply Kd.R_alloc | apply Kd.R_drewN | apply Kd.R_drew)); exact HO130.out)); (case aS => exact (below_size bq)); (case aL => have := LMc44.out; omega); intro v132 w73 ho hb hg hat; rw [← Ny131.out] at ho; have n0_ := Aside0.mk (Kd.R_after (ok := (fun _ => True)) (by (with_reducible repeat (first | apply Kd.R_alloc | apply Kd.R_drewN | apply Kd.R_drew)); exact HO_3.out) hg hat); have n1_ := Aside0.mk (Kd.R_over' (by (with_reducible repeat (first | apply Kd.R_alloc | apply Kd.R_drewN | apply Kd.R_drew)); exact HO_7.out) (Kd.R_typed (by (with_reducible repeat (first | apply Kd.R_alloc | apply Kd.R_drewN | apply Kd.R_drew)); exact HO130.out)) (by decide) hg); have n2_ := Aside0.mk (hb); have n3_ := Aside0.mk (ho); clear HO_3; clear HO_7; clear HB; clear HO130; have HO_3 := n0_; have HO_7 := n1_; have HB := n2_; have HO133 := n3_; clear n0_ n1_ n2_ n3_; clear ho hb hg hat; obtain ⟨Ao74, co74, eo74⟩ := Kd.R_slice HO133.out; subst eo74) | ((with_reducible refine gate_callee (f := 20) rfl ?_); refine goesL_ (some 112) rfl rfl Tryz.func20 (by kernel_rfl) rfl #[.slice Ao74 y131.length co74, .string t103] rfl am ?_; (with_reducible refine (impl_CcSeconds.calls kj33 _ _ y131 t103 t134 t135 _ ?side1 ?side2 ?side3 ?side4 A45.out).mono ?_); (case side1 => repeat (first | exact (Kd.R_reads' HO133.out).2.2 | (with_reducible refine Kd.C_alloc ?_ _) | (with_reducible refine Kd.C_drewN ?_ _) | (with_reducible refine Kd.C_drew ?_))); (case side2 => exact (Kd.R_reads' HO133.out).2.1); (case side3 => refine GErr.of_below HGErr.out ?_; repeat (first | (with_reducible first | exact HB.out | apply below_alloc | apply pw_below_drewN | apply below_drew1) | exact HB.out)); (case side4 => refine GMax.of_below HGMax.out ?_; repeat (first | (with_reducible first | exact HB.out | apply below_alloc | apply pw_below_drewN | apply below_drew1) | exact HB.out)); rintro e w75 ⟨rfl, hb⟩; refine ⟨_, rfl, ?_⟩; have n0_ := Aside0.mk (Kd.R_below (by (with_reducible repeat (first | apply Kd.R_alloc | apply Kd.R_drewN | apply Kd.R_drew)); exact HO_3.out) hb); have n1_ := Aside0.mk (Kd.R_below (by (with_reducible repeat (first | apply Kd.R_alloc | apply Kd.R_drewN | apply Kd.R_drew)); exact HO_7.out) hb); have n2_ := Aside0.mk (Kd.R_below (by (with_reducible repeat (first | apply Kd.R_alloc | apply Kd.R_drewN | apply Kd.R_drew)); exact HO133.out) hb); have n3_ := Aside0.mk (below_step bq hb); clear HO_3; clear HO_7; clear HO133; clear HB; have HO_3 := n0_; have HO_7 := n1_; have HO133 := n2_; have HB := n3_; clear n0_ n1_ n2_ n3_; (try clear hb); (try clear hb2); (try clear hk); (try clear hi)))
              go_ret
              exact ⟨by first | rfl | (simp [errW_none, errW_some] <;> rfl) | (simp [*, errW_none, errW_some] <;> rfl), bq⟩
            ·rw [if_neg c48] at H
             have c48b0 : (t134 == t106) = false := beq_eq_false_iff_ne.mpr c48
             have c48b1 : (t134 != t106) = true := bne_iff_ne.mpr c48
             obtain rfl := Option.some.inj H
             go_wp2_with (first | ((with_reducible refine gate_dst (N := 104) rfl ?_); (try (refine gate_guard (by rfl) ?_; dsimp only)); refine Kd.R_lit k99 _ 99 ?hg (N := 104) ?hd (xs := ([] : List (S99))) (inner := []) (ok := fun _ => True) (okp := fun _ => True) ?hr ?hp (fun _ hk => hk) trivial (Below.refl _ _) (Nat.le_refl _) (by simp) ?_; (case hd => rfl); (case hg => rfl); (case hr => first | (go_simp; done) | (go_simp; rfl)); (case hp => exact (Reps.none _ _)); intro v126 w76 ho77 hb hg_ hnew_; clear hg_ hnew_; (first | rw [← Ny125.out] at ho77 | (simp only [Int.reduceToNat] at ho77; rw [← Ny125.out] at ho77)); have n0_ := Aside0.mk (Kd.R_elder' (by (with_reducible repeat (first | apply Kd.R_alloc | apply Kd.R_drewN | apply Kd.R_drew)); exact HO_3.out) (Kd.R_base ho77) hb); have n1_ := Aside0.mk (Kd.R_below (by (with_reducible repeat (first | apply Kd.R_alloc | apply Kd.R_drewN | apply Kd.R_drew)); exact HO_7.out) hb); have n2_ := Aside0.mk (Kd.R_lower (Kd.R_new' ho77 (Kd.R_lt (by (with_reducible repeat (first | apply Kd.R_alloc | apply Kd.R_drewN | apply Kd.R_drew)); exact HO_3.out))) (below_size bq)); have n3_ := Aside0.mk (below_step bq hb); clear HO_3; clear HO_7; clear HB; have HO_3 := n0_; have HO_7 := n1_; have HO127 := n2_; have HB := n3_; clear n0_ n1_ n2_ n3_; clear hb ho77) | ((with_reducible refine gate_builtin (b := .append) (xs := #[.tmp 104, .tmp 105]) rfl ?_); (try (refine gate_guard (by rfl) ?_; dsimp only)); at_builtin; refine Kd.R_append_rows k99 (w0 := w) w.heap.size rfl (.tmp 104) (.tmp 105) 27 99 (.agg #[(.string ⟨#[]⟩), (.string ⟨#[]⟩)]) 32 rfl Tryz.underlying27 info99 rfl (by decide) (by omega) v126 y125 t102 _ _ _ (fun k_ => some k_ ≠ (.slice Ao8 t102.length co8 : Value).ownBlock) (fun _ => False) rfl rfl ?aO ?aR (fun _ _ h => h) (fun _ h => h.elim) ?aF ?aB ?aS ?aL ?_; (case aR => repeat (first | exact (Kd.R_reads' HO_3.out).2.2 | (with_reducible refine Kd.C_alloc ?_ _) | (with_reducible refine Kd.C_drewN ?_ _) | (with_reducible refine Kd.C_drew ?_))); (case aB => exact bq); (case aF => exact (fun k_ hk => Kd.fresh' (Kd.R_lt (by (with_reducible repeat (first | apply Kd.R_alloc | apply Kd.R_drewN | apply Kd.R_drew)); exact HO_3.out)) k_ hk)); (case aO => exact (by (with_reducible repeat (first | apply Kd.R_alloc | apply Kd.R_drewN | apply Kd.R_drew)); exact Kd.R_mono HO127.out (fun _ hk => hk.2))); (case aS => exact (below_size bq)); (case aL => have := LMc43.out; omega); intro v129 w78 ho hb hg hat; rw [← Ny128.out] at ho; have n0_ := Aside0.mk (Kd.R_after (ok := (fun _ => True)) (by (with_reducible repeat (first | apply Kd.R_alloc | apply Kd.R_drewN | apply Kd.R_drew)); exact HO_3.out) hg hat); have n1_ := Aside0.mk (Kd.R_over' (by (with_reducible repeat (first | apply Kd.R_alloc | apply Kd.R_drewN | apply Kd.R_drew)); exact HO_7.out) (Kd.R_typed (by (with_reducible repeat (first | apply Kd.R_alloc | apply Kd.R_drewN | apply Kd.R_drew)); exact HO127.out)) (by decide) hg); have n2_ := Aside0.mk (hb); have n3_ := Aside0.mk (ho); clear HO_3; clear HO_7; clear HB; clear HO127; have HO_3 := n0_; have HO_7 := n1_; have HB := n2_; have HO130 := n3_; clear n0_ n1_ n2_ n3_; clear ho hb hg hat) | ((with_reducible refine gate_builtin (b := .append) (xs := #[.tmp 106, .tmp 107]) rfl ?_); (try (refine gate_guard (by rfl) ?_; dsimp only)); at_builtin; refine Kd.R_append_rows k99 (w0 := w) w.heap.size rfl (.tmp 106) (.tmp 107) 27 99 (.agg #[(.string ⟨#[]⟩), (.string ⟨#[]⟩)]) 32 rfl Tryz.underlying27 info99 rfl (by decide) (by omega) v129 y128 t102 _ _ _ (fun k_ => some k_ ≠ (.slice Ao8 t102.length co8 : Value).ownBlock) (fun _ => False) rfl rfl ?aO ?aR (fun _ _ h => h) (fun _ h => h.elim) ?aF ?aB ?aS ?aL ?_; (case aR => repeat (first | exact (Kd.R_reads' HO_3.out).2.2 | (with_reducible refine Kd.C_alloc ?_ _) | (with_reducible refine Kd.C_drewN ?_ _) | (with_reducible refine Kd.C_drew ?_))); (case aB => exact bq); (case aF => exact (fun k_ hk => Kd.fresh' (Kd.R_lt (by (with_reducible repeat (first | apply Kd.R_alloc | apply Kd.R_drewN | apply Kd.R_drew)); exact HO_3.out)) k_ hk)); (case aO => exact (by (with_reducible repeat (first | apply Kd.R_alloc | apply Kd.R_drewN | apply Kd.R_drew)); exact HO130.out)); (case aS => exact (below_size bq)); (case aL => have := LMc44.out; omega); intro v132 w79 ho hb hg hat; rw [← Ny131.out] at ho; have n0_ := Aside0.mk (Kd.R_after (ok := (fun _ => True)) (by (with_reducible repeat (first | apply Kd.R_alloc | apply Kd.R_drewN | apply Kd.R_drew)); exact HO_3.out) hg hat); have n1_ := Aside0.mk (Kd.R_over' (by (with_reducible repeat (first | apply Kd.R_alloc | apply Kd.R_drewN | apply Kd.R_drew)); exact HO_7.out) (Kd.R_typed (by (with_reducible repeat (first | apply Kd.R_alloc | apply Kd.R_drewN | apply Kd.R_drew)); exact HO130.out)) (by decide) hg); have n2_ := Aside0.mk (hb); have n3_ := Aside0.mk (ho); clear HO_3; clear HO_7; clear HB; clear HO130; have HO_3 := n0_; have HO_7 := n1_; have HB := n2_; have HO133 := n3_; clear n0_ n1_ n2_ n3_; clear ho hb hg hat; obtain ⟨Ao80, co80, eo80⟩ := Kd.R_slice HO133.out; subst eo80) | ((with_reducible refine gate_callee (f := 20) rfl ?_); refine goesL_ (some 112) rfl rfl Tryz.func20 (by kernel_rfl) rfl #[.slice Ao80 y131.length co80, .string t103] rfl am ?_; (with_reducible refine (impl_CcSeconds.calls kj33 _ _ y131 t103 t134 t135 _ ?side1 ?side2 ?side3 ?side4 A45.out).mono ?_); (case side1 => repeat (first | exact (Kd.R_reads' HO133.out).2.2 | (with_reducible refine Kd.C_alloc ?_ _) | (with_reducible refine Kd.C_drewN ?_ _) | (with_reducible refine Kd.C_drew ?_))); (case side2 => exact (Kd.R_reads' HO133.out).2.1); (case side3 => refine GErr.of_below HGErr.out ?_; repeat (first | (with_reducible first | exact HB.out | apply below_alloc | apply pw_below_drewN | apply below_drew1) | exact HB.out)); (case side4 => refine GMax.of_below HGMax.out ?_; repeat (first | (with_reducible first | exact HB.out | apply below_alloc | apply pw_below_drewN | apply below_drew1) | exact HB.out)); rintro e w81 ⟨rfl, hb⟩; refine ⟨_, rfl, ?_⟩; have n0_ := Aside0.mk (Kd.R_below (by (with_reducible repeat (first | apply Kd.R_alloc | apply Kd.R_drewN | apply Kd.R_drew)); exact HO_3.out) hb); have n1_ := Aside0.mk (Kd.R_below (by (with_reducible repeat (first | apply Kd.R_alloc | apply Kd.R_drewN | apply Kd.R_drew)); exact HO_7.out) hb); have n2_ := Aside0.mk (Kd.R_below (by (with_reducible repeat (first | apply Kd.R_alloc | apply Kd.R_drewN | apply Kd.R_drew)); exact HO133.out) hb); have n3_ := Aside0.mk (below_step bq hb); clear HO_3; clear HO_7; clear HO133; clear HB; have HO_3 := n0_; have HO_7 := n1_; have HO133 := n2_; have HB := n3_; clear n0_ n1_ n2_ n3_; (try clear hb); (try clear hb2); (try clear hk); (try clear hi)))
             go_ret
             exact ⟨by first | rfl | (simp [errW_none, errW_some] <;> rfl) | (simp [*, errW_none, errW_some] <;> rfl), bq⟩
           ·rw [if_neg c47] at H
            have c47b0 : decide (t106 ≤ 2147483648) = false := decide_eq_false c47
            clear c47
            obtain rfl := Option.some.inj H
            go_wp2_with (first | ((with_reducible refine gate_dst (N := 104) rfl ?_); (try (refine gate_guard (by rfl) ?_; dsimp only)); refine Kd.R_lit k99 _ 99 ?hg (N := 104) ?hd (xs := ([] : List (S99))) (inner := []) (ok := fun _ => True) (okp := fun _ => True) ?hr ?hp (fun _ hk => hk) trivial (Below.refl _ _) (Nat.le_refl _) (by simp) ?_; (case hd => rfl); (case hg => rfl); (case hr => first | (go_simp; done) | (go_simp; rfl)); (case hp => exact (Reps.none _ _)); intro v126 w82 ho83 hb hg_ hnew_; clear hg_ hnew_; (first | rw [← Ny125.out] at ho83 | (simp only [Int.reduceToNat] at ho83; rw [← Ny125.out] at ho83)); have n0_ := Aside0.mk (Kd.R_elder' (by (with_reducible repeat (first | apply Kd.R_alloc | apply Kd.R_drewN | apply Kd.R_drew)); exact HO_3.out) (Kd.R_base ho83) hb); have n1_ := Aside0.mk (Kd.R_below (by (with_reducible repeat (first | apply Kd.R_alloc | apply Kd.R_drewN | apply Kd.R_drew)); exact HO_7.out) hb); have n2_ := Aside0.mk (Kd.R_lower (Kd.R_new' ho83 (Kd.R_lt (by (with_reducible repeat (first | apply Kd.R_alloc | apply Kd.R_drewN | apply Kd.R_drew)); exact HO_3.out))) (below_size bq)); have n3_ := Aside0.mk (below_step bq hb); clear HO_3; clear HO_7; clear HB; have HO_3 := n0_; have HO_7 := n1_; have HO127 := n2_; have HB := n3_; clear n0_ n1_ n2_ n3_; clear hb ho83) | ((with_reducible refine gate_builtin (b := .append) (xs := #[.tmp 104, .tmp 105]) rfl ?_); (try (refine gate_guard (by rfl) ?_; dsimp only)); at_builtin; refine Kd.R_append_rows k99 (w0 := w) w.heap.size rfl (.tmp 104) (.tmp 105) 27 99 (.agg #[(.string ⟨#[]⟩), (.string ⟨#[]⟩)]) 32 rfl Tryz.underlying27 info99 rfl (by decide) (by omega) v126 y125 t102 _ _ _ (fun k_ => some k_ ≠ (.slice Ao8 t102.length co8 : Value).ownBlock) (fun _ => False) rfl rfl ?aO ?aR (fun _ _ h => h) (fun _ h => h.elim) ?aF ?aB ?aS ?aL ?_; (case aR => repeat (first | exact (Kd.R_reads' HO_3.out).2.2 | (with_reducible refine Kd.C_alloc ?_ _) | (with_reducible refine Kd.C_drewN ?_ _) | (with_reducible refine Kd.C_drew ?_))); (case aB => exact bq); (case aF => exact (fun k_ hk => Kd.fresh' (Kd.R_lt (by (with_reducible repeat (first | apply Kd.R_alloc | apply Kd.R_drewN | apply Kd.R_drew)); exact HO_3.out)) k_ hk)); (case aO => exact (by (with_reducible repeat (first | apply Kd.R_alloc | apply Kd.R_drewN | apply Kd.R_drew)); exact Kd.R_mono HO127.out (fun _ hk => hk.2))); (case aS => exact (below_size bq)); (case aL => have := LMc43.out; omega); intro v129 w84 ho hb hg hat; rw [← Ny128.out] at ho; have n0_ := Aside0.mk (Kd.R_after (ok := (fun _ => True)) (by (with_reducible repeat (first | apply Kd.R_alloc | apply Kd.R_drewN | apply Kd.R_drew)); exact HO_3.out) hg hat); have n1_ := Aside0.mk (Kd.R_over' (by (with_reducible repeat (first | apply Kd.R_alloc | apply Kd.R_drewN | apply Kd.R_drew)); exact HO_7.out) (Kd.R_typed (by (with_reducible repeat (first | apply Kd.R_alloc | apply Kd.R_drewN | apply Kd.R_drew)); exact HO127.out)) (by decide) hg); have n2_ := Aside0.mk (hb); have n3_ := Aside0.mk (ho); clear HO_3; clear HO_7; clear HB; clear HO127; have HO_3 := n0_; have HO_7 := n1_; have HB := n2_; have HO130 := n3_; clear n0_ n1_ n2_ n3_; clear ho hb hg hat) | ((with_reducible refine gate_builtin (b := .append) (xs := #[.tmp 106, .tmp 107]) rfl ?_); (try (refine gate_guard (by rfl) ?_; dsimp only)); at_builtin; refine Kd.R_append_rows k99 (w0 := w) w.heap.size rfl (.tmp 106) (.tmp 107) 27 99 (.agg #[(.string ⟨#[]⟩), (.string ⟨#[]⟩)]) 32 rfl Tryz.underlying27 info99 rfl (by decide) (by omega) v129 y128 t102 _ _ _ (fun k_ => some k_ ≠ (.slice Ao8 t102.length co8 : Value).ownBlock) (fun _ => False) rfl rfl ?aO ?aR (fun _ _ h => h) (fun _ h => h.elim) ?aF ?aB ?aS ?aL ?_; (case aR => repeat (first | exact (Kd.R_reads' HO_3.out).2.2 | (with_reducible refine Kd.C_alloc ?_ _) | (with_reducible refine Kd.C_drewN ?_ _) | (with_reducible refine Kd.C_drew ?_))); (case aB => exact bq); (case aF => exact (fun k_ hk => Kd.fresh' (Kd.R_lt (by (with_reducible repeat (first | apply Kd.R_alloc | apply Kd.R_drewN | apply Kd.R_drew)); exact HO_3.out)) k_ hk)); (case aO => exact (by (with_reducible repeat (first | apply Kd.R_alloc | apply Kd.R_drewN | apply Kd.R_drew)); exact HO130.out)); (case aS => exact (below_size bq)); (case aL => have := LMc44.out; omega); intro v132 w85 ho hb hg hat; rw [← Ny131.out] at ho; have n0_ := Aside0.mk (Kd.R_after (ok := (fun _ => True)) (by (with_reducible repeat (first | apply Kd.R_alloc | apply Kd.R_drewN | apply Kd.R_drew)); exact HO_3.out) hg hat); have n1_ := Aside0.mk (Kd.R_over' (by (with_reducible repeat (first | apply Kd.R_alloc | apply Kd.R_drewN | apply Kd.R_drew)); exact HO_7.out) (Kd.R_typed (by (with_reducible repeat (first | apply Kd.R_alloc | apply Kd.R_drewN | apply Kd.R_drew)); exact HO130.out)) (by decide) hg); have n2_ := Aside0.mk (hb); have n3_ := Aside0.mk (ho); clear HO_3; clear HO_7; clear HB; clear HO130; have HO_3 := n0_; have HO_7 := n1_; have HB := n2_; have HO133 := n3_; clear n0_ n1_ n2_ n3_; clear ho hb hg hat; obtain ⟨Ao86, co86, eo86⟩ := Kd.R_slice HO133.out; subst eo86) | ((with_reducible refine gate_callee (f := 20) rfl ?_); refine goesL_ (some 112) rfl rfl Tryz.func20 (by kernel_rfl) rfl #[.slice Ao86 y131.length co86, .string t103] rfl am ?_; (with_reducible refine (impl_CcSeconds.calls kj33 _ _ y131 t103 t134 t135 _ ?side1 ?side2 ?side3 ?side4 A45.out).mono ?_); (case side1 => repeat (first | exact (Kd.R_reads' HO133.out).2.2 | (with_reducible refine Kd.C_alloc ?_ _) | (with_reducible refine Kd.C_drewN ?_ _) | (with_reducible refine Kd.C_drew ?_))); (case side2 => exact (Kd.R_reads' HO133.out).2.1); (case side3 => refine GErr.of_below HGErr.out ?_; repeat (first | (with_reducible first | exact HB.out | apply below_alloc | apply pw_below_drewN | apply below_drew1) | exact HB.out)); (case side4 => refine GMax.of_below HGMax.out ?_; repeat (first | (with_reducible first | exact HB.out | apply below_alloc | apply pw_below_drewN | apply below_drew1) | exact HB.out)); rintro e w87 ⟨rfl, hb⟩; refine ⟨_, rfl, ?_⟩; have n0_ := Aside0.mk (Kd.R_below (by (with_reducible repeat (first | apply Kd.R_alloc | apply Kd.R_drewN | apply Kd.R_drew)); exact HO_3.out) hb); have n1_ := Aside0.mk (Kd.R_below (by (with_reducible repeat (first | apply Kd.R_alloc | apply Kd.R_drewN | apply Kd.R_drew)); exact HO_7.out) hb); have n2_ := Aside0.mk (Kd.R_below (by (with_reducible repeat (first | apply Kd.R_alloc | apply Kd.R_drewN | apply Kd.R_drew)); exact HO133.out) hb); have n3_ := Aside0.mk (below_step bq hb); clear HO_3; clear HO_7; clear HO133; clear HB; have HO_3 := n0_; have HO_7 := n1_; have HO133 := n2_; have HB := n3_; clear n0_ n1_ n2_ n3_; (try clear hb); (try clear hb2); (try clear hk); (try clear hi)))
            go_ret
            exact ⟨by first | rfl | (simp [errW_none, errW_some] <;> rfl) | (simp [*, errW_none, errW_some] <;> rfl), bq⟩
          ·rw [if_neg c46] at H
           have c46b0 : decide (0 ≤ t106) = false := decide_eq_false c46
           clear c46
           obtain rfl := Option.some.inj H
           go_wp2_with (first | ((with_reducible refine gate_dst (N := 104) rfl ?_); (try (refine gate_guard (by rfl) ?_; dsimp only)); refine Kd.R_lit k99 _ 99 ?hg (N := 104) ?hd (xs := ([] : List (S99))) (inner := []) (ok := fun _ => True) (okp := fun _ => True) ?hr ?hp (fun _ hk => hk) trivial (Below.refl _ _) (Nat.le_refl _) (by simp) ?_; (case hd => rfl); (case hg => rfl); (case hr => first | (go_simp; done) | (go_simp; rfl)); (case hp => exact (Reps.none _ _)); intro v126 w88 ho89 hb hg_ hnew_; clear hg_ hnew_; (first | rw [← Ny125.out] at ho89 | (simp only [Int.reduceToNat] at ho89; rw [← Ny125.out] at ho89)); have n0_ := Aside0.mk (Kd.R_elder' (by (with_reducible repeat (first | apply Kd.R_alloc | apply Kd.R_drewN | apply Kd.R_drew)); exact HO_3.out) (Kd.R_base ho89) hb); have n1_ := Aside0.mk (Kd.R_below (by (with_reducible repeat (first | apply Kd.R_alloc | apply Kd.R_drewN | apply Kd.R_drew)); exact HO_7.out) hb); have n2_ := Aside0.mk (Kd.R_lower (Kd.R_new' ho89 (Kd.R_lt (by (with_reducible repeat (first | apply Kd.R_alloc | apply Kd.R_drewN | apply Kd.R_drew)); exact HO_3.out))) (below_size bq)); have n3_ := Aside0.mk (below_step bq hb); clear HO_3; clear HO_7; clear HB; have HO_3 := n0_; have HO_7 := n1_; have HO127 := n2_; have HB := n3_; clear n0_ n1_ n2_ n3_; clear hb ho89) | ((with_reducible refine gate_builtin (b := .append) (xs := #[.tmp 104, .tmp 105]) rfl ?_); (try (refine gate_guard (by rfl) ?_; dsimp only)); at_builtin; refine Kd.R_append_rows k99 (w0 := w) w.heap.size rfl (.tmp 104) (.tmp 105) 27 99 (.agg #[(.string ⟨#[]⟩), (.string ⟨#[]⟩)]) 32 rfl Tryz.underlying27 info99 rfl (by decide) (by omega) v126 y125 t102 _ _ _ (fun k_ => some k_ ≠ (.slice Ao8 t102.length co8 : Value).ownBlock) (fun _ => False) rfl rfl ?aO ?aR (fun _ _ h => h) (fun _ h => h.elim) ?aF ?aB ?aS ?aL ?_; (case aR => repeat (first | exact (Kd.R_reads' HO_3.out).2.2 | (with_reducible refine Kd.C_alloc ?_ _) | (with_reducible refine Kd.C_drewN ?_ _) | (with_reducible refine Kd.C_drew ?_))); (case aB => exact bq); (case aF => exact (fun k_ hk => Kd.fresh' (Kd.R_lt (by (with_reducible repeat (first | apply Kd.R_alloc | apply Kd.R_drewN | apply Kd.R_drew)); exact HO_3.out)) k_ hk)); (case aO => exact (by (with_reducible repeat (first | apply Kd.R_alloc | apply Kd.R_drewN | apply Kd.R_drew)); exact Kd.R_mono HO127.out (fun _ hk => hk.2))); (case aS => exact (below_size bq)); (case aL => have := LMc43.out; omega); intro v129 w90 ho hb hg hat; rw [← Ny128.out] at ho; have n0_ := Aside0.mk (Kd.R_after (ok := (fun _ => True)) (by (with_reducible repeat (first | apply Kd.R_alloc | apply Kd.R_drewN | apply Kd.R_drew)); exact HO_3.out) hg hat); have n1_ := Aside0.mk (Kd.R_over' (by (with_reducible repeat (first | apply Kd.R_alloc | apply Kd.R_drewN | apply Kd.R_drew)); exact HO_7.out) (Kd.R_typed (by (with_reducible repeat (first | apply Kd.R_alloc | apply Kd.R_drewN | apply Kd.R_drew)); exact HO127.out)) (by decide) hg); have n2_ := Aside0.mk (hb); have n3_ := Aside0.mk (ho); clear HO_3; clear HO_7; clear HB; clear HO127; have HO_3 := n0_; have HO_7 := n1_; have HB := n2_; have HO130 := n3_; clear n0_ n1_ n2_ n3_; clear ho hb hg hat) | ((with_reducible refine gate_builtin (b := .append) (xs := #[.tmp 106, .tmp 107]) rfl ?_); (try (refine gate_guard (by rfl) ?_; dsimp only)); at_builtin; refine Kd.R_append_rows k99 (w0 := w) w.heap.size rfl (.tmp 106) (.tmp 107) 27 99 (.agg #[(.string ⟨#[]⟩), (.string ⟨#[]⟩)]) 32 rfl Tryz.underlying27 info99 rfl (by decide) (by omega) v129 y128 t102 _ _ _ (fun k_ => some k_ ≠ (.slice Ao8 t102.length co8 : Value).ownBlock) (fun _ => False) rfl rfl ?aO ?aR (fun _ _ h => h) (fun _ h => h.elim) ?aF ?aB ?aS ?aL ?_; (case aR => repeat (first | exact (Kd.R_reads' HO_3.out).2.2 | (with_reducible refine Kd.C_alloc ?_ _) | (with_reducible refine Kd.C_drewN ?_ _) | (with_reducible refine Kd.C_drew ?_))); (case aB => exact bq); (case aF => exact (fun k_ hk => Kd.fresh' (Kd.R_lt (by (with_reducible repeat (first | apply Kd.R_alloc | apply Kd.R_drewN | apply Kd.R_drew)); exact HO_3.out)) k_ hk)); (case aO => exact (by (with_reducible repeat (first | apply Kd.R_alloc | apply Kd.R_drewN | apply Kd.R_drew)); exact HO130.out)); (case aS => exact (below_size bq)); (case aL => have := LMc44.out; omega); intro v132 w91 ho hb hg hat; rw [← Ny131.out] at ho; have n0_ := Aside0.mk (Kd.R_after (ok := (fun _ => True)) (by (with_reducible repeat (first | apply Kd.R_alloc | apply Kd.R_drewN | apply Kd.R_drew)); exact HO_3.out) hg hat); have n1_ := Aside0.mk (Kd.R_over' (by (with_reducible repeat (first | apply Kd.R_alloc | apply Kd.R_drewN | apply Kd.R_drew)); exact HO_7.out) (Kd.R_typed (by (with_reducible repeat (first | apply Kd.R_alloc | apply Kd.R_drewN | apply Kd.R_drew)); exact HO130.out)) (by decide) hg); have n2_ := Aside0.mk (hb); have n3_ := Aside0.mk (ho); clear HO_3; clear HO_7; clear HB; clear HO130; have HO_3 := n0_; have HO_7 := n1_; have HB := n2_; have HO133 := n3_; clear n0_ n1_ n2_ n3_; clear ho hb hg hat; obtain ⟨Ao92, co92, eo92⟩ := Kd.R_slice HO133.out; subst eo92) | ((with_reducible refine gate_callee (f := 20) rfl ?_); refine goesL_ (some 112) rfl rfl Tryz.func20 (by kernel_rfl) rfl #[.slice Ao92 y131.length co92, .string t103] rfl am ?_; (with_reducible refine (impl_CcSeconds.calls kj33 _ _ y131 t103 t134 t135 _ ?side1 ?side2 ?side3 ?side4 A45.out).mono ?_); (case side1 => repeat (first | exact (Kd.R_reads' HO133.out).2.2 | (with_reducible refine Kd.C_alloc ?_ _) | (with_reducible refine Kd.C_drewN ?_ _) | (with_reducible refine Kd.C_drew ?_))); (case side2 => exact (Kd.R_reads' HO133.out).2.1); (case side3 => refine GErr.of_below HGErr.out ?_; repeat (first | (with_reducible first | exact HB.out | apply below_alloc | apply pw_below_drewN | apply below_drew1) | exact HB.out)); (case side4 => refine GMax.of_below HGMax.out ?_; repeat (first | (with_reducible first | exact HB.out | apply below_alloc | apply pw_below_drewN | apply below_drew1) | exact HB.out)); rintro e w93 ⟨rfl, hb⟩; refine ⟨_, rfl, ?_⟩; have n0_ := Aside0.mk (Kd.R_below (by (with_reducible repeat (first | apply Kd.R_alloc | apply Kd.R_drewN | apply Kd.R_drew)); exact HO_3.out) hb); have n1_ := Aside0.mk (Kd.R_below (by (with_reducible repeat (first | apply Kd.R_alloc | apply Kd.R_drewN | apply Kd.R_drew)); exact HO_7.out) hb); have n2_ := Aside0.mk (Kd.R_below (by (with_reducible repeat (first | apply Kd.R_alloc | apply Kd.R_drewN | apply Kd.R_drew)); exact HO133.out) hb); have n3_ := Aside0.mk (below_step bq hb); clear HO_3; clear HO_7; clear HO133; clear HB; have HO_3 := n0_; have HO_7 := n1_; have HO133 := n2_; have HB := n3_; clear n0_ n1_ n2_ n3_; (try clear hb); (try clear hb2); (try clear hk); (try clear hi)))
           go_ret
           exact ⟨by first | rfl | (simp [errW_none, errW_some] <;> rfl) | (simp [*, errW_none, errW_some] <;> rfl), bq⟩
         ·rw [if_neg c44] at H
          exact absurd H (by simp)
        ·rw [if_neg c43] at H
         exact absurd H (by simp)

end Go.Proofs.YtjldfmkpdkhnnaaGreatDoor.QL

namespace Go.Proofs.YtjldfmkpdkhnnaaGreatDoor.QL
open Go.RowKit Go.Proofs.YtjldfmkpdkhnnaaGreatDoorW.PrintWords Go.Proofs.YtjldfmkpdkhnnaaGreatDoorW.PrintLast Go.Proofs.YtjldfmkpdkhnnaaGreatDoorW.PrintMore Go.Proofs.YtjldfmkpdkhnnaaGreatDoor.Aux Go.Proofs.YtjldfmkpdkhnnaaGreatDoor.Dom Go.Proofs.YtjldfmkpdkhnnaaGreatDoor.Ext Go.Proofs.YtjldfmkpdkhnnaaGreatDoor.Glob
def laws_FnDirectives.Pure : Prop := ∀ (l0 : List Int), l0.length ≤ maxLen → l0.length * 1 ≤ 140737488351232 → (∀ x ∈ l0, (Lit.int .u8 x).wf = true) → ∃ k, laws_FnDirectives.f k l0 = some true
theorem laws_FnDirectives.walk (P : laws_FnDirectives.Pure) (a0 : Option Addr) (len0 cap0 : Nat) (z0 : List Int) (w : World) (w0 : (a0 = none ∧ len0 = 0 ∧ cap0 = 0 ∧ z0 = []) ∨ ∃ x, a0 = some x ∧ len0 ≤ cap0 ∧ cap0 ≤ maxLen ∧ z0.length = cap0 ∧ (∀ i, i < z0.length → w.cell? (x.add i) = some (.int .u8 (z0.getD i 0))) ∧ ∀ n ∈ z0, (Lit.int .u8 n).wf = true) (y0 : len0 * 1 ≤ 140737488351232) (hGErr : GErr w) (hGMax : GMax w) :
    Calls Tryz.prog 6 #[.slice a0 len0 cap0] w fun e w' => e = .returned (.bool true) ∧ Below w.heap.size w w' := by
  obtain ⟨l0, rfl, hr0, hm0, hw0, hc0⟩ := ReadsInt.ofRowC w0
  obtain ⟨k, h⟩ := P l0 hm0 y0 hw0
  refine (laws_FnDirectives.calls k _ _ l0 true w (Kd.C_of_reads (d := (0 : Int)) (h1 := fun _ => rfl) hr0) hc0 hGErr hGMax h).mono ?_
  rintro e w' ⟨rfl, hd⟩
  exact ⟨rfl, hd⟩
end Go.Proofs.YtjldfmkpdkhnnaaGreatDoor.QL

namespace Go.Proofs.YtjldfmkpdkhnnaaGreatDoor.Dom
open Go.RowKit Go.Proofs.YtjldfmkpdkhnnaaGreatDoorW.PrintWords Go.Proofs.YtjldfmkpdkhnnaaGreatDoorW.PrintLast Go.Proofs.YtjldfmkpdkhnnaaGreatDoorW.PrintMore Go.Proofs.YtjldfmkpdkhnnaaGreatDoor.Aux

def szL : Int → List (ByteArray × ByteArray) → Int
  | n, [] => n
  | n, p :: r => if n - (p.1.size : Int) - (p.2.size : Int) < 0 then -1 else szL (n - (p.1.size : Int) - (p.2.size : Int)) r
def szF (n : Int) (l : List (ByteArray × ByteArray)) : Int := if n - (l.length : Int) < 0 then -1 else szL (n - l.length) l
theorem szF_len {n : Int} {l : List (ByteArray × ByteArray)} (h : ¬ szF n l < 0) : (l.length : Int) ≤ n := by
  unfold szF at h
  split at h
  · exact absurd (by omega) h
  · omega
def getL (nm : ByteArray) : List (ByteArray × ByteArray) → List ByteArray
  | [] => []
  | p :: r => if p.1 = nm then p.2 :: getL nm r else getL nm r
theorem szL_sum (nm : ByteArray) : ∀ (l : List (ByteArray × ByteArray)) (n : Int), 0 ≤ n → ¬ szL n l < 0 → ((((getL nm l).map fun v => v.size + 2).sum : Nat) : Int) ≤ n + 2 * l.length
  | [], n, h0, _ => by simp [getL]; omega
  | q :: r, n, h0, h => by
    rw [szL] at h
    split at h
    · exact absurd (by omega) h
    · rename_i h1
      have ih := szL_sum nm r _ (by omega) h
      rw [getL]
      split
      · rw [List.map_cons, List.sum_cons, List.length_cons]
        omega
      · rw [List.length_cons]
        omega
theorem szF_sum (nm : ByteArray) {n : Int} {l : List (ByteArray × ByteArray)} (h0 : 0 ≤ n) (h : ¬ szF n l < 0) : ((((getL nm l).map fun v => v.size + 2).sum : Nat) : Int) ≤ 3 * n := by
  have h1 := szF_len h
  unfold szF at h
  split at h
  · exact absurd (by omega) h
  · have := szL_sum nm l _ (by omega) h
    omega
theorem getL_length (nm : ByteArray) : ∀ l : List (ByteArray × ByteArray), (getL nm l).length ≤ l.length
  | [] => by simp [getL]
  | q :: r => by
    have := getL_length nm r
    rw [getL]
    split <;> simp <;> omega
def tokB (l : List Int) : Bool := l.all tokC && !l.isEmpty
def leapB (y : Int) : Bool := decide ((y % 4 = 0 ∧ y % 100 ≠ 0) ∨ y % 400 = 0)
def yearD (y : Int) : Int := if leapB y then 366 else 365
def monthD (y m : Int) : Int := if m = 2 then (if leapB y then 29 else 28) else if m = 4 ∨ m = 6 ∨ m = 9 ∨ m = 11 then 30 else 31
def yearsD : Nat → Int → Int
  | 0, _ => 0
  | d + 1, y => yearD y + yearsD d (y + 1)
def monthsD (y : Int) : Nat → Int → Int
  | 0, _ => 0
  | d + 1, m => monthD y m + monthsD y d (m + 1)
def daysP (y m d : Int) : Int := if (1970 ≤ y ∧ y ≤ 2037) ∧ (1 ≤ m ∧ m ≤ 12) ∧ (1 ≤ d ∧ d ≤ monthD y m) then d - 1 + yearsD (y - 1970).toNat 1970 + monthsD y (m - 1).toNat 1 else -1
theorem yearD_bd (y : Int) : 365 ≤ yearD y ∧ yearD y ≤ 366 := by unfold yearD; split <;> omega
theorem monthD_bd (y m : Int) : 28 ≤ monthD y m ∧ monthD y m ≤ 31 := by
  unfold monthD
  split
  · split <;> omega
  · split <;> omega
theorem yearsD_bd : ∀ (d : Nat) (y : Int), 365 * (d : Int) ≤ yearsD d y ∧ yearsD d y ≤ 366 * (d : Int)
  | 0, _ => by simp [yearsD]
  | d + 1, y => by
    have := yearsD_bd d (y + 1)
    have := yearD_bd y
    rw [yearsD]; omega
theorem monthsD_bd (y : Int) : ∀ (d : Nat) (m : Int), 28 * (d : Int) ≤ monthsD y d m ∧ monthsD y d m ≤ 31 * (d : Int)
  | 0, _ => by simp [monthsD]
  | d + 1, m => by
    have := monthsD_bd y d (m + 1)
    have := monthD_bd y m
    rw [monthsD]; omega

theorem toList_lit (b : ByteArray) (xs : List UInt8) : b.toList = xs ↔ bytesOf b = xs.map fun c => (c.toNat : Int) := by
  rw [Lib.toList_data]
  unfold bytesOf
  constructor
  · intro h; rw [h]
  · intro h
    exact List.map_inj_right (f := fun b : UInt8 => (b.toNat : Int)) (fun x y hxy => UInt8.toNat_inj.1 (by exact_mod_cast hxy)) |>.1 h
theorem idxS_bound (sub : List Int) : ∀ l : List Int, idxS l sub = -1 ∨ (0 ≤ idxS l sub ∧ idxS l sub + sub.length ≤ l.length)
  | [] => by
    cases sub with
    | nil => right; simp [idxS]
    | cons a s => left; rfl
  | b :: l => by
    rw [idxS]
    by_cases h : sub.isPrefixOf (b :: l) = true
    · rw [if_pos h]
      right
      have := (List.isPrefixOf_iff_prefix.1 h).length_le
      exact ⟨by omega, by omega⟩
    · rw [if_neg h]
      rcases idxS_bound sub l with h1 | h1
      · left; rw [if_pos h1]
      · right
        rw [if_neg (by omega), List.length_cons]
        omega
theorem bytesOf_last {s : ByteArray} {d : Nat} (h : s.size = d + 1) : bytesOf s = (bytesOf s).take d ++ [bt s (d : Int)] := by
  have hl := bytesOf_length s
  have hd : d < (bytesOf s).length := by omega
  rw [bt_get s d hd]
  conv => lhs; rw [← List.take_append_drop d (bytesOf s), List.drop_eq_getElem_cons hd, List.drop_of_length_le (by omega)]
theorem bytesOf_nil {s : ByteArray} (h : s.size = 0) : bytesOf s = [] := List.eq_nil_of_length_eq_zero (by rw [bytesOf_length]; exact h)
def lowB (s : ByteArray) : ByteArray := strOfNums ((bytesOf s).map lowC)
def comL : List Int → Bool → Bool → Int → List Int
  | [], _, _, _ => []
  | _ :: r, q, true, i => comL r q false (i + 1)
  | c :: r, q, false, i => if c = 34 then comL r (!q) false (i + 1) else if q = true ∧ c = 92 then comL r q true (i + 1) else if q = false ∧ c = 44 then i :: comL r q false (i + 1) else comL r q false (i + 1)
def splL (s : ByteArray) : Int → List Int → List ByteArray
  | _, [] => []
  | a, b :: r => if trimB (s.extract a.toNat b.toNat) = ⟨#[]⟩ then splL s (b + 1) r else trimB (s.extract a.toNat b.toNat) :: splL s (b + 1) r
def upL (n : Int) : Int → List Int → Prop
  | _, [] => True
  | a, b :: r => a ≤ b ∧ b ≤ n ∧ upL n (b + 1) r
theorem comL_up (n : Int) : ∀ (l : List Int) (q k : Bool) (a i : Int), a ≤ i → i + l.length = n → upL n a (comL l q k i ++ [n])
  | [], q, k, a, i, ha, hn => by
    simp only [comL, List.nil_append, upL, List.length_nil] at hn ⊢
    exact ⟨by omega, by omega, trivial⟩
  | c :: r, q, true, a, i, ha, hn => by
    rw [comL]
    exact comL_up n r q false a (i + 1) (by omega) (by simp at hn; omega)
  | c :: r, q, false, a, i, ha, hn => by
    simp only [List.length_cons] at hn
    rw [comL]
    split
    · exact comL_up n r _ false a (i + 1) (by omega) (by omega)
    · split
      · exact comL_up n r _ true a (i + 1) (by omega) (by omega)
      · split
        · rw [List.cons_append]
          exact ⟨ha, by omega, comL_up n r _ false (i + 1) (i + 1) (by omega) (by omega)⟩
        · exact comL_up n r _ false a (i + 1) (by omega) (by omega)
theorem comL_length : ∀ (l : List Int) (q k : Bool) (i : Int), (comL l q k i).length ≤ l.length
  | [], q, k, i => by simp [comL]
  | c :: r, q, true, i => by
    have := comL_length r q false (i + 1)
    rw [comL, List.length_cons]
    omega
  | c :: r, q, false, i => by
    have h1 := comL_length r (!q) false (i + 1)
    have h2 := comL_length r q true (i + 1)
    have h3 := comL_length r q false (i + 1)
    rw [comL, List.length_cons]
    split
    · omega
    · split
      · omega
      · split
        · rw [List.length_cons]; omega
        · omega
theorem splL_length (s : ByteArray) : ∀ (l : List Int) (a : Int), (splL s a l).length ≤ l.length
  | [], a => by simp [splL]
  | b :: r, a => by
    have := splL_length s r (b + 1)
    rw [splL, List.length_cons]
    split
    · omega
    · rw [List.length_cons]; omega
theorem trim_nil (b : ByteArray) : b.toList = ([] : List UInt8) ↔ b = ⟨#[]⟩ := by
  rw [toList_lit]
  constructor
  · intro h
    refine bytesOf_inj (h.trans ?_)
    rfl
  · rintro rfl
    rfl
theorem idxS_one (b c : Int) (r : List Int) : idxS (b :: r) [c] = if c = b then 0 else if idxS r [c] = -1 then -1 else idxS r [c] + 1 := by
  rw [idxS]
  by_cases h : c = b
  · subst h
    simp [List.isPrefixOf]
  · rw [if_neg h, if_neg (by simp [List.isPrefixOf, h])]
theorem trim_range {s : ByteArray} : (trimB s).size ≤ s.size := by
  unfold trimB
  rw [strOfNums_size]
  unfold trimC
  have h1 := (List.dropWhile_sublist blkC (l := ((bytesOf s).reverse.dropWhile blkC).reverse)).length_le
  have h2 := (List.dropWhile_sublist blkC (l := (bytesOf s).reverse)).length_le
  have h3 := bytesOf_length s
  simp only [List.length_reverse] at h1 h2
  omega
theorem low_range {s : ByteArray} : (lowB s).size = s.size := by
  unfold lowB
  rw [strOfNums_size, List.length_map, bytesOf_length]
def digC (c : Int) : Bool := decide (48 ≤ c) && decide (c ≤ 57)
def valL : Int → List Int → Int
  | n, [] => n
  | n, c :: r => valL (n * 10 + (c - 48)) r
def satV : Int → List Int → Int
  | n, [] => n
  | n, c :: r => satV (mn (n * 10 + (c - 48)) 2147483648) r
def secP (l : List Int) : Int × Bool := if l.all digC = true then (satV 0 l, decide (0 < l.length)) else (0, false)
theorem digC_iff {c : Int} : digC c = true ↔ 48 ≤ c ∧ c ≤ 57 := by unfold digC; rw [Bool.and_eq_true, decide_eq_true_eq, decide_eq_true_eq]
theorem mn_le {a b : Int} (h : a ≤ b) : mn a b = a := by unfold mn; split <;> omega
theorem mn_ge {a b : Int} (h : b ≤ a) : mn a b = b := by unfold mn; split <;> omega
theorem valL_pow : ∀ (l : List Int) (n : Int), 0 ≤ n → l.all digC = true → n * 10 ^ l.length ≤ valL n l
  | [], n, _, _ => by simp [valL]
  | c :: r, n, h0, h => by
    rw [List.all_cons, Bool.and_eq_true, digC_iff] at h
    have ih := valL_pow r (n * 10 + (c - 48)) (by omega) h.2
    rw [valL, List.length_cons, Int.pow_succ]
    refine Int.le_trans ?_ ih
    have hp : (0 : Int) ≤ 10 ^ r.length := Int.le_of_lt (Int.pow_pos (by decide))
    have h2 : 0 ≤ (c - 48) * 10 ^ r.length := Int.mul_nonneg (by omega) hp
    have e : (n * 10 + (c - 48)) * 10 ^ r.length = n * (10 ^ r.length * 10) + (c - 48) * 10 ^ r.length := by
      rw [Int.add_mul, Int.mul_assoc, Int.mul_comm 10]
    rw [e]
    omega
theorem valL_self (l : List Int) (n : Int) (h0 : 0 ≤ n) (h : l.all digC = true) : n ≤ valL n l := by
  have h1 := valL_pow l n h0 h
  have hp : (1 : Int) ≤ 10 ^ l.length := by have : (0 : Int) < 10 ^ l.length := Int.pow_pos (by decide); omega
  have h2 : n * 1 ≤ n * 10 ^ l.length := Int.mul_le_mul_of_nonneg_left hp h0
  omega
theorem satV_eq : ∀ (l : List Int) (n : Int), 0 ≤ n → n ≤ 2147483648 → l.all digC = true → satV n l = mn (valL n l) 2147483648
  | [], n, _, h1, _ => by rw [satV, valL, mn_le h1]
  | c :: r, n, h0, h1, h => by
    have hh := h
    rw [List.all_cons, Bool.and_eq_true, digC_iff] at hh
    rw [satV, valL]
    by_cases ha : n * 10 + (c - 48) ≤ 2147483648
    · rw [mn_le ha]
      exact satV_eq r _ (by omega) ha hh.2
    · rw [mn_ge (by omega), satV_eq r 2147483648 (by decide) (by decide) hh.2]
      have a1 := valL_self r 2147483648 (by decide) hh.2
      have a2 := valL_self r (n * 10 + (c - 48)) (by omega) hh.2
      rw [mn_ge a1, mn_ge (by omega)]
theorem valL_cut : ∀ l : List Int, valL 0 (cutC 48 l) = valL 0 l
  | [] => rfl
  | c :: r => by
    by_cases h : c = 48
    · subst h
      have e : cutC 48 (48 :: r) = cutC 48 r := List.dropWhile_cons_of_pos (by decide)
      rw [e, valL_cut r]
      rfl
    · have e : cutC 48 (c :: r) = c :: r := List.dropWhile_cons_of_neg (by simpa using h)
      rw [e]
theorem cutC_head : ∀ l : List Int, cutC 48 l = [] ∨ ∃ c r, cutC 48 l = c :: r ∧ c ≠ 48
  | [] => .inl rfl
  | c :: r => by
    by_cases h : c = 48
    · subst h
      have e : cutC 48 (48 :: r) = cutC 48 r := List.dropWhile_cons_of_pos (by decide)
      rw [e]
      exact cutC_head r
    · have e : cutC 48 (c :: r) = c :: r := List.dropWhile_cons_of_neg (by simpa using h)
      exact .inr ⟨c, r, e, h⟩
theorem cutC_all {l : List Int} (h : l.all digC = true) : (cutC 48 l).all digC = true := by
  rw [List.all_eq_true] at h ⊢
  exact fun x hx => h x (List.dropWhile_sublist _ |>.mem hx)
theorem cutC_big {l : List Int} (h : l.all digC = true) (hl : 10 < (cutC 48 l).length) : 2147483648 ≤ valL 0 (cutC 48 l) := by
  have ha := cutC_all h
  rcases cutC_head l with e | ⟨c, r, e, hc⟩
  · rw [e] at hl; simp at hl
  · rw [e] at hl ha ⊢
    rw [List.all_cons, Bool.and_eq_true, digC_iff] at ha
    rw [valL]
    have h1 := valL_pow r (0 * 10 + (c - 48)) (by omega) ha.2
    have hp : (10 : Int) ^ 10 ≤ 10 ^ r.length := pow_le 10 (by decide) (by simp at hl; omega)
    have h2 : 1 * (10 : Int) ^ r.length ≤ (0 * 10 + (c - 48)) * 10 ^ r.length := Int.mul_le_mul_of_nonneg_right (by omega) (by omega)
    have h3 : (10 : Int) ^ 10 = 10000000000 := by decide
    omega
theorem decFrom_val : ∀ (l : List UInt8) (n : Nat), (l.map fun b : UInt8 => (b.toNat : Int)).all digC = true → ∃ m : Nat, Lib.decFrom n l = some m ∧ (m : Int) = valL n (l.map fun b : UInt8 => (b.toNat : Int))
  | [], n, _ => ⟨n, rfl, rfl⟩
  | b :: r, n, h => by
    rw [List.map_cons, List.all_cons, Bool.and_eq_true, digC_iff] at h
    obtain ⟨m, h1, h2⟩ := decFrom_val r (n * 10 + (b.toNat - 48)) h.2
    refine ⟨m, ?_, ?_⟩
    · rw [Lib.decFrom, Lib.digitVal, if_pos (by omega)]
      exact h1
    · rw [h2, List.map_cons, valL]
      congr 1
      omega
end Go.Proofs.YtjldfmkpdkhnnaaGreatDoor.Dom

namespace Go.Proofs.YtjldfmkpdkhnnaaGreatDoor.Dom
open Go.RowKit Go.Proofs.YtjldfmkpdkhnnaaGreatDoorW.PrintWords Go.Proofs.YtjldfmkpdkhnnaaGreatDoorW.PrintLast Go.Proofs.YtjldfmkpdkhnnaaGreatDoorW.PrintMore Go.Proofs.YtjldfmkpdkhnnaaGreatDoor.Aux

def unqB (s : ByteArray) : ByteArray := if 2 ≤ s.size ∧ bt s 0 = 34 ∧ bt s ((s.size : Int) - 1) = 34 then s.extract 1 (s.size - 1) else s
def dirOf (p : ByteArray) : Option (ByteArray × ByteArray) := if tokB (cutL (bytesOf p) [61]).1 = true then some (lowB (strOfNums (cutL (bytesOf p) [61]).1), unqB (strOfNums (cutL (bytesOf p) [61]).2.1)) else none
def dirL : List ByteArray → List (ByteArray × ByteArray)
  | [] => []
  | p :: r => match dirOf p with
    | some d => d :: dirL r
    | none => dirL r
theorem dirL_length : ∀ l : List ByteArray, (dirL l).length ≤ l.length
  | [] => by simp [dirL]
  | p :: r => by
    have ih := dirL_length r
    rw [dirL]
    split
    · simp; omega
    · simp; omega
def nmCC : ByteArray := ⟨#[99, 97, 99, 104, 101, 45, 99, 111, 110, 116, 114, 111, 108]⟩
def ccB (l : List (ByteArray × ByteArray)) : ByteArray := joinB ⟨#[44, 32]⟩ (getL nmCC l)
def dirsL (l : List (ByteArray × ByteArray)) : List (ByteArray × ByteArray) := dirL (splL (ccB l) 0 (comL (bytesOf (ccB l)) false false 0 ++ [((ccB l).size : Int)]))
theorem cutL_fst (l sep : List Int) : ∃ n : Nat, (cutL l sep).1 = l.take n := by
  unfold cutL
  split
  · exact ⟨_, rfl⟩
  · exact ⟨l.length, by simp⟩
theorem cutL_snd (l sep : List Int) : ∃ n : Nat, (cutL l sep).2.1 = l.drop n := by
  unfold cutL
  split
  · exact ⟨_, rfl⟩
  · exact ⟨l.length, by simp⟩
theorem take_range {s : ByteArray} (n : Nat) : bytesOf (strOfNums ((bytesOf s).take n)) = (bytesOf s).take n := bytesOf_strOfNums fun _ h => bytesOf_range (List.mem_of_mem_take h)
theorem drop_range {s : ByteArray} (n : Nat) : bytesOf (strOfNums ((bytesOf s).drop n)) = (bytesOf s).drop n := bytesOf_strOfNums fun _ h => bytesOf_range (List.mem_of_mem_drop h)
theorem cut_name (s : ByteArray) (sep : List Int) : bytesOf (strOfNums (cutL (bytesOf s) sep).1) = (cutL (bytesOf s) sep).1 ∧ (strOfNums (cutL (bytesOf s) sep).1).size ≤ s.size := by
  obtain ⟨n, e⟩ := cutL_fst (bytesOf s) sep
  rw [e, strOfNums_size, List.length_take, bytesOf_length]
  exact ⟨take_range n, by omega⟩
theorem cut_rest (s : ByteArray) (sep : List Int) : (strOfNums (cutL (bytesOf s) sep).2.1).size ≤ s.size := by
  obtain ⟨n, e⟩ := cutL_snd (bytesOf s) sep
  rw [e, strOfNums_size, List.length_drop, bytesOf_length]
  omega
theorem splL_size (s : ByteArray) : ∀ (l : List Int) (a : Int), ∀ p ∈ splL s a l, p.size ≤ s.size
  | [], a, p, hp => by simp [splL] at hp
  | b :: r, a, p, hp => by
    have hx : (trimB (s.extract a.toNat b.toNat)).size ≤ s.size := by
      have h1 := trim_range (s := s.extract a.toNat b.toNat)
      rw [ByteArray.size_extract] at h1
      omega
    rw [splL] at hp
    split at hp
    · exact splL_size s r _ p hp
    · rcases List.mem_cons.1 hp with rfl | hp
      · exact hx
      · exact splL_size s r _ p hp
theorem ccB_size (l : List (ByteArray × ByteArray)) {n : Int} (h0 : 0 ≤ n) (h : ¬ szF n l < 0) : ((ccB l).size : Int) ≤ 3 * n := by
  have h1 := szF_sum nmCC h0 h
  have h2 := joinB_size ⟨#[44, 32]⟩ (getL nmCC l)
  unfold ccB
  have e : ((getL nmCC l).map fun v => v.size + (⟨#[44, 32]⟩ : ByteArray).size) = (getL nmCC l).map fun v => v.size + 2 := rfl
  rw [e] at h2
  omega
theorem satV_bd : ∀ (l : List Int) (n : Int), 0 ≤ n → n ≤ 2147483648 → l.all digC = true → 0 ≤ satV n l ∧ satV n l ≤ 2147483648
  | [], n, h0, h1, _ => ⟨h0, h1⟩
  | c :: r, n, h0, h1, h => by
    rw [List.all_cons, Bool.and_eq_true, digC_iff] at h
    rw [satV]
    exact satV_bd r _ (by unfold mn; split <;> omega) (by unfold mn; split <;> omega) h.2
theorem secP_bd (l : List Int) : 0 ≤ (secP l).1 ∧ (secP l).1 ≤ 2147483648 := by
  unfold secP
  split
  · rename_i h
    exact satV_bd l 0 (by omega) (by omega) h
  · simp
theorem unqB_size (s : ByteArray) : (unqB s).size ≤ s.size := by
  unfold unqB
  split
  · rw [ByteArray.size_extract]; omega
  · exact Nat.le_refl _
theorem dirL_size (M : Nat) : ∀ (l : List ByteArray), (∀ p ∈ l, p.size ≤ M) → ∀ d ∈ dirL l, d.1.size ≤ M ∧ d.2.size ≤ M
  | [], _, d, hd => by simp [dirL] at hd
  | p :: r, h, d, hd => by
    have ih := dirL_size M r (fun q hq => h q (List.mem_cons_of_mem _ hq)) d
    rw [dirL] at hd
    have hp := h p List.mem_cons_self
    obtain ⟨_, n2⟩ := cut_name p [61]
    have n3 := cut_rest p [61]
    split at hd
    · rename_i x hx
      rcases List.mem_cons.1 hd with rfl | hd
      · unfold dirOf at hx
        split at hx
        · have hx := Option.some.inj hx
          subst hx
          have h3 := unqB_size (strOfNums (cutL (bytesOf p) [61]).2.1)
          have h4 := low_range (s := strOfNums (cutL (bytesOf p) [61]).1)
          simp only
          omega
        · cases hx
      · exact ih hd
    · exact ih hd
theorem dirsL_size (l : List (ByteArray × ByteArray)) {n : Int} (h0 : 0 ≤ n) (h : ¬ szF n l < 0) : ∀ d ∈ dirsL l, (d.1.size : Int) ≤ 3 * n ∧ (d.2.size : Int) ≤ 3 * n := by
  have h1 := ccB_size l h0 h
  intro d hd
  have := dirL_size (ccB l).size _ (splL_size (ccB l) _ 0) d hd
  omega
theorem dirsL_length (l : List (ByteArray × ByteArray)) {n : Int} (h0 : 0 ≤ n) (h : ¬ szF n l < 0) : ((dirsL l).length : Int) ≤ 3 * n + 1 := by
  have h1 := ccB_size l h0 h
  have h2 := dirL_length (splL (ccB l) 0 (comL (bytesOf (ccB l)) false false 0 ++ [((ccB l).size : Int)]))
  have h3 := splL_length (ccB l) (comL (bytesOf (ccB l)) false false 0 ++ [((ccB l).size : Int)]) 0
  have h4 := comL_length (bytesOf (ccB l)) false false 0
  rw [bytesOf_length] at h4
  rw [List.length_append, List.length_singleton] at h3
  unfold dirsL
  omega
def ccL (nm : ByteArray) : List (ByteArray × ByteArray) → List Int
  | [] => []
  | p :: r => if p.1 = nm then (secP (bytesOf p.2)).1 :: ccL nm r else ccL nm r
def finS : Int → Bool → List Int → Int × Bool
  | n, b, [] => if b = true then (n, true) else (0, false)
  | n, _, v :: r => finS (mn n v) true r
def finI : Int → Bool → List Int → Int × Bool
  | n, b, [] => (n, b)
  | n, b, v :: r => finI (if b = true then (if v < n then v else n) else v) true r
theorem finI_true : ∀ (V : List Int) (n : Int), finI n true V = finS n true V
  | [], n => by simp [finI, finS]
  | v :: r, n => by
    rw [finI, finS, if_pos rfl, finI_true r]
    have e : (if v < n then v else n) = mn n v := rfl
    rw [e]
theorem finI_eq (V : List Int) (h : ∀ v ∈ V, v ≤ 2147483648) : finI 0 false V = finS 2147483648 false V := by
  cases V with
  | nil => rfl
  | cons v r =>
    rw [finI, finS, if_neg (by decide), finI_true, mn_ge (h v List.mem_cons_self)]
theorem ccL_bd (nm : ByteArray) : ∀ (l : List (ByteArray × ByteArray)), ∀ v ∈ ccL nm l, 0 ≤ v ∧ v ≤ 2147483648
  | [], v, hv => by simp [ccL] at hv
  | p :: r, v, hv => by
    rw [ccL] at hv
    split at hv
    · rcases List.mem_cons.1 hv with rfl | hv
      · exact secP_bd _
      · exact ccL_bd nm r v hv
    · exact ccL_bd nm r v hv
def ccSec (l : List (ByteArray × ByteArray)) (nm : ByteArray) : Int × Bool := finS 2147483648 false (ccL nm (dirsL l))
def ydL : Nat → Int → Int → Int × Int
  | 0, y, d => (y, d)
  | f + 1, y, d => if yearD y ≤ d then ydL f (y + 1) (d - yearD y) else (y, d)
def mdL (y : Int) : Nat → Int → Int → Int × Int
  | 0, m, d => (m, d)
  | f + 1, m, d => if monthD y m ≤ d then mdL y f (m + 1) (d - monthD y m) else (m, d)
theorem ydL_spec : ∀ (f : Nat) (y d : Int), 0 ≤ d → d < 365 * f → ∃ j : Nat, ydL f y d = (y + j, d - yearsD j y) ∧ 0 ≤ d - yearsD j y ∧ d - yearsD j y < yearD (y + j) ∧ j < f
  | 0, y, d, h0, h => by omega
  | f + 1, y, d, h0, h => by
    have hb := yearD_bd y
    rw [ydL]
    by_cases hd : yearD y ≤ d
    · rw [if_pos hd]
      obtain ⟨j, e, a1, a2, a3⟩ := ydL_spec f (y + 1) (d - yearD y) (by omega) (by omega)
      refine ⟨j + 1, ?_, ?_, ?_, by omega⟩
      · rw [e, yearsD]
        refine Prod.ext ?_ ?_
        · simp; omega
        · simp; omega
      · rw [yearsD]; omega
      · rw [yearsD, show y + ((j + 1 : Nat) : Int) = y + 1 + j by omega]; omega
    · rw [if_neg hd]
      exact ⟨0, by simp [yearsD], by simp [yearsD]; omega, by simp [yearsD]; omega, by omega⟩
def yearW (y : Int) : Int := monthsD y 12 1
theorem yearW_eq (y : Int) : yearW y = yearD y := by
  unfold yearW yearD
  simp only [monthsD, monthD]
  cases leapB y <;> simp
theorem monthsD_succ (y : Int) : ∀ (d : Nat) (m : Int), monthsD y (d + 1) m = monthsD y d m + monthD y (m + d)
  | 0, m => by simp [monthsD]
  | d + 1, m => by
    rw [monthsD, monthsD_succ y d (m + 1), monthsD, show m + 1 + (d : Int) = m + ((d + 1 : Nat) : Int) by omega]
    omega
theorem yearsD_succ : ∀ (d : Nat) (y : Int), yearsD (d + 1) y = yearsD d y + yearD (y + d)
  | 0, y => by simp [yearsD]
  | d + 1, y => by
    rw [yearsD, yearsD_succ d (y + 1), yearsD, show y + 1 + (d : Int) = y + ((d + 1 : Nat) : Int) by omega]
    omega
theorem mdL_spec (y : Int) : ∀ (f : Nat) (m d : Int), 0 ≤ d → d < monthsD y f m → ∃ j : Nat, mdL y f m d = (m + j, d - monthsD y j m) ∧ 0 ≤ d - monthsD y j m ∧ d - monthsD y j m < monthD y (m + j) ∧ j < f
  | 0, m, d, h0, h => by simp [monthsD] at h; omega
  | f + 1, m, d, h0, h => by
    rw [monthsD] at h
    rw [mdL]
    by_cases hd : monthD y m ≤ d
    · rw [if_pos hd]
      obtain ⟨j, e, a1, a2, a3⟩ := mdL_spec y f (m + 1) (d - monthD y m) (by omega) (by omega)
      refine ⟨j + 1, ?_, ?_, ?_, by omega⟩
      · rw [e, monthsD]
        refine Prod.ext ?_ ?_
        · simp; omega
        · simp; omega
      · rw [monthsD]; omega
      · rw [monthsD, show m + ((j + 1 : Nat) : Int) = m + 1 + j by omega]; omega
    · rw [if_neg hd]
      exact ⟨0, by simp [monthsD], by simp [monthsD]; omega, by simp [monthsD]; omega, by omega⟩
def twoL (n : Int) : List Int := [48 + n / 10 % 10, 48 + n % 10]
def weekL (d : Int) : List Int := if d = 0 then [84, 104, 117] else if d = 1 then [70, 114, 105] else if d = 2 then [83, 97, 116] else if d = 3 then [83, 117, 110] else if d = 4 then [77, 111, 110] else if d = 5 then [84, 117, 101] else [87, 101, 100]
def monL (m : Int) : List Int := if m = 1 then [74, 97, 110] else if m = 2 then [70, 101, 98] else if m = 3 then [77, 97, 114] else if m = 4 then [65, 112, 114] else if m = 5 then [77, 97, 121] else if m = 6 then [74, 117, 110] else if m = 7 then [74, 117, 108] else if m = 8 then [65, 117, 103] else if m = 9 then [83, 101, 112] else if m = 10 then [79, 99, 116] else if m = 11 then [78, 111, 118] else [68, 101, 99]
def ymd (days : Int) : Int × Int × Int := ((ydL 70 1970 days).1, (mdL (ydL 70 1970 days).1 12 1 (ydL 70 1970 days).2).1, (mdL (ydL 70 1970 days).1 12 1 (ydL 70 1970 days).2).2 + 1)
theorem ymd_spec {days : Int} (h0 : 0 ≤ days) (h1 : days ≤ 23148) : 1970 ≤ (ymd days).1 ∧ (ymd days).1 ≤ 2033 ∧ 1 ≤ (ymd days).2.1 ∧ (ymd days).2.1 ≤ 12 ∧ 1 ≤ (ymd days).2.2 ∧ (ymd days).2.2 ≤ monthD (ymd days).1 (ymd days).2.1 ∧
    days = (ymd days).2.2 - 1 + yearsD ((ymd days).1 - 1970).toNat 1970 + monthsD (ymd days).1 ((ymd days).2.1 - 1).toNat 1 := by
  obtain ⟨j, e, a1, a2, a3⟩ := ydL_spec 70 1970 days h0 (by omega)
  have hy := yearW_eq (1970 + j)
  unfold yearW at hy
  obtain ⟨i, e2, b1, b2, b3⟩ := mdL_spec (1970 + j) 12 1 (days - yearsD j 1970) a1 (by omega)
  have hj := yearsD_bd j 1970
  have ej : (1970 + (j : Int) - 1970).toNat = j := by omega
  have ei : (1 + (i : Int) - 1).toNat = i := by omega
  simp only [ymd, e, e2, ej, ei]
  omega
def dateL (sec : Int) : List Int :=
  weekL (sec / 86400 % 7) ++ [44, 32] ++ twoL (ymd (sec / 86400)).2.2 ++ [32] ++ monL (ymd (sec / 86400)).2.1 ++ [32] ++ decP (ymd (sec / 86400)).1 ++ [32] ++ twoL (sec / 3600 % 24) ++ [58] ++ twoL (sec / 60 % 60) ++ [58] ++ twoL (sec % 60) ++ [32, 71, 77, 84]
def dateB (sec : Int) : ByteArray := if 0 ≤ sec ∧ sec ≤ 2000000000 then strOfNums (dateL sec) else ⟨#[]⟩
theorem decP_year {y : Int} (h0 : 1000 ≤ y) (h1 : y ≤ 9999) : decP y = [48 + y / 1000, 48 + y / 100 % 10, 48 + y / 10 % 10, 48 + y % 10] := by
  unfold decP
  rw [if_neg (by omega), if_neg (by omega)]
  have e3 : y / 10 / 10 / 10 % 10 = y / 1000 := by omega
  have e2 : y / 10 / 10 % 10 = y / 100 % 10 := by omega
  rw [show (20 : Nat) = 15 + 1 + 1 + 1 + 1 + 1 from rfl, decL, if_pos (by omega), decL, if_pos (by omega), decL, if_pos (by omega), decL, if_pos (by omega), decL, if_neg (by omega), e3, e2]
theorem weekL_length (d : Int) : (weekL d).length = 3 := by unfold weekL; (repeat' split) <;> rfl
theorem monL_length (m : Int) : (monL m).length = 3 := by unfold monL; (repeat' split) <;> rfl
theorem dateL_length {sec : Int} (h0 : 0 ≤ sec) (h1 : sec ≤ 2000000000) : (dateL sec).length = 29 := by
  obtain ⟨a1, a2, _⟩ := ymd_spec (days := sec / 86400) (by omega) (by omega)
  unfold dateL
  rw [decP_year (by omega) (by omega)]
  simp only [List.length_append, weekL_length, monL_length, twoL, List.length_cons, List.length_nil]
theorem months_rd {m : Int} (h1 : 1 ≤ m) (h2 : m ≤ 12) : rdOf ByteArray.empty ([(⟨#[74, 97, 110]⟩ : ByteArray), (⟨#[70, 101, 98]⟩ : ByteArray), (⟨#[77, 97, 114]⟩ : ByteArray), (⟨#[65, 112, 114]⟩ : ByteArray), (⟨#[77, 97, 121]⟩ : ByteArray), (⟨#[74, 117, 110]⟩ : ByteArray), (⟨#[74, 117, 108]⟩ : ByteArray), (⟨#[65, 117, 103]⟩ : ByteArray), (⟨#[83, 101, 112]⟩ : ByteArray), (⟨#[79, 99, 116]⟩ : ByteArray), (⟨#[78, 111, 118]⟩ : ByteArray), (⟨#[68, 101, 99]⟩ : ByteArray)] : List ByteArray) (m - 1) = strOfNums (monL m) := by
  have hm : m = 1 ∨ m = 2 ∨ m = 3 ∨ m = 4 ∨ m = 5 ∨ m = 6 ∨ m = 7 ∨ m = 8 ∨ m = 9 ∨ m = 10 ∨ m = 11 ∨ m = 12 := by omega
  rcases hm with rfl | rfl | rfl | rfl | rfl | rfl | rfl | rfl | rfl | rfl | rfl | rfl <;> rfl
theorem week_rd {d : Int} (h1 : 0 ≤ d) (h2 : d < 7) : rdOf ByteArray.empty ([(⟨#[84, 104, 117]⟩ : ByteArray), (⟨#[70, 114, 105]⟩ : ByteArray), (⟨#[83, 97, 116]⟩ : ByteArray), (⟨#[83, 117, 110]⟩ : ByteArray), (⟨#[77, 111, 110]⟩ : ByteArray), (⟨#[84, 117, 101]⟩ : ByteArray), (⟨#[87, 101, 100]⟩ : ByteArray)] : List ByteArray) d = strOfNums (weekL d) := by
  have hm : d = 0 ∨ d = 1 ∨ d = 2 ∨ d = 3 ∨ d = 4 ∨ d = 5 ∨ d = 6 := by omega
  rcases hm with rfl | rfl | rfl | rfl | rfl | rfl | rfl <;> rfl
theorem ydL_more : ∀ (f j : Nat) (y d : Int), 0 ≤ d → d < 365 * f → ydL (f + j) y d = ydL f y d
  | 0, j, y, d, h0, h => by omega
  | f + 1, j, y, d, h0, h => by
    have hb := yearD_bd y
    rw [show f + 1 + j = (f + j) + 1 by omega, ydL, ydL]
    split
    · exact ydL_more f j (y + 1) _ (by omega) (by omega)
    · rfl

end Go.Proofs.YtjldfmkpdkhnnaaGreatDoor.Dom

namespace Go.Proofs.YtjldfmkpdkhnnaaGreatDoor.Dom
open Go.RowKit Go.Proofs.YtjldfmkpdkhnnaaGreatDoorW.PrintWords Go.Proofs.YtjldfmkpdkhnnaaGreatDoorW.PrintLast Go.Proofs.YtjldfmkpdkhnnaaGreatDoorW.PrintMore Go.Proofs.YtjldfmkpdkhnnaaGreatDoor.Aux

def sub (l : List Int) (a n : Nat) : List Int := (l.drop a).take n
end Go.Proofs.YtjldfmkpdkhnnaaGreatDoor.Dom

namespace Go.Proofs.YtjldfmkpdkhnnaaGreatDoor.Dom
open Go.RowKit Go.Proofs.YtjldfmkpdkhnnaaGreatDoorW.PrintWords Go.Proofs.YtjldfmkpdkhnnaaGreatDoorW.PrintLast Go.Proofs.YtjldfmkpdkhnnaaGreatDoorW.PrintMore Go.Proofs.YtjldfmkpdkhnnaaGreatDoor.Aux

theorem finS_bd : ∀ (V : List Int) (n : Int) (b : Bool), 0 ≤ n → n ≤ 2147483648 → (∀ v ∈ V, 0 ≤ v ∧ v ≤ 2147483648) → 0 ≤ (finS n b V).1 ∧ (finS n b V).1 ≤ 2147483648
  | [], n, b, h0, h1, _ => by
    rw [finS]
    split
    · exact ⟨h0, h1⟩
    · simp
  | v :: r, n, b, h0, h1, h => by
    have hv := h v List.mem_cons_self
    rw [finS]
    exact finS_bd r _ true (by unfold mn; split <;> omega) (by unfold mn; split <;> omega) (fun x hx => h x (List.mem_cons_of_mem _ hx))
theorem ccSec_bd (l : List (ByteArray × ByteArray)) (nm : ByteArray) : 0 ≤ (ccSec l nm).1 ∧ (ccSec l nm).1 ≤ 2147483648 := finS_bd _ _ _ (by decide) (by decide) (ccL_bd nm _)
end Go.Proofs.YtjldfmkpdkhnnaaGreatDoor.Dom

namespace Go.Proofs.YtjldfmkpdkhnnaaGreatDoor.Pure
open Go.RowKit Go.Proofs.YtjldfmkpdkhnnaaGreatDoor.QL Go.Proofs.YtjldfmkpdkhnnaaGreatDoorW.PrintWords Go.Proofs.YtjldfmkpdkhnnaaGreatDoorW.PrintLast Go.Proofs.YtjldfmkpdkhnnaaGreatDoorW.PrintMore Go.Proofs.YtjldfmkpdkhnnaaGreatDoor.Aux Go.Proofs.YtjldfmkpdkhnnaaGreatDoor.Dom Go.Proofs.YtjldfmkpdkhnnaaGreatDoor.Ext
theorem spec_l1New_l0 (b : List Int) (hb : b.length ≤ 1048576) : ∀ (d : Nat) (h i : Int), 0 ≤ i → (b.length : Int) - i = d → ∃ h', Ev (fun k => spec_l1New.l0 k b h i) (b, 0, h')
  | 0, h, i, h0, hd => ⟨h, ev_last fun k => by simp only [spec_l1New.l0]; rw [if_neg (by omega)]⟩
  | d + 1, h, i, h0, hd => by
    by_cases h1 : i < 4000
    · obtain ⟨h', e⟩ := spec_l1New_l0 b hb d (Go.bits .and .i64 (wrap64 (wrap64 (wrap64 (h * 131) + wrap64 (rd b i)) + 7)) 1073741823) (i + 1) (by omega) (by omega)
      refine ⟨h', Ev.step (fun k => ?_) e⟩
      simp only [spec_l1New.l0]
      rw [if_pos (by omega), if_pos h1, if_pos h0, wrap_id (x := i + 1) (by omega) (by omega)]
    · exact ⟨h, ev_last fun k => by simp only [spec_l1New.l0]; rw [if_pos (by omega), if_neg h1]⟩
theorem spec_l1New_ev (b : List Int) (hb : b.length ≤ 1048576) : ∃ h', Ev (fun k => spec_l1New.f k b) (b, 0, h') :=
  spec_l1New_l0 b hb b.length _ 0 (by omega) (by omega)

end Go.Proofs.YtjldfmkpdkhnnaaGreatDoor.Pure

namespace Go.Proofs.YtjldfmkpdkhnnaaGreatDoor.QL
open Go.RowKit Go.Proofs.YtjldfmkpdkhnnaaGreatDoorW.PrintWords Go.Proofs.YtjldfmkpdkhnnaaGreatDoorW.PrintLast Go.Proofs.YtjldfmkpdkhnnaaGreatDoorW.PrintMore Go.Proofs.YtjldfmkpdkhnnaaGreatDoor.Aux Go.Proofs.YtjldfmkpdkhnnaaGreatDoor.Dom Go.Proofs.YtjldfmkpdkhnnaaGreatDoor.Ext Go.Proofs.YtjldfmkpdkhnnaaGreatDoor.Glob
attribute [local go_sem] max2_int min2_int max_two min_two max_three min_three max_four min_four   -- for this text's walks alone

def spec_l1PickInt.f (s0_0 : List Int) (s0_1 : Int) (s0_2 : Int) (l1 : List Int) : Option (Int × Int × Int) := (spec_l1Below.f s0_0 s0_1 s0_2 (l1.length : Int)).bind fun bt101 => (if 0 ≤ bt101.1 then (if bt101.1 < (l1.length : Int) then (some (rd l1 bt101.1, bt101.2.1, bt101.2.2)) else (none)) else (none))
set_option maxHeartbeats 8000000 in
set_option maxRecDepth 100000 in
theorem spec_l1PickInt.calls (g : Nat) (s0_0 : List Int) (s0_1 : Int) (s0_2 : Int) (A1 : Option Addr) (c1 : Nat) (l1 : List Int) (r1 : Int) (r2 : Int) (r3 : Int) (w0 w : World) (hI : IsS117 w0 w g s0_0 s0_1 s0_2) (hB : Below w0.heap.size w0 w) (hr1 : Kd.C (Kd.int .i64) w A1 l1.length l1) (hc1 : l1.length ≤ c1) (hf1 : ∀ ad, A1 = some ad → 0 < l1.length → ad.block ≠ g) (h : spec_l1PickInt.f s0_0 s0_1 s0_2 l1 = some (r1, r2, r3)) :
  Calls Tryz.prog 69 #[.pointer (some ⟨g, 0, none⟩), .slice A1 l1.length c1] w fun e w' => e = .returned (.int .i64 r1) ∧ IsS117 w0 w' g s0_0 r2 r3 ∧ Below w0.heap.size w0 w' ∧ KeepBut w w' g none := by
 have HR1 := Aside0.mk hr1
 have HC1 := Aside0.mk hc1
 clear hr1 hc1
 have HI0 := Aside0.mk hI
 have HK := Aside0.mk (KeepBut.refl w g none)
 have HL := Aside0.mk hB.size
 clear hI
 have HW0 := Aside0.mk hB.size
 have HB := Aside0.mk hB
 clear hB
 have H : ((spec_l1Below.f s0_0 s0_1 s0_2 (l1.length : Int)).bind fun bt101 => (if 0 ≤ bt101.1 then (if bt101.1 < (l1.length : Int) then (some (rd l1 bt101.1, bt101.2.1, bt101.2.2)) else (none)) else (none))) = some (r1, r2, r3) := h
 clear h
 replace H := Option.bind_eq_some_iff.mp H
 obtain ⟨⟨t101, t102, t103⟩, A30, H⟩ := H
 try dsimp only at H
 have A3 := Aside0.mk A30
 clear A30
 by_cases c4 : 0 ≤ t101
 ·rw [if_pos c4] at H
  have c4b0 : decide (0 ≤ t101) = true := decide_eq_true c4
  clear c4
  by_cases c5 : t101 < (l1.length : Int)
  ·rw [if_pos c5] at H
   have c5b0 : decide (t101 < (l1.length : Int)) = true := decide_eq_true c5
   clear c5
   simp only [Option.some.injEq, Prod.mk.injEq] at H
   obtain ⟨rfl, rfl, rfl⟩ := H
   go_enter Tryz.func69, Tryz.ntmps69
   go_wp2_with (first | ((with_reducible refine gate_callee (f := 68) rfl ?_); refine goesL_ (some 9) rfl rfl Tryz.func68 (by kernel_rfl) rfl #[.pointer (some ⟨g, 0, none⟩), .int .i64 (l1.length : Int)] rfl am ?_; (with_reducible refine (spec_l1Below.calls g s0_0 s0_1 s0_2 (l1.length : Int) t101 t102 t103 w0 _ ?side1 ?side2 A3.out).mono ?_); (case side1 => repeat (first | (with_reducible first | exact HI0.out | apply IsS117.alloc | apply IsS117.drewN | apply IsS117.drew | apply IsS117.set_1 | apply IsS117.set_2) | exact HI0.out)); (case side2 => repeat (first | (with_reducible first | exact HB.out | apply below_alloc | apply pw_below_drewN | apply below_drew1 | refine below_set ?_ (IsS117.ge HI0.out)) | exact HB.out)); rintro e w6 ⟨rfl, hi, hb, hk⟩; refine ⟨_, rfl, ?_⟩; have n0_ := Aside0.mk (KeepBut.trans (by repeat (first | (with_reducible first | exact HK.out | apply KeepBut.set_ | apply keep_drewN | apply keep_drew | apply keep_alloc) | exact HK.out)) hk (.inl rfl)); have n1_ := Aside0.mk (hb); have n2_ := Aside0.mk (hi); clear HK; clear HB; clear HI0; have HK := n0_; have HB := n1_; have HI0 := n2_; clear n0_ n1_ n2_; (try clear hb); (try clear hb2); (try clear hk); (try clear hi); have p104 : 0 ≤ (t101 : Int) := of_decide_eq_true asm; have q104 : t101 < (l1.length : Int) := of_decide_eq_true asm; obtain ⟨ad104, e104, hx104_0⟩ := Kd.at_int HR1.out t101 p104 q104; cases e104; replace hx104_0 := keep_cell HK.out hx104_0 (by first | (rw [add_block]; exact hf1 _ rfl (by omega)) | exact hf1 _ rfl (by omega) | exact hf1 ad104 rfl (by omega)); replace p104 := eq_true p104; replace q104 := eq_true q104))
   go_ret
   exact ⟨by first | rfl | (simp [errW_none, errW_some] <;> rfl) | (simp [*, errW_none, errW_some] <;> rfl), by repeat (first | (with_reducible first | exact HI0.out | apply IsS117.alloc | apply IsS117.drewN | apply IsS117.drew | apply IsS117.set_1 | apply IsS117.set_2) | exact HI0.out), by repeat (first | (with_reducible first | exact HB.out | apply below_alloc | apply pw_below_drewN | apply below_drew1 | refine below_set ?_ (IsS117.ge HI0.out)) | exact HB.out), by repeat (first | (with_reducible first | exact HK.out | apply KeepBut.set_ | apply keep_drewN | apply keep_drew | apply keep_alloc) | exact HK.out)⟩
  ·rw [if_neg c5] at H
   exact absurd H (by simp)
 ·rw [if_neg c4] at H
  exact absurd H (by simp)

end Go.Proofs.YtjldfmkpdkhnnaaGreatDoor.QL

namespace Go.Proofs.YtjldfmkpdkhnnaaGreatDoor.Pure
open Go.RowKit Go.Proofs.YtjldfmkpdkhnnaaGreatDoor.QL Go.Proofs.YtjldfmkpdkhnnaaGreatDoorW.PrintWords Go.Proofs.YtjldfmkpdkhnnaaGreatDoorW.PrintLast Go.Proofs.YtjldfmkpdkhnnaaGreatDoorW.PrintMore Go.Proofs.YtjldfmkpdkhnnaaGreatDoor.Aux Go.Proofs.YtjldfmkpdkhnnaaGreatDoor.Dom Go.Proofs.YtjldfmkpdkhnnaaGreatDoor.Ext
theorem and255_bd (x : Int) : 0 ≤ Go.bits .and .i64 x 255 ∧ Go.bits .and .i64 x 255 ≤ 255 := by
  have h : (BitVec.ofInt 64 x &&& BitVec.ofInt 64 255).toNat ≤ 255 := by
    rw [BitVec.toNat_and]
    exact Nat.and_le_right
  have e : Go.bits .and .i64 x 255 = (((BitVec.ofInt 64 x &&& BitVec.ofInt 64 255).toNat : Nat) : Int) := i64_pos (((BitVec.ofInt 64 x &&& BitVec.ofInt 64 255).toNat : Nat) : Int) (by omega) (by omega)
  rw [e]
  omega
theorem l1Byte_ok (b : List Int) (i h : Int) (hb : b.length ≤ 1048576) (h0 : 0 ≤ i) : ∃ x i' h', spec_l1Byte.f b i h = some (x, i', h') ∧ 0 ≤ x ∧ x ≤ 255 ∧ 0 ≤ i' := by
  unfold spec_l1Byte.f
  by_cases h1 : i < (b.length : Int)
  · rw [if_pos h1, if_pos h0, wrap_id (x := i + 1) (by omega) (by omega)]
    exact ⟨_, _, _, rfl, (and255_bd _).1, (and255_bd _).2, by omega⟩
  · rw [if_neg h1]
    exact ⟨_, _, _, rfl, (and255_bd _).1, (and255_bd _).2, h0⟩
theorem tmod_bd {x n : Int} (hx : 0 ≤ x) (hn : 0 < n) : 0 ≤ Int.tmod x n ∧ Int.tmod x n < n := by
  rw [Int.tmod_eq_emod_of_nonneg hx]
  exact ⟨Int.emod_nonneg _ (by omega), Int.emod_lt_of_pos _ hn⟩
theorem l1Below_ok (b : List Int) (i h n : Int) (hb : b.length ≤ 1048576) (h0 : 0 ≤ i) : ∃ x i' h', spec_l1Below.f b i h n = some (x, i', h') ∧ 0 ≤ x ∧ (x < n ∨ (n ≤ 0 ∧ x = 0)) ∧ 0 ≤ i' := by
  unfold spec_l1Below.f
  by_cases h1 : n ≤ 0
  · rw [if_pos h1]
    exact ⟨0, i, h, rfl, by omega, Or.inr ⟨h1, rfl⟩, h0⟩
  rw [if_neg h1]
  obtain ⟨x, i1, g1, e1, a1, a2, a3⟩ := l1Byte_ok b i h hb h0
  by_cases h2 : n ≤ 256
  · rw [if_pos h2, e1, Option.bind_some, if_neg (by omega)]
    have := tmod_bd a1 (show 0 < n by omega)
    exact ⟨_, _, _, rfl, this.1, Or.inl this.2, a3⟩
  · obtain ⟨y, i2, g2, e2, b1, b2, b3⟩ := l1Byte_ok b i1 g1 hb a3
    obtain ⟨z, i3, g3, e3, c1, c2, c3⟩ := l1Byte_ok b i2 g2 hb b3
    obtain ⟨v, i4, g4, e4, d1, d2, d3⟩ := l1Byte_ok b i3 g3 hb c3
    rw [if_neg h2, e1, Option.bind_some, e2, Option.bind_some, e3, Option.bind_some, e4, Option.bind_some, if_neg (by omega)]
    have w : wrap64 (wrap64 (wrap64 (wrap64 (x * 16777216) + wrap64 (y * 65536)) + wrap64 (z * 256)) + v) = x * 16777216 + y * 65536 + z * 256 + v := by
      rw [wrap_id (x := x * 16777216) (by omega) (by omega), wrap_id (x := y * 65536) (by omega) (by omega), wrap_id (x := z * 256) (by omega) (by omega), wrap_id (x := x * 16777216 + y * 65536) (by omega) (by omega), wrap_id (x := x * 16777216 + y * 65536 + z * 256) (by omega) (by omega), wrap_id (by omega) (by omega)]
    have t := tmod_bd (show 0 ≤ x * 16777216 + y * 65536 + z * 256 + v by omega) (show 0 < n by omega)
    refine ⟨_, _, _, rfl, ?_, Or.inl ?_, d3⟩
    · show 0 ≤ Int.tmod (wrap64 (wrap64 (wrap64 (wrap64 (x * 16777216) + wrap64 (y * 65536)) + wrap64 (z * 256)) + v)) n
      rw [w]; exact t.1
    · show Int.tmod (wrap64 (wrap64 (wrap64 (wrap64 (x * 16777216) + wrap64 (y * 65536)) + wrap64 (z * 256)) + v)) n < n
      rw [w]; exact t.2
theorem l1Once_ok (b : List Int) (i h n : Int) (hb : b.length ≤ 1048576) (h0 : 0 ≤ i) : ∃ x i' h', spec_l1Once.f b i h n = some (x, i', h') ∧ 0 ≤ i' := by
  obtain ⟨x, i1, g1, e1, a1, a2, a3⟩ := l1Below_ok b i h n hb h0
  unfold spec_l1Once.f
  rw [e1, Option.bind_some]
  exact ⟨_, _, _, rfl, a3⟩
theorem rdOf_mem {α : Type} {d : α} {l : List α} {j : Int} (h0 : 0 ≤ j) (h1 : j < (l.length : Int)) : rdOf d l j ∈ l := by
  have e := drop_rdOf (d := d) h0 h1
  exact List.mem_of_mem_drop (i := j.toNat) (by rw [e]; exact List.mem_cons_self)
theorem l1Pick_ok (b : List Int) (i h : Int) (l : List ByteArray) (hl : 0 < l.length) (hb : b.length ≤ 1048576) (h0 : 0 ≤ i) : ∃ x i' h', spec_l1Pick.f b i h l = some (x, i', h') ∧ x ∈ l ∧ 0 ≤ i' := by
  obtain ⟨x, i1, g1, e1, a1, a2, a3⟩ := l1Below_ok b i h (l.length : Int) hb h0
  have hx : x < (l.length : Int) := by omega
  unfold spec_l1Pick.f
  rw [e1, Option.bind_some, if_pos a1, if_pos hx]
  exact ⟨_, _, _, rfl, rdOf_mem a1 hx, a3⟩
theorem ev_k {α : Type} {x : Option α} {r : α} (h : x = some r) : Ev (fun _ : Nat => x) r := ev_some fun _ => h

end Go.Proofs.YtjldfmkpdkhnnaaGreatDoor.Pure

namespace Go.Proofs.YtjldfmkpdkhnnaaGreatDoor.Pure
open Go.RowKit Go.Proofs.YtjldfmkpdkhnnaaGreatDoor.QL Go.Proofs.YtjldfmkpdkhnnaaGreatDoorW.PrintWords Go.Proofs.YtjldfmkpdkhnnaaGreatDoorW.PrintLast Go.Proofs.YtjldfmkpdkhnnaaGreatDoorW.PrintMore Go.Proofs.YtjldfmkpdkhnnaaGreatDoor.Aux Go.Proofs.YtjldfmkpdkhnnaaGreatDoor.Dom Go.Proofs.YtjldfmkpdkhnnaaGreatDoor.Ext
theorem spec_l1In_eq (a b c : Int) : spec_l1In.f a b c = some (decide (b ≤ a ∧ a ≤ c)) := by
  unfold spec_l1In.f
  by_cases h : a ≥ b
  · rw [if_pos h]; simp [show b ≤ a from h]
  · rw [if_neg h]; simp [show ¬ b ≤ a from h]

end Go.Proofs.YtjldfmkpdkhnnaaGreatDoor.Pure

namespace Go.Proofs.YtjldfmkpdkhnnaaGreatDoor.Pure
open Go.RowKit Go.Proofs.YtjldfmkpdkhnnaaGreatDoor.QL Go.Proofs.YtjldfmkpdkhnnaaGreatDoorW.PrintWords Go.Proofs.YtjldfmkpdkhnnaaGreatDoorW.PrintLast Go.Proofs.YtjldfmkpdkhnnaaGreatDoorW.PrintMore Go.Proofs.YtjldfmkpdkhnnaaGreatDoor.Aux Go.Proofs.YtjldfmkpdkhnnaaGreatDoor.Dom Go.Proofs.YtjldfmkpdkhnnaaGreatDoor.Ext
theorem spec_IsLeap_eq {y : Int} (h : 0 ≤ y) : spec_IsLeap.f y = some (leapB y) := by
  unfold spec_IsLeap.f leapB
  rw [Int.tmod_eq_emod_of_nonneg h, Int.tmod_eq_emod_of_nonneg h, Int.tmod_eq_emod_of_nonneg h]
  by_cases h4 : y % 4 = 0
  · rw [if_pos h4]
    by_cases h100 : y % 100 = 0
    · rw [if_pos h100]
      congr 1
      rw [Bool.eq_iff_iff]; simp; omega
    · rw [if_neg h100, decide_eq_true (Or.inl ⟨h4, h100⟩)]
  · rw [if_neg h4, decide_eq_false (by omega)]

end Go.Proofs.YtjldfmkpdkhnnaaGreatDoor.Pure

namespace Go.Proofs.YtjldfmkpdkhnnaaGreatDoor.Pure
open Go.RowKit Go.Proofs.YtjldfmkpdkhnnaaGreatDoor.QL Go.Proofs.YtjldfmkpdkhnnaaGreatDoorW.PrintWords Go.Proofs.YtjldfmkpdkhnnaaGreatDoorW.PrintLast Go.Proofs.YtjldfmkpdkhnnaaGreatDoorW.PrintMore Go.Proofs.YtjldfmkpdkhnnaaGreatDoor.Aux Go.Proofs.YtjldfmkpdkhnnaaGreatDoor.Dom Go.Proofs.YtjldfmkpdkhnnaaGreatDoor.Ext
theorem spec_l4Months_eq {y : Int} (h : 0 ≤ y) : ∃ l, spec_l4Months.f y = some l ∧ l.length = 12 ∧ ∀ m : Int, 1 ≤ m → m ≤ 12 → rd l (m - 1) = monthD y m := by
  unfold spec_l4Months.f
  rw [spec_IsLeap_eq h, Option.bind_some]
  have hm : ∀ m : Int, 1 ≤ m → m ≤ 12 → m = 1 ∨ m = 2 ∨ m = 3 ∨ m = 4 ∨ m = 5 ∨ m = 6 ∨ m = 7 ∨ m = 8 ∨ m = 9 ∨ m = 10 ∨ m = 11 ∨ m = 12 := fun m h1 h2 => by omega
  cases hl : leapB y with
  | true =>
    refine ⟨_, if_pos rfl, rfl, fun m h1 h2 => ?_⟩
    rcases hm m h1 h2 with rfl | rfl | rfl | rfl | rfl | rfl | rfl | rfl | rfl | rfl | rfl | rfl <;> simp [monthD, hl, rd]
  | false =>
    refine ⟨_, if_neg (by decide), rfl, fun m h1 h2 => ?_⟩
    rcases hm m h1 h2 with rfl | rfl | rfl | rfl | rfl | rfl | rfl | rfl | rfl | rfl | rfl | rfl <;> simp [monthD, hl, rd]
theorem spec_DaysOf_l1 (y m : Int) (hy : 0 ≤ y) (hm : m ≤ 13) : ∀ (d : Nat) (n i : Int), 1 ≤ i → m - i = d → 0 ≤ n → n + 31 * d ≤ 100000 → Ev (fun k => spec_DaysOf.l1 k y m n i) (n + monthsD y d i)
  | 0, n, i, h1, hd, n0, n1 => by
    refine ev_last fun k => ?_
    simp only [spec_DaysOf.l1]
    rw [if_neg (by omega)]
    simp [monthsD]
  | d + 1, n, i, h1, hd, n0, n1 => by
    obtain ⟨l, e, hl, hr⟩ := spec_l4Months_eq hy
    have hb := monthD_bd y i
    refine Ev.step (f := fun k => spec_DaysOf.l1 k y m (n + monthD y i) (i + 1)) (fun k => ?_) (ev_eq (spec_DaysOf_l1 y m hy hm d _ (i + 1) (by omega) (by omega) (by omega) (by omega)) (by rw [monthsD]; omega))
    simp only [spec_DaysOf.l1]
    rw [if_pos (by omega), e, Option.bind_some, wrap_id (x := i - 1) (by omega) (by omega), if_pos (by omega), if_pos (by omega), hr i h1 (by omega), wrap_id (by omega) (by omega), wrap_id (by omega) (by omega)]
theorem spec_DaysOf_l0 (y m : Int) (hy : y ≤ 2037) (h1970 : 1970 ≤ y) (hm1 : 1 ≤ m) (hm : m ≤ 12) : ∀ (d : Nat) (n i : Int), 1970 ≤ i → y - i = d → 0 ≤ n → n + 366 * d ≤ 50000 → Ev (fun k => spec_DaysOf.l0 k y m n i) (n + yearsD d i + monthsD y (m - 1).toNat 1)
  | 0, n, i, h1, hd, n0, n1 => by
    refine Ev.step (f := fun k => spec_DaysOf.l1 k y m n 1) (fun k => ?_) (ev_eq (spec_DaysOf_l1 y m (by omega) (by omega) (m - 1).toNat n 1 (by omega) (by omega) n0 (by omega)) (by simp [yearsD]))
    simp only [spec_DaysOf.l0]
    rw [if_neg (by omega)]
  | d + 1, n, i, h1, hd, n0, n1 => by
    have hb := yearD_bd i
    refine Ev.step (f := fun k => spec_DaysOf.l0 k y m (n + yearD i) (i + 1)) (fun k => ?_) (ev_eq (spec_DaysOf_l0 y m hy h1970 hm1 hm d _ (i + 1) (by omega) (by omega) (by omega) (by omega)) (by rw [yearsD]; omega))
    simp only [spec_DaysOf.l0]
    rw [if_pos (by omega), spec_IsLeap_eq (by omega), Option.bind_some, wrap_id (x := n + 365) (by omega) (by omega), wrap_id (x := i + 1) (by omega) (by omega), wrap_id (x := n + 365 + 1) (by omega) (by omega)]
    unfold yearD
    cases leapB i with
    | true => rw [if_pos rfl, if_pos rfl, show n + 365 + 1 = n + 366 by omega]
    | false => rw [if_neg (by decide), if_neg (by decide)]
theorem spec_DaysOf_ev (y m d : Int) : Ev (fun k => spec_DaysOf.f k y m d) (daysP y m d) := by
  have hbad : ∀ k, spec_DaysOf.j0 (k + 1) y m d true = some (-1) := fun k => by simp only [spec_DaysOf.j0]; rw [if_pos trivial]
  refine Ev.congr (fun k => by unfold spec_DaysOf.f; rw [spec_l1In_eq, Option.bind_some]) ?_
  unfold daysP
  by_cases h1 : 1970 ≤ y ∧ y ≤ 2037
  · refine ev_if_pos (by simpa using h1) ?_
    refine Ev.congr (fun k => by rw [spec_l1In_eq, Option.bind_some]) ?_
    by_cases h2 : 1 ≤ m ∧ m ≤ 12
    · refine ev_if_pos (by simpa using h2) ?_
      obtain ⟨l, e, hl, hr⟩ := spec_l4Months_eq (y := y) (by omega)
      refine Ev.congr (fun k => by rw [e, Option.bind_some, wrap_id (x := m - 1) (by omega) (by omega), if_pos (by omega), if_pos (by omega), hr m h2.1 h2.2, spec_l1In_eq, Option.bind_some]) ?_
      have hb := monthD_bd y m
      by_cases h3 : 1 ≤ d ∧ d ≤ monthD y m
      · rw [decide_eq_true h3, if_pos ⟨h1, h2, h3⟩]
        refine Ev.step (f := fun k => spec_DaysOf.l0 k y m (d - 1) 1970) (fun k => ?_) (ev_eq (spec_DaysOf_l0 y m h1.2 h1.1 h2.1 h2.2 (y - 1970).toNat (d - 1) 1970 (by omega) (by omega) (by omega) (by omega)) (by omega))
        simp only [spec_DaysOf.j0]
        rw [if_neg (by decide), wrap_id (by omega) (by omega)]
      · rw [decide_eq_false h3, if_neg (fun h => h3 h.2.2)]
        exact ev_last hbad
    · rw [if_neg (fun h => h2 h.2.1)]
      exact ev_if_neg (by simpa using h2) (ev_last hbad)
  · rw [if_neg (fun h => h1 h.1)]
    exact ev_if_neg (by simpa using h1) (ev_last hbad)

end Go.Proofs.YtjldfmkpdkhnnaaGreatDoor.Pure

namespace Go.Proofs.YtjldfmkpdkhnnaaGreatDoor.Pure
open Go.RowKit Go.Proofs.YtjldfmkpdkhnnaaGreatDoor.QL Go.Proofs.YtjldfmkpdkhnnaaGreatDoorW.PrintWords Go.Proofs.YtjldfmkpdkhnnaaGreatDoorW.PrintLast Go.Proofs.YtjldfmkpdkhnnaaGreatDoorW.PrintMore Go.Proofs.YtjldfmkpdkhnnaaGreatDoor.Aux Go.Proofs.YtjldfmkpdkhnnaaGreatDoor.Dom Go.Proofs.YtjldfmkpdkhnnaaGreatDoor.Ext
theorem spec_Dec_pos : ∀ (d : Nat) (n : Int) (acc : List Int), 0 ≤ n → n ≤ 9223372036854775807 → n < 10 ^ d → acc.length + d ≤ 100 → Ev (fun k => spec_Dec.l0 k n (strOfNums acc) false) (strOfNums (decL d n acc))
  | 0, n, acc, h0, h1, hn, ha => by
    refine ev_last fun k => ?_
    simp only [spec_Dec.l0]
    rw [if_pos (by simp at hn; omega), if_neg (by decide)]
    rfl
  | d + 1, n, acc, h0, h1, hn, ha => by
    by_cases h : n > 0
    · refine Ev.step (f := fun k => spec_Dec.l0 k (n / 10) (strOfNums ((48 + n % 10) :: acc)) false) (fun k => ?_) (ev_eq (spec_Dec_pos d (n / 10) _ (by omega) (by omega) (by rw [Int.pow_succ] at hn; omega) (by simp; omega)) (by rw [decL, if_pos h]))
      simp only [spec_Dec.l0, Option.bind_some]
      rw [if_neg (by omega), Int.tmod_eq_emod_of_nonneg (by omega), Int.tdiv_eq_ediv_of_nonneg (by omega), if_neg (by omega), if_pos (by rw [strOfNums_size, strOfNums_size]; simp; omega), wrap_id (x := 48 + n % 10) (by omega) (by omega), wrap_id (by omega) (by omega), Int.emod_eq_of_lt (a := 48 + n % 10) (by omega) (by omega), ← strOfNums_append]
      rfl
    · refine ev_last fun k => ?_
      simp only [spec_Dec.l0]
      rw [if_pos (by omega), if_neg (by decide), decL, if_neg h]
theorem spec_Dec_neg : ∀ (d : Nat) (n : Int) (acc : List Int), 0 ≤ n → n ≤ 9223372036854775808 → n < 10 ^ d → acc.length + d ≤ 100 → Ev (fun k => spec_Dec.l0 k (-n) (strOfNums acc) true) (strOfNums (45 :: decL d n acc))
  | 0, n, acc, h0, h1, hn, ha => by
    refine ev_last fun k => ?_
    simp only [spec_Dec.l0]
    rw [if_pos (by simp at hn; omega), if_pos (by trivial), if_pos (by rw [strOfNums_size]; omega)]
    rw [show (45 :: decL 0 n acc : List Int) = [45] ++ acc from rfl, strOfNums_append]
    rfl
  | d + 1, n, acc, h0, h1, hn, ha => by
    by_cases h : n > 0
    · refine Ev.step (f := fun k => spec_Dec.l0 k (-(n / 10)) (strOfNums ((48 + n % 10) :: acc)) true) (fun k => ?_) (ev_eq (spec_Dec_neg d (n / 10) _ (by omega) (by omega) (by rw [Int.pow_succ] at hn; omega) (by simp; omega)) (by rw [decL, if_pos h]))
      simp only [spec_Dec.l0, Option.bind_some]
      rw [if_neg (by omega), Int.neg_tmod, Int.neg_tdiv, Int.tmod_eq_emod_of_nonneg (by omega), Int.tdiv_eq_ediv_of_nonneg (by omega)]
      by_cases hr : -(n % 10) < 0
      · rw [if_pos hr, if_pos (by rw [strOfNums_size, strOfNums_size]; simp; omega), Int.neg_neg, wrap_id (x := n % 10) (by omega) (by omega), wrap_id (x := 48 + n % 10) (by omega) (by omega), wrap_id (by omega) (by omega), Int.emod_eq_of_lt (a := 48 + n % 10) (by omega) (by omega), ← strOfNums_append]
        rfl
      · have hr0 : n % 10 = 0 := by omega
        rw [if_neg hr, if_pos (by rw [strOfNums_size, strOfNums_size]; simp; omega), hr0, wrap_id (x := -(n / 10)) (by omega) (by omega), ← strOfNums_append, show (wrap64 (48 + -0) % 256 : Int) = 48 + 0 by rw [wrap_id (by omega) (by omega)]; omega]
        rfl
    · refine ev_last fun k => ?_
      simp only [spec_Dec.l0]
      rw [if_pos (by omega), if_pos (by trivial), if_pos (by rw [strOfNums_size]; omega), decL, if_neg h]
      rw [show (45 :: acc : List Int) = [45] ++ acc from rfl, strOfNums_append]
      rfl
theorem spec_Dec_ev (n : Int) (h0 : -9223372036854775808 ≤ n) (h1 : n ≤ 9223372036854775807) : Ev (fun k => spec_Dec.f k n) (decB n) := by
  have hp : (10 : Int) ^ 20 = 100000000000000000000 := by decide
  unfold decB decP
  by_cases hz : n = 0
  · rw [if_pos hz]
    exact ev_some fun k => by unfold spec_Dec.f; rw [if_pos hz]; rfl
  · rw [if_neg hz]
    refine Ev.congr (fun k => by unfold spec_Dec.f; rw [if_neg hz]) ?_
    by_cases hn : n < 0
    · rw [if_pos hn, decide_eq_true hn]
      have h := spec_Dec_neg 20 (-n) [] (by omega) (by omega) (by rw [hp]; omega) (by simp)
      rw [Int.neg_neg] at h
      exact h
    · rw [if_neg hn, decide_eq_false hn]
      exact spec_Dec_pos 20 n [] (by omega) (by omega) (by rw [hp]; omega) (by simp)

end Go.Proofs.YtjldfmkpdkhnnaaGreatDoor.Pure

namespace Go.Proofs.YtjldfmkpdkhnnaaGreatDoor.Pure
open Go.RowKit Go.Proofs.YtjldfmkpdkhnnaaGreatDoor.QL Go.Proofs.YtjldfmkpdkhnnaaGreatDoorW.PrintWords Go.Proofs.YtjldfmkpdkhnnaaGreatDoorW.PrintLast Go.Proofs.YtjldfmkpdkhnnaaGreatDoorW.PrintMore Go.Proofs.YtjldfmkpdkhnnaaGreatDoor.Aux Go.Proofs.YtjldfmkpdkhnnaaGreatDoor.Dom Go.Proofs.YtjldfmkpdkhnnaaGreatDoor.Ext
theorem spec_l4Two_eq {n : Int} (h0 : 0 ≤ n) (h1 : n ≤ 99) : spec_l4Two.f n = some (strOfNums (twoL n)) := by
  unfold spec_l4Two.f twoL
  rw [Int.tdiv_eq_ediv_of_nonneg h0, wrap_id (x := n / 10) (by omega) (by omega), Int.tmod_eq_emod_of_nonneg (by omega), Int.tmod_eq_emod_of_nonneg h0, wrap_id (by omega) (by omega), wrap_id (by omega) (by omega), Int.emod_eq_of_lt (a := 48 + n / 10 % 10) (by omega) (by omega), Int.emod_eq_of_lt (a := 48 + n % 10) (by omega) (by omega)]
theorem daysP_year {y : Int} (h : 1970 ≤ y) (h2 : y ≤ 2037) : daysP y 1 1 = yearsD (y - 1970).toNat 1970 := by
  have hb := monthD_bd y 1
  unfold daysP
  rw [if_pos ⟨⟨h, h2⟩, by omega, by omega⟩]
  simp [monthsD]
theorem daysP_month {y m : Int} (h : 1970 ≤ y) (h2 : y ≤ 2037) (h3 : 1 ≤ m) (h4 : m ≤ 12) : daysP y m 1 = yearsD (y - 1970).toNat 1970 + monthsD y (m - 1).toNat 1 := by
  have hb := monthD_bd y m
  unfold daysP
  rw [if_pos ⟨⟨h, h2⟩, ⟨h3, h4⟩, by omega⟩]
  omega
theorem spec_ShowDate_j3 (sec y m : Int) (hs0 : 0 ≤ sec) (hs1 : sec ≤ 2000000000) (hy : 1970 ≤ y) (hy2 : y ≤ 2037) (hm : 1 ≤ m) (hm2 : m ≤ 12) (hd : daysP y m 1 ≤ sec / 86400) (hd2 : sec / 86400 < daysP y m 1 + monthD y m) :
    Ev (fun k => spec_ShowDate.j3 k sec (sec / 86400) y m) (strOfNums (weekL (sec / 86400 % 7) ++ [44, 32] ++ twoL (sec / 86400 - daysP y m 1 + 1) ++ [32] ++ monL m ++ [32] ++ decP y ++ [32] ++ twoL (sec / 3600 % 24) ++ [58] ++ twoL (sec / 60 % 60) ++ [58] ++ twoL (sec % 60) ++ [32, 71, 77, 84])) := by
  have hb := monthD_bd y m
  have hdp := daysP_month hy hy2 hm hm2
  have hyb := yearsD_bd (y - 1970).toNat 1970
  have hmb := monthsD_bd y (m - 1).toNat 1
  have w2 : wrap64 (m - 1) = m - 1 := wrap_id (by omega) (by omega)
  have w1 : wrap64 (wrap64 (sec / 86400 - daysP y m 1) + 1) = sec / 86400 - daysP y m 1 + 1 := by rw [wrap_id (x := sec / 86400 - daysP y m 1) (by omega) (by omega), wrap_id (by omega) (by omega)]
  have w3 : Int.tmod (wrap64 (Int.tdiv sec 3600)) 24 = sec / 3600 % 24 := by rw [Int.tdiv_eq_ediv_of_nonneg hs0, wrap_id (by omega) (by omega), Int.tmod_eq_emod_of_nonneg (by omega)]
  have w4 : Int.tmod (wrap64 (Int.tdiv sec 60)) 60 = sec / 60 % 60 := by rw [Int.tdiv_eq_ediv_of_nonneg hs0, wrap_id (by omega) (by omega), Int.tmod_eq_emod_of_nonneg (by omega)]
  have w5 : Int.tmod sec 60 = sec % 60 := Int.tmod_eq_emod_of_nonneg hs0
  have w6 : Int.tmod (sec / 86400) 7 = sec / 86400 % 7 := Int.tmod_eq_emod_of_nonneg (by omega)
  have s1 : (strOfNums (weekL (sec / 86400 % 7))).size = 3 := by rw [strOfNums_size, weekL_length]
  have s2 : ∀ n, (strOfNums (twoL n)).size = 2 := fun n => by rw [strOfNums_size]; rfl
  have s3 : (strOfNums (monL m)).size = 3 := by rw [strOfNums_size, monL_length]
  have s4 : (decB y).size = 4 := by unfold decB; rw [decP_year (by omega) (by omega), strOfNums_size]; rfl
  have z1 : (⟨#[44, 32]⟩ : ByteArray).size = 2 := rfl
  have z2 : (⟨#[32]⟩ : ByteArray).size = 1 := rfl
  have z3 : (⟨#[58]⟩ : ByteArray).size = 1 := rfl
  refine Ev.step (fun k => by simp only [spec_ShowDate.j3]; rfl) (ev_bind (spec_DaysOf_ev y m 1) ?_)
  refine Ev.congr (fun k => by
    simp only [Option.bind_some]
    rw [w6, if_pos (c := 0 ≤ sec / 86400 % 7) (by omega), if_pos (c := sec / 86400 % 7 < _) (by simp; omega), w2, if_pos (c := 0 ≤ m - 1) (by omega), if_pos (c := m - 1 < _) (by simp; omega), week_rd (by omega) (by omega), months_rd hm hm2, if_pos (by rw [s1]; decide), w1, spec_l4Two_eq (n := sec / 86400 - daysP y m 1 + 1) (by omega) (by omega), Option.bind_some]) ?_
  refine Ev.congr (fun k => by
    simp only [ByteArray.size_append, s1, s2, s3, z1, z2, Nat.reduceAdd, Nat.reduceLeDiff, if_true]
    rfl) ?_
  refine ev_bind (spec_Dec_ev y (by omega) (by omega)) ?_
  refine ev_some fun k => ?_
  rw [w3, w4, w5, spec_l4Two_eq (n := sec / 3600 % 24) (by omega) (by omega), spec_l4Two_eq (n := sec / 60 % 60) (by omega) (by omega), spec_l4Two_eq (n := sec % 60) (by omega) (by omega)]
  simp only [Option.bind_some, ByteArray.size_append, s1, s2, s3, s4, z1, z2, z3, Nat.reduceAdd, Nat.reduceLeDiff, if_true]
  congr 1
  simp only [strOfNums_append, decB]
  rfl
theorem spec_ShowDate_l1 (sec y : Int) (hs0 : 0 ≤ sec) (hs1 : sec ≤ 2000000000) (hy : 1970 ≤ y) (hy2 : y ≤ 2037) : ∀ (f : Nat) (m d : Int), 1 ≤ m → m + f = 13 → 0 ≤ d → d < monthsD y f m → daysP y m 1 + d = sec / 86400 →
    Ev (fun k => spec_ShowDate.l1 k sec (sec / 86400) y m) (strOfNums (weekL (sec / 86400 % 7) ++ [44, 32] ++ twoL ((mdL y f m d).2 + 1) ++ [32] ++ monL (mdL y f m d).1 ++ [32] ++ decP y ++ [32] ++ twoL (sec / 3600 % 24) ++ [58] ++ twoL (sec / 60 % 60) ++ [58] ++ twoL (sec % 60) ++ [32, 71, 77, 84]))
  | 0, m, d, h1, hf, h0, hd, he => by simp [monthsD] at hd; omega
  | f + 1, m, d, h1, hf, h0, hd, he => by
    have hb := monthD_bd y m
    rw [monthsD] at hd
    rw [mdL]
    have e3 : d = sec / 86400 - daysP y m 1 := by omega
    by_cases h12 : m < 12
    · have hn : daysP y (m + 1) 1 = daysP y m 1 + monthD y m := by
        rw [daysP_month hy hy2 (by omega) (by omega), daysP_month hy hy2 h1 (by omega), show (m + 1 - 1).toNat = (m - 1).toNat + 1 by omega, monthsD_succ, show 1 + (((m - 1).toNat : Nat) : Int) = m by omega]
        omega
      refine Ev.step (fun k => by simp only [spec_ShowDate.l1]; rw [if_pos h12, wrap_id (x := m + 1) (by omega) (by omega)]) (ev_bind (spec_DaysOf_ev y (m + 1) 1) ?_)
      by_cases h : monthD y m ≤ d
      · rw [if_pos h]
        exact ev_if_pos (by omega) (spec_ShowDate_l1 sec y hs0 hs1 hy hy2 f (m + 1) (d - monthD y m) (by omega) (by omega) (by omega) (by omega) (by omega))
      · rw [if_neg h]
        refine ev_if_neg (by omega) ?_
        have := spec_ShowDate_j3 sec y m hs0 hs1 hy hy2 h1 (by omega) (by omega) (by omega)
        rw [← e3] at this
        exact this
    · refine Ev.step (f := fun k => spec_ShowDate.j3 k sec (sec / 86400) y m) (fun k => by simp only [spec_ShowDate.l1]; rw [if_neg h12]) ?_
      have hf0 : f = 0 := by omega
      subst hf0
      simp only [monthsD] at hd
      rw [if_neg (by omega)]
      have := spec_ShowDate_j3 sec y m hs0 hs1 hy hy2 h1 (by omega) (by omega) (by omega)
      rw [← e3] at this
      exact this
theorem spec_ShowDate_l0 (sec : Int) (hs0 : 0 ≤ sec) (hs1 : sec ≤ 2000000000) : ∀ (f : Nat) (y d : Int), 1970 ≤ y → y + f = 2037 → 0 ≤ d → d < 365 * f → daysP y 1 1 + d = sec / 86400 →
    Ev (fun k => spec_ShowDate.l0 k sec (sec / 86400) y 1) (strOfNums (weekL (sec / 86400 % 7) ++ [44, 32] ++ twoL ((mdL (ydL f y d).1 12 1 (ydL f y d).2).2 + 1) ++ [32] ++ monL (mdL (ydL f y d).1 12 1 (ydL f y d).2).1 ++ [32] ++ decP (ydL f y d).1 ++ [32] ++ twoL (sec / 3600 % 24) ++ [58] ++ twoL (sec / 60 % 60) ++ [58] ++ twoL (sec % 60) ++ [32, 71, 77, 84]))
  | 0, y, d, h1, hf, h0, hd, he => by omega
  | f + 1, y, d, h1, hf, h0, hd, he => by
    have hb := yearD_bd y
    rw [ydL]
    have hn : daysP (y + 1) 1 1 = daysP y 1 1 + yearD y := by
      rw [daysP_year (by omega) (by omega), daysP_year h1 (by omega), show (y + 1 - 1970).toNat = (y - 1970).toNat + 1 by omega, yearsD_succ, show 1970 + (((y - 1970).toNat : Nat) : Int) = y by omega]
    refine Ev.step (fun k => by simp only [spec_ShowDate.l0]; rw [if_pos (by omega), wrap_id (x := y + 1) (by omega) (by omega)]) (ev_bind (spec_DaysOf_ev (y + 1) 1 1) ?_)
    by_cases h : yearD y ≤ d
    · rw [if_pos h]
      exact ev_if_pos (by omega) (spec_ShowDate_l0 sec hs0 hs1 f (y + 1) (d - yearD y) (by omega) (by omega) (by omega) (by omega) (by omega))
    · rw [if_neg h]
      have hw := yearW_eq y
      unfold yearW at hw
      refine ev_if_neg (by omega) (Ev.step (f := fun k => spec_ShowDate.l1 k sec (sec / 86400) y 1) (fun k => by simp only [spec_ShowDate.j1]) ?_)
      exact spec_ShowDate_l1 sec y hs0 hs1 h1 (by omega) 12 1 d (by omega) (by omega) h0 (by omega) he
theorem spec_ShowDate_ev (sec : Int) (h0 : -9223372036854775808 ≤ sec) (h1 : sec ≤ 9223372036854775807) : Ev (fun k => spec_ShowDate.f k sec) (dateB sec) := by
  refine Ev.congr (fun k => by unfold spec_ShowDate.f; rw [spec_l1In_eq, Option.bind_some]) ?_
  unfold dateB
  by_cases h : 0 ≤ sec ∧ sec ≤ 2000000000
  · rw [if_pos h]
    refine ev_if_pos (by simpa using h) ?_
    have w1 : wrap64 (Int.tdiv sec 86400) = sec / 86400 := by rw [Int.tdiv_eq_ediv_of_nonneg h.1, wrap_id (by omega) (by omega)]
    refine Ev.congr (fun k => by rw [w1]) ?_
    have hy0 : daysP 1970 1 1 = 0 := by rw [daysP_year (by omega) (by omega)]; rfl
    refine ev_eq (spec_ShowDate_l0 sec h.1 h.2 67 1970 (sec / 86400) (by omega) (by omega) (by omega) (by omega) (by omega)) ?_
    unfold dateL ymd
    rw [show (70 : Nat) = 67 + 3 from rfl, ydL_more 67 3 1970 (sec / 86400) (by omega) (by omega)]
  · rw [if_neg h]
    exact ev_if_neg (by simpa using h) (Ev.now _)

end Go.Proofs.YtjldfmkpdkhnnaaGreatDoor.Pure

namespace Go.Proofs.YtjldfmkpdkhnnaaGreatDoor.Pure
open Go.RowKit Go.Proofs.YtjldfmkpdkhnnaaGreatDoor.QL Go.Proofs.YtjldfmkpdkhnnaaGreatDoorW.PrintWords Go.Proofs.YtjldfmkpdkhnnaaGreatDoorW.PrintLast Go.Proofs.YtjldfmkpdkhnnaaGreatDoorW.PrintMore Go.Proofs.YtjldfmkpdkhnnaaGreatDoor.Aux Go.Proofs.YtjldfmkpdkhnnaaGreatDoor.Dom Go.Proofs.YtjldfmkpdkhnnaaGreatDoor.Ext
theorem trimB_blank (s : ByteArray) : trimB (⟨#[32]⟩ ++ s) = trimB s := by
  unfold trimB trimC
  rw [bytesOf_append, dropWhile_ends, dropWhile_ends, show bytesOf (⟨#[32]⟩ : ByteArray) = [32] from rfl, List.singleton_append, List.dropWhile_cons_of_pos (by decide)]
theorem app_assoc (a b c : ByteArray) : a ++ b ++ c = a ++ (b ++ c) := bytesOf_inj (by simp only [bytesOf_append, List.append_assoc])
def qsS : List Int → Bool → Bool → Bool × Bool
  | [], q, k => (q, k)
  | _ :: r, q, true => qsS r q false
  | c :: r, q, false => if c = 34 then qsS r (!q) false else if q = true ∧ c = 92 then qsS r q true else qsS r q false
theorem comL_append : ∀ (x y : List Int) (q k : Bool) (i : Int), comL (x ++ y) q k i = comL x q k i ++ comL y (qsS x q k).1 (qsS x q k).2 (i + x.length)
  | [], y, q, k, i => by simp [comL, qsS]
  | c :: x, y, q, true, i => by
    have e : i + 1 + (x.length : Int) = i + ((c :: x).length : Int) := by rw [List.length_cons]; omega
    rw [List.cons_append, comL, comL, qsS, comL_append x y q false (i + 1), e]
  | c :: x, y, q, false, i => by
    have e : i + 1 + (x.length : Int) = i + ((c :: x).length : Int) := by rw [List.length_cons]; omega
    rw [List.cons_append, comL, comL, qsS]
    by_cases h1 : c = 34
    · simp only [if_pos h1]
      rw [comL_append x y _ false (i + 1), e]
    · simp only [if_neg h1]
      by_cases h2 : q = true ∧ c = 92
      · simp only [if_pos h2]
        rw [comL_append x y _ true (i + 1), e]
      · simp only [if_neg h2]
        rw [comL_append x y _ false (i + 1), e]
        by_cases h3 : q = false ∧ c = 44
        · rw [if_pos h3, if_pos h3, List.cons_append]
        · rw [if_neg h3, if_neg h3]
theorem qsS_append : ∀ (x y : List Int) (q k : Bool), qsS (x ++ y) q k = qsS y (qsS x q k).1 (qsS x q k).2
  | [], y, q, k => by simp [qsS]
  | c :: x, y, q, true => by rw [List.cons_append, qsS, qsS, qsS_append x y q false]
  | c :: x, y, q, false => by
    rw [List.cons_append, qsS, qsS]
    by_cases h1 : c = 34
    · simp only [if_pos h1]
      exact qsS_append x y _ false
    · simp only [if_neg h1]
      by_cases h2 : q = true ∧ c = 92
      · simp only [if_pos h2]
        exact qsS_append x y _ true
      · simp only [if_neg h2]
        exact qsS_append x y _ false
theorem comL_shift (n : Int) : ∀ (l : List Int) (q k : Bool) (i : Int), comL l q k (i + n) = (comL l q k i).map (· + n)
  | [], q, k, i => by simp [comL]
  | c :: x, q, true, i => by rw [comL, comL, ← comL_shift n x q false (i + 1), show i + n + 1 = i + 1 + n by omega]
  | c :: x, q, false, i => by
    rw [comL, comL, show i + n + 1 = i + 1 + n by omega, comL_shift n x _ false (i + 1), comL_shift n x _ true (i + 1), comL_shift n x _ false (i + 1)]
    by_cases h1 : c = 34
    · simp only [if_pos h1]
    · simp only [if_neg h1]
      by_cases h2 : q = true ∧ c = 92
      · simp only [if_pos h2]
      · simp only [if_neg h2]
        by_cases h3 : q = false ∧ c = 44
        · simp only [if_pos h3, List.map_cons]
        · simp only [if_neg h3]
theorem ext_left (u t : ByteArray) {i j : Nat} (h : j ≤ u.size) : (u ++ t).extract i j = u.extract i j :=
  bytesOf_inj (by rw [bytesOf_extract, bytesOf_extract, bytesOf_append, List.take_append_of_le_length (by rw [bytesOf_length]; omega)])
theorem ext_right (u t : ByteArray) (i j : Nat) : (u ++ t).extract (i + u.size) (j + u.size) = t.extract i j := by
  refine bytesOf_inj ?_
  have hl := bytesOf_length u
  rw [bytesOf_extract, bytesOf_extract, bytesOf_append, List.take_append, List.take_of_length_le (by omega), List.drop_append, List.drop_of_length_le (by omega), List.nil_append, hl]
  congr 1
  · omega
  · congr 1
    omega
theorem upL_shift (n m : Int) : ∀ (P : List Int) (a : Int), upL n a P → upL (n + m) (a + m) (P.map (· + m))
  | [], a, _ => trivial
  | b :: P, a, h => by
    have h1 := h.1
    have h2 := h.2.1
    refine ⟨show a + m ≤ b + m by omega, show b + m ≤ n + m by omega, ?_⟩
    have := upL_shift n m P (b + 1) h.2.2
    rw [show b + 1 + m = b + m + 1 by omega] at this
    exact this
theorem upL_weak {n a c : Int} (hc : c ≤ a) : ∀ {P : List Int}, upL n a P → upL n c P
  | [], _ => trivial
  | _ :: _, h => ⟨by have := h.1; omega, h.2.1, h.2.2⟩
theorem splL_left (u t : ByteArray) : ∀ (P : List Int) (a : Int), 0 ≤ a → upL u.size a P → splL (u ++ t) a P = splL u a P
  | [], a, _, _ => rfl
  | b :: P, a, h0, h => by
    obtain ⟨h1, h2, h3⟩ := h
    rw [splL, splL, ext_left u t (show b.toNat ≤ u.size by omega), splL_left u t P (b + 1) (by omega) h3]
theorem splL_right (u t : ByteArray) : ∀ (P : List Int) (a : Int), 0 ≤ a → upL t.size a P → splL (u ++ t) (a + u.size) (P.map (· + (u.size : Int))) = splL t a P
  | [], a, _, _ => rfl
  | b :: P, a, h0, h => by
    obtain ⟨h1, h2, h3⟩ := h
    rw [List.map_cons, splL, splL, show (a + (u.size : Int)).toNat = a.toNat + u.size by omega, show (b + (u.size : Int)).toNat = b.toNat + u.size by omega, ext_right u t, show b + (u.size : Int) + 1 = b + 1 + u.size by omega, splL_right u t P (b + 1) (by omega) h3]
theorem splL_mid (s : ByteArray) (b : Int) (Q : List Int) : ∀ (P : List Int) (a : Int), splL s a (P ++ b :: Q) = splL s a (P ++ [b]) ++ splL s (b + 1) Q
  | [], a => by
    rw [List.nil_append, List.nil_append, splL, splL, splL]
    by_cases h : trimB (s.extract a.toNat b.toNat) = ⟨#[]⟩
    · rw [if_pos h, if_pos h, List.nil_append]
    · rw [if_neg h, if_neg h, List.cons_append, List.nil_append]
  | c :: P, a => by
    rw [List.cons_append, List.cons_append, splL, splL, splL_mid s b Q P (c + 1)]
    by_cases h : trimB (s.extract a.toNat c.toNat) = ⟨#[]⟩
    · rw [if_pos h, if_pos h]
    · rw [if_neg h, if_neg h, List.cons_append]
theorem splL_head (v : ByteArray) (b : Int) (P : List Int) (h : upL v.size 0 (b :: P)) : splL (⟨#[32]⟩ ++ v) 0 ((b :: P).map (· + 1)) = splL v 0 (b :: P) := by
  obtain ⟨h1, h2, h3⟩ := h
  have r := splL_right ⟨#[32]⟩ v P (b + 1) (by omega) h3
  rw [show (((⟨#[32]⟩ : ByteArray).size : Nat) : Int) = 1 from rfl] at r
  have e : ((⟨#[32]⟩ : ByteArray) ++ v).extract (0 : Int).toNat (b + 1).toNat = ⟨#[32]⟩ ++ v.extract (0 : Int).toNat b.toNat := by
    refine bytesOf_inj ?_
    rw [bytesOf_extract, bytesOf_append, bytesOf_append, bytesOf_extract, show (b + 1).toNat = b.toNat + 1 by omega]
    rfl
  rw [List.map_cons, splL, splL, e, trimB_blank, r]
def partsL (s : ByteArray) : List ByteArray := splL s 0 (comL (bytesOf s) false false 0 ++ [(s.size : Int)])
theorem parts_twice (v : ByteArray) (hq : qsS (bytesOf v) false false = (false, false)) : partsL (v ++ ⟨#[44, 32]⟩ ++ v) = partsL v ++ partsL v := by
  have hup := comL_up (v.size : Int) (bytesOf v) false false 0 0 (by omega) (by rw [bytesOf_length]; omega)
  have e1 : v ++ ⟨#[44, 32]⟩ ++ v = v ++ (⟨#[44]⟩ ++ (⟨#[32]⟩ ++ v)) := bytesOf_inj (by simp only [bytesOf_append, List.append_assoc]; rfl)
  have e2 : v ++ (⟨#[44]⟩ ++ (⟨#[32]⟩ ++ v)) = (v ++ ⟨#[44]⟩) ++ (⟨#[32]⟩ ++ v) := by rw [app_assoc]
  have e3 : comL (bytesOf (v ++ (⟨#[44]⟩ ++ (⟨#[32]⟩ ++ v)))) false false 0 = comL (bytesOf v) false false 0 ++ ((v.size : Int) :: (comL (bytesOf v) false false 0).map (· + ((v.size : Int) + 2))) := by
    rw [bytesOf_append, comL_append, hq, bytesOf_length, ← comL_shift]
    have : bytesOf (⟨#[44]⟩ ++ (⟨#[32]⟩ ++ v)) = 44 :: 32 :: bytesOf v := by rw [bytesOf_append, bytesOf_append]; rfl
    rw [this, comL, if_neg (by decide), if_neg (by decide), if_pos (by decide), comL, if_neg (by decide), if_neg (by decide), if_neg (by decide), show 0 + (v.size : Int) = v.size by omega, show (v.size : Int) + 1 + 1 = 0 + (v.size + 2) by omega]
  have e4 : (((v ++ (⟨#[44]⟩ ++ (⟨#[32]⟩ ++ v))).size : Nat) : Int) = (v.size : Int) + (v.size + 2) := by
    rw [ByteArray.size_append, ByteArray.size_append, ByteArray.size_append, show (⟨#[44]⟩ : ByteArray).size = 1 from rfl, show (⟨#[32]⟩ : ByteArray).size = 1 from rfl]
    omega
  unfold partsL
  rw [e1, e3, e4]
  generalize hC : comL (bytesOf v) false false 0 ++ [(v.size : Int)] = C at hup
  have e5 : comL (bytesOf v) false false 0 ++ ((v.size : Int) :: (comL (bytesOf v) false false 0).map (· + ((v.size : Int) + 2))) ++ [(v.size : Int) + (v.size + 2)] = comL (bytesOf v) false false 0 ++ (v.size : Int) :: (C.map (· + 1)).map (· + (((v ++ ⟨#[44]⟩).size : Nat) : Int)) := by
    rw [← hC, List.map_map, List.append_assoc, List.cons_append, List.map_append]
    have f : ((fun x : Int => x + (((v ++ ⟨#[44]⟩).size : Nat) : Int)) ∘ fun x => x + 1) = fun x => x + ((v.size : Int) + 2) := by
      funext x
      simp only [Function.comp, ByteArray.size_append]
      rw [show (⟨#[44]⟩ : ByteArray).size = 1 from rfl]
      omega
    rw [f]
    rfl
  rw [e5, splL_mid, hC, splL_left v _ C 0 (by omega) hup]
  congr 1
  have e6 : (v.size : Int) + 1 = 0 + (((v ++ ⟨#[44]⟩).size : Nat) : Int) := by
    rw [ByteArray.size_append, show (⟨#[44]⟩ : ByteArray).size = 1 from rfl]
    omega
  have hu2 := upL_weak (show (0 : Int) ≤ 0 + 1 by omega) (upL_shift (v.size : Int) 1 C 0 hup)
  have hsz : (((⟨#[32]⟩ ++ v : ByteArray).size : Nat) : Int) = (v.size : Int) + 1 := by
    rw [ByteArray.size_append, show (⟨#[32]⟩ : ByteArray).size = 1 from rfl]
    omega
  rw [e2, e6, splL_right (v ++ ⟨#[44]⟩) (⟨#[32]⟩ ++ v) (C.map (· + 1)) 0 (by omega) (by rw [hsz]; exact hu2)]
  cases C with
  | nil => simp at hC
  | cons b P => exact splL_head v b P hup
theorem foldl_pre (sep : ByteArray) : ∀ (t : List ByteArray) (a b : ByteArray), t.foldl (fun s v => s ++ sep ++ v) (a ++ b) = a ++ t.foldl (fun s v => s ++ sep ++ v) b
  | [], a, b => rfl
  | x :: t, a, b => by
    rw [List.foldl_cons, List.foldl_cons, ← foldl_pre sep t a]
    congr 1
    rw [app_assoc, app_assoc, app_assoc]
theorem joinB_append (sep : ByteArray) {V W : List ByteArray} (hV : V ≠ []) (hW : W ≠ []) : joinB sep (V ++ W) = joinB sep V ++ sep ++ joinB sep W := by
  cases V with
  | nil => exact absurd rfl hV
  | cons x r =>
    cases W with
    | nil => exact absurd rfl hW
    | cons y t =>
      simp only [joinB, List.cons_append, List.foldl_append, List.foldl_cons]
      exact foldl_pre sep t _ y
def balB (v : ByteArray) : Prop := qsS (bytesOf v) false false = (false, false)
theorem balB_join : ∀ {V : List ByteArray}, (∀ v ∈ V, balB v) → balB (joinB ⟨#[44, 32]⟩ V)
  | [], _ => rfl
  | x :: r, h => by
    have key : ∀ (r : List ByteArray) (a : ByteArray), balB a → (∀ v ∈ r, balB v) → balB (r.foldl (fun s v => s ++ ⟨#[44, 32]⟩ ++ v) a) := by
      intro r
      induction r with
      | nil => intro a ha _; exact ha
      | cons y t ih =>
        intro a ha hr
        refine ih _ ?_ (fun v hv => hr v (List.mem_cons_of_mem _ hv))
        have hy := hr y List.mem_cons_self
        unfold balB at ha hy ⊢
        rw [bytesOf_append, bytesOf_append, qsS_append, qsS_append, ha]
        exact hy
    exact key r x (h x List.mem_cons_self) (fun v hv => h v (List.mem_cons_of_mem _ hv))
theorem getL_append (nm : ByteArray) : ∀ A B : List (ByteArray × ByteArray), getL nm (A ++ B) = getL nm A ++ getL nm B
  | [], B => rfl
  | p :: A, B => by
    rw [List.cons_append, getL, getL, getL_append nm A B]
    by_cases h : p.1 = nm
    · rw [if_pos h, if_pos h, List.cons_append]
    · rw [if_neg h, if_neg h]
theorem getL_mem (nm : ByteArray) : ∀ {A : List (ByteArray × ByteArray)} {v : ByteArray}, v ∈ getL nm A → ∃ p ∈ A, p.1 = nm ∧ p.2 = v
  | [], v, h => by cases h
  | p :: A, v, h => by
    rw [getL] at h
    split at h
    · rename_i hp
      rcases List.mem_cons.1 h with rfl | h
      · exact ⟨p, List.mem_cons_self, hp, rfl⟩
      · obtain ⟨q, a, b⟩ := getL_mem nm h
        exact ⟨q, List.mem_cons_of_mem _ a, b⟩
    · obtain ⟨q, a, b⟩ := getL_mem nm h
      exact ⟨q, List.mem_cons_of_mem _ a, b⟩
theorem dirL_append : ∀ A B : List ByteArray, dirL (A ++ B) = dirL A ++ dirL B
  | [], B => rfl
  | p :: A, B => by
    rw [List.cons_append, dirL, dirL, dirL_append A B]
    cases dirOf p with
    | none => rfl
    | some d => rfl
theorem dirsL_twice (L : List (ByteArray × ByteArray)) (h : ∀ p ∈ L, p.1 = nmCC → balB p.2) : dirsL (L ++ L) = dirsL L ++ dirsL L := by
  have hd : ∀ M, dirsL M = dirL (partsL (ccB M)) := fun _ => rfl
  rw [hd, hd]
  unfold ccB
  rw [getL_append]
  by_cases hV : getL nmCC L = []
  · rw [hV]
    rfl
  · rw [joinB_append _ hV hV, parts_twice _ (balB_join fun v hv => ?_), dirL_append]
    obtain ⟨p, a, b, c⟩ := getL_mem nmCC hv
    exact c ▸ h p a b
theorem ccL_append (nm : ByteArray) : ∀ A B : List (ByteArray × ByteArray), ccL nm (A ++ B) = ccL nm A ++ ccL nm B
  | [], B => rfl
  | p :: A, B => by
    rw [List.cons_append, ccL, ccL, ccL_append nm A B]
    by_cases h : p.1 = nm
    · rw [if_pos h, if_pos h, List.cons_append]
    · rw [if_neg h, if_neg h]
theorem finS_true : ∀ (V : List Int) (n : Int), (finS n true V).2 = true ∧ (finS n true V).1 ≤ n ∧ ∀ v ∈ V, (finS n true V).1 ≤ v
  | [], n => by
    rw [finS, if_pos rfl]
    exact ⟨rfl, Int.le_refl n, fun v hv => by cases hv⟩
  | x :: V, n => by
    obtain ⟨a, b, c⟩ := finS_true V (mn n x)
    rw [finS]
    have h1 : mn n x ≤ n := by unfold mn; split <;> omega
    have h2 : mn n x ≤ x := by unfold mn; split <;> omega
    refine ⟨a, by omega, fun v hv => ?_⟩
    rcases List.mem_cons.1 hv with rfl | hv
    · omega
    · exact c v hv
theorem finS_same : ∀ (W : List Int) (n : Int), (∀ w ∈ W, n ≤ w) → finS n true W = (n, true)
  | [], n, _ => by rw [finS, if_pos rfl]
  | x :: W, n, h => by
    have hx := h x List.mem_cons_self
    have e : mn n x = n := by unfold mn; split <;> omega
    rw [finS, e]
    exact finS_same W n (fun w hw => h w (List.mem_cons_of_mem _ hw))
theorem finS_app : ∀ (V W : List Int) (n : Int), finS n true (V ++ W) = finS (finS n true V).1 true W
  | [], W, n => by rw [finS, if_pos rfl, List.nil_append]
  | x :: V, W, n => by rw [List.cons_append, finS, finS, finS_app V W]
theorem finS_twice (V : List Int) (n : Int) (b : Bool) : finS n b (V ++ V) = finS n b V := by
  cases V with
  | nil => rfl
  | cons x V =>
    obtain ⟨p, q, r⟩ := finS_true V (mn n x)
    have h2 : mn n x ≤ x := by unfold mn; split <;> omega
    have e : mn (finS (mn n x) true V).1 x = (finS (mn n x) true V).1 := mn_le (by omega)
    rw [List.cons_append, finS, finS_app, finS, e, finS_same V _ r, finS]
    exact Prod.ext rfl p.symm
theorem ccSec_twice (L : List (ByteArray × ByteArray)) (nm : ByteArray) (h : ∀ p ∈ L, p.1 = nmCC → balB p.2) : ccSec (L ++ L) nm = ccSec L nm := by
  unfold ccSec
  rw [dirsL_twice L h, ccL_append, finS_twice]
theorem finS_any (nm : ByteArray) : ∀ (D : List (ByteArray × ByteArray)) (n : Int), (finS n false (ccL nm D)).2 = D.any fun p => decide (p.1 = nm)
  | [], n => rfl
  | p :: D, n => by
    rw [ccL, List.any_cons]
    by_cases h : p.1 = nm
    · rw [if_pos h, decide_eq_true h, Bool.true_or, finS]
      exact (finS_true _ _).1
    · rw [if_neg h, decide_eq_false h, Bool.false_or]
      exact finS_any nm D n
theorem ccL_in (nm : ByteArray) : ∀ {D : List (ByteArray × ByteArray)} {p : ByteArray × ByteArray}, p ∈ D → p.1 = nm → (secP (bytesOf p.2)).1 ∈ ccL nm D
  | q :: D, p, h, hp => by
    rw [ccL]
    rcases List.mem_cons.1 h with rfl | h
    · rw [if_pos hp]
      exact List.mem_cons_self
    · have := ccL_in nm h hp
      split
      · exact List.mem_cons_of_mem _ this
      · exact this
theorem finS_least {V : List Int} {v n : Int} (h : v ∈ V) : (finS n false V).1 ≤ v ∧ (finS n false V).2 = true := by
  cases V with
  | nil => cases h
  | cons x V =>
    rw [finS]
    obtain ⟨p, q, r⟩ := finS_true V (mn n x)
    have h2 : mn n x ≤ x := by unfold mn; split <;> omega
    refine ⟨?_, p⟩
    rcases List.mem_cons.1 h with rfl | h
    · omega
    · exact r v h
theorem ccSec_least {L : List (ByteArray × ByteArray)} {nm : ByteArray} {p : ByteArray × ByteArray} (h : p ∈ dirsL L) (hp : p.1 = nm) : (ccSec L nm).1 ≤ (secP (bytesOf p.2)).1 ∧ (ccSec L nm).2 = true := finS_least (ccL_in nm h hp)
theorem ccSec_any (L : List (ByteArray × ByteArray)) (nm : ByteArray) : (ccSec L nm).2 = (dirsL L).any fun p => decide (p.1 = nm) := finS_any nm _ _
theorem lowB_low (s : ByteArray) : lowB (lowB s) = lowB s := by
  unfold lowB
  rw [bytesOf_strOfNums (fun c hc => ?_), List.map_map]
  · congr 1
    refine List.map_congr_left fun c _ => ?_
    simp only [Function.comp, lowC]
    split
    · rw [if_neg (by omega)]
    · rfl
  · obtain ⟨d, hd, rfl⟩ := List.mem_map.1 hc
    exact lowC_range (bytesOf_range hd)
theorem dirL_low : ∀ (l : List ByteArray), ∀ d ∈ dirL l, lowB d.1 = d.1
  | [], d, h => by cases h
  | p :: r, d, h => by
    rw [dirL] at h
    split at h
    · rename_i x hx
      rcases List.mem_cons.1 h with rfl | h
      · unfold dirOf at hx
        split at hx
        · have hx := Option.some.inj hx
          subst hx
          exact lowB_low _
        · cases hx
      · exact dirL_low r d h
    · exact dirL_low r d h

end Go.Proofs.YtjldfmkpdkhnnaaGreatDoor.Pure

namespace Go.Proofs.YtjldfmkpdkhnnaaGreatDoor.Pure
open Go.RowKit Go.Proofs.YtjldfmkpdkhnnaaGreatDoor.QL Go.Proofs.YtjldfmkpdkhnnaaGreatDoorW.PrintWords Go.Proofs.YtjldfmkpdkhnnaaGreatDoorW.PrintLast Go.Proofs.YtjldfmkpdkhnnaaGreatDoorW.PrintMore Go.Proofs.YtjldfmkpdkhnnaaGreatDoor.Aux Go.Proofs.YtjldfmkpdkhnnaaGreatDoor.Dom Go.Proofs.YtjldfmkpdkhnnaaGreatDoor.Ext
theorem dateB_29 (x : Int) : (dateB x).size ≤ 29 := by
  unfold dateB
  split
  · rename_i hx
    rw [strOfNums_size, dateL_length hx.1 hx.2]
    exact Nat.le_refl _
  · exact Nat.zero_le _
def drB (v : ByteArray) : Bool := decide (v.size ≤ 60) && decide (qsS (bytesOf v) false false = (false, false))
def nmB (v : ByteArray) : Bool := decide (v.size ≤ 60) && decide (bytesOf v ≠ bytesOf nmCC)
def okF (a v : ByteArray) : Prop := a.size ≤ 60 ∧ v.size ≤ 60 ∧ (a = nmCC → balB v)
theorem okF_vals {a v : ByteArray} (ha : a.size ≤ 60) (hv : drB v = true) : okF a v := by
  unfold drB at hv
  rw [Bool.and_eq_true, decide_eq_true_eq, decide_eq_true_eq] at hv
  exact ⟨ha, hv.1, fun _ => hv.2⟩
theorem okF_names {a v : ByteArray} (ha : nmB a = true) (hv : v.size ≤ 60) : okF a v := by
  unfold nmB at ha
  rw [Bool.and_eq_true, decide_eq_true_eq, decide_eq_true_eq] at ha
  exact ⟨ha.1, hv, fun h => absurd (congrArg bytesOf h) ha.2⟩
theorem l1Pick_all (p : ByteArray → Bool) (b : List Int) (i h : Int) (l : List ByteArray) (hp : l.all p = true) (hl : 0 < l.length) (hb : b.length ≤ 1048576) (h0 : 0 ≤ i) : ∃ x i' h', spec_l1Pick.f b i h l = some (x, i', h') ∧ p x = true ∧ 0 ≤ i' := by
  obtain ⟨x, i1, g1, e1, a1, a3⟩ := l1Pick_ok b i h l hl hb h0
  exact ⟨x, i1, g1, e1, List.all_eq_true.1 hp x a1, a3⟩
def l3cc : List ByteArray := [⟨#[109, 97, 120, 45, 97, 103, 101, 61, 49, 48]⟩, ⟨#[110, 111, 45, 115, 116, 111, 114, 101]⟩, ⟨#[110, 111, 45, 99, 97, 99, 104, 101]⟩, ⟨#[112, 114, 105, 118, 97, 116, 101]⟩, ⟨#[112, 117, 98, 108, 105, 99, 44, 32, 109, 97, 120, 45, 97, 103, 101, 61, 51]⟩, ⟨#[115, 45, 109, 97, 120, 97, 103, 101, 61, 55, 44, 32, 109, 97, 120, 45, 97, 103, 101, 61, 49]⟩, ⟨#[109, 117, 115, 116, 45, 114, 101, 118, 97, 108, 105, 100, 97, 116, 101]⟩, ⟨#[109, 97, 120, 45, 115, 116, 97, 108, 101, 61, 53]⟩, ⟨#[109, 105, 110, 45, 102, 114, 101, 115, 104, 61, 50]⟩, ⟨#[111, 110, 108, 121, 45, 105, 102, 45, 99, 97, 99, 104, 101, 100]⟩, ⟨#[109, 97, 120, 45, 97, 103, 101, 61, 48]⟩, ⟨#[112, 117, 98, 108, 105, 99]⟩]
def l3vary : List ByteArray := [⟨#[97, 99, 99, 101, 112, 116]⟩, ⟨#[42]⟩, ⟨#[97, 99, 99, 101, 112, 116, 44, 32, 120, 45, 97]⟩, ⟨#[120, 45, 97]⟩]
def l3acc : List ByteArray := [⟨#[97]⟩, ⟨#[98]⟩, ⟨#[97, 44, 32, 98]⟩, ⟨#[]⟩]
def l3xa : List ByteArray := [⟨#[49]⟩, ⟨#[50]⟩]
def l3etag : List ByteArray := [⟨#[34, 118, 49, 34]⟩, ⟨#[34, 118, 50, 34]⟩, ⟨#[87, 47, 34, 118, 49, 34]⟩]
def l3val : List ByteArray := [⟨#[51]⟩, ⟨#[48]⟩, ⟨#[57, 57, 57, 57, 57, 57, 57, 57, 57, 57, 57]⟩, ⟨#[120]⟩]
def l3dat : List ByteArray := [⟨#[101, 120, 112, 105, 114, 101, 115]⟩, ⟨#[108, 97, 115, 116, 45, 109, 111, 100, 105, 102, 105, 101, 100]⟩]
def l3nam : List ByteArray := [⟨#[97, 103, 101]⟩, ⟨#[120, 45, 98]⟩, ⟨#[97, 117, 116, 104, 111, 114, 105, 122, 97, 116, 105, 111, 110]⟩]
theorem l3Field_j0 (b : List Int) (hb : b.length ≤ 1048576) (x i h : Int) (t : Bool) (h0 : 0 ≤ i) : ∃ a v i' h', Ev (fun k => spec_l3Field.j0 k x t b i h) (a, v, i', h') ∧ okF a v ∧ 0 ≤ i' := by
  by_cases ht : t = true
  · obtain ⟨y, i2, g2, e2, b1, b3⟩ := l1Pick_all drB b i h l3cc (by decide) (by decide) hb h0
    exact ⟨_, _, _, _, Ev.step (fun k => by simp only [spec_l3Field.j0]; rfl) (ev_if_pos ht (ev_bind (ev_k e2) (Ev.now _))), okF_vals (by decide) b1, b3⟩
  by_cases c3 : x = 3
  · obtain ⟨y, i2, g2, e2, b1, b3⟩ := l1Pick_all drB b i h l3vary (by decide) (by decide) hb h0
    exact ⟨_, _, _, _, Ev.step (fun k => by simp only [spec_l3Field.j0]; rfl) (ev_if_neg ht (ev_if_pos c3 (ev_bind (ev_k e2) (Ev.now _)))), okF_vals (by decide) b1, b3⟩
  by_cases c4 : x = 4
  · obtain ⟨y, i2, g2, e2, b1, b3⟩ := l1Pick_all drB b i h l3acc (by decide) (by decide) hb h0
    exact ⟨_, _, _, _, Ev.step (fun k => by simp only [spec_l3Field.j0]; rfl) (ev_if_neg ht (ev_if_neg c3 (ev_if_pos c4 (ev_bind (ev_k e2) (Ev.now _))))), okF_vals (by decide) b1, b3⟩
  by_cases c5 : x = 5
  · obtain ⟨y, i2, g2, e2, b1, b3⟩ := l1Pick_all drB b i h l3xa (by decide) (by decide) hb h0
    exact ⟨_, _, _, _, Ev.step (fun k => by simp only [spec_l3Field.j0]; rfl) (ev_if_neg ht (ev_if_neg c3 (ev_if_neg c4 (ev_if_pos c5 (ev_bind (ev_k e2) (Ev.now _)))))), okF_vals (by decide) b1, b3⟩
  by_cases c6 : x = 6
  · obtain ⟨y, i2, g2, e2, b1, b3⟩ := l1Pick_all drB b i h l3etag (by decide) (by decide) hb h0
    exact ⟨_, _, _, _, Ev.step (fun k => by simp only [spec_l3Field.j0]; rfl) (ev_if_neg ht (ev_if_neg c3 (ev_if_neg c4 (ev_if_neg c5 (ev_if_pos c6 (ev_bind (ev_k e2) (Ev.now _))))))), okF_vals (by decide) b1, b3⟩
  by_cases c7 : x = 7
  · obtain ⟨y, i2, g2, e2, b1, b2, b3⟩ := l1Below_ok b i h 60 hb h0
    have hd := dateB_29 y
    exact ⟨_, _, _, _, Ev.step (fun k => by simp only [spec_l3Field.j0]; rfl) (ev_if_neg ht (ev_if_neg c3 (ev_if_neg c4 (ev_if_neg c5 (ev_if_neg c6 (ev_if_pos c7 (ev_bind (ev_k e2) (ev_bind (spec_ShowDate_ev y (by omega) (by omega)) (Ev.now _))))))))), okF_names (a := ⟨#[100, 97, 116, 101]⟩) (v := dateB y) (by decide) (by omega), b3⟩
  by_cases c8 : x = 8
  · obtain ⟨z, i2, g2, e2, b1, b3⟩ := l1Pick_all nmB b i h l3dat (by decide) (by decide) hb h0
    obtain ⟨y, i3, g3, e3, d1, d2, d3⟩ := l1Below_ok b i2 g2 60 hb b3
    have hd := dateB_29 y
    exact ⟨_, _, _, _, Ev.step (fun k => by simp only [spec_l3Field.j0]; rfl) (ev_if_neg ht (ev_if_neg c3 (ev_if_neg c4 (ev_if_neg c5 (ev_if_neg c6 (ev_if_neg c7 (ev_if_pos c8 (ev_bind (ev_k e2) (ev_bind (ev_k e3) (ev_bind (spec_ShowDate_ev y (by omega) (by omega)) (Ev.now _))))))))))), okF_names (v := dateB y) b1 (by omega), d3⟩
  · obtain ⟨z, i2, g2, e2, b1, b3⟩ := l1Pick_all nmB b i h l3nam (by decide) (by decide) hb h0
    obtain ⟨y, i3, g3, e3, d1, d3⟩ := l1Pick_all drB b i2 g2 l3val (by decide) (by decide) hb b3
    have hd : y.size ≤ 60 := by
      unfold drB at d1
      rw [Bool.and_eq_true, decide_eq_true_eq] at d1
      exact d1.1
    exact ⟨_, _, _, _, Ev.step (fun k => by simp only [spec_l3Field.j0]; rfl) (ev_if_neg ht (ev_if_neg c3 (ev_if_neg c4 (ev_if_neg c5 (ev_if_neg c6 (ev_if_neg c7 (ev_if_neg c8 (ev_bind (ev_k e2) (ev_bind (ev_k e3) (Ev.now _)))))))))), okF_names b1 hd, d3⟩
theorem l3Field_ev (b : List Int) (i h : Int) (hb : b.length ≤ 1048576) (h0 : 0 ≤ i) : ∃ a v i' h', Ev (fun k => spec_l3Field.f k b i h) (a, v, i', h') ∧ okF a v ∧ 0 ≤ i' := by
  obtain ⟨x, i1, g1, e1, a1, a2, a3⟩ := l1Below_ok b i h 10 hb h0
  by_cases c0 : x = 0
  · obtain ⟨a, v, i', h', e, q, r⟩ := l3Field_j0 b hb x i1 g1 (x == 0) a3
    exact ⟨a, v, i', h', Ev.congr (fun k => by unfold spec_l3Field.f; rfl) (ev_bind (ev_k e1) (ev_if_pos c0 e)), q, r⟩
  by_cases c1 : x = 1
  · obtain ⟨a, v, i', h', e, q, r⟩ := l3Field_j0 b hb x i1 g1 (x == 1) a3
    exact ⟨a, v, i', h', Ev.congr (fun k => by unfold spec_l3Field.f; rfl) (ev_bind (ev_k e1) (ev_if_neg c0 (ev_if_pos c1 e))), q, r⟩
  · obtain ⟨a, v, i', h', e, q, r⟩ := l3Field_j0 b hb x i1 g1 (x == 2) a3
    exact ⟨a, v, i', h', Ev.congr (fun k => by unfold spec_l3Field.f; rfl) (ev_bind (ev_k e1) (ev_if_neg c0 (ev_if_neg c1 e))), q, r⟩
def okL (l : List S99) : Prop := ∀ x ∈ l, okF x.f0 x.f1
theorem okL_snoc {l : List S99} {a v : ByteArray} (h : okL l) (q : okF a v) : okL (l ++ [(⟨a, v⟩ : S99)]) := by
  intro x hx
  rcases List.mem_append.1 hx with hx | hx
  · exact h x hx
  · rw [List.mem_singleton.1 hx]
    exact q
theorem szL_small : ∀ (l : List (ByteArray × ByteArray)) (n : Int), (∀ p ∈ l, p.1.size ≤ 60 ∧ p.2.size ≤ 60) → 120 * (l.length : Int) ≤ n → ¬ szL n l < 0
  | [], n, _, hn => by
    simp only [szL, List.length_nil] at hn ⊢
    omega
  | p :: r, n, h, hn => by
    have hp := h p List.mem_cons_self
    rw [List.length_cons] at hn
    rw [szL, if_neg (by omega)]
    exact szL_small r _ (fun q hq => h q (List.mem_cons_of_mem _ hq)) (by omega)
theorem okL_size {l : List S99} (h : okL l) (hl : l.length ≤ 1000) : ¬ szF 1048576 (l.map fun x => (x.f0, x.f1)) < 0 := by
  unfold szF
  rw [List.length_map, if_neg (by omega)]
  refine szL_small _ _ (fun p hp => ?_) (by rw [List.length_map]; omega)
  obtain ⟨x, hx, rfl⟩ := List.mem_map.1 hp
  exact ⟨(h x hx).1, (h x hx).2.1⟩
theorem okL_bal {l : List S99} (h : okL l) : ∀ p ∈ l.map fun x => (x.f0, x.f1), p.1 = nmCC → balB p.2 := by
  intro p hp
  obtain ⟨x, hx, rfl⟩ := List.mem_map.1 hp
  exact (h x hx).2.2

end Go.Proofs.YtjldfmkpdkhnnaaGreatDoor.Pure

namespace Go.Proofs.YtjldfmkpdkhnnaaGreatDoor.Pure
open Go.RowKit Go.Proofs.YtjldfmkpdkhnnaaGreatDoor.QL Go.Proofs.YtjldfmkpdkhnnaaGreatDoorW.PrintWords Go.Proofs.YtjldfmkpdkhnnaaGreatDoorW.PrintLast Go.Proofs.YtjldfmkpdkhnnaaGreatDoorW.PrintMore Go.Proofs.YtjldfmkpdkhnnaaGreatDoor.Aux Go.Proofs.YtjldfmkpdkhnnaaGreatDoor.Dom Go.Proofs.YtjldfmkpdkhnnaaGreatDoor.Ext
theorem spec_l3Fields_l0 (b : List Int) (hb : b.length ≤ 1048576) : ∀ (d : Nat) (acc : List S99) (i h : Int), 0 ≤ i → okL acc → acc.length + d ≤ 1000 → ∃ l i' h', Ev (fun k => spec_l3Fields.l0 k acc (d : Int) b i h) (l, i', h') ∧ okL l ∧ l.length = acc.length + d ∧ 0 ≤ i'
  | 0, acc, i, h, h0, ha, hd => ⟨acc, i, h, ev_last fun k => by simp only [spec_l3Fields.l0]; rw [if_neg (by omega)], ha, rfl, h0⟩
  | d + 1, acc, i, h, h0, ha, hd => by
    obtain ⟨a, v, i1, g1, e1, q1, r1⟩ := l3Field_ev b i h hb h0
    have hw : wrap64 (((d + 1 : Nat) : Int) - 1) = (d : Int) := by rw [wrap_id (by omega) (by omega)]; omega
    obtain ⟨l, i', h', e, q, ql, r⟩ := spec_l3Fields_l0 b hb d (acc ++ [(⟨a, v⟩ : S99)]) i1 g1 r1 (okL_snoc ha q1) (by rw [List.length_append, List.length_singleton]; omega)
    refine ⟨l, i', h', Ev.step (fun k => by simp only [spec_l3Fields.l0]; rw [if_pos (by omega), hw]) (ev_bind e1 (ev_if_pos (show acc.length < 4398046511104 by omega) e)), q, ?_, r⟩
    rw [ql, List.length_append, List.length_singleton]
    omega
theorem l3Fields_ev (b : List Int) (i h : Int) (hb : b.length ≤ 1048576) (h0 : 0 ≤ i) : ∃ l i' h', Ev (fun k => spec_l3Fields.f k b i h) (l, i', h') ∧ okL l ∧ l.length ≤ 5 ∧ 0 ≤ i' := by
  obtain ⟨x, i1, g1, e1, a1, a2, a3⟩ := l1Below_ok b i h 5 hb h0
  obtain ⟨n, rfl⟩ := Int.eq_ofNat_of_zero_le a1
  obtain ⟨l, i', h', e, q, ql, r⟩ := spec_l3Fields_l0 b hb n [] i1 g1 a3 (fun x hx => by cases hx) (by simp; omega)
  exact ⟨l, i', h', Ev.congr (fun k => by unfold spec_l3Fields.f; rfl) (ev_bind (ev_k e1) e), q, by rw [ql]; simp; omega, r⟩

end Go.Proofs.YtjldfmkpdkhnnaaGreatDoor.Pure

namespace Go.Proofs.YtjldfmkpdkhnnaaGreatDoor.Pure
open Go.RowKit Go.Proofs.YtjldfmkpdkhnnaaGreatDoor.QL Go.Proofs.YtjldfmkpdkhnnaaGreatDoorW.PrintWords Go.Proofs.YtjldfmkpdkhnnaaGreatDoorW.PrintLast Go.Proofs.YtjldfmkpdkhnnaaGreatDoorW.PrintMore Go.Proofs.YtjldfmkpdkhnnaaGreatDoor.Aux Go.Proofs.YtjldfmkpdkhnnaaGreatDoor.Dom Go.Proofs.YtjldfmkpdkhnnaaGreatDoor.Ext
def l7cc : List ByteArray := [⟨#[77, 97, 120, 45, 65, 103, 101, 61, 34, 55, 34]⟩, ⟨#[109, 97, 120, 45, 97, 103, 101, 61, 120]⟩, ⟨#[109, 97, 120, 45, 97, 103, 101]⟩, ⟨#[109, 97, 120, 45, 97, 103, 101, 61, 53, 44, 32, 109, 97, 120, 45, 97, 103, 101, 61, 51]⟩, ⟨#[110, 111, 45, 99, 97, 99, 104, 101, 61, 34, 115, 101, 116, 45, 99, 111, 111, 107, 105, 101, 44, 32, 97, 34, 44, 32, 109, 97, 120, 45, 97, 103, 101, 61, 57]⟩, ⟨#[44, 44, 112, 117, 98, 108, 105, 99, 44]⟩, ⟨#[97, 32, 98, 44, 32, 61, 51, 44, 32, 112, 114, 105, 118, 97, 116, 101, 61, 120]⟩, ⟨#[115, 45, 109, 97, 120, 97, 103, 101, 61, 57, 57, 57, 57, 57, 57, 57, 57, 57, 57, 57]⟩]
theorem l7Fields_ev (b : List Int) (i h : Int) (hb : b.length ≤ 1048576) (h0 : 0 ≤ i) : ∃ l i' h', Ev (fun k => spec_l7Fields.f k b i h) (l, i', h') ∧ okL l ∧ l.length ≤ 6 ∧ 0 ≤ i' := by
  obtain ⟨l, i1, g1, e1, q1, n1, a3⟩ := l3Fields_ev b i h hb h0
  obtain ⟨x, i2, g2, e2, b3⟩ := l1Once_ok b i1 g1 3 hb a3
  obtain ⟨v, i3, g3, e3, d1, d3⟩ := l1Pick_all drB b i2 g2 l7cc (by decide) (by decide) hb b3
  by_cases hx : x = true
  · exact ⟨_, _, _, Ev.congr (fun k => by unfold spec_l7Fields.f; rfl) (ev_bind e1 (ev_bind (ev_k e2) (ev_if_pos hx (ev_bind (ev_k e3) (ev_if_pos (show l.length < 4398046511104 by omega) (Ev.now _)))))), okL_snoc q1 (okF_vals (a := nmCC) (by decide) d1), by rw [List.length_append, List.length_singleton]; omega, d3⟩
  · exact ⟨_, _, _, Ev.congr (fun k => by unfold spec_l7Fields.f; rfl) (ev_bind e1 (ev_bind (ev_k e2) (ev_if_neg hx (Ev.now _)))), q1, by omega, b3⟩

end Go.Proofs.YtjldfmkpdkhnnaaGreatDoor.Pure

namespace Go.Proofs.YtjldfmkpdkhnnaaGreatDoor.Pure
open Go.RowKit Go.Proofs.YtjldfmkpdkhnnaaGreatDoor.QL Go.Proofs.YtjldfmkpdkhnnaaGreatDoorW.PrintWords Go.Proofs.YtjldfmkpdkhnnaaGreatDoorW.PrintLast Go.Proofs.YtjldfmkpdkhnnaaGreatDoorW.PrintMore Go.Proofs.YtjldfmkpdkhnnaaGreatDoor.Aux Go.Proofs.YtjldfmkpdkhnnaaGreatDoor.Dom Go.Proofs.YtjldfmkpdkhnnaaGreatDoor.Ext
def ccNames : List ByteArray := [⟨#[109, 97, 120, 45, 97, 103, 101]⟩, ⟨#[115, 45, 109, 97, 120, 97, 103, 101]⟩, ⟨#[109, 97, 120, 45, 115, 116, 97, 108, 101]⟩, ⟨#[109, 105, 110, 45, 102, 114, 101, 115, 104]⟩, ⟨#[112, 117, 98, 108, 105, 99]⟩]
theorem spec_DrawCcSeconds_ev (b : List Int) (hb : b.length ≤ 1048576) : ∃ l nm, Ev (fun k => spec_DrawCcSeconds.f k b) (l, nm) ∧ okL l ∧ l.length ≤ 6 ∧ nm.size ≤ 60 := by
  obtain ⟨h', e⟩ := spec_l1New_ev b hb
  obtain ⟨l, i1, g1, e1, q1, n1, a3⟩ := l7Fields_ev b 0 h' hb (by omega)
  obtain ⟨v, i3, g3, e3, d1, d3⟩ := l1Pick_all (fun v => decide (v.size ≤ 60)) b i1 g1 ccNames (by decide) (by decide) hb a3
  exact ⟨_, _, Ev.congr (fun k => by unfold spec_DrawCcSeconds.f; rfl) (ev_bind e (ev_bind e1 (ev_bind (ev_k e3) (Ev.now _)))), q1, n1, of_decide_eq_true d1⟩

end Go.Proofs.YtjldfmkpdkhnnaaGreatDoor.Pure

namespace Go.Proofs.YtjldfmkpdkhnnaaGreatDoor.Pure
open Go.RowKit Go.Proofs.YtjldfmkpdkhnnaaGreatDoor.QL Go.Proofs.YtjldfmkpdkhnnaaGreatDoorW.PrintWords Go.Proofs.YtjldfmkpdkhnnaaGreatDoorW.PrintLast Go.Proofs.YtjldfmkpdkhnnaaGreatDoorW.PrintMore Go.Proofs.YtjldfmkpdkhnnaaGreatDoor.Aux Go.Proofs.YtjldfmkpdkhnnaaGreatDoor.Dom Go.Proofs.YtjldfmkpdkhnnaaGreatDoor.Ext
theorem impl_FieldGet_l0 (l : List S99) (nm : ByteArray) (hl : l.length ≤ 1048576) (V : List ByteArray) (hV : (V.map fun v => v.size + 2).sum ≤ 8388608) (hW : V.length ≤ 1048576) : ∀ (d : Nat) (acc : List ByteArray) (i : Int), 0 ≤ i → (l.length : Int) - i = d → acc ++ getL nm ((l.drop i.toNat).map fun x => (x.f0, x.f1)) = V →
    Ev (fun k => impl_FieldGet.l0 k nm acc l (l.length : Int) i) (joinB ⟨#[44, 32]⟩ V, !V.isEmpty)
  | 0, acc, i, h0, hd, ha => by
    refine ev_last fun k => ?_
    simp only [impl_FieldGet.l0]
    rw [drop_nil (by omega)] at ha
    simp only [List.map_nil, getL, List.append_nil] at ha
    subst ha
    have hs : (joinB ⟨#[44, 32]⟩ acc).size ≤ (acc.map fun v => v.size + 2).sum := joinB_size ⟨#[44, 32]⟩ acc
    rw [if_neg (by omega), strings_Join.f, if_pos ⟨by omega, by omega⟩, Option.bind_some]
    cases acc <;> simp
  | d + 1, acc, i, h0, hd, ha => by
    have hlt : i < (l.length : Int) := by omega
    have hdrop : l.drop i.toNat = rd_T99 l i :: l.drop (i + 1).toNat := drop_rdOf (d := z99) h0 hlt
    rw [hdrop] at ha
    simp only [List.map_cons, getL] at ha
    by_cases h : (rd_T99 l i).f0 = nm
    · rw [if_pos h] at ha
      have hlen : acc.length < 8796093022208 := by
        have := congrArg List.length ha
        simp at this
        omega
      refine Ev.step (f := fun k => impl_FieldGet.l0 k nm (acc ++ [(rd_T99 l i).f1]) l (l.length : Int) (i + 1)) (fun k => ?_) (impl_FieldGet_l0 l nm hl V hV hW d (acc ++ [(rd_T99 l i).f1]) (i + 1) (by omega) (by omega) (by rw [← ha]; simp))
      simp only [impl_FieldGet.l0]
      rw [if_pos hlt, if_pos h0, if_pos hlt, if_pos (by rw [h]), if_pos hlen, wrap_id (by omega) (by omega)]
    · rw [if_neg h] at ha
      refine Ev.step (f := fun k => impl_FieldGet.l0 k nm acc l (l.length : Int) (i + 1)) (fun k => ?_) (impl_FieldGet_l0 l nm hl V hV hW d acc (i + 1) (by omega) (by omega) ha)
      simp only [impl_FieldGet.l0]
      rw [if_pos hlt, if_pos h0, if_pos hlt, if_neg (by rw [toList_eq_iff]; exact h), wrap_id (by omega) (by omega)]
theorem impl_FieldGet_ev (l : List S99) (nm : ByteArray) (hl : l.length ≤ 1048576) (hV : ((getL nm (l.map fun x => (x.f0, x.f1))).map fun v => v.size + 2).sum ≤ 8388608) : Ev (fun k => impl_FieldGet.f k l nm) (joinB ⟨#[44, 32]⟩ (getL nm (l.map fun x => (x.f0, x.f1))), !(getL nm (l.map fun x => (x.f0, x.f1))).isEmpty) := by
  have hW := getL_length nm (l.map fun x => (x.f0, x.f1))
  rw [List.length_map] at hW
  have h := impl_FieldGet_l0 l nm hl _ hV (by omega) l.length [] 0 (by omega) (by omega) (by simp)
  simpa [impl_FieldGet.f] using h

end Go.Proofs.YtjldfmkpdkhnnaaGreatDoor.Pure

namespace Go.Proofs.YtjldfmkpdkhnnaaGreatDoor.Pure
open Go.RowKit Go.Proofs.YtjldfmkpdkhnnaaGreatDoor.QL Go.Proofs.YtjldfmkpdkhnnaaGreatDoorW.PrintWords Go.Proofs.YtjldfmkpdkhnnaaGreatDoorW.PrintLast Go.Proofs.YtjldfmkpdkhnnaaGreatDoorW.PrintMore Go.Proofs.YtjldfmkpdkhnnaaGreatDoor.Aux Go.Proofs.YtjldfmkpdkhnnaaGreatDoor.Dom Go.Proofs.YtjldfmkpdkhnnaaGreatDoor.Ext
theorem impl_Trim_eq (s : ByteArray) (hs : s.size ≤ 8388608) : impl_Trim.f s = some (trimB s) := by
  unfold impl_Trim.f strings_Trim.f
  rw [if_pos ⟨hs, rfl⟩, Option.bind_some]

end Go.Proofs.YtjldfmkpdkhnnaaGreatDoor.Pure

namespace Go.Proofs.YtjldfmkpdkhnnaaGreatDoor.Pure
open Go.RowKit Go.Proofs.YtjldfmkpdkhnnaaGreatDoor.QL Go.Proofs.YtjldfmkpdkhnnaaGreatDoorW.PrintWords Go.Proofs.YtjldfmkpdkhnnaaGreatDoorW.PrintLast Go.Proofs.YtjldfmkpdkhnnaaGreatDoorW.PrintMore Go.Proofs.YtjldfmkpdkhnnaaGreatDoor.Aux Go.Proofs.YtjldfmkpdkhnnaaGreatDoor.Dom Go.Proofs.YtjldfmkpdkhnnaaGreatDoor.Ext
theorem impl_commas_l0 (s : ByteArray) (hs : s.size ≤ 8388608) : ∀ (d : Nat) (acc : List Int) (q : Bool) (i : Int), 0 ≤ i → (s.size : Int) - i ≤ d → (acc.length : Int) ≤ i → i ≤ (s.size : Int) + 1 →
    Ev (fun k => impl_commas.l0 k s acc q i) (acc ++ comL ((bytesOf s).drop i.toNat) q false i)
  | 0, acc, q, i, h0, hd, ha, hi => by
    refine ev_last fun k => ?_
    simp only [impl_commas.l0]
    rw [if_neg (by omega), drop_end (by omega)]
    simp [comL]
  | d + 1, acc, q, i, h0, hd, ha, hi => by
    by_cases hlt : i < (s.size : Int)
    · rw [drop_bt h0 hlt]
      have w1 : wrap64 (i + 1) = i + 1 := wrap_id (by omega) (by omega)
      have w2 : wrap64 (i + 1 + 1) = i + 2 := by rw [wrap_id (by omega) (by omega)]; omega
      by_cases h34 : bt s i = 34
      · refine Ev.step (f := fun k => impl_commas.l0 k s acc (!q) (i + 1)) (fun k => ?_) (ev_eq (impl_commas_l0 s hs d acc (!q) (i + 1) (by omega) (by omega) (by omega) (by omega)) (by rw [comL, if_pos h34]))
        simp only [impl_commas.l0]
        rw [if_pos hlt, if_pos h0, if_pos h34, w1]
      · by_cases hq : q = true
        · subst hq
          by_cases h92 : bt s i = 92
          · refine Ev.step (f := fun k => impl_commas.j1 k s acc true i true) (fun k => ?_) (Ev.step (f := fun k => impl_commas.l0 k s acc true (i + 2)) (fun k => ?_) (ev_eq (impl_commas_l0 s hs d acc true (i + 2) (by omega) (by omega) (by omega) (by omega)) ?_))
            · simp only [impl_commas.l0]
              rw [if_pos hlt, if_pos h0, if_neg h34, if_pos (by trivial), h92]
              rfl
            · simp only [impl_commas.j1]
              rw [if_pos (by trivial), w1, w2]
            · rw [comL, if_neg h34, if_pos ⟨rfl, h92⟩]
              by_cases h2 : i + 1 < (s.size : Int)
              · rw [drop_bt (by omega) h2, comL, show i + 1 + 1 = i + 2 by omega]
              · rw [drop_end (by omega), drop_end (by omega)]
                simp [comL]
          · refine Ev.step (f := fun k => impl_commas.j1 k s acc true i false) (fun k => ?_) (Ev.step (f := fun k => impl_commas.l0 k s acc true (i + 1)) (fun k => ?_) (ev_eq (impl_commas_l0 s hs d acc true (i + 1) (by omega) (by omega) (by omega) (by omega)) ?_))
            · simp only [impl_commas.l0]
              have e : (bt s i == 92) = false := by rw [beq_eq_false_iff_ne]; exact h92
              rw [if_pos hlt, if_pos h0, if_neg h34, if_pos (by trivial), e]
            · simp only [impl_commas.j1]
              rw [if_neg (by decide), if_pos (by trivial), w1]
            · rw [comL, if_neg h34, if_neg (fun h => h92 h.2), if_neg (fun h => by simp at h)]
        · have hq' : q = false := by simpa using hq
          subst hq'
          by_cases h44 : bt s i = 44
          · refine Ev.step (f := fun k => impl_commas.j1 k s acc false i false) (fun k => ?_) (Ev.step (f := fun k => impl_commas.l0 k s (acc ++ [i]) false (i + 1)) (fun k => ?_) (ev_eq (impl_commas_l0 s hs d (acc ++ [i]) false (i + 1) (by omega) (by omega) (by simp; omega) (by omega)) ?_))
            · simp only [impl_commas.l0]
              rw [if_pos hlt, if_pos h0, if_neg h34, if_neg (by decide)]
            · simp only [impl_commas.j1]
              rw [if_neg (by decide), if_neg (by decide), if_pos h0, if_pos hlt, if_pos h44, if_pos (by omega), w1]
            · rw [comL, if_neg h34, if_neg (fun h => by simp at h), if_pos ⟨rfl, h44⟩]
              simp
          · refine Ev.step (f := fun k => impl_commas.j1 k s acc false i false) (fun k => ?_) (Ev.step (f := fun k => impl_commas.l0 k s acc false (i + 1)) (fun k => ?_) (ev_eq (impl_commas_l0 s hs d acc false (i + 1) (by omega) (by omega) (by omega) (by omega)) ?_))
            · simp only [impl_commas.l0]
              rw [if_pos hlt, if_pos h0, if_neg h34, if_neg (by decide)]
            · simp only [impl_commas.j1]
              rw [if_neg (by decide), if_neg (by decide), if_pos h0, if_pos hlt, if_neg h44, w1]
            · rw [comL, if_neg h34, if_neg (fun h => by simp at h), if_neg (fun h => h44 h.2)]
    · refine ev_last fun k => ?_
      simp only [impl_commas.l0]
      rw [if_neg (by omega), drop_end (by omega)]
      simp [comL]
theorem impl_commas_ev (s : ByteArray) (hs : s.size ≤ 8388608) : Ev (fun k => impl_commas.f k s) (comL (bytesOf s) false false 0) := by
  have h := impl_commas_l0 s hs s.size [] false 0 (by omega) (by omega) (by simp) (by omega)
  simpa [impl_commas.f] using h

end Go.Proofs.YtjldfmkpdkhnnaaGreatDoor.Pure

namespace Go.Proofs.YtjldfmkpdkhnnaaGreatDoor.Pure
open Go.RowKit Go.Proofs.YtjldfmkpdkhnnaaGreatDoor.QL Go.Proofs.YtjldfmkpdkhnnaaGreatDoorW.PrintWords Go.Proofs.YtjldfmkpdkhnnaaGreatDoorW.PrintLast Go.Proofs.YtjldfmkpdkhnnaaGreatDoorW.PrintMore Go.Proofs.YtjldfmkpdkhnnaaGreatDoor.Aux Go.Proofs.YtjldfmkpdkhnnaaGreatDoor.Dom Go.Proofs.YtjldfmkpdkhnnaaGreatDoor.Ext
theorem impl_SplitList_l0 (s : ByteArray) (hs : s.size ≤ 8388608) (L : List Int) (hL : L.length ≤ 8388609) : ∀ (d : Nat) (acc : List ByteArray) (a : Int) (j : Int), 0 ≤ j → (L.length : Int) - j = d → (acc.length : Int) ≤ j → 0 ≤ a → upL s.size a (L.drop j.toNat) →
    Ev (fun k => impl_SplitList.l0 k s acc a L (L.length : Int) j) (acc ++ splL s a (L.drop j.toNat))
  | 0, acc, a, j, h0, hd, ha, ha0, hu => by
    refine ev_last fun k => ?_
    simp only [impl_SplitList.l0]
    rw [if_neg (by omega), drop_nil (by omega)]
    simp [splL]
  | d + 1, acc, a, j, h0, hd, ha, ha0, hu => by
    have hlt : j < (L.length : Int) := by omega
    have hdrop : L.drop j.toNat = rd L j :: L.drop (j + 1).toNat := drop_rdOf (d := 0) h0 hlt
    rw [hdrop] at hu ⊢
    obtain ⟨u1, u2, u3⟩ := hu
    have w1 : wrap64 (rd L j + 1) = rd L j + 1 := wrap_id (by omega) (by omega)
    have w2 : wrap64 (j + 1) = j + 1 := wrap_id (by omega) (by omega)
    have ht := impl_Trim_eq (s.extract a.toNat (rd L j).toNat) (by rw [ByteArray.size_extract]; omega)
    by_cases he : trimB (s.extract a.toNat (rd L j).toNat) = ⟨#[]⟩
    · refine Ev.step (f := fun k => impl_SplitList.l0 k s acc (rd L j + 1) L (L.length : Int) (j + 1)) (fun k => ?_) (ev_eq (impl_SplitList_l0 s hs L hL d acc (rd L j + 1) (j + 1) (by omega) (by omega) (by omega) (by omega) u3) (by rw [splL, if_pos he]))
      simp only [impl_SplitList.l0]
      rw [if_pos hlt, if_pos h0, if_pos hlt, if_pos ha0, if_pos u1, if_pos u2, ht, Option.bind_some, if_pos ((trim_nil _).2 he), w1, w2]
    · refine Ev.step (f := fun k => impl_SplitList.l0 k s (acc ++ [trimB (s.extract a.toNat (rd L j).toNat)]) (rd L j + 1) L (L.length : Int) (j + 1)) (fun k => ?_) (ev_eq (impl_SplitList_l0 s hs L hL d _ (rd L j + 1) (j + 1) (by omega) (by omega) (by simp; omega) (by omega) u3) (by rw [splL, if_neg he]; simp))
      simp only [impl_SplitList.l0]
      rw [if_pos hlt, if_pos h0, if_pos hlt, if_pos ha0, if_pos u1, if_pos u2, ht, Option.bind_some, if_neg (fun h => he ((trim_nil _).1 h)), if_pos (by omega), w1, w2]
theorem impl_SplitList_ev (s : ByteArray) (hs : s.size ≤ 8388608) : Ev (fun k => impl_SplitList.f k s) (splL s 0 (comL (bytesOf s) false false 0 ++ [(s.size : Int)])) := by
  have hc := comL_length (bytesOf s) false false 0
  rw [bytesOf_length] at hc
  have hu := comL_up (s.size : Int) (bytesOf s) false false 0 0 (by omega) (by rw [bytesOf_length]; omega)
  refine Ev.congr (fun k => by unfold impl_SplitList.f; rfl) (ev_bind (impl_commas_ev s hs) ?_)
  refine ev_if_pos (show (comL (bytesOf s) false false 0).length < 17592186044416 by omega) ?_
  refine Ev.congr (fun k => by rw [Option.bind_some]) ?_
  have h := impl_SplitList_l0 s hs (comL (bytesOf s) false false 0 ++ [(s.size : Int)]) (by simp; omega) (comL (bytesOf s) false false 0 ++ [(s.size : Int)]).length [] 0 0 (by omega) (by omega) (by simp) (by omega) (by simpa using hu)
  exact h

end Go.Proofs.YtjldfmkpdkhnnaaGreatDoor.Pure

namespace Go.Proofs.YtjldfmkpdkhnnaaGreatDoor.Pure
open Go.RowKit Go.Proofs.YtjldfmkpdkhnnaaGreatDoor.QL Go.Proofs.YtjldfmkpdkhnnaaGreatDoorW.PrintWords Go.Proofs.YtjldfmkpdkhnnaaGreatDoorW.PrintLast Go.Proofs.YtjldfmkpdkhnnaaGreatDoorW.PrintMore Go.Proofs.YtjldfmkpdkhnnaaGreatDoor.Aux Go.Proofs.YtjldfmkpdkhnnaaGreatDoor.Dom Go.Proofs.YtjldfmkpdkhnnaaGreatDoor.Ext
theorem strings_IndexByte_eq (s : ByteArray) (c : Int) (h0 : 0 ≤ c) (h1 : c < 256) : strings_IndexByte.f s c = some (idxB (bytesOf s) c) := by unfold strings_IndexByte.f; rw [if_pos ⟨h0, h1⟩]

end Go.Proofs.YtjldfmkpdkhnnaaGreatDoor.Pure

namespace Go.Proofs.YtjldfmkpdkhnnaaGreatDoor.Pure
open Go.RowKit Go.Proofs.YtjldfmkpdkhnnaaGreatDoor.QL Go.Proofs.YtjldfmkpdkhnnaaGreatDoorW.PrintWords Go.Proofs.YtjldfmkpdkhnnaaGreatDoorW.PrintLast Go.Proofs.YtjldfmkpdkhnnaaGreatDoorW.PrintMore Go.Proofs.YtjldfmkpdkhnnaaGreatDoor.Aux Go.Proofs.YtjldfmkpdkhnnaaGreatDoor.Dom Go.Proofs.YtjldfmkpdkhnnaaGreatDoor.Ext
def lodC (c : Int) : Bool := decide (97 ≤ c ∧ c ≤ 122) || decide (65 ≤ c ∧ c ≤ 90) || decide (48 ≤ c ∧ c ≤ 57)
theorem impl_isLetterOrDigit_eq {c : Int} (h0 : 0 ≤ c) (h1 : c < 256) : impl_isLetterOrDigit.f c = some (lodC c) :=
  byte_all (P := fun c => impl_isLetterOrDigit.f c = some (lodC c)) (by decide +kernel) h0 h1
theorem impl_tok {c : Int} (h0 : 0 ≤ c) (h1 : c < 256) : tokC c = (lodC c || !decide (idxB [33, 35, 36, 37, 38, 39, 42, 43, 45, 46, 94, 95, 124, 126, 96] c < 0)) :=
  byte_all (P := fun c => tokC c = (lodC c || !decide (idxB [33, 35, 36, 37, 38, 39, 42, 43, 45, 46, 94, 95, 124, 126, 96] c < 0))) (by decide +kernel) h0 h1
theorem impl_IsTokenText_l0 (s : ByteArray) (hs : s.size ≤ 8388608) : ∀ (d : Nat) (i : Int), 0 ≤ i → (s.size : Int) - i = d →
    Ev (fun k => impl_IsTokenText.l0 k s (s.size : Int) i) (((bytesOf s).drop i.toNat).all tokC && !(bytesOf s).isEmpty)
  | 0, i, h0, hd => by
    refine ev_last fun k => ?_
    simp only [impl_IsTokenText.l0]
    rw [if_neg (by omega), drop_end (by omega)]
    congr 1
    rw [Bool.eq_iff_iff]
    simp only [bne_iff_ne, ne_eq, List.all_nil, Bool.true_and, Bool.not_eq_true', List.isEmpty_eq_false_iff]
    constructor
    · intro h he
      apply h
      exact (toList_lit _ _).2 he
    · intro h he
      exact h ((toList_lit _ _).1 he)
  | d + 1, i, h0, hd => by
    have hb := bt_bound s i
    have hlt : i < (s.size : Int) := by omega
    have e := impl_isLetterOrDigit_eq hb.1 hb.2
    have et := impl_tok hb.1 hb.2
    rw [drop_bt h0 hlt, List.all_cons]
    have ei := strings_IndexByte_eq (⟨#[33, 35, 36, 37, 38, 39, 42, 43, 45, 46, 94, 95, 124, 126, 96]⟩ : ByteArray) (bt s i) hb.1 hb.2
    have eb : bytesOf (⟨#[33, 35, 36, 37, 38, 39, 42, 43, 45, 46, 94, 95, 124, 126, 96]⟩ : ByteArray) = [33, 35, 36, 37, 38, 39, 42, 43, 45, 46, 94, 95, 124, 126, 96] := by decide +kernel
    rw [eb] at ei
    cases hl : lodC (bt s i) with
    | true =>
      rw [hl, Bool.true_or] at et
      refine Ev.step (f := fun k => impl_IsTokenText.l0 k s (s.size : Int) (i + 1)) (fun k => ?_) (ev_eq (impl_IsTokenText_l0 s hs d (i + 1) (by omega) (by omega)) (by rw [et, Bool.true_and]))
      simp only [impl_IsTokenText.l0]
      rw [if_pos hlt, if_pos h0, if_pos hlt, e, hl, Option.bind_some, if_pos rfl, wrap_id (by omega) (by omega)]
    | false =>
      rw [hl, Bool.false_or] at et
      by_cases hx : idxB [33, 35, 36, 37, 38, 39, 42, 43, 45, 46, 94, 95, 124, 126, 96] (bt s i) < 0
      · refine ev_last fun k => ?_
        simp only [impl_IsTokenText.l0]
        rw [if_pos hlt, if_pos h0, if_pos hlt, e, hl, Option.bind_some, if_neg (by decide), ei, Option.bind_some, if_pos hx, et, decide_eq_true hx]
        rfl
      · refine Ev.step (f := fun k => impl_IsTokenText.l0 k s (s.size : Int) (i + 1)) (fun k => ?_) (ev_eq (impl_IsTokenText_l0 s hs d (i + 1) (by omega) (by omega)) (by rw [et, decide_eq_false hx]; rfl))
        simp only [impl_IsTokenText.l0]
        rw [if_pos hlt, if_pos h0, if_pos hlt, e, hl, Option.bind_some, if_neg (by decide), ei, Option.bind_some, if_neg hx, wrap_id (by omega) (by omega)]
theorem impl_IsTokenText_ev (s : ByteArray) (hs : s.size ≤ 8388608) : Ev (fun k => impl_IsTokenText.f k s) (tokB (bytesOf s)) := by
  have h := impl_IsTokenText_l0 s hs s.size 0 (by omega) (by omega)
  simpa [impl_IsTokenText.f, tokB] using h

end Go.Proofs.YtjldfmkpdkhnnaaGreatDoor.Pure

namespace Go.Proofs.YtjldfmkpdkhnnaaGreatDoor.Pure
open Go.RowKit Go.Proofs.YtjldfmkpdkhnnaaGreatDoor.QL Go.Proofs.YtjldfmkpdkhnnaaGreatDoorW.PrintWords Go.Proofs.YtjldfmkpdkhnnaaGreatDoorW.PrintLast Go.Proofs.YtjldfmkpdkhnnaaGreatDoorW.PrintMore Go.Proofs.YtjldfmkpdkhnnaaGreatDoor.Aux Go.Proofs.YtjldfmkpdkhnnaaGreatDoor.Dom Go.Proofs.YtjldfmkpdkhnnaaGreatDoor.Ext
theorem impl_Lower_eq (s : ByteArray) (hs : s.size ≤ 8388608) : impl_Lower.f s = some (strOfNums ((bytesOf s).map lowC)) := by unfold impl_Lower.f; rw [if_pos hs]

end Go.Proofs.YtjldfmkpdkhnnaaGreatDoor.Pure

namespace Go.Proofs.YtjldfmkpdkhnnaaGreatDoor.Pure
open Go.RowKit Go.Proofs.YtjldfmkpdkhnnaaGreatDoor.QL Go.Proofs.YtjldfmkpdkhnnaaGreatDoorW.PrintWords Go.Proofs.YtjldfmkpdkhnnaaGreatDoorW.PrintLast Go.Proofs.YtjldfmkpdkhnnaaGreatDoorW.PrintMore Go.Proofs.YtjldfmkpdkhnnaaGreatDoor.Aux Go.Proofs.YtjldfmkpdkhnnaaGreatDoor.Dom Go.Proofs.YtjldfmkpdkhnnaaGreatDoor.Ext
theorem strings_Cut_eq (s sep : ByteArray) (hs : s.size ≤ 8388608) : strings_Cut.f s sep = some (strOfNums (cutL (bytesOf s) (bytesOf sep)).1, strOfNums (cutL (bytesOf s) (bytesOf sep)).2.1, (cutL (bytesOf s) (bytesOf sep)).2.2) := by unfold strings_Cut.f; rw [if_pos hs]

end Go.Proofs.YtjldfmkpdkhnnaaGreatDoor.Pure

namespace Go.Proofs.YtjldfmkpdkhnnaaGreatDoor.Pure
open Go.RowKit Go.Proofs.YtjldfmkpdkhnnaaGreatDoor.QL Go.Proofs.YtjldfmkpdkhnnaaGreatDoorW.PrintWords Go.Proofs.YtjldfmkpdkhnnaaGreatDoorW.PrintLast Go.Proofs.YtjldfmkpdkhnnaaGreatDoorW.PrintMore Go.Proofs.YtjldfmkpdkhnnaaGreatDoor.Aux Go.Proofs.YtjldfmkpdkhnnaaGreatDoor.Dom Go.Proofs.YtjldfmkpdkhnnaaGreatDoor.Ext
theorem impl_Directives_l0 (L : List ByteArray) (hL : L.length ≤ 16777216) (hm : ∀ p ∈ L, p.size ≤ 8388608) : ∀ (d : Nat) (acc : List S46) (i : Int), 0 ≤ i → (L.length : Int) - i = d → (acc.length : Int) ≤ i →
    Ev (fun k => impl_Directives.l0 k acc L (L.length : Int) i) (acc ++ (dirL (L.drop i.toNat)).map fun p => (⟨p.1, p.2⟩ : S46))
  | 0, acc, i, h0, hd, ha => by
    refine ev_last fun k => ?_
    simp only [impl_Directives.l0]
    rw [if_neg (by omega), drop_nil (by omega)]
    simp [dirL]
  | d + 1, acc, i, h0, hd, ha => by
    have hlt : i < (L.length : Int) := by omega
    have hdrop : L.drop i.toNat = rdOf ByteArray.empty L i :: L.drop (i + 1).toNat := drop_rdOf (d := ByteArray.empty) h0 hlt
    have hmem : rdOf ByteArray.empty L i ∈ L := List.mem_of_mem_drop (i := i.toNat) (by rw [hdrop]; exact List.mem_cons_self)
    have hsz := hm _ hmem
    have hw : wrap64 (i + 1) = i + 1 := wrap_id (by omega) (by omega)
    rw [hdrop]
    simp only [dirL]
    obtain ⟨p, hp⟩ : ∃ p, p = rdOf ByteArray.empty L i := ⟨_, rfl⟩
    rw [← hp] at hsz ⊢
    obtain ⟨n1, n2⟩ := cut_name p [61]
    have n3 := cut_rest p [61]
    have hc := strings_Cut_eq p ⟨#[61]⟩ hsz
    rw [show bytesOf (⟨#[61]⟩ : ByteArray) = [61] from rfl] at hc
    unfold dirOf
    generalize hN : strOfNums (cutL (bytesOf p) [61]).1 = N at n1 n2 hc
    generalize hR : strOfNums (cutL (bytesOf p) [61]).2.1 = R at n3 hc
    have w1 : wrap64 ((R.size : Int) - 1) = (R.size : Int) - 1 := wrap_id (by omega) (by omega)
    have hg : ∀ k, impl_Directives.l0 (k + 1) acc L (L.length : Int) i = (impl_IsTokenText.f k N).bind fun t113 => if t113 = true then (impl_Lower.f N).bind (fun t => if acc.length < 4398046511104 then impl_Directives.l0 k (acc ++ [(⟨t, unqB R⟩ : S46)]) L (L.length : Int) (i + 1) else none) else impl_Directives.l0 k acc L (L.length : Int) (i + 1) := by
      intro k
      simp only [impl_Directives.l0]
      rw [if_pos hlt, if_pos h0, if_pos hlt, ← hp, hc]
      simp only [Option.bind_some]
      rw [hw]
      congr 1
      funext t
      by_cases ht : t = true
      · rw [if_pos ht, if_pos ht]
        by_cases h2 : (R.size : Int) ≥ 2
        · rw [if_pos h2, if_pos (by omega)]
          by_cases hq : bt R 0 = 34
          · rw [if_pos hq, w1, if_pos (by omega), if_pos (by omega)]
            by_cases hr : bt R ((R.size : Int) - 1) = 34
            · rw [if_pos hr, if_pos (by omega), if_pos (by omega), show unqB R = R.extract 1 (R.size - 1) from if_pos ⟨by omega, hq, hr⟩, show ((R.size : Int) - 1).toNat = R.size - 1 by omega]
            · rw [if_neg hr, show unqB R = R from if_neg (fun h => hr h.2.2)]
          · rw [if_neg hq, show unqB R = R from if_neg (fun h => hq h.2.1)]
        · rw [if_neg h2, show unqB R = R from if_neg (fun h => h2 (by have := h.1; omega))]
      · rw [if_neg ht, if_neg ht]
    refine Ev.step hg (ev_bind (impl_IsTokenText_ev N (by omega)) ?_)
    rw [n1]
    by_cases hT : tokB (cutL (bytesOf p) [61]).1 = true
    · rw [if_pos hT]
      refine ev_if_pos hT (ev_bind (ev_some fun _ => impl_Lower_eq N (by omega)) (ev_if_pos (by omega) (ev_eq (impl_Directives_l0 L hL hm d _ (i + 1) (by omega) (by omega) (by simp; omega)) ?_)))
      simp [lowB]
    · rw [if_neg hT]
      exact ev_if_neg hT (impl_Directives_l0 L hL hm d acc (i + 1) (by omega) (by omega) (by omega))
theorem impl_Directives_ev (l : List S99) (hl : l.length ≤ 1048576) (hz : ¬ szF 1048576 (l.map fun x => (x.f0, x.f1)) < 0) : Ev (fun k => impl_Directives.f k l) ((dirsL (l.map fun x => (x.f0, x.f1))).map fun p => (⟨p.1, p.2⟩ : S46)) := by
  have hs := ccB_size _ (by omega) hz
  have hq := szF_sum nmCC (by omega) hz
  have hc := comL_length (bytesOf (ccB (l.map fun x => (x.f0, x.f1)))) false false 0
  rw [bytesOf_length] at hc
  have hp := splL_length (ccB (l.map fun x => (x.f0, x.f1))) (comL (bytesOf (ccB (l.map fun x => (x.f0, x.f1)))) false false 0 ++ [((ccB (l.map fun x => (x.f0, x.f1))).size : Int)]) 0
  rw [List.length_append, List.length_singleton] at hp
  refine Ev.congr (fun k => by unfold impl_Directives.f; rfl) (ev_bind (impl_FieldGet_ev l nmCC hl (by omega)) (ev_bind (impl_SplitList_ev (ccB (l.map fun x => (x.f0, x.f1))) (by omega)) ?_))
  have h := impl_Directives_l0 (splL (ccB (l.map fun x => (x.f0, x.f1))) 0 (comL (bytesOf (ccB (l.map fun x => (x.f0, x.f1)))) false false 0 ++ [((ccB (l.map fun x => (x.f0, x.f1))).size : Int)])) (by omega) (fun p hp => Nat.le_trans (splL_size _ _ _ p hp) (by omega)) (splL (ccB (l.map fun x => (x.f0, x.f1))) 0 (comL (bytesOf (ccB (l.map fun x => (x.f0, x.f1)))) false false 0 ++ [((ccB (l.map fun x => (x.f0, x.f1))).size : Int)])).length [] 0 (by omega) (by omega) (by simp)
  exact h

end Go.Proofs.YtjldfmkpdkhnnaaGreatDoor.Pure

namespace Go.Proofs.YtjldfmkpdkhnnaaGreatDoor.Pure
open Go.RowKit Go.Proofs.YtjldfmkpdkhnnaaGreatDoor.QL Go.Proofs.YtjldfmkpdkhnnaaGreatDoorW.PrintWords Go.Proofs.YtjldfmkpdkhnnaaGreatDoorW.PrintLast Go.Proofs.YtjldfmkpdkhnnaaGreatDoorW.PrintMore Go.Proofs.YtjldfmkpdkhnnaaGreatDoor.Aux Go.Proofs.YtjldfmkpdkhnnaaGreatDoor.Dom Go.Proofs.YtjldfmkpdkhnnaaGreatDoor.Ext
theorem strconv_Atoi_short (s : ByteArray) (n : Int) (hs : s.size ≤ 18) (h : Lib.atoi s.data.toList = some n) : strconv_Atoi.f s = some (n, none) := by
  unfold strconv_Atoi.f
  rw [if_pos (by omega), Lib.atoiAll_short _ (by rw [← Lib.size_eq]; exact hs), h]
  rfl
theorem atoi_dig (ds : List Int) (hd : ds.all digC = true) (hne : ds ≠ []) : Lib.atoi (strOfNums ds).data.toList = some (valL 0 ds) := by
  have hr : bytesOf (strOfNums ds) = ds := bytesOf_strOfNums fun c hc => by
    have := digC_iff.1 (List.all_eq_true.1 hd c hc)
    omega
  have hm : ((strOfNums ds).data.toList.map fun b : UInt8 => (b.toNat : Int)) = ds := hr
  obtain ⟨m, h1, h2⟩ := decFrom_val (strOfNums ds).data.toList 0 (by rw [hm]; exact hd)
  rw [hm] at h2
  cases hl : (strOfNums ds).data.toList with
  | nil => rw [hl] at hm; exact absurd hm.symm hne
  | cons b r =>
    rw [hl] at hm h1
    have hb : digC (b.toNat : Int) = true := by
      rw [← hm] at hd
      rw [List.map_cons, List.all_cons, Bool.and_eq_true] at hd
      exact hd.1
    rw [digC_iff] at hb
    have n45 : (b == 45) = false := beq_eq_false_iff_ne.mpr fun e => by subst e; simp at hb
    have n43 : (b == 43) = false := beq_eq_false_iff_ne.mpr fun e => by subst e; simp at hb
    rw [Lib.atoi, if_neg (by rw [n45]; decide), if_neg (by rw [n43]; decide), Lib.decNat, if_neg (by simp), h1, Option.map_some, h2]
    rfl
theorem strconv_Atoi_dig (ds : List Int) (hd : ds.all digC = true) (hne : ds ≠ []) (hl : ds.length ≤ 18) : strconv_Atoi.f (strOfNums ds) = some (valL 0 ds, none) :=
  strconv_Atoi_short _ _ (by rw [strOfNums_size]; exact hl) (atoi_dig ds hd hne)
theorem strconv_Atoi_dec (ds : List Int) (hd : ds.all digC = true) (hl : ds.length ≤ 10) : strconv_Atoi.f ((⟨#[48]⟩ : ByteArray) ++ strOfNums ds) = some (valL 0 ds, none) := by
  have e : (⟨#[48]⟩ : ByteArray) ++ strOfNums ds = strOfNums (48 :: ds) := by
    rw [show (48 :: ds : List Int) = [48] ++ ds from rfl, strOfNums_append]
    rfl
  rw [e, strconv_Atoi_dig (48 :: ds) (by rw [List.all_cons, hd]; rfl) (by simp) (by simp; omega)]
  rfl
end Go.Proofs.YtjldfmkpdkhnnaaGreatDoor.Pure

namespace Go.Proofs.YtjldfmkpdkhnnaaGreatDoor.Pure
open Go.RowKit Go.Proofs.YtjldfmkpdkhnnaaGreatDoor.QL Go.Proofs.YtjldfmkpdkhnnaaGreatDoorW.PrintWords Go.Proofs.YtjldfmkpdkhnnaaGreatDoorW.PrintLast Go.Proofs.YtjldfmkpdkhnnaaGreatDoorW.PrintMore Go.Proofs.YtjldfmkpdkhnnaaGreatDoor.Aux Go.Proofs.YtjldfmkpdkhnnaaGreatDoor.Dom Go.Proofs.YtjldfmkpdkhnnaaGreatDoor.Ext
theorem impl_Seconds_l0 (s : ByteArray) (hs : s.size ≤ 8388608) (hA : (bytesOf s).all digC = true ∨ True) : ∀ (d : Nat) (i : Int), 0 ≤ i → (s.size : Int) - i = d → ((bytesOf s).take i.toNat).all digC = true →
    Ev (fun k => impl_Seconds.l0 k s (s.size : Int) i) (secP (bytesOf s))
  | 0, i, h0, hd, ht => by
    have hl := bytesOf_length s
    have hall : (bytesOf s).all digC = true := by rw [List.take_of_length_le (by omega)] at ht; exact ht
    refine Ev.step (fun k => by simp only [impl_Seconds.l0]; rw [if_neg (by omega)]) ?_
    unfold secP
    rw [if_pos hall, satV_eq _ 0 (by omega) (by omega) hall, ← valL_cut]
    by_cases he : s.toList = ([] : List UInt8)
    · have hb : bytesOf s = [] := by have := (toList_lit _ _).1 he; simpa using this
      refine ev_if_pos he (ev_eq (Ev.now _) ?_)
      rw [hb]
      rfl
    · have hne : 0 < (bytesOf s).length := by
        rcases Nat.eq_zero_or_pos (bytesOf s).length with h | h
        · exact absurd ((toList_lit _ _).2 (by rw [List.eq_nil_of_length_eq_zero h]; rfl)) he
        · exact h
      rw [decide_eq_true hne]
      have htl : strings_TrimLeft.f s (⟨#[48]⟩ : ByteArray) = some (strOfNums (cutC 48 (bytesOf s))) := by unfold strings_TrimLeft.f; rw [if_pos rfl]
      refine ev_if_neg he (ev_bind (ev_some fun _ => htl) ?_)
      have hca := cutC_all hall
      by_cases h10 : 10 < (cutC 48 (bytesOf s)).length
      · refine ev_if_pos (by rw [strOfNums_size]; omega) (ev_eq (Ev.now _) ?_)
        rw [mn_ge (cutC_big hall h10)]
      · refine ev_if_neg (by rw [strOfNums_size]; omega) (ev_if_pos (by rw [strOfNums_size]; omega) ?_)
        exact ev_bind (ev_some fun _ => strconv_Atoi_dec _ hca (by omega)) (Ev.now _)
  | d + 1, i, h0, hd, ht => by
    have hlt : i < (s.size : Int) := by omega
    have hl := bytesOf_length s
    have hmem : bt s i ∈ bytesOf s := List.mem_of_mem_drop (i := i.toNat) (by rw [drop_bt h0 hlt]; exact List.mem_cons_self)
    by_cases h1 : digC (bt s i) = true
    · have h2 := digC_iff.1 h1
      refine Ev.step (f := fun k => impl_Seconds.l0 k s (s.size : Int) (i + 1)) (fun k => ?_) (impl_Seconds_l0 s hs hA d (i + 1) (by omega) (by omega) ?_)
      · simp only [impl_Seconds.l0]
        rw [if_pos hlt, if_pos h0, if_pos hlt, if_neg (by omega), if_neg (by omega), wrap_id (by omega) (by omega)]
      · have e : (bytesOf s).take (i + 1).toNat = (bytesOf s).take i.toNat ++ [bt s i] := by
          have h3 := List.take_append_drop i.toNat ((bytesOf s).take (i + 1).toNat)
          rw [List.take_take, Nat.min_eq_left (by omega), List.drop_take, drop_bt h0 hlt, show (i + 1).toNat - i.toNat = 1 by omega] at h3
          rw [← h3]
          rfl
        rw [e, List.all_append, ht, List.all_cons, h1]
        rfl
    · have hn : ¬ (bytesOf s).all digC = true := fun h => h1 (List.all_eq_true.1 h _ hmem)
      unfold secP
      rw [if_neg hn]
      rw [digC_iff] at h1
      refine ev_last fun k => ?_
      simp only [impl_Seconds.l0]
      rw [if_pos hlt, if_pos h0, if_pos hlt]
      by_cases h3 : bt s i < 48
      · rw [if_pos h3]
      · rw [if_neg h3, if_pos (by omega)]
theorem impl_Seconds_ev (s : ByteArray) (hs : s.size ≤ 8388608) : Ev (fun k => impl_Seconds.f k s) (secP (bytesOf s)) :=
  impl_Seconds_l0 s hs (.inr trivial) s.size 0 (by omega) (by omega) (by simp)

end Go.Proofs.YtjldfmkpdkhnnaaGreatDoor.Pure

namespace Go.Proofs.YtjldfmkpdkhnnaaGreatDoor.Pure
open Go.RowKit Go.Proofs.YtjldfmkpdkhnnaaGreatDoor.QL Go.Proofs.YtjldfmkpdkhnnaaGreatDoorW.PrintWords Go.Proofs.YtjldfmkpdkhnnaaGreatDoorW.PrintLast Go.Proofs.YtjldfmkpdkhnnaaGreatDoorW.PrintMore Go.Proofs.YtjldfmkpdkhnnaaGreatDoor.Aux Go.Proofs.YtjldfmkpdkhnnaaGreatDoor.Dom Go.Proofs.YtjldfmkpdkhnnaaGreatDoor.Ext
theorem impl_CcSeconds_l0 (D : List S46) (nm : ByteArray) (hl : D.length ≤ 16777216) (hm : ∀ x ∈ D, x.f1.size ≤ 8388608) : ∀ (d : Nat) (n : Int) (b : Bool) (i : Int), 0 ≤ i → (D.length : Int) - i = d →
    Ev (fun k => impl_CcSeconds.l0 k nm n b D (D.length : Int) i) (finI n b (ccL nm ((D.drop i.toNat).map fun x => (x.f0, x.f1))))
  | 0, n, b, i, h0, hd => by
    refine ev_last fun k => ?_
    simp only [impl_CcSeconds.l0]
    rw [if_neg (by omega), drop_nil (by omega)]
    rfl
  | d + 1, n, b, i, h0, hd => by
    have hlt : i < (D.length : Int) := by omega
    have hdrop : D.drop i.toNat = rd_T46 D i :: D.drop (i + 1).toNat := drop_rdOf (d := z46) h0 hlt
    have hmem : rd_T46 D i ∈ D := List.mem_of_mem_drop (i := i.toNat) (by rw [hdrop]; exact List.mem_cons_self)
    have hsz := hm _ hmem
    have hw : wrap64 (i + 1) = i + 1 := wrap_id (by omega) (by omega)
    rw [hdrop]
    simp only [List.map_cons, ccL]
    by_cases h : (rd_T46 D i).f0 = nm
    · rw [if_pos h, finI]
      refine Ev.step (fun k => by simp only [impl_CcSeconds.l0]; rw [if_pos hlt, if_pos h0, if_pos hlt, if_pos (by rw [h])]) (ev_bind (impl_Seconds_ev _ hsz) ?_)
      cases b with
      | true =>
        rw [if_pos rfl]
        refine ev_if_pos rfl ?_
        by_cases hv : (secP (bytesOf (rd_T46 D i).f1)).1 < n
        · rw [if_pos hv]
          exact ev_if_pos hv (Ev.congr (fun k => by rw [hw]) (impl_CcSeconds_l0 D nm hl hm d _ true (i + 1) (by omega) (by omega)))
        · rw [if_neg hv]
          exact ev_if_neg hv (Ev.congr (fun k => by rw [hw]) (impl_CcSeconds_l0 D nm hl hm d _ true (i + 1) (by omega) (by omega)))
      | false =>
        rw [if_neg (by decide)]
        exact ev_if_neg (by decide) (Ev.congr (fun k => by rw [hw]) (impl_CcSeconds_l0 D nm hl hm d _ true (i + 1) (by omega) (by omega)))
    · rw [if_neg h]
      exact Ev.step (fun k => by simp only [impl_CcSeconds.l0]; rw [if_pos hlt, if_pos h0, if_pos hlt, if_neg (by rw [toList_eq_iff]; exact h), hw]) (impl_CcSeconds_l0 D nm hl hm d n b (i + 1) (by omega) (by omega))
theorem impl_CcSeconds_ev (l : List S99) (nm : ByteArray) (hl : l.length ≤ 1048576) (hz : ¬ szF 1048576 (l.map fun x => (x.f0, x.f1)) < 0) : Ev (fun k => impl_CcSeconds.f k l nm) (ccSec (l.map fun x => (x.f0, x.f1)) nm) := by
  have q1 := dirsL_length _ (by omega) hz
  have q2 := dirsL_size _ (by omega) hz
  refine Ev.congr (fun k => by unfold impl_CcSeconds.f; rfl) (ev_bind (impl_Directives_ev l hl hz) ?_)
  refine ev_eq (impl_CcSeconds_l0 ((dirsL (l.map fun x => (x.f0, x.f1))).map fun p => (⟨p.1, p.2⟩ : S46)) nm (by rw [List.length_map]; omega) (fun x hx => ?_) ((dirsL (l.map fun x => (x.f0, x.f1))).map fun p => (⟨p.1, p.2⟩ : S46)).length 0 false 0 (by omega) (by omega)) ?_
  · obtain ⟨p, hp, rfl⟩ := List.mem_map.1 hx
    have := q2 p hp
    simp only
    omega
  · simp only [Int.toNat_zero, List.drop_zero, List.map_map]
    rw [show ((fun x : S46 => (x.f0, x.f1)) ∘ fun p : ByteArray × ByteArray => (⟨p.1, p.2⟩ : S46)) = id from rfl, List.map_id]
    exact finI_eq _ (fun v hv => (ccL_bd nm _ v hv).2)

end Go.Proofs.YtjldfmkpdkhnnaaGreatDoor.Pure

namespace Go.Proofs.YtjldfmkpdkhnnaaGreatDoor.Pure
open Go.RowKit Go.Proofs.YtjldfmkpdkhnnaaGreatDoor.QL Go.Proofs.YtjldfmkpdkhnnaaGreatDoorW.PrintWords Go.Proofs.YtjldfmkpdkhnnaaGreatDoorW.PrintLast Go.Proofs.YtjldfmkpdkhnnaaGreatDoorW.PrintMore Go.Proofs.YtjldfmkpdkhnnaaGreatDoor.Aux Go.Proofs.YtjldfmkpdkhnnaaGreatDoor.Dom Go.Proofs.YtjldfmkpdkhnnaaGreatDoor.Ext
theorem impl_CcHas_ev (l : List S99) (nm : ByteArray) (hl : l.length ≤ 1048576) (hz : ¬ szF 1048576 (l.map fun x => (x.f0, x.f1)) < 0) : Ev (fun k => impl_CcHas.f k l nm) ((dirsL (l.map fun x => (x.f0, x.f1))).any fun p => decide (p.1 = nm)) := by
  refine Ev.congr (fun k => by unfold impl_CcHas.f; rfl) (ev_bind (impl_Directives_ev l hl hz) (ev_eq (Ev.now _) ?_))
  rw [List.any_map]
  rfl

end Go.Proofs.YtjldfmkpdkhnnaaGreatDoor.Pure

namespace Go.Proofs.YtjldfmkpdkhnnaaGreatDoor.Pure
open Go.RowKit Go.Proofs.YtjldfmkpdkhnnaaGreatDoor.QL Go.Proofs.YtjldfmkpdkhnnaaGreatDoorW.PrintWords Go.Proofs.YtjldfmkpdkhnnaaGreatDoorW.PrintLast Go.Proofs.YtjldfmkpdkhnnaaGreatDoorW.PrintMore Go.Proofs.YtjldfmkpdkhnnaaGreatDoor.Aux Go.Proofs.YtjldfmkpdkhnnaaGreatDoor.Dom Go.Proofs.YtjldfmkpdkhnnaaGreatDoor.Ext
theorem spec_FieldGet_l0 (l : List S99) (nm : ByteArray) (hl : l.length ≤ 1048576) (V : List ByteArray) (hV : (V.map fun v => v.size + 2).sum ≤ 8388608) : ∀ (d : Nat) (acc : List ByteArray) (i : Int), 0 ≤ i → (l.length : Int) - i = d → acc ++ getL nm ((l.drop i.toNat).map fun x => (x.f0, x.f1)) = V →
    Ev (fun k => spec_FieldGet.l0 k l nm (joinB ⟨#[44, 32]⟩ acc) (!acc.isEmpty) i) (joinB ⟨#[44, 32]⟩ V, !V.isEmpty)
  | 0, acc, i, h0, hd, ha => by
    refine ev_last fun k => ?_
    simp only [spec_FieldGet.l0]
    rw [drop_nil (by omega)] at ha
    simp only [List.map_nil, getL, List.append_nil] at ha
    rw [if_neg (by omega), ha]
  | d + 1, acc, i, h0, hd, ha => by
    have hlt : i < (l.length : Int) := by omega
    have hdrop : l.drop i.toNat = rd_T99 l i :: l.drop (i + 1).toNat := drop_rdOf (d := z99) h0 hlt
    rw [hdrop] at ha
    simp only [List.map_cons, getL] at ha
    by_cases h : (rd_T99 l i).f0 = nm
    · rw [if_pos h] at ha
      have hs := joinB_size ⟨#[44, 32]⟩ acc
      have hb : (acc.map fun v => v.size + 2).sum + ((rd_T99 l i).f1.size + 2) ≤ 8388608 := by
        rw [← ha] at hV
        simp only [List.map_append, List.sum_append, List.map_cons, List.sum_cons] at hV
        omega
      have hs2 : (joinB ⟨#[44, 32]⟩ acc).size ≤ (acc.map fun v => v.size + 2).sum := hs
      cases acc with
      | nil =>
        refine Ev.step (f := fun k => spec_FieldGet.l0 k l nm (joinB ⟨#[44, 32]⟩ [(rd_T99 l i).f1]) true (i + 1)) (fun k => ?_) (spec_FieldGet_l0 l nm hl V hV d [(rd_T99 l i).f1] (i + 1) (by omega) (by omega) ha)
        simp only [spec_FieldGet.l0]
        have e0 : (joinB ⟨#[44, 32]⟩ [] ++ (rd_T99 l i).f1) = (rd_T99 l i).f1 := ByteArray.empty_append
        have e1 : (joinB ⟨#[44, 32]⟩ []).size = 0 := rfl
        rw [if_pos hlt, if_pos h0, if_pos (by rw [h]), if_neg (by decide), if_pos (by omega), wrap_id (by omega) (by omega), e0]
        rfl
      | cons a acc =>
        refine Ev.step (f := fun k => spec_FieldGet.l0 k l nm (joinB ⟨#[44, 32]⟩ ((a :: acc) ++ [(rd_T99 l i).f1])) true (i + 1)) (fun k => ?_) (spec_FieldGet_l0 l nm hl V hV d ((a :: acc) ++ [(rd_T99 l i).f1]) (i + 1) (by omega) (by omega) (by rw [← ha]; simp))
        simp only [spec_FieldGet.l0]
        rw [if_pos hlt, if_pos h0, if_pos (by rw [h]), if_pos (show (!(a :: acc).isEmpty) = true from rfl), if_pos (by omega), if_pos (by rw [ByteArray.size_append]; have : (⟨#[44, 32]⟩ : ByteArray).size = 2 := rfl; omega), wrap_id (by omega) (by omega), joinB_snoc _ _ _ (by simp)]
    · rw [if_neg h] at ha
      refine Ev.step (f := fun k => spec_FieldGet.l0 k l nm (joinB ⟨#[44, 32]⟩ acc) (!acc.isEmpty) (i + 1)) (fun k => ?_) (spec_FieldGet_l0 l nm hl V hV d acc (i + 1) (by omega) (by omega) ha)
      simp only [spec_FieldGet.l0]
      rw [if_pos hlt, if_pos h0, if_neg (by rw [toList_eq_iff]; exact h), wrap_id (by omega) (by omega)]
theorem spec_FieldGet_ev (l : List S99) (nm : ByteArray) (hl : l.length ≤ 1048576) (hV : ((getL nm (l.map fun x => (x.f0, x.f1))).map fun v => v.size + 2).sum ≤ 8388608) : Ev (fun k => spec_FieldGet.f k l nm) (joinB ⟨#[44, 32]⟩ (getL nm (l.map fun x => (x.f0, x.f1))), !(getL nm (l.map fun x => (x.f0, x.f1))).isEmpty) := by
  have h := spec_FieldGet_l0 l nm hl _ hV l.length [] 0 (by omega) (by omega) (by simp)
  simpa [spec_FieldGet.f, joinB] using h

end Go.Proofs.YtjldfmkpdkhnnaaGreatDoor.Pure

namespace Go.Proofs.YtjldfmkpdkhnnaaGreatDoor.Pure
open Go.RowKit Go.Proofs.YtjldfmkpdkhnnaaGreatDoor.QL Go.Proofs.YtjldfmkpdkhnnaaGreatDoorW.PrintWords Go.Proofs.YtjldfmkpdkhnnaaGreatDoorW.PrintLast Go.Proofs.YtjldfmkpdkhnnaaGreatDoorW.PrintMore Go.Proofs.YtjldfmkpdkhnnaaGreatDoor.Aux Go.Proofs.YtjldfmkpdkhnnaaGreatDoor.Dom Go.Proofs.YtjldfmkpdkhnnaaGreatDoor.Ext
theorem spec_l2Blank_eq (c : Int) : spec_l2Blank.f c = some (blkC c) := by
  unfold spec_l2Blank.f blkC
  by_cases h : c = 32
  · rw [if_pos h, decide_eq_true h, Bool.true_or]
  · rw [if_neg h, decide_eq_false h, Bool.false_or]
    congr 1
theorem spec_Trim_l1 : ∀ (d : Nat) (s : ByteArray), s.size = d → d ≤ 8388608 → Ev (fun k => spec_Trim.l1 k s) (strOfNums ((bytesOf s).reverse.dropWhile blkC).reverse)
  | 0, s, h, _ => by
    refine ev_last fun k => ?_
    simp only [spec_Trim.l1]
    rw [if_neg (by omega), bytesOf_nil h]
    congr 1
    rw [← strOfNums_bytesOf s, bytesOf_nil h]
    rfl
  | d + 1, s, h, hd => by
    have hb := bytesOf_last h
    have hw : wrap64 ((s.size : Int) - 1) = (d : Int) := by rw [wrap_id (by omega) (by omega)]; omega
    have er : (bytesOf s).reverse = bt s (d : Int) :: ((bytesOf s).take d).reverse := by
      conv => lhs; rw [hb]
      rw [List.reverse_append, List.reverse_singleton, List.singleton_append]
    by_cases hk : blkC (bt s (d : Int)) = true
    · have hx : bytesOf (s.extract 0 d) = (bytesOf s).take d := by rw [bytesOf_extract, List.drop_zero]
      have ih := spec_Trim_l1 d (s.extract 0 d) (by rw [ByteArray.size_extract]; omega) (by omega)
      rw [hx] at ih
      refine Ev.step (f := fun k => spec_Trim.l1 k (s.extract 0 d)) (fun k => ?_) (ev_eq ih (by rw [er, List.dropWhile_cons_of_pos hk]))
      simp only [spec_Trim.l1, hw]
      rw [if_pos (by omega), if_pos (by omega), if_pos (by omega), spec_l2Blank_eq, hk, Option.bind_some, if_pos rfl, if_pos (by omega), Int.toNat_natCast]
    · refine ev_last fun k => ?_
      simp only [spec_Trim.l1, hw]
      have hk' : blkC (bt s (d : Int)) = false := by simpa using hk
      rw [if_pos (by omega), if_pos (by omega), if_pos (by omega), spec_l2Blank_eq, hk', Option.bind_some, if_neg (by decide), er, List.dropWhile_cons_of_neg hk, ← er, List.reverse_reverse, strOfNums_bytesOf]
theorem spec_Trim_l0 : ∀ (d : Nat) (s : ByteArray), s.size = d → d ≤ 8388608 → Ev (fun k => spec_Trim.l0 k s) (strOfNums (((bytesOf s).dropWhile blkC).reverse.dropWhile blkC).reverse)
  | 0, s, h, hd => by
    refine Ev.step (f := fun k => spec_Trim.j1 k s) (fun k => ?_) (Ev.step (f := fun k => spec_Trim.l1 k s) (fun k => by simp only [spec_Trim.j1]) (ev_eq (spec_Trim_l1 0 s h hd) (by rw [bytesOf_nil h]; rfl)))
    simp only [spec_Trim.l0]
    rw [if_neg (by omega)]
  | d + 1, s, h, hd => by
    have er : bytesOf s = bt s 0 :: (bytesOf s).drop 1 := drop_bt (s := s) (i := 0) (by omega) (by omega)
    by_cases hk : blkC (bt s 0) = true
    · have hx : bytesOf (s.extract 1 s.size) = (bytesOf s).drop 1 := by rw [bytesOf_extract, List.take_of_length_le (by rw [bytesOf_length]; omega)]
      have ih := spec_Trim_l0 d (s.extract 1 s.size) (by rw [ByteArray.size_extract]; omega) (by omega)
      rw [hx] at ih
      refine Ev.step (f := fun k => spec_Trim.l0 k (s.extract 1 s.size)) (fun k => ?_) (ev_eq ih (by conv => rhs; rw [er, List.dropWhile_cons_of_pos hk]))
      simp only [spec_Trim.l0]
      rw [if_pos (by omega), if_pos (by omega), spec_l2Blank_eq, hk, Option.bind_some, if_pos rfl, if_pos (by omega)]
    · have hk' : blkC (bt s 0) = false := by simpa using hk
      refine Ev.step (f := fun k => spec_Trim.j1 k s) (fun k => ?_) (Ev.step (f := fun k => spec_Trim.l1 k s) (fun k => by simp only [spec_Trim.j1]) (ev_eq (spec_Trim_l1 (d + 1) s h hd) (by conv => rhs; rw [er, List.dropWhile_cons_of_neg hk, ← er])))
      simp only [spec_Trim.l0]
      rw [if_pos (by omega), if_pos (by omega), spec_l2Blank_eq, hk', Option.bind_some, if_neg (by decide)]
theorem spec_Trim_ev (s : ByteArray) (hs : s.size ≤ 8388608) : Ev (fun k => spec_Trim.f k s) (trimB s) := by
  have h := spec_Trim_l0 s.size s rfl hs
  rw [← dropWhile_ends] at h
  exact h

end Go.Proofs.YtjldfmkpdkhnnaaGreatDoor.Pure

