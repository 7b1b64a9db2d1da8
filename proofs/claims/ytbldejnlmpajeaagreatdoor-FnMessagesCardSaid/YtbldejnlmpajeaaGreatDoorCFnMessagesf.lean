/- Requests and answers are read from their texts, whatever stands behind, and of a beginning more is wanted: for all codes that are drawn from (codes of more than 2^20 bytes are let by). -/
import Derived.Test.YtbldejnlmpajeaaGreatDoorCFnMessagese
set_option linter.unusedVariables false
set_option linter.unusedSimpArgs false
set_option maxHeartbeats 8000000
set_option maxRecDepth 100000
namespace Go.Proofs.YtbldejnlmpajeaaGreatDoor.QL
open Go.RowKit Go.Proofs.YtbldejnlmpajeaaGreatDoorW.PrintWords Go.Proofs.YtbldejnlmpajeaaGreatDoorW.PrintLast Go.Proofs.YtbldejnlmpajeaaGreatDoorW.PrintMore Go.Proofs.YtbldejnlmpajeaaGreatDoor.Aux Go.Proofs.YtbldejnlmpajeaaGreatDoor.Dom Go.Proofs.YtbldejnlmpajeaaGreatDoor.Ext Go.Proofs.YtbldejnlmpajeaaGreatDoor.Glob
attribute [local go_sem] max2_int min2_int max_two min_two max_three min_three max_four min_four
mutual
def laws_FnMessages.j0 : Nat → List Int → ByteArray → Bool → Option (Bool)
 | 0, _, _, _ => none
 | k + 1, x0, x4, x80 => if x80 = true then (some false) else (if x4.toList = ([] : List UInt8) then (laws_FnMessages.j1 k x0) else ((zx0.f x0 0).bind fun t121 => (if (x4.size : Int) = 0 then (none) else (if 0 ≤ (Int.tmod t121 (x4.size : Int)) then (if (Int.tmod t121 (x4.size : Int)) ≤ (x4.size : Int) then ((zn.f k (x4.extract 0 ((Int.tmod t121 (x4.size : Int)) : Int).toNat)).bind fun bt122 => (if bt122.2.2.2.2.2 = 1 then (if bt122.2.2.2.2.1 = 0 then (laws_FnMessages.j1 k x0) else (some false)) else (some false))) else (none)) else (none)))))
def laws_FnMessages.j1 : Nat → List Int → Option (Bool)
 | 0, _ => none
 | k + 1, x0 => (ym.f k x0).bind fun bt131 => ((zW.f k bt131.1 bt131.2.1 bt131.2.2).bind fun t137 => ((zA.f k t137).bind fun bt138 => ((yL.f k bt131.1 bt131.2.1 bt131.2.2).bind fun t146 => (if ((t137.toList != ([] : List UInt8)) != t146) = true then (laws_FnMessages.j2 k x0 true) else (if t137.toList = ([] : List UInt8) then (laws_FnMessages.j2 k x0 false) else (if bt138.2.2.2.2 = 0 then (if bt138.2.2.2.1 = (t137.size : Int) then ((yF.f k bt138.1 bt138.2.1 bt138.2.2.1 bt131.1 bt131.2.1 bt131.2.2).bind fun t147 => (laws_FnMessages.j2 k x0 (!t147))) else (laws_FnMessages.j2 k x0 true)) else (laws_FnMessages.j2 k x0 true)))))))
def laws_FnMessages.j2 : Nat → List Int → Bool → Option (Bool)
 | 0, _, _ => none
 | k + 1, x0, x135 => if x135 = true then (some false) else ((zz.f k x0).bind fun t148 => ((zn.f k t148).bind fun bt149 => (if bt149.2.2.2.2.2 = 0 then ((yx.f k bt149.1 bt149.2.1 bt149.2.2.1 bt149.2.2.2.1).bind fun t158 => (if t158 = true then (if bt149.2.2.2.2.1 > 0 then (some (decide (bt149.2.2.2.2.1 ≤ (t148.size : Int)))) else (some false)) else (some false))) else (some true))))
end
def laws_FnMessages.f (k : Nat) (l0 : List Int) : Option (Bool) := (zh0.f l0).bind fun t101 => (if t101 = true then (some true) else ((yr.f k l0).bind fun bt102 => ((yh.f k bt102.1 bt102.2.1 bt102.2.2.1 bt102.2.2.2).bind fun t109 => (if t109.size + 5 ≤ 9223372036854775807 then ((zn.f k (t109 ++ (⟨#[71, 69, 84, 32, 47]⟩ : ByteArray))).bind fun bt110 => ((yx.f k bt102.1 bt102.2.1 bt102.2.2.1 bt102.2.2.2).bind fun t119 => (if ((t109.toList != ([] : List UInt8)) != t119) = true then (laws_FnMessages.j0 k l0 t109 true) else (if t109.toList = ([] : List UInt8) then (laws_FnMessages.j0 k l0 t109 false) else (if bt110.2.2.2.2.2 = 0 then (if bt110.2.2.2.2.1 = (t109.size : Int) then (if bt110.1.toList = bt102.1.toList then (if bt110.2.1.toList = bt102.2.1.toList then (if bt110.2.2.2.1.toList = bt102.2.2.2.toList then ((zC.f k bt110.2.2.1 bt102.2.2.1).bind fun t120 => (laws_FnMessages.j0 k l0 t109 (!t120))) else (laws_FnMessages.j0 k l0 t109 true)) else (laws_FnMessages.j0 k l0 t109 true)) else (laws_FnMessages.j0 k l0 t109 true)) else (laws_FnMessages.j0 k l0 t109 true)) else (laws_FnMessages.j0 k l0 t109 true)))))) else (none)))))
theorem laws_FnMessages.mono_l : ∀ k, (∀ y0 y1 y2, LeO (laws_FnMessages.j0 k y0 y1 y2) (laws_FnMessages.j0 (k + 1) y0 y1 y2)) ∧ (∀ y0, LeO (laws_FnMessages.j1 k y0) (laws_FnMessages.j1 (k + 1) y0)) ∧ (∀ y0 y1, LeO (laws_FnMessages.j2 k y0 y1) (laws_FnMessages.j2 (k + 1) y0 y1))
 | 0 => ⟨fun _ _ _ r h => by simp [laws_FnMessages.j0] at h, fun _ r h => by simp [laws_FnMessages.j1] at h, fun _ _ r h => by simp [laws_FnMessages.j2] at h⟩
 | k + 1 => by
  obtain ⟨ih0, ih1, ih2⟩ := laws_FnMessages.mono_l k
  refine ⟨?_, ?_, ?_⟩
  ·intro y0 y1 y2
   unfold laws_FnMessages.j0
   exact mq14 ih0 ih1 ih2 zn.mono zA.mono yh.mono zW.mono zz.mono yr.mono ym.mono yx.mono yL.mono zC.mono yF.mono
  ·intro y0
   unfold laws_FnMessages.j1
   exact mq14 ih0 ih1 ih2 zn.mono zA.mono yh.mono zW.mono zz.mono yr.mono ym.mono yx.mono yL.mono zC.mono yF.mono
  ·intro y0 y1
   unfold laws_FnMessages.j2
   exact mq14 ih0 ih1 ih2 zn.mono zA.mono yh.mono zW.mono zz.mono yr.mono ym.mono yx.mono yL.mono zC.mono yF.mono
theorem laws_FnMessages.mono : ∀ a0 k, LeO (laws_FnMessages.f k a0) (laws_FnMessages.f (k + 1) a0) := by
 intro a0 k
 obtain ⟨ih0, ih1, ih2⟩ := laws_FnMessages.mono_l k
 unfold laws_FnMessages.f
 exact mq14 ih0 ih1 ih2 zn.mono zA.mono yh.mono zW.mono zz.mono yr.mono ym.mono yx.mono yL.mono zC.mono yF.mono
theorem laws_FnMessages.j0_t : ∀ k y0 y1, ¬ laws_FnMessages.j0 k y0 y1 true = some true := by
 intro k
 cases k <;> intros <;> simp [laws_FnMessages.j0]
theorem laws_FnMessages.j2_t : ∀ k y0, ¬ laws_FnMessages.j2 k y0 true = some true := by
 intro k
 cases k <;> intros <;> simp [laws_FnMessages.j2]
theorem laws_FnMessages.calls (k : Nat) (A0 : Option Addr) (c0 : Nat) (l0 : List Int) (r : Bool) (w : World) (hr0 : Kd.C (Kd.int .u8) w A0 l0.length l0) (hc0 : l0.length ≤ c0) (hGErr : GErr w) (hGMax : GMax w) (hGPow : GPow w) (h : laws_FnMessages.f k l0 = some r) (hr_ : r = true) :
  Calls Tryz.prog 3 #[.slice A0 l0.length c0] w fun e w' => e = .returned (.bool r) ∧ Below w.heap.size w w' := by
 have HR_ := ak hr_
 clear hr_
 have hu26 := Tryz.underlying26
 have hu35 := Tryz.underlying35
 have HR0 := ak hr0
 have HC0 := ak hc0
 clear hr0 hc0
 have HGErr := ak hGErr
 clear hGErr
 have HGMax := ak hGMax
 clear hGMax
 have HGPow := ak hGPow
 clear hGPow
 have HB := ak (Below.refl w.heap.size w)
 have H := h
 unfold laws_FnMessages.f at H
 clear h
 replace H := ob H
 obtain ⟨t101, A2, H⟩ := H
 replace H := sb H
 rcases H with ⟨rfl, H⟩ | ⟨rfl, H⟩
 ·obtain rfl := oi1 H
  go_enter Tryz.func3, Tryz.ntmps3
  go_wp2_with (first | ((with_reducible refine za (f := 4) rfl ?_); refine cl 21 rfl Tryz.func4 #[.slice A0 l0.length c0] (zh0.calls _ _ l0 true _ ?side1 ?side2 A2.out) ?_; (case side1 => repeat (first | exact HR0.out | (with_reducible refine Kd.C_alloc ?_ _) | (with_reducible refine Kd.C_drewN ?_ _) | (with_reducible refine Kd.C_drew ?_))); (case side2 => exact HC0.out); rintro e w' ⟨rfl, ⟨nd, rfl⟩⟩; refine ⟨_, rfl, ?_⟩))
  go_ret
  exact ⟨rv, bq⟩
 ·replace H := ob H
  obtain ⟨⟨t102, t103, t104, t107⟩, A4, H⟩ := H
  try dsimp only at H
  replace H := ob H
  obtain ⟨t109, A5, H⟩ := H
  replace H := sK H
  obtain ⟨c6, c6b0, c6b1, H⟩ := H
  replace H := ob H
  obtain ⟨⟨t110, t111, t112, t115, t116, t117⟩, A7, H⟩ := H
  try dsimp only at H
  have HC8 := ak H
  clear H
  go_enter Tryz.func3, Tryz.ntmps3
  go_upto_region 6 with (first | ((with_reducible refine za (f := 4) rfl ?_); refine cl 21 rfl Tryz.func4 #[.slice A0 l0.length c0] (zh0.calls _ _ l0 false _ ?side1 ?side2 A2.out) ?_; (case side1 => repeat (first | exact HR0.out | (with_reducible refine Kd.C_alloc ?_ _) | (with_reducible refine Kd.C_drewN ?_ _) | (with_reducible refine Kd.C_drew ?_))); (case side2 => exact HC0.out); rintro e w' ⟨rfl, ⟨nd, rfl⟩⟩; refine ⟨_, rfl, ?_⟩) | ((with_reducible refine za (f := 5) rfl ?_); refine cl 23 rfl Tryz.func5 #[.slice A0 l0.length c0] (yr.calls k _ _ l0 t102 t103 t104 t107 _ ?side1 ?side2 A4.out) ?_; (case side1 => repeat (first | exact HR0.out | (with_reducible refine Kd.C_alloc ?_ _) | (with_reducible refine Kd.C_drewN ?_ _) | (with_reducible refine Kd.C_drew ?_))); (case side2 => exact HC0.out); rintro e w9 ⟨v105, rfl, ho0, hb⟩; refine ⟨_, rfl, ?_⟩; have HO106 := ak (Kd.R_lower ho0 (zd bq)); replace HB := ak (zb bq hb); (try clear hb ho0)) | ((with_reducible refine zl (N := 3) rfl ?_); (try (refine yd (by rfl) ?_; dsimp only)); refine bx 3 #[.string ⟨#[]⟩, .string ⟨#[]⟩, .slice none 0 0, .string ⟨#[]⟩] 26 ?_; intro gb108 hg w10 hbox hb; have BK108 := ak (hbox); have GW108 := ak ((by rw [hg]; exact (zd bq) : w.heap.size ≤ gb108)); have GE108 := GW108; replace HO106 := ak (Kd.R_below (rdq HO106.out) hb); replace HB := ak (zb bq hb); clear hb hbox hg; obtain ⟨hcz11_0, hcz11_1, hcz11_2, hcz11_3, hfz11_0, hfz11_1, hfz11_2, hfz11_3⟩ := blk4 BK108.out; obtain ⟨Ao12, co12, eo12⟩ := Kd.R_slice HO106.out; subst eo12) | ((with_reducible refine za (f := 6) rfl ?_); refine cl 25 rfl Tryz.func6 #[.agg #[.string t102, .string t103, .slice Ao12 t104.length co12, .string t107]] (yh.calls k t102 t103 _ _ t104 t107 t109 _ ?side1 ?side2 ?side3 A5.out) ?_; (case side1 => refine (Kd.R_reads' (e := 55) (base := w.heap.size) (ok := fun k_ => True) (n := t104.length) (c := co12) ?_).2.2; exact (rfd HO106.out BK108.out)); (case side2 => exact (Kd.R_reads' HO106.out).2.1); (case side3 => refine xu HGPow.out ?_; exact bq1 GE108.out); rintro e w13 ⟨rfl, hb⟩; refine ⟨_, rfl, ?_⟩; replace HO106 := ak (Kd.R_below (rfd HO106.out BK108.out) hb); replace BK108 := ak (ze (g := gb108) (o := .cells #[.string t102, .string t103, .slice Ao12 t104.length co12, .string t107] 26 (0, 0)) (blp0 BK108.out) hb); replace HB := ak (zb (bq1 GE108.out) hb); (try clear hb)) | ((with_reducible refine za (f := 7) rfl ?_); refine cl 29 rfl Tryz.func7 #[.string (t109 ++ (⟨#[71, 69, 84, 32, 47]⟩ : ByteArray))] (zn.calls k (t109 ++ (⟨#[71, 69, 84, 32, 47]⟩ : ByteArray)) t110 t111 t112 t115 t116 t117 _ ?side1 ?side2 A7.out) ?_; (case side1 => refine yY HGErr.out ?_; exact bq1 GE108.out); (case side2 => refine zY HGMax.out ?_; exact bq1 GE108.out); rintro e w14 ⟨v113, rfl, ho0, hb⟩; refine ⟨_, rfl, ?_⟩; have HO114 := ak (Kd.R_lower (Kd.R_new' ho0 (Kd.R_lt (rdq HO106.out))) (zd (bq1 GE108.out))); replace HO106 := ak (Kd.R_elder' (rdq HO106.out) (Kd.R_base ho0) hb); replace BK108 := ak (ze (blq BK108.out) hb); replace HB := ak (zb (bq1 GE108.out) hb); (try clear hb ho0)) | ((with_reducible refine zl (N := 5) rfl ?_); (try (refine yd (by rfl) ?_; dsimp only)); refine bx 5 #[.string ⟨#[]⟩, .string ⟨#[]⟩, .slice none 0 0, .string ⟨#[]⟩] 26 ?_; intro gb118 hg w15 hbox hb; have BK118 := ak (hbox); have GW118 := ak ((by rw [hg]; exact (zd (bq1 GE108.out)) : w.heap.size ≤ gb118)); have GE118 := GW118; have NB108_118 := ak ((by rw [hg]; exact Nat.ne_of_lt (xn (blq BK108.out)) : gb108 ≠ gb118)); have NB118_108 := ak NB108_118.out.symm; replace HO106 := ak (Kd.R_below (rdq HO106.out) hb); replace HO114 := ak (Kd.R_below (rdq HO114.out) hb); replace BK108 := ak (ze (blq BK108.out) hb); replace HB := ak (zb (bq1 GE108.out) hb); clear hb hbox hg; have hnb16 := NB118_108.out; have hnc16 := NB108_118.out; obtain ⟨hcz17_0, hcz17_1, hcz17_2, hcz17_3, hfz17_0, hfz17_1, hfz17_2, hfz17_3⟩ := blk4 BK118.out; obtain ⟨Ao18, co18, eo18⟩ := Kd.R_slice HO114.out; subst eo18))
  (try simp only [Act.put, List.setIfInBounds_toArray, List.set_cons_zero, List.set_cons_succ])
  go_cut [80] (fun v80 wc => ∃ (kq : Nat) (x80_7 : Bool), v80 = .bool x80_7 ∧ Aside0 (laws_FnMessages.j0 kq l0 t109 x80_7 = some r) ∧ Aside0 (kq ≤ k) ∧ Aside0 (Kd.R k55 55 wc w.heap.size (fun k_ => some k_ ≠ ((.slice Ao18 t112.length co18) : Value).ownBlock) (.slice Ao12 t104.length co12) t104) ∧ Aside0 (Kd.R k55 55 wc w.heap.size (fun k_ => some k_ ≠ ((.slice Ao12 t104.length co12) : Value).ownBlock) (.slice Ao18 t112.length co18) t112) ∧ Aside0 (wc.heap[gb108]? = some (.cells #[.string t102, .string t103, (.slice Ao12 t104.length co12), .string t107] 26 (0, 0))) ∧ Aside0 (wc.heap[gb118]? = some (.cells #[.string t110, .string t111, (.slice Ao18 t112.length co18), .string t115] 26 (0, 0))) ∧ Aside0 (Below w.heap.size w wc))
  case first =>
   have H := HC8.out
   clear HC8
   replace H := ob H
   obtain ⟨t119, A19, H⟩ := H
   replace H := si H
   rcases H with ⟨c20, H⟩ | ⟨c20, H⟩
   ·have c20b0 : ((t109.toList != ([] : List UInt8)) != t119) = true := c20
    (try (have c20b1 : decide ((t109.toList != ([] : List UInt8)) = t119) = false := by simpa using c20))
    (try (have c20b2 : ((t109.toList != ([] : List UInt8)) == t119) = false := by simpa using c20))
    (try (have c20b3 : ¬ ((t109.toList != ([] : List UInt8)) = t119) := by simpa using c20))
    clear c20
    (first | rw [c20b0] | (simp only [i64_w, i32_w]; rw [c20b0]) | skip)
    exact (laws_FnMessages.j0_t _ _ _ (HR_.out ▸ H)).elim
   ·have c20b0 : ((t109.toList != ([] : List UInt8)) != t119) = false := by simpa using c20
    (try (have c20b1 : decide ((t109.toList != ([] : List UInt8)) = t119) = true := by simpa using c20))
    (try (have c20b2 : ((t109.toList != ([] : List UInt8)) == t119) = true := by simpa using c20))
    clear c20
    (first | rw [c20b0] | (simp only [i64_w, i32_w]; rw [c20b0]) | skip)
    replace H := si H
    rcases H with ⟨c24, H⟩ | ⟨c24, H⟩
    ·obtain ⟨c24b0, c24b1⟩ := eqT c24
     have e_ : t119 = false := by simpa [c24b1] using c20b0
     clear c24
     have H' := ak H
     clear H
     have hnb25 := NB108_118.out
     have hnc25 := NB118_108.out
     obtain ⟨hcz26_0, hcz26_1, hcz26_2, hcz26_3, hfz26_0, hfz26_1, hfz26_2, hfz26_3⟩ := blk4 BK108.out
     go_wp2_with (first | ((with_reducible refine za (f := 8) rfl ?_); refine cl 36 rfl Tryz.func8 #[.agg #[.string t102, .string t103, .slice Ao12 t104.length co12, .string t107]] (yx.calls k t102 t103 _ _ t104 t107 t119 _ ?side1 ?side2 A19.out) ?_; (case side1 => refine (Kd.R_reads' (e := 55) (base := w.heap.size) (ok := fun k_ => (True ∧ some k_ ≠ (.slice Ao18 t112.length co18 : Value).ownBlock)) (n := t104.length) (c := co12) ?_).2.2; exact (rfd HO106.out BK118.out)); (case side2 => exact (Kd.R_reads' HO106.out).2.1); rintro e w27 ⟨rfl, hb⟩; refine ⟨_, rfl, ?_⟩; replace HO106 := ak (Kd.R_below (rfd HO106.out BK118.out) hb); replace HO114 := ak (Kd.R_below (rfd HO114.out BK118.out) hb); replace BK108 := ak (ze (g := gb108) (o := .cells #[.string t102, .string t103, .slice Ao12 t104.length co12, .string t107] 26 (0, 0)) (blf1 BK108.out NB108_118.out) hb); replace BK118 := ak (ze (g := gb118) (o := .cells #[.string t110, .string t111, .slice Ao18 t112.length co18, .string t115] 26 (0, 0)) (blp0 BK118.out) hb); replace HB := ak (zb (bq2 GE108.out GE118.out) hb); (try clear hb)))
     go_meet
     case rel => exact ⟨_, (false), rs, H', ⟨om⟩, ⟨by (with_reducible repeat (first | apply Kd.R_alloc | apply Kd.R_drewN | apply Kd.R_drew)); exact Kd.R_mono HO106.out (fun _ hk => hk.2)⟩, ⟨by (with_reducible repeat (first | apply Kd.R_alloc | apply Kd.R_drewN | apply Kd.R_drew)); exact Kd.R_mono HO114.out (fun _ hk => hk.2)⟩, ⟨blq BK108.out⟩, ⟨blq BK118.out⟩, ⟨bq2 GE108.out GE118.out⟩⟩
    ·obtain ⟨c24b0, c24b1⟩ := neT c24
     have e_ : t119 = true := by simpa [c24b1] using c20b0
     replace H := se H
     rcases H with ⟨c28b0, c28b1, H⟩ | ⟨c28, c28b0, c28b1, H⟩
     ·replace H := se H
      rcases H with ⟨c29b0, c29b1, H⟩ | ⟨c29, c29b0, c29b1, H⟩
      ·replace H := se H
       rcases H with ⟨c30b0, c30b1, H⟩ | ⟨c30, c30b0, c30b1, H⟩
       ·replace H := se H
        rcases H with ⟨c31b0, c31b1, H⟩ | ⟨c31, c31b0, c31b1, H⟩
        ·replace H := se H
         rcases H with ⟨c32b0, c32b1, H⟩ | ⟨c32, c32b0, c32b1, H⟩
         ·replace H := ob H
          obtain ⟨t120, A33, H⟩ := H
          have H' := ak H
          clear H
          have hnb34 := NB108_118.out
          have hnc34 := NB118_108.out
          obtain ⟨hcz35_0, hcz35_1, hcz35_2, hcz35_3, hfz35_0, hfz35_1, hfz35_2, hfz35_3⟩ := blk4 BK108.out
          go_wp2_with (first | ((with_reducible refine za (f := 8) rfl ?_); refine cl 36 rfl Tryz.func8 #[.agg #[.string t102, .string t103, .slice Ao12 t104.length co12, .string t107]] (yx.calls k t102 t103 _ _ t104 t107 t119 _ ?side1 ?side2 A19.out) ?_; (case side1 => refine (Kd.R_reads' (e := 55) (base := w.heap.size) (ok := fun k_ => (True ∧ some k_ ≠ (.slice Ao18 t112.length co18 : Value).ownBlock)) (n := t104.length) (c := co12) ?_).2.2; exact (rfd HO106.out BK118.out)); (case side2 => exact (Kd.R_reads' HO106.out).2.1); rintro e w36 ⟨rfl, hb⟩; refine ⟨_, rfl, ?_⟩; replace HO106 := ak (Kd.R_below (rfd HO106.out BK118.out) hb); replace HO114 := ak (Kd.R_below (rfd HO114.out BK118.out) hb); replace BK108 := ak (ze (g := gb108) (o := .cells #[.string t102, .string t103, .slice Ao12 t104.length co12, .string t107] 26 (0, 0)) (blf1 BK108.out NB108_118.out) hb); replace BK118 := ak (ze (g := gb118) (o := .cells #[.string t110, .string t111, .slice Ao18 t112.length co18, .string t115] 26 (0, 0)) (blp0 BK118.out) hb); replace HB := ak (zb (bq2 GE108.out GE118.out) hb); (try clear hb); obtain ⟨hcz37_0, hcz37_1, hcz37_2, hcz37_3, hfz37_0, hfz37_1, hfz37_2, hfz37_3⟩ := blk4 BK118.out; obtain ⟨hcz38_0, hcz38_1, hcz38_2, hcz38_3, hfz38_0, hfz38_1, hfz38_2, hfz38_3⟩ := blk4 BK108.out) | (go_at_call 9; (with_reducible refine (zC.calls k _ _ t112 _ _ t104 t120 _ ?side1 ?side2 ?side3 ?side4 A33.out).mono ?_); (case side1 => exact cq (Kd.R_reads' HO114.out).2.2); (case side2 => exact (Kd.R_reads' HO114.out).2.1); (case side3 => exact cq (Kd.R_reads' HO106.out).2.2); (case side4 => exact (Kd.R_reads' HO106.out).2.1); rintro e w' ⟨rfl, ⟨nd, rfl⟩⟩))
          go_meet
          case rel => exact ⟨_, (!t120), rs, H', ⟨om⟩, ⟨by (with_reducible repeat (first | apply Kd.R_alloc | apply Kd.R_drewN | apply Kd.R_drew)); exact Kd.R_mono HO106.out (fun _ hk => hk.2)⟩, ⟨by (with_reducible repeat (first | apply Kd.R_alloc | apply Kd.R_drewN | apply Kd.R_drew)); exact Kd.R_mono HO114.out (fun _ hk => hk.2)⟩, ⟨blq BK108.out⟩, ⟨blq BK118.out⟩, ⟨bq2 GE108.out GE118.out⟩⟩
         ·exact (laws_FnMessages.j0_t _ _ _ (HR_.out ▸ H)).elim
        ·exact (laws_FnMessages.j0_t _ _ _ (HR_.out ▸ H)).elim
       ·exact (laws_FnMessages.j0_t _ _ _ (HR_.out ▸ H)).elim
      ·exact (laws_FnMessages.j0_t _ _ _ (HR_.out ▸ H)).elim
     ·exact (laws_FnMessages.j0_t _ _ _ (HR_.out ▸ H)).elim
  case rest =>
   clear HC8
   try clear hcz11_0 hcz11_1 hcz11_2 hcz11_3 hfz11_0 hfz11_1 hfz11_2 hfz11_3
   try clear hcz17_0 hcz17_1 hcz17_2 hcz17_3 hfz17_0 hfz17_1 hfz17_2 hfz17_3
   try clear hcz22_0 hcz22_1 hcz22_2 hcz22_3 hfz22_0 hfz22_1 hfz22_2 hfz22_3
   try clear hcz26_0 hcz26_1 hcz26_2 hcz26_3 hfz26_0 hfz26_1 hfz26_2 hfz26_3
   try clear hcz35_0 hcz35_1 hcz35_2 hcz35_3 hfz35_0 hfz35_1 hfz35_2 hfz35_3
   try clear hcz37_0 hcz37_1 hcz37_2 hcz37_3 hfz37_0 hfz37_1 hfz37_2 hfz37_3
   try clear hcz38_0 hcz38_1 hcz38_2 hcz38_3 hfz38_0 hfz38_1 hfz38_2 hfz38_3
   try clear hcz40_0 hcz40_1 hcz40_2 hcz40_3 hfz40_0 hfz40_1 hfz40_2 hfz40_3
   try clear hcz42_0 hcz42_1 hcz42_2 hcz42_3 hfz42_0 hfz42_1 hfz42_2 hfz42_3
   try clear hcz43_0 hcz43_1 hcz43_2 hcz43_3 hfz43_0 hfz43_1 hfz43_2 hfz43_3
   try clear hcz45_0 hcz45_1 hcz45_2 hcz45_3 hfz45_0 hfz45_1 hfz45_2 hfz45_3
   try clear hcz47_0 hcz47_1 hcz47_2 hcz47_3 hfz47_0 hfz47_1 hfz47_2 hfz47_3
   try clear hcz48_0 hcz48_1 hcz48_2 hcz48_3 hfz48_0 hfz48_1 hfz48_2 hfz48_3
   try clear hcz50_0 hcz50_1 hcz50_2 hcz50_3 hfz50_0 hfz50_1 hfz50_2 hfz50_3
   try clear hcz52_0 hcz52_1 hcz52_2 hcz52_3 hfz52_0 hfz52_1 hfz52_2 hfz52_3
   try clear hcz53_0 hcz53_1 hcz53_2 hcz53_3 hfz53_0 hfz53_1 hfz53_2 hfz53_3
   try clear hcz55_0 hcz55_1 hcz55_2 hcz55_3 hfz55_0 hfz55_1 hfz55_2 hfz55_3
   try clear hcz58_0 hcz58_1 hcz58_2 hcz58_3 hfz58_0 hfz58_1 hfz58_2 hfz58_3
   obtain ⟨kq, x80_7, rfl, HA, HJ7, HO_109002, HO_119002, BK108, BK118, HB⟩ := hcut
   cases kq with
   | zero => exact absurd HA.out (by simp [laws_FnMessages.j0])
   | succ kj7 =>
    have H := HA.out
    clear HA
    simp only [laws_FnMessages.j0] at H
    replace H := sb H
    rcases H with ⟨rfl, H⟩ | ⟨rfl, H⟩
    ·obtain rfl := oi1 H
     go_wp2
     go_ret
     exact ⟨rv, bq2 GE108.out GE118.out⟩
    ·have HC61 := ak H
     clear H
     go_upto_if 82 with (fail)
     go_cut [] (fun wc => ∃ (kq : Nat), Aside0 (laws_FnMessages.j1 kq l0 = some r) ∧ Aside0 (kq ≤ kj7) ∧ Aside0 (Kd.R k55 55 wc w.heap.size (fun k_ => some k_ ≠ ((.slice Ao18 t112.length co18) : Value).ownBlock) (.slice Ao12 t104.length co12) t104) ∧ Aside0 (Kd.R k55 55 wc w.heap.size (fun k_ => some k_ ≠ ((.slice Ao12 t104.length co12) : Value).ownBlock) (.slice Ao18 t112.length co18) t112) ∧ Aside0 (wc.heap[gb108]? = some (.cells #[.string t102, .string t103, (.slice Ao12 t104.length co12), .string t107] 26 (0, 0))) ∧ Aside0 (wc.heap[gb118]? = some (.cells #[.string t110, .string t111, (.slice Ao18 t112.length co18), .string t115] 26 (0, 0))) ∧ Aside0 (Below w.heap.size w wc))
     case first =>
      have H := HC61.out
      clear HC61
      replace H := si H
      rcases H with ⟨c62, H⟩ | ⟨c62, H⟩
      ·have ce_ : t109.toList.isEmpty = true := by rw [c62]; rfl
       rw [ce_]
       obtain ⟨c62b0, c62b1⟩ := eqT c62
       clear c62
       (first | rw [c62b0] | (simp only [i64_w, i32_w]; rw [c62b0]) | skip)
       have H' := ak H
       clear H
       go_wp2
       go_meet
       case rel => exact ⟨_, H', ⟨by have := HJ7.out; first | omega | exact Nat.le_refl _⟩, ⟨rdq HO_109002.out⟩, ⟨rdq HO_119002.out⟩, ⟨blq BK108.out⟩, ⟨blq BK118.out⟩, ⟨bq2 GE108.out GE118.out⟩⟩
      ·have ce_ : t109.toList.isEmpty = false := by cases h_ : t109.toList with | nil => exact absurd h_ c62 | cons _ _ => rfl
       rw [ce_]
       obtain ⟨c62b0, c62b1⟩ := neT c62
       (first | rw [c62b0] | (simp only [i64_w, i32_w]; rw [c62b0]) | skip)
       replace H := ob H
       obtain ⟨t121, A63, H⟩ := H
       replace H := sF H
       obtain ⟨c64, H⟩ := H
       obtain ⟨c64b0, c64b1⟩ := neT c64
       obtain ⟨ji65, hji65⟩ : ∃ j_ : Int, (Int.tmod t121 (t109.size : Int)) = j_ := ⟨_, rfl⟩
       replace H : (if 0 ≤ (ji65) then (if (ji65) ≤ (t109.size : Int) then ((zn.f kj7 (t109.extract 0 ((ji65) : Int).toNat)).bind fun bt122 => (if bt122.2.2.2.2.2 = 1 then (if bt122.2.2.2.2.1 = 0 then (laws_FnMessages.j1 kj7 l0) else (some false)) else (some false))) else (none)) else (none)) = some r := by first | (rw [hji65] at H; exact H) | (simp only [hji65] at H ⊢; exact H)
       (try rw [hji65] at A63)
       replace H := sG H
       obtain ⟨c66b0, c66b1, H⟩ := H
       replace H := sG H
       obtain ⟨c67b0, c67b1, H⟩ := H
       replace H := ob H
       obtain ⟨⟨t122, t123, t124, t127, t128, t129⟩, A68, H⟩ := H
       try dsimp only at H
       replace H := se H
       rcases H with ⟨c69b0, c69b1, H⟩ | ⟨c69, c69b0, c69b1, H⟩
       ·replace H := se H
        rcases H with ⟨c70b0, c70b1, H⟩ | ⟨c70, c70b0, c70b1, H⟩
        ·have H' := ak H
         clear H
         go_wp2_with (first | ((with_reducible refine za (f := 10) rfl ?_); refine cl 86 rfl Tryz.func10 #[.slice A0 l0.length c0, .int .i64 0] (zx0.calls _ _ l0 0 t121 _ ?side1 ?side2 A63.out) ?_; (case side1 => repeat (first | exact (Kd.C_below HR0.out HB.out) | (with_reducible refine Kd.C_alloc ?_ _) | (with_reducible refine Kd.C_drewN ?_ _) | (with_reducible refine Kd.C_drew ?_))); (case side2 => exact HC0.out); rintro e w' ⟨rfl, ⟨nd, rfl⟩⟩; refine ⟨_, rfl, ?_⟩; (try (rw [qT wc]; generalize hq_ : World.drewN wc _ = wc; have n0_ : Aside0 (Kd.R k55 55 wc w.heap.size (fun k_ => some k_ ≠ (.slice Ao18 t112.length co18 : Value).ownBlock) (.slice Ao12 t104.length co12) t104) := ⟨by rw [← hq_]; exact (rdq HO_109002.out)⟩; have n1_ : Aside0 (Kd.R k55 55 wc w.heap.size (fun k_ => some k_ ≠ (.slice Ao12 t104.length co12 : Value).ownBlock) (.slice Ao18 t112.length co18) t112) := ⟨by rw [← hq_]; exact (rdq HO_119002.out)⟩; have n2_ : Aside0 (wc.heap[gb108]? = some (.cells #[.string t102, .string t103, .slice Ao12 t104.length co12, .string t107] 26 (0, 0))) := ⟨by rw [← hq_]; exact (blq BK108.out)⟩; have n3_ : Aside0 (wc.heap[gb118]? = some (.cells #[.string t110, .string t111, .slice Ao18 t112.length co18, .string t115] 26 (0, 0))) := ⟨by rw [← hq_]; exact (blq BK118.out)⟩; have n4_ : Aside0 (Below w.heap.size w wc) := ⟨by rw [← hq_]; exact (bq2 GE108.out GE118.out)⟩; clear HO_109002 HO_119002 BK108 BK118 HB hq_; have HO_109002 := n0_; have HO_119002 := n1_; have BK108 := n2_; have BK118 := n3_; have HB := n4_; clear n0_ n1_ n2_ n3_ n4_))) | ((with_reducible refine za (f := 7) rfl ?_); refine goesL_ (some 91) rfl rfl Tryz.func7 (by kernel_rfl) rfl #[.string (t109.extract 0 ((ji65) : Int).toNat)] rfl (by (try simp only [List.map_toArray, List.map_cons, List.map_nil]); first | done | (simp only [hji65]; rfl) | rfl | (simp only [List.length_drop, List.length_take]; rfl)) ?_; (with_reducible refine (zn.calls kj7 (t109.extract 0 ((ji65) : Int).toNat) t122 t123 t124 t127 t128 t129 _ ?side1 ?side2 A68.out).mono ?_); (case side1 => refine yY HGErr.out ?_; exact bq2 GE108.out GE118.out); (case side2 => refine zY HGMax.out ?_; exact bq2 GE108.out GE118.out); rintro e w71 ⟨v125, rfl, ho0, hb⟩; refine ⟨_, rfl, ?_⟩; have HO126 := ak (Kd.R_lower (Kd.R_new' (Kd.R_new' ho0 (Kd.R_lt (rdq HO_109002.out))) (Kd.R_lt (rdq HO_119002.out))) (zd (bq2 GE108.out GE118.out))); replace HO_109002 := ak (Kd.R_elder' (rdq HO_109002.out) (Kd.R_base ho0) hb); replace HO_119002 := ak (Kd.R_elder' (rdq HO_119002.out) (Kd.R_base ho0) hb); replace BK108 := ak (ze (blq BK108.out) hb); replace BK118 := ak (ze (blq BK118.out) hb); replace HB := ak (zb (bq2 GE108.out GE118.out) hb); (try clear hb ho0)) | ((with_reducible refine zl (N := 8) rfl ?_); (try (refine yd (by rfl) ?_; dsimp only)); refine bx 8 #[.string ⟨#[]⟩, .string ⟨#[]⟩, .slice none 0 0, .string ⟨#[]⟩] 26 ?_; intro gb130 hg w72 hbox hb; have BK130 := ak (hbox); have GW130 := ak ((by rw [hg]; exact (zd (bq2 GE108.out GE118.out)) : w.heap.size ≤ gb130)); have GE130 := GW130; have NB108_130 := ak ((by rw [hg]; exact Nat.ne_of_lt (xn (blq BK108.out)) : gb108 ≠ gb130)); have NB130_108 := ak NB108_130.out.symm; have NB118_130 := ak ((by rw [hg]; exact Nat.ne_of_lt (xn (blq BK118.out)) : gb118 ≠ gb130)); have NB130_118 := ak NB118_130.out.symm; replace HO_109002 := ak (Kd.R_below (rdq HO_109002.out) hb); replace HO_119002 := ak (Kd.R_below (rdq HO_119002.out) hb); replace HO126 := ak (Kd.R_below (rdq HO126.out) hb); replace BK108 := ak (ze (blq BK108.out) hb); replace BK118 := ak (ze (blq BK118.out) hb); replace HB := ak (zb (bq2 GE108.out GE118.out) hb); clear hb hbox hg; have hnb73 := NB130_108.out; have hnc73 := NB108_130.out; have hnb74 := NB130_118.out; have hnc74 := NB118_130.out; obtain ⟨hcz75_0, hcz75_1, hcz75_2, hcz75_3, hfz75_0, hfz75_1, hfz75_2, hfz75_3⟩ := blk4 BK130.out; obtain ⟨Ao76, co76, eo76⟩ := Kd.R_slice HO126.out; subst eo76))
         go_meet
         case rel => exact ⟨_, H', ⟨by have := HJ7.out; first | omega | exact Nat.le_refl _⟩, ⟨by (with_reducible repeat (first | apply Kd.R_alloc | apply Kd.R_drewN | apply Kd.R_drew)); exact Kd.R_mono (Kd.R_far (p := ⟨gb130, 3, none⟩) (Kd.R_far (p := ⟨gb130, 2, none⟩) (Kd.R_far (p := ⟨gb130, 1, none⟩) (Kd.R_far (p := ⟨gb130, 0, none⟩) (Kd.R_types HO_109002.out BK130.out (by decide)) (fun _ hk => hk.2) (.string t122)) (fun _ hk => hk.2) (.string t123)) (fun _ hk => hk.2) (.slice Ao76 t124.length co76)) (fun _ hk => hk.2) (.string t127)) (fun _ hk => hk.1.1)⟩, ⟨by (with_reducible repeat (first | apply Kd.R_alloc | apply Kd.R_drewN | apply Kd.R_drew)); exact Kd.R_mono (Kd.R_far (p := ⟨gb130, 3, none⟩) (Kd.R_far (p := ⟨gb130, 2, none⟩) (Kd.R_far (p := ⟨gb130, 1, none⟩) (Kd.R_far (p := ⟨gb130, 0, none⟩) (Kd.R_types HO_119002.out BK130.out (by decide)) (fun _ hk => hk.2) (.string t122)) (fun _ hk => hk.2) (.string t123)) (fun _ hk => hk.2) (.slice Ao76 t124.length co76)) (fun _ hk => hk.2) (.string t127)) (fun _ hk => hk.1.1)⟩, ⟨blf1 BK108.out NB108_130.out⟩, ⟨blf1 BK118.out NB118_130.out⟩, ⟨bq3 GE108.out GE118.out GE130.out⟩⟩
        ·obtain rfl := oi1 H
         exact absurd HR_.out (by decide)
       ·obtain rfl := oi1 H
        exact absurd HR_.out (by decide)
     case rest =>
      clear HC61
      try clear hcz11_0 hcz11_1 hcz11_2 hcz11_3 hfz11_0 hfz11_1 hfz11_2 hfz11_3
      try clear hcz17_0 hcz17_1 hcz17_2 hcz17_3 hfz17_0 hfz17_1 hfz17_2 hfz17_3
      try clear hcz22_0 hcz22_1 hcz22_2 hcz22_3 hfz22_0 hfz22_1 hfz22_2 hfz22_3
      try clear hcz26_0 hcz26_1 hcz26_2 hcz26_3 hfz26_0 hfz26_1 hfz26_2 hfz26_3
      try clear hcz35_0 hcz35_1 hcz35_2 hcz35_3 hfz35_0 hfz35_1 hfz35_2 hfz35_3
      try clear hcz37_0 hcz37_1 hcz37_2 hcz37_3 hfz37_0 hfz37_1 hfz37_2 hfz37_3
      try clear hcz38_0 hcz38_1 hcz38_2 hcz38_3 hfz38_0 hfz38_1 hfz38_2 hfz38_3
      try clear hcz40_0 hcz40_1 hcz40_2 hcz40_3 hfz40_0 hfz40_1 hfz40_2 hfz40_3
      try clear hcz42_0 hcz42_1 hcz42_2 hcz42_3 hfz42_0 hfz42_1 hfz42_2 hfz42_3
      try clear hcz43_0 hcz43_1 hcz43_2 hcz43_3 hfz43_0 hfz43_1 hfz43_2 hfz43_3
      try clear hcz45_0 hcz45_1 hcz45_2 hcz45_3 hfz45_0 hfz45_1 hfz45_2 hfz45_3
      try clear hcz47_0 hcz47_1 hcz47_2 hcz47_3 hfz47_0 hfz47_1 hfz47_2 hfz47_3
      try clear hcz48_0 hcz48_1 hcz48_2 hcz48_3 hfz48_0 hfz48_1 hfz48_2 hfz48_3
      try clear hcz50_0 hcz50_1 hcz50_2 hcz50_3 hfz50_0 hfz50_1 hfz50_2 hfz50_3
      try clear hcz52_0 hcz52_1 hcz52_2 hcz52_3 hfz52_0 hfz52_1 hfz52_2 hfz52_3
      try clear hcz53_0 hcz53_1 hcz53_2 hcz53_3 hfz53_0 hfz53_1 hfz53_2 hfz53_3
      try clear hcz55_0 hcz55_1 hcz55_2 hcz55_3 hfz55_0 hfz55_1 hfz55_2 hfz55_3
      try clear hcz58_0 hcz58_1 hcz58_2 hcz58_3 hfz58_0 hfz58_1 hfz58_2 hfz58_3
      try clear hcz75_0 hcz75_1 hcz75_2 hcz75_3 hfz75_0 hfz75_1 hfz75_2 hfz75_3
      try clear hcz81_0 hcz81_1 hcz81_2 hcz81_3 hfz81_0 hfz81_1 hfz81_2 hfz81_3
      try clear hcz87_0 hcz87_1 hcz87_2 hcz87_3 hfz87_0 hfz87_1 hfz87_2 hfz87_3
      obtain ⟨kq, HA, HJ60, HO_109002, HO_119002, BK108, BK118, HB⟩ := hcut
      cases kq with
      | zero => exact absurd HA.out (by simp [laws_FnMessages.j1])
      | succ kj60 =>
       have H := HA.out
       clear HA
       simp only [laws_FnMessages.j1] at H
       replace H := ob H
       obtain ⟨⟨t131, t132, t135⟩, A89, H⟩ := H
       try dsimp only at H
       replace H := ob H
       obtain ⟨t137, A90, H⟩ := H
       replace H := ob H
       obtain ⟨⟨t138, t139, t142, t143, t144⟩, A91, H⟩ := H
       try dsimp only at H
       have HC92 := ak H
       clear H
       go_upto_region 15 with (first | ((with_reducible refine za (f := 11) rfl ?_); refine cl 102 rfl Tryz.func11 #[.slice A0 l0.length c0] (ym.calls kj60 _ _ l0 t131 t132 t135 _ ?side1 ?side2 A89.out) ?_; (case side1 => repeat (first | exact (Kd.C_below HR0.out HB.out) | (with_reducible refine Kd.C_alloc ?_ _) | (with_reducible refine Kd.C_drewN ?_ _) | (with_reducible refine Kd.C_drew ?_))); (case side2 => exact HC0.out); rintro e w93 ⟨v133, rfl, ho0, hb⟩; refine ⟨_, rfl, ?_⟩; have HO134 := ak (Kd.R_lower (Kd.R_new' (Kd.R_new' ho0 (Kd.R_lt (rdq HO_109002.out))) (Kd.R_lt (rdq HO_119002.out))) (zd (bq2 GE108.out GE118.out))); replace HO_109002 := ak (Kd.R_elder' (rdq HO_109002.out) (Kd.R_base ho0) hb); replace HO_119002 := ak (Kd.R_elder' (rdq HO_119002.out) (Kd.R_base ho0) hb); replace BK108 := ak (ze (blq BK108.out) hb); replace BK118 := ak (ze (blq BK118.out) hb); replace HB := ak (zb (bq2 GE108.out GE118.out) hb); (try clear hb ho0)) | ((with_reducible refine zl (N := 11) rfl ?_); (try (refine yd (by rfl) ?_; dsimp only)); refine bx 11 #[.int .i64 0, .slice none 0 0, .string ⟨#[]⟩] 35 ?_; intro gb136 hg w94 hbox hb; have BK136 := ak (hbox); have GW136 := ak ((by rw [hg]; exact (zd (bq2 GE108.out GE118.out)) : w.heap.size ≤ gb136)); have GE136 := GW136; have NB108_136 := ak ((by rw [hg]; exact Nat.ne_of_lt (xn (blq BK108.out)) : gb108 ≠ gb136)); have NB136_108 := ak NB108_136.out.symm; have NB118_136 := ak ((by rw [hg]; exact Nat.ne_of_lt (xn (blq BK118.out)) : gb118 ≠ gb136)); have NB136_118 := ak NB118_136.out.symm; replace HO_109002 := ak (Kd.R_below (rdq HO_109002.out) hb); replace HO_119002 := ak (Kd.R_below (rdq HO_119002.out) hb); replace HO134 := ak (Kd.R_below (rdq HO134.out) hb); replace BK108 := ak (ze (blq BK108.out) hb); replace BK118 := ak (ze (blq BK118.out) hb); replace HB := ak (zb (bq2 GE108.out GE118.out) hb); clear hb hbox hg; have hnb95 := NB136_108.out; have hnc95 := NB108_136.out; have hnb96 := NB136_118.out; have hnc96 := NB118_136.out; obtain ⟨hcz97_0, hcz97_1, hcz97_2, hfz97_0, hfz97_1, hfz97_2⟩ := blk3 BK136.out; obtain ⟨Ao98, co98, eo98⟩ := Kd.R_slice HO134.out; subst eo98) | ((with_reducible refine za (f := 12) rfl ?_); refine cl 104 rfl Tryz.func12 #[.agg #[.int .i64 t131, .slice Ao98 t132.length co98, .string t135]] (zW.calls kj60 t131 _ _ t132 t135 t137 _ ?side1 ?side2 ?side3 A90.out) ?_; (case side1 => refine (Kd.R_reads' (e := 55) (base := w.heap.size) (ok := fun k_ => ((True ∧ some k_ ≠ (.slice Ao12 t104.length co12 : Value).ownBlock) ∧ some k_ ≠ (.slice Ao18 t112.length co18 : Value).ownBlock)) (n := t132.length) (c := co98) ?_).2.2; exact (rfd HO134.out BK136.out)); (case side2 => exact (Kd.R_reads' HO134.out).2.1); (case side3 => refine xu HGPow.out ?_; exact bq3 GE108.out GE118.out GE136.out); rintro e w99 ⟨rfl, hb⟩; refine ⟨_, rfl, ?_⟩; replace HO_109002 := ak (Kd.R_below (rfd HO_109002.out BK136.out) hb); replace HO_119002 := ak (Kd.R_below (rfd HO_119002.out BK136.out) hb); replace HO134 := ak (Kd.R_below (rfd HO134.out BK136.out) hb); replace BK108 := ak (ze (g := gb108) (o := .cells #[.string t102, .string t103, .slice Ao12 t104.length co12, .string t107] 26 (0, 0)) (blf1 BK108.out NB108_136.out) hb); replace BK118 := ak (ze (g := gb118) (o := .cells #[.string t110, .string t111, .slice Ao18 t112.length co18, .string t115] 26 (0, 0)) (blf1 BK118.out NB118_136.out) hb); replace BK136 := ak (ze (g := gb136) (o := .cells #[.int .i64 t131, .slice Ao98 t132.length co98, .string t135] 35 (0, 0)) (blp0 BK136.out) hb); replace HB := ak (zb (bq3 GE108.out GE118.out GE136.out) hb); (try clear hb)) | ((with_reducible refine za (f := 13) rfl ?_); refine cl 107 rfl Tryz.func13 #[.string t137] (zA.calls kj60 t137 t138 t139 t142 t143 t144 _ ?side1 ?side2 ?side3 A91.out) ?_; (case side1 => refine yY HGErr.out ?_; exact bq3 GE108.out GE118.out GE136.out); (case side2 => refine zY HGMax.out ?_; exact bq3 GE108.out GE118.out GE136.out); (case side3 => refine xu HGPow.out ?_; exact bq3 GE108.out GE118.out GE136.out); rintro e w100 ⟨v140, rfl, ho0, hb⟩; refine ⟨_, rfl, ?_⟩; have HO141 := ak (Kd.R_lower (Kd.R_new' (Kd.R_new' (Kd.R_new' ho0 (Kd.R_lt (rdq HO_109002.out))) (Kd.R_lt (rdq HO_119002.out))) (Kd.R_lt (rdq HO134.out))) (zd (bq3 GE108.out GE118.out GE136.out))); replace HO_109002 := ak (Kd.R_elder' (rdq HO_109002.out) (Kd.R_base ho0) hb); replace HO_119002 := ak (Kd.R_elder' (rdq HO_119002.out) (Kd.R_base ho0) hb); replace HO134 := ak (Kd.R_elder' (rdq HO134.out) (Kd.R_base ho0) hb); replace BK108 := ak (ze (blq BK108.out) hb); replace BK118 := ak (ze (blq BK118.out) hb); replace BK136 := ak (ze (blq BK136.out) hb); replace HB := ak (zb (bq3 GE108.out GE118.out GE136.out) hb); (try clear hb ho0)) | ((with_reducible refine zl (N := 13) rfl ?_); (try (refine yd (by rfl) ?_; dsimp only)); refine bx 13 #[.int .i64 0, .slice none 0 0, .string ⟨#[]⟩] 35 ?_; intro gb145 hg w101 hbox hb; have BK145 := ak (hbox); have GW145 := ak ((by rw [hg]; exact (zd (bq3 GE108.out GE118.out GE136.out)) : w.heap.size ≤ gb145)); have GE145 := GW145; have NB108_145 := ak ((by rw [hg]; exact Nat.ne_of_lt (xn (blq BK108.out)) : gb108 ≠ gb145)); have NB145_108 := ak NB108_145.out.symm; have NB118_145 := ak ((by rw [hg]; exact Nat.ne_of_lt (xn (blq BK118.out)) : gb118 ≠ gb145)); have NB145_118 := ak NB118_145.out.symm; have NB136_145 := ak ((by rw [hg]; exact Nat.ne_of_lt (xn (blq BK136.out)) : gb136 ≠ gb145)); have NB145_136 := ak NB136_145.out.symm; replace HO_109002 := ak (Kd.R_below (rdq HO_109002.out) hb); replace HO_119002 := ak (Kd.R_below (rdq HO_119002.out) hb); replace HO134 := ak (Kd.R_below (rdq HO134.out) hb); replace HO141 := ak (Kd.R_below (rdq HO141.out) hb); replace BK108 := ak (ze (blq BK108.out) hb); replace BK118 := ak (ze (blq BK118.out) hb); replace BK136 := ak (ze (blq BK136.out) hb); replace HB := ak (zb (bq3 GE108.out GE118.out GE136.out) hb); clear hb hbox hg; have hnb102 := NB145_108.out; have hnc102 := NB108_145.out; have hnb103 := NB145_118.out; have hnc103 := NB118_145.out; have hnb104 := NB145_136.out; have hnc104 := NB136_145.out; obtain ⟨hcz105_0, hcz105_1, hcz105_2, hfz105_0, hfz105_1, hfz105_2⟩ := blk3 BK145.out; obtain ⟨Ao106, co106, eo106⟩ := Kd.R_slice HO141.out; subst eo106))
       (try simp only [Act.put, List.setIfInBounds_toArray, List.set_cons_zero, List.set_cons_succ])
       go_cut [135] (fun v135 wc => ∃ (kq : Nat) (x135_91 : Bool), v135 = .bool x135_91 ∧ Aside0 (laws_FnMessages.j2 kq l0 x135_91 = some r) ∧ Aside0 (kq ≤ kj60) ∧ Aside0 (Kd.R k55 55 wc w.heap.size (fun k_ => some k_ ≠ ((.slice Ao18 t112.length co18) : Value).ownBlock ∧ some k_ ≠ ((.slice Ao98 t132.length co98) : Value).ownBlock ∧ some k_ ≠ ((.slice Ao106 t139.length co106) : Value).ownBlock) (.slice Ao12 t104.length co12) t104) ∧ Aside0 (Kd.R k55 55 wc w.heap.size (fun k_ => some k_ ≠ ((.slice Ao12 t104.length co12) : Value).ownBlock ∧ some k_ ≠ ((.slice Ao98 t132.length co98) : Value).ownBlock ∧ some k_ ≠ ((.slice Ao106 t139.length co106) : Value).ownBlock) (.slice Ao18 t112.length co18) t112) ∧ Aside0 (Kd.R k55 55 wc w.heap.size (fun k_ => some k_ ≠ ((.slice Ao12 t104.length co12) : Value).ownBlock ∧ some k_ ≠ ((.slice Ao18 t112.length co18) : Value).ownBlock ∧ some k_ ≠ ((.slice Ao106 t139.length co106) : Value).ownBlock) (.slice Ao98 t132.length co98) t132) ∧ Aside0 (Kd.R k55 55 wc w.heap.size (fun k_ => some k_ ≠ ((.slice Ao12 t104.length co12) : Value).ownBlock ∧ some k_ ≠ ((.slice Ao18 t112.length co18) : Value).ownBlock ∧ some k_ ≠ ((.slice Ao98 t132.length co98) : Value).ownBlock) (.slice Ao106 t139.length co106) t139) ∧ Aside0 (wc.heap[gb108]? = some (.cells #[.string t102, .string t103, (.slice Ao12 t104.length co12), .string t107] 26 (0, 0))) ∧ Aside0 (wc.heap[gb118]? = some (.cells #[.string t110, .string t111, (.slice Ao18 t112.length co18), .string t115] 26 (0, 0))) ∧ Aside0 (wc.heap[gb136]? = some (.cells #[.int .i64 t131, (.slice Ao98 t132.length co98), .string t135] 35 (0, 0))) ∧ Aside0 (wc.heap[gb145]? = some (.cells #[.int .i64 t138, (.slice Ao106 t139.length co106), .string t142] 35 (0, 0))) ∧ Aside0 (Below w.heap.size w wc))
       case first =>
        have H := HC92.out
        clear HC92
        replace H := ob H
        obtain ⟨t146, A107, H⟩ := H
        replace H := si H
        rcases H with ⟨c108, H⟩ | ⟨c108, H⟩
        ·have c108b0 : ((t137.toList != ([] : List UInt8)) != t146) = true := c108
         (try (have c108b1 : decide ((t137.toList != ([] : List UInt8)) = t146) = false := by simpa using c108))
         (try (have c108b2 : ((t137.toList != ([] : List UInt8)) == t146) = false := by simpa using c108))
         (try (have c108b3 : ¬ ((t137.toList != ([] : List UInt8)) = t146) := by simpa using c108))
         clear c108
         (first | rw [c108b0] | (simp only [i64_w, i32_w]; rw [c108b0]) | skip)
         exact (laws_FnMessages.j2_t _ _ (HR_.out ▸ H)).elim
        ·have c108b0 : ((t137.toList != ([] : List UInt8)) != t146) = false := by simpa using c108
         (try (have c108b1 : decide ((t137.toList != ([] : List UInt8)) = t146) = true := by simpa using c108))
         (try (have c108b2 : ((t137.toList != ([] : List UInt8)) == t146) = true := by simpa using c108))
         clear c108
         (first | rw [c108b0] | (simp only [i64_w, i32_w]; rw [c108b0]) | skip)
         replace H := si H
         rcases H with ⟨c114, H⟩ | ⟨c114, H⟩
         ·obtain ⟨c114b0, c114b1⟩ := eqT c114
          have e_ : t146 = false := by simpa [c114b1] using c108b0
          clear c114
          have H' := ak H
          clear H
          have hnb115 := NB136_108.out
          have hnc115 := NB108_136.out
          have hnb116 := NB136_118.out
          have hnc116 := NB118_136.out
          have hnb117 := NB136_145.out
          have hnc117 := NB145_136.out
          obtain ⟨hcz118_0, hcz118_1, hcz118_2, hfz118_0, hfz118_1, hfz118_2⟩ := blk3 BK136.out
          go_wp2_with (first | ((with_reducible refine za (f := 14) rfl ?_); refine cl 114 rfl Tryz.func14 #[.agg #[.int .i64 t131, .slice Ao98 t132.length co98, .string t135]] (yL.calls kj60 t131 _ _ t132 t135 t146 _ ?side1 ?side2 A107.out) ?_; (case side1 => refine (Kd.R_reads' (e := 55) (base := w.heap.size) (ok := fun k_ => (((True ∧ some k_ ≠ (.slice Ao12 t104.length co12 : Value).ownBlock) ∧ some k_ ≠ (.slice Ao18 t112.length co18 : Value).ownBlock) ∧ some k_ ≠ (.slice Ao106 t139.length co106 : Value).ownBlock)) (n := t132.length) (c := co98) ?_).2.2; exact (rfd HO134.out BK145.out)); (case side2 => exact (Kd.R_reads' HO134.out).2.1); rintro e w119 ⟨rfl, hb⟩; refine ⟨_, rfl, ?_⟩; replace HO_109002 := ak (Kd.R_below (rfd HO_109002.out BK145.out) hb); replace HO_119002 := ak (Kd.R_below (rfd HO_119002.out BK145.out) hb); replace HO134 := ak (Kd.R_below (rfd HO134.out BK145.out) hb); replace HO141 := ak (Kd.R_below (rfd HO141.out BK145.out) hb); replace BK108 := ak (ze (g := gb108) (o := .cells #[.string t102, .string t103, .slice Ao12 t104.length co12, .string t107] 26 (0, 0)) (blf1 BK108.out NB108_145.out) hb); replace BK118 := ak (ze (g := gb118) (o := .cells #[.string t110, .string t111, .slice Ao18 t112.length co18, .string t115] 26 (0, 0)) (blf1 BK118.out NB118_145.out) hb); replace BK136 := ak (ze (g := gb136) (o := .cells #[.int .i64 t131, .slice Ao98 t132.length co98, .string t135] 35 (0, 0)) (blf1 BK136.out NB136_145.out) hb); replace BK145 := ak (ze (g := gb145) (o := .cells #[.int .i64 t138, .slice Ao106 t139.length co106, .string t142] 35 (0, 0)) (blp0 BK145.out) hb); replace HB := ak (zb (bq4 GE108.out GE118.out GE136.out GE145.out) hb); (try clear hb)))
          go_meet
          case rel => exact ⟨_, (false), rs, H', ⟨by have := HJ7.out; have := HJ60.out; first | omega | exact Nat.le_refl _⟩, ⟨by (with_reducible repeat (first | apply Kd.R_alloc | apply Kd.R_drewN | apply Kd.R_drew)); exact Kd.R_mono HO_109002.out (fun _ hk => ⟨hk.1.1, ⟨hk.1.2, hk.2⟩⟩)⟩, ⟨by (with_reducible repeat (first | apply Kd.R_alloc | apply Kd.R_drewN | apply Kd.R_drew)); exact Kd.R_mono HO_119002.out (fun _ hk => ⟨hk.1.1, ⟨hk.1.2, hk.2⟩⟩)⟩, ⟨by (with_reducible repeat (first | apply Kd.R_alloc | apply Kd.R_drewN | apply Kd.R_drew)); exact Kd.R_mono HO134.out (fun _ hk => ⟨hk.1.1.2, ⟨hk.1.2, hk.2⟩⟩)⟩, ⟨by (with_reducible repeat (first | apply Kd.R_alloc | apply Kd.R_drewN | apply Kd.R_drew)); exact Kd.R_mono HO141.out (fun _ hk => ⟨hk.1.1.2, ⟨hk.1.2, hk.2⟩⟩)⟩, ⟨blq BK108.out⟩, ⟨blq BK118.out⟩, ⟨blq BK136.out⟩, ⟨blq BK145.out⟩, ⟨bq4 GE108.out GE118.out GE136.out GE145.out⟩⟩
         ·obtain ⟨c114b0, c114b1⟩ := neT c114
          have e_ : t146 = true := by simpa [c114b1] using c108b0
          replace H := se H
          rcases H with ⟨c120b0, c120b1, H⟩ | ⟨c120, c120b0, c120b1, H⟩
          ·replace H := se H
           rcases H with ⟨c121b0, c121b1, H⟩ | ⟨c121, c121b0, c121b1, H⟩
           ·replace H := ob H
            obtain ⟨t147, A122, H⟩ := H
            have H' := ak H
            clear H
            have hnb123 := NB136_108.out
            have hnc123 := NB108_136.out
            have hnb124 := NB136_118.out
            have hnc124 := NB118_136.out
            have hnb125 := NB136_145.out
            have hnc125 := NB145_136.out
            obtain ⟨hcz126_0, hcz126_1, hcz126_2, hfz126_0, hfz126_1, hfz126_2⟩ := blk3 BK136.out
            go_wp2_with (first | ((with_reducible refine za (f := 14) rfl ?_); refine cl 114 rfl Tryz.func14 #[.agg #[.int .i64 t131, .slice Ao98 t132.length co98, .string t135]] (yL.calls kj60 t131 _ _ t132 t135 t146 _ ?side1 ?side2 A107.out) ?_; (case side1 => refine (Kd.R_reads' (e := 55) (base := w.heap.size) (ok := fun k_ => (((True ∧ some k_ ≠ (.slice Ao12 t104.length co12 : Value).ownBlock) ∧ some k_ ≠ (.slice Ao18 t112.length co18 : Value).ownBlock) ∧ some k_ ≠ (.slice Ao106 t139.length co106 : Value).ownBlock)) (n := t132.length) (c := co98) ?_).2.2; exact (rfd HO134.out BK145.out)); (case side2 => exact (Kd.R_reads' HO134.out).2.1); rintro e w127 ⟨rfl, hb⟩; refine ⟨_, rfl, ?_⟩; replace HO_109002 := ak (Kd.R_below (rfd HO_109002.out BK145.out) hb); replace HO_119002 := ak (Kd.R_below (rfd HO_119002.out BK145.out) hb); replace HO134 := ak (Kd.R_below (rfd HO134.out BK145.out) hb); replace HO141 := ak (Kd.R_below (rfd HO141.out BK145.out) hb); replace BK108 := ak (ze (g := gb108) (o := .cells #[.string t102, .string t103, .slice Ao12 t104.length co12, .string t107] 26 (0, 0)) (blf1 BK108.out NB108_145.out) hb); replace BK118 := ak (ze (g := gb118) (o := .cells #[.string t110, .string t111, .slice Ao18 t112.length co18, .string t115] 26 (0, 0)) (blf1 BK118.out NB118_145.out) hb); replace BK136 := ak (ze (g := gb136) (o := .cells #[.int .i64 t131, .slice Ao98 t132.length co98, .string t135] 35 (0, 0)) (blf1 BK136.out NB136_145.out) hb); replace BK145 := ak (ze (g := gb145) (o := .cells #[.int .i64 t138, .slice Ao106 t139.length co106, .string t142] 35 (0, 0)) (blp0 BK145.out) hb); replace HB := ak (zb (bq4 GE108.out GE118.out GE136.out GE145.out) hb); (try clear hb); have hnb128 := NB145_108.out; have hnc128 := NB108_145.out; have hnb129 := NB145_118.out; have hnc129 := NB118_145.out; obtain ⟨hcz130_0, hcz130_1, hcz130_2, hfz130_0, hfz130_1, hfz130_2⟩ := blk3 BK145.out; obtain ⟨hcz131_0, hcz131_1, hcz131_2, hfz131_0, hfz131_1, hfz131_2⟩ := blk3 BK136.out) | (go_at_call 15; (with_reducible refine (yF.calls kj60 t138 _ _ t139 t142 t131 _ _ t132 t135 t147 _ ?side1 ?side2 ?side3 ?side4 A122.out).mono ?_); (case side1 => exact cq (Kd.R_reads' HO141.out).2.2); (case side2 => exact (Kd.R_reads' HO141.out).2.1); (case side3 => exact cq (Kd.R_reads' HO134.out).2.2); (case side4 => exact (Kd.R_reads' HO134.out).2.1); rintro e w132 ⟨rfl, hb⟩; replace HO_109002 := ak (Kd.R_below (rdq HO_109002.out) hb); replace HO_119002 := ak (Kd.R_below (rdq HO_119002.out) hb); replace HO134 := ak (Kd.R_below (rdq HO134.out) hb); replace HO141 := ak (Kd.R_below (rdq HO141.out) hb); replace BK108 := ak (ze (blq BK108.out) hb); replace BK118 := ak (ze (blq BK118.out) hb); replace BK136 := ak (ze (blq BK136.out) hb); replace BK145 := ak (ze (blq BK145.out) hb); replace HB := ak (zb (bq4 GE108.out GE118.out GE136.out GE145.out) hb); (try clear hb)))
            go_meet
            case rel => exact ⟨_, (!t147), rs, H', ⟨by have := HJ7.out; have := HJ60.out; first | omega | exact Nat.le_refl _⟩, ⟨by (with_reducible repeat (first | apply Kd.R_alloc | apply Kd.R_drewN | apply Kd.R_drew)); exact Kd.R_mono HO_109002.out (fun _ hk => ⟨hk.1.1, ⟨hk.1.2, hk.2⟩⟩)⟩, ⟨by (with_reducible repeat (first | apply Kd.R_alloc | apply Kd.R_drewN | apply Kd.R_drew)); exact Kd.R_mono HO_119002.out (fun _ hk => ⟨hk.1.1, ⟨hk.1.2, hk.2⟩⟩)⟩, ⟨by (with_reducible repeat (first | apply Kd.R_alloc | apply Kd.R_drewN | apply Kd.R_drew)); exact Kd.R_mono HO134.out (fun _ hk => ⟨hk.1.1.2, ⟨hk.1.2, hk.2⟩⟩)⟩, ⟨by (with_reducible repeat (first | apply Kd.R_alloc | apply Kd.R_drewN | apply Kd.R_drew)); exact Kd.R_mono HO141.out (fun _ hk => ⟨hk.1.1.2, ⟨hk.1.2, hk.2⟩⟩)⟩, ⟨blq BK108.out⟩, ⟨blq BK118.out⟩, ⟨blq BK136.out⟩, ⟨blq BK145.out⟩, ⟨bq4 GE108.out GE118.out GE136.out GE145.out⟩⟩
           ·exact (laws_FnMessages.j2_t _ _ (HR_.out ▸ H)).elim
          ·exact (laws_FnMessages.j2_t _ _ (HR_.out ▸ H)).elim
       case rest =>
        clear HC92
        try clear hcz105_0 hcz105_1 hcz105_2 hfz105_0 hfz105_1 hfz105_2
        try clear hcz112_0 hcz112_1 hcz112_2 hfz112_0 hfz112_1 hfz112_2
        try clear hcz118_0 hcz118_1 hcz118_2 hfz118_0 hfz118_1 hfz118_2
        try clear hcz11_0 hcz11_1 hcz11_2 hcz11_3 hfz11_0 hfz11_1 hfz11_2 hfz11_3
        try clear hcz126_0 hcz126_1 hcz126_2 hfz126_0 hfz126_1 hfz126_2
        try clear hcz130_0 hcz130_1 hcz130_2 hfz130_0 hfz130_1 hfz130_2
        try clear hcz131_0 hcz131_1 hcz131_2 hfz131_0 hfz131_1 hfz131_2
        try clear hcz136_0 hcz136_1 hcz136_2 hfz136_0 hfz136_1 hfz136_2
        try clear hcz141_0 hcz141_1 hcz141_2 hfz141_0 hfz141_1 hfz141_2
        try clear hcz17_0 hcz17_1 hcz17_2 hcz17_3 hfz17_0 hfz17_1 hfz17_2 hfz17_3
        try clear hcz22_0 hcz22_1 hcz22_2 hcz22_3 hfz22_0 hfz22_1 hfz22_2 hfz22_3
        try clear hcz26_0 hcz26_1 hcz26_2 hcz26_3 hfz26_0 hfz26_1 hfz26_2 hfz26_3
        try clear hcz35_0 hcz35_1 hcz35_2 hcz35_3 hfz35_0 hfz35_1 hfz35_2 hfz35_3
        try clear hcz37_0 hcz37_1 hcz37_2 hcz37_3 hfz37_0 hfz37_1 hfz37_2 hfz37_3
        try clear hcz38_0 hcz38_1 hcz38_2 hcz38_3 hfz38_0 hfz38_1 hfz38_2 hfz38_3
        try clear hcz40_0 hcz40_1 hcz40_2 hcz40_3 hfz40_0 hfz40_1 hfz40_2 hfz40_3
        try clear hcz42_0 hcz42_1 hcz42_2 hcz42_3 hfz42_0 hfz42_1 hfz42_2 hfz42_3
        try clear hcz43_0 hcz43_1 hcz43_2 hcz43_3 hfz43_0 hfz43_1 hfz43_2 hfz43_3
        try clear hcz45_0 hcz45_1 hcz45_2 hcz45_3 hfz45_0 hfz45_1 hfz45_2 hfz45_3
        try clear hcz47_0 hcz47_1 hcz47_2 hcz47_3 hfz47_0 hfz47_1 hfz47_2 hfz47_3
        try clear hcz48_0 hcz48_1 hcz48_2 hcz48_3 hfz48_0 hfz48_1 hfz48_2 hfz48_3
        try clear hcz50_0 hcz50_1 hcz50_2 hcz50_3 hfz50_0 hfz50_1 hfz50_2 hfz50_3
        try clear hcz52_0 hcz52_1 hcz52_2 hcz52_3 hfz52_0 hfz52_1 hfz52_2 hfz52_3
        try clear hcz53_0 hcz53_1 hcz53_2 hcz53_3 hfz53_0 hfz53_1 hfz53_2 hfz53_3
        try clear hcz55_0 hcz55_1 hcz55_2 hcz55_3 hfz55_0 hfz55_1 hfz55_2 hfz55_3
        try clear hcz58_0 hcz58_1 hcz58_2 hcz58_3 hfz58_0 hfz58_1 hfz58_2 hfz58_3
        try clear hcz75_0 hcz75_1 hcz75_2 hcz75_3 hfz75_0 hfz75_1 hfz75_2 hfz75_3
        try clear hcz81_0 hcz81_1 hcz81_2 hcz81_3 hfz81_0 hfz81_1 hfz81_2 hfz81_3
        try clear hcz87_0 hcz87_1 hcz87_2 hcz87_3 hfz87_0 hfz87_1 hfz87_2 hfz87_3
        try clear hcz97_0 hcz97_1 hcz97_2 hfz97_0 hfz97_1 hfz97_2
        obtain ⟨kq, x135_91, rfl, HA, HJ91, HO_109002, HO_119002, HO_137001, HO_146001, BK108, BK118, BK136, BK145, HB⟩ := hcut
        cases kq with
        | zero => exact absurd HA.out (by simp [laws_FnMessages.j2])
        | succ kj91 =>
         have H := HA.out
         clear HA
         simp only [laws_FnMessages.j2] at H
         replace H := sb H
         rcases H with ⟨rfl, H⟩ | ⟨rfl, H⟩
         ·obtain rfl := oi1 H
          go_wp2
          go_ret
          exact ⟨rv, bq4 GE108.out GE118.out GE136.out GE145.out⟩
         ·replace H := ob H
          obtain ⟨t148, A144, H⟩ := H
          try dsimp only at H
          replace H := ob H
          obtain ⟨⟨t149, t150, t151, t154, t155, t156⟩, A145, H⟩ := H
          try dsimp only at H
          replace H := se H
          rcases H with ⟨c146b0, c146b1, H⟩ | ⟨c146, c146b0, c146b1, H⟩
          ·replace H := ob H
           obtain ⟨t158, A147, H⟩ := H
           replace H := sb H
           rcases H with ⟨rfl, H⟩ | ⟨rfl, H⟩
           ·replace H := sd H
            rcases H with ⟨c149b0, H⟩ | ⟨c149b0, H⟩
            ·obtain rfl := oi1 H
             go_wp2_with (first | ((with_reducible refine za (f := 16) rfl ?_); refine cl 137 rfl Tryz.func16 #[.slice A0 l0.length c0] (zz.calls kj91 _ _ l0 t148 _ ?side1 ?side2 A144.out) ?_; (case side1 => repeat (first | exact (Kd.C_below HR0.out HB.out) | (with_reducible refine Kd.C_alloc ?_ _) | (with_reducible refine Kd.C_drewN ?_ _) | (with_reducible refine Kd.C_drew ?_))); (case side2 => exact HC0.out); rintro e w150 ⟨rfl, hb⟩; refine ⟨_, rfl, ?_⟩; replace HO_109002 := ak (Kd.R_below (rdq HO_109002.out) hb); replace HO_119002 := ak (Kd.R_below (rdq HO_119002.out) hb); replace HO_137001 := ak (Kd.R_below (rdq HO_137001.out) hb); replace HO_146001 := ak (Kd.R_below (rdq HO_146001.out) hb); replace BK108 := ak (ze (blq BK108.out) hb); replace BK118 := ak (ze (blq BK118.out) hb); replace BK136 := ak (ze (blq BK136.out) hb); replace BK145 := ak (ze (blq BK145.out) hb); replace HB := ak (zb (bq4 GE108.out GE118.out GE136.out GE145.out) hb); (try clear hb)) | ((with_reducible refine za (f := 7) rfl ?_); refine cl 140 rfl Tryz.func7 #[.string t148] (zn.calls kj91 t148 t149 t150 t151 t154 t155 t156 _ ?side1 ?side2 A145.out) ?_; (case side1 => refine yY HGErr.out ?_; exact bq4 GE108.out GE118.out GE136.out GE145.out); (case side2 => refine zY HGMax.out ?_; exact bq4 GE108.out GE118.out GE136.out GE145.out); rintro e w151 ⟨v152, rfl, ho0, hb⟩; refine ⟨_, rfl, ?_⟩; have HO153 := ak (Kd.R_lower (Kd.R_new' (Kd.R_new' (Kd.R_new' (Kd.R_new' ho0 (Kd.R_lt (rdq HO_109002.out))) (Kd.R_lt (rdq HO_119002.out))) (Kd.R_lt (rdq HO_137001.out))) (Kd.R_lt (rdq HO_146001.out))) (zd (bq4 GE108.out GE118.out GE136.out GE145.out))); replace HO_109002 := ak (Kd.R_elder' (rdq HO_109002.out) (Kd.R_base ho0) hb); replace HO_119002 := ak (Kd.R_elder' (rdq HO_119002.out) (Kd.R_base ho0) hb); replace HO_137001 := ak (Kd.R_elder' (rdq HO_137001.out) (Kd.R_base ho0) hb); replace HO_146001 := ak (Kd.R_elder' (rdq HO_146001.out) (Kd.R_base ho0) hb); replace BK108 := ak (ze (blq BK108.out) hb); replace BK118 := ak (ze (blq BK118.out) hb); replace BK136 := ak (ze (blq BK136.out) hb); replace BK145 := ak (ze (blq BK145.out) hb); replace HB := ak (zb (bq4 GE108.out GE118.out GE136.out GE145.out) hb); (try clear hb ho0)) | ((with_reducible refine zl (N := 17) rfl ?_); (try (refine yd (by rfl) ?_; dsimp only)); refine bx 17 #[.string ⟨#[]⟩, .string ⟨#[]⟩, .slice none 0 0, .string ⟨#[]⟩] 26 ?_; intro gb157 hg w152 hbox hb; have BK157 := ak (hbox); have GW157 := ak ((by rw [hg]; exact (zd (bq4 GE108.out GE118.out GE136.out GE145.out)) : w.heap.size ≤ gb157)); have GE157 := GW157; have NB108_157 := ak ((by rw [hg]; exact Nat.ne_of_lt (xn (blq BK108.out)) : gb108 ≠ gb157)); have NB157_108 := ak NB108_157.out.symm; have NB118_157 := ak ((by rw [hg]; exact Nat.ne_of_lt (xn (blq BK118.out)) : gb118 ≠ gb157)); have NB157_118 := ak NB118_157.out.symm; have NB136_157 := ak ((by rw [hg]; exact Nat.ne_of_lt (xn (blq BK136.out)) : gb136 ≠ gb157)); have NB157_136 := ak NB136_157.out.symm; have NB145_157 := ak ((by rw [hg]; exact Nat.ne_of_lt (xn (blq BK145.out)) : gb145 ≠ gb157)); have NB157_145 := ak NB145_157.out.symm; replace HO_109002 := ak (Kd.R_below (rdq HO_109002.out) hb); replace HO_119002 := ak (Kd.R_below (rdq HO_119002.out) hb); replace HO_137001 := ak (Kd.R_below (rdq HO_137001.out) hb); replace HO_146001 := ak (Kd.R_below (rdq HO_146001.out) hb); replace HO153 := ak (Kd.R_below (rdq HO153.out) hb); replace BK108 := ak (ze (blq BK108.out) hb); replace BK118 := ak (ze (blq BK118.out) hb); replace BK136 := ak (ze (blq BK136.out) hb); replace BK145 := ak (ze (blq BK145.out) hb); replace HB := ak (zb (bq4 GE108.out GE118.out GE136.out GE145.out) hb); clear hb hbox hg; have hnb153 := NB157_108.out; have hnc153 := NB108_157.out; have hnb154 := NB157_118.out; have hnc154 := NB118_157.out; have hnb155 := NB157_136.out; have hnc155 := NB136_157.out; have hnb156 := NB157_145.out; have hnc156 := NB145_157.out; obtain ⟨hcz157_0, hcz157_1, hcz157_2, hcz157_3, hfz157_0, hfz157_1, hfz157_2, hfz157_3⟩ := blk4 BK157.out; obtain ⟨Ao158, co158, eo158⟩ := Kd.R_slice HO153.out; subst eo158) | (go_at_call 8; (with_reducible refine (yx.calls kj91 t149 t150 _ _ t151 t154 true _ ?side1 ?side2 A147.out).mono ?_); (case side1 => refine (Kd.R_reads' (e := 55) (base := w.heap.size) (ok := fun k_ => ((((True ∧ some k_ ≠ (.slice Ao12 t104.length co12 : Value).ownBlock) ∧ some k_ ≠ (.slice Ao18 t112.length co18 : Value).ownBlock) ∧ some k_ ≠ (.slice Ao98 t132.length co98 : Value).ownBlock) ∧ some k_ ≠ (.slice Ao106 t139.length co106 : Value).ownBlock)) (n := t151.length) (c := co158) ?_).2.2; exact (rfd HO153.out BK157.out)); (case side2 => exact (Kd.R_reads' HO153.out).2.1); rintro e w159 ⟨rfl, hb⟩; replace HO_109002 := ak (Kd.R_below (rfd HO_109002.out BK157.out) hb); replace HO_119002 := ak (Kd.R_below (rfd HO_119002.out BK157.out) hb); replace HO_137001 := ak (Kd.R_below (rfd HO_137001.out BK157.out) hb); replace HO_146001 := ak (Kd.R_below (rfd HO_146001.out BK157.out) hb); replace HO153 := ak (Kd.R_below (rfd HO153.out BK157.out) hb); replace BK108 := ak (ze (g := gb108) (o := .cells #[.string t102, .string t103, .slice Ao12 t104.length co12, .string t107] 26 (0, 0)) (blf1 BK108.out NB108_157.out) hb); replace BK118 := ak (ze (g := gb118) (o := .cells #[.string t110, .string t111, .slice Ao18 t112.length co18, .string t115] 26 (0, 0)) (blf1 BK118.out NB118_157.out) hb); replace BK136 := ak (ze (g := gb136) (o := .cells #[.int .i64 t131, .slice Ao98 t132.length co98, .string t135] 35 (0, 0)) (blf1 BK136.out NB136_157.out) hb); replace BK145 := ak (ze (g := gb145) (o := .cells #[.int .i64 t138, .slice Ao106 t139.length co106, .string t142] 35 (0, 0)) (blf1 BK145.out NB145_157.out) hb); replace BK157 := ak (ze (g := gb157) (o := .cells #[.string t149, .string t150, .slice Ao158 t151.length co158, .string t154] 26 (0, 0)) (blp0 BK157.out) hb); replace HB := ak (zb (by repeat (first | (with_reducible first | exact HB.out | apply yN | apply yH | apply ye | refine xb ?_ GE108.out | refine xb ?_ GE118.out | refine xb ?_ GE136.out | refine xb ?_ GE145.out | refine xb ?_ GE157.out) | exact HB.out)) hb); (try clear hb)))
             go_ret
             exact ⟨rv, by repeat (first | (with_reducible first | exact HB.out | apply yN | apply yH | apply ye | refine xb ?_ GE108.out | refine xb ?_ GE118.out | refine xb ?_ GE136.out | refine xb ?_ GE145.out | refine xb ?_ GE157.out) | exact HB.out)⟩
            ·obtain rfl := oi1 H
             exact absurd HR_.out (by decide)
           ·obtain rfl := oi1 H
            exact absurd HR_.out (by decide)
          ·obtain rfl := oi1 H
           go_wp2_with (first | ((with_reducible refine za (f := 16) rfl ?_); refine cl 137 rfl Tryz.func16 #[.slice A0 l0.length c0] (zz.calls kj91 _ _ l0 t148 _ ?side1 ?side2 A144.out) ?_; (case side1 => repeat (first | exact (Kd.C_below HR0.out HB.out) | (with_reducible refine Kd.C_alloc ?_ _) | (with_reducible refine Kd.C_drewN ?_ _) | (with_reducible refine Kd.C_drew ?_))); (case side2 => exact HC0.out); rintro e w180 ⟨rfl, hb⟩; refine ⟨_, rfl, ?_⟩; replace HO_109002 := ak (Kd.R_below (rdq HO_109002.out) hb); replace HO_119002 := ak (Kd.R_below (rdq HO_119002.out) hb); replace HO_137001 := ak (Kd.R_below (rdq HO_137001.out) hb); replace HO_146001 := ak (Kd.R_below (rdq HO_146001.out) hb); replace BK108 := ak (ze (blq BK108.out) hb); replace BK118 := ak (ze (blq BK118.out) hb); replace BK136 := ak (ze (blq BK136.out) hb); replace BK145 := ak (ze (blq BK145.out) hb); replace HB := ak (zb (bq4 GE108.out GE118.out GE136.out GE145.out) hb); (try clear hb)) | ((with_reducible refine za (f := 7) rfl ?_); refine cl 140 rfl Tryz.func7 #[.string t148] (zn.calls kj91 t148 t149 t150 t151 t154 t155 t156 _ ?side1 ?side2 A145.out) ?_; (case side1 => refine yY HGErr.out ?_; exact bq4 GE108.out GE118.out GE136.out GE145.out); (case side2 => refine zY HGMax.out ?_; exact bq4 GE108.out GE118.out GE136.out GE145.out); rintro e w181 ⟨v152, rfl, ho0, hb⟩; refine ⟨_, rfl, ?_⟩; have HO153 := ak (Kd.R_lower (Kd.R_new' (Kd.R_new' (Kd.R_new' (Kd.R_new' ho0 (Kd.R_lt (rdq HO_109002.out))) (Kd.R_lt (rdq HO_119002.out))) (Kd.R_lt (rdq HO_137001.out))) (Kd.R_lt (rdq HO_146001.out))) (zd (bq4 GE108.out GE118.out GE136.out GE145.out))); replace HO_109002 := ak (Kd.R_elder' (rdq HO_109002.out) (Kd.R_base ho0) hb); replace HO_119002 := ak (Kd.R_elder' (rdq HO_119002.out) (Kd.R_base ho0) hb); replace HO_137001 := ak (Kd.R_elder' (rdq HO_137001.out) (Kd.R_base ho0) hb); replace HO_146001 := ak (Kd.R_elder' (rdq HO_146001.out) (Kd.R_base ho0) hb); replace BK108 := ak (ze (blq BK108.out) hb); replace BK118 := ak (ze (blq BK118.out) hb); replace BK136 := ak (ze (blq BK136.out) hb); replace BK145 := ak (ze (blq BK145.out) hb); replace HB := ak (zb (bq4 GE108.out GE118.out GE136.out GE145.out) hb); (try clear hb ho0)) | ((with_reducible refine zl (N := 17) rfl ?_); (try (refine yd (by rfl) ?_; dsimp only)); refine bx 17 #[.string ⟨#[]⟩, .string ⟨#[]⟩, .slice none 0 0, .string ⟨#[]⟩] 26 ?_; intro gb157 hg w182 hbox hb; have BK157 := ak (hbox); have GW157 := ak ((by rw [hg]; exact (zd (bq4 GE108.out GE118.out GE136.out GE145.out)) : w.heap.size ≤ gb157)); have GE157 := GW157; have NB108_157 := ak ((by rw [hg]; exact Nat.ne_of_lt (xn (blq BK108.out)) : gb108 ≠ gb157)); have NB157_108 := ak NB108_157.out.symm; have NB118_157 := ak ((by rw [hg]; exact Nat.ne_of_lt (xn (blq BK118.out)) : gb118 ≠ gb157)); have NB157_118 := ak NB118_157.out.symm; have NB136_157 := ak ((by rw [hg]; exact Nat.ne_of_lt (xn (blq BK136.out)) : gb136 ≠ gb157)); have NB157_136 := ak NB136_157.out.symm; have NB145_157 := ak ((by rw [hg]; exact Nat.ne_of_lt (xn (blq BK145.out)) : gb145 ≠ gb157)); have NB157_145 := ak NB145_157.out.symm; replace HO_109002 := ak (Kd.R_below (rdq HO_109002.out) hb); replace HO_119002 := ak (Kd.R_below (rdq HO_119002.out) hb); replace HO_137001 := ak (Kd.R_below (rdq HO_137001.out) hb); replace HO_146001 := ak (Kd.R_below (rdq HO_146001.out) hb); replace HO153 := ak (Kd.R_below (rdq HO153.out) hb); replace BK108 := ak (ze (blq BK108.out) hb); replace BK118 := ak (ze (blq BK118.out) hb); replace BK136 := ak (ze (blq BK136.out) hb); replace BK145 := ak (ze (blq BK145.out) hb); replace HB := ak (zb (bq4 GE108.out GE118.out GE136.out GE145.out) hb); clear hb hbox hg; have hnb183 := NB157_108.out; have hnc183 := NB108_157.out; have hnb184 := NB157_118.out; have hnc184 := NB118_157.out; have hnb185 := NB157_136.out; have hnc185 := NB136_157.out; have hnb186 := NB157_145.out; have hnc186 := NB145_157.out; obtain ⟨hcz187_0, hcz187_1, hcz187_2, hcz187_3, hfz187_0, hfz187_1, hfz187_2, hfz187_3⟩ := blk4 BK157.out; obtain ⟨Ao188, co188, eo188⟩ := Kd.R_slice HO153.out; subst eo188))
           go_ret
           exact ⟨rv, by repeat (first | (with_reducible first | exact HB.out | apply yN | apply yH | apply ye | refine xb ?_ GE108.out | refine xb ?_ GE118.out | refine xb ?_ GE136.out | refine xb ?_ GE145.out | refine xb ?_ GE157.out) | exact HB.out)⟩
end Go.Proofs.YtbldejnlmpajeaaGreatDoor.QL
namespace Go.Proofs.YtbldejnlmpajeaaGreatDoor.QL
open Go.RowKit Go.Proofs.YtbldejnlmpajeaaGreatDoorW.PrintWords Go.Proofs.YtbldejnlmpajeaaGreatDoorW.PrintLast Go.Proofs.YtbldejnlmpajeaaGreatDoorW.PrintMore Go.Proofs.YtbldejnlmpajeaaGreatDoor.Aux Go.Proofs.YtbldejnlmpajeaaGreatDoor.Dom Go.Proofs.YtbldejnlmpajeaaGreatDoor.Ext Go.Proofs.YtbldejnlmpajeaaGreatDoor.Glob
def laws_FnMessages.Pure : Prop := ∀ (l0 : List Int), l0.length ≤ maxLen → l0.length * 1 ≤ 140737488351232 → (∀ x ∈ l0, (Lit.int .u8 x).wf = true) → ∃ k, laws_FnMessages.f k l0 = some true
theorem laws_FnMessages.walk (P : laws_FnMessages.Pure) (a0 : Option Addr) (len0 cap0 : Nat) (z0 : List Int) (w : World) (w0 : (a0 = none ∧ len0 = 0 ∧ cap0 = 0 ∧ z0 = []) ∨ ∃ x, a0 = some x ∧ len0 ≤ cap0 ∧ cap0 ≤ maxLen ∧ z0.length = cap0 ∧ (∀ i, i < z0.length → w.cell? (x.add i) = some (.int .u8 (z0.getD i 0))) ∧ ∀ n ∈ z0, (Lit.int .u8 n).wf = true) (y0 : len0 * 1 ≤ 140737488351232) (hGErr : GErr w) (hGMax : GMax w) (hGPow : GPow w) :
    Calls Tryz.prog 3 #[.slice a0 len0 cap0] w fun e w' => e = .returned (.bool true) ∧ Below w.heap.size w w' := by
  obtain ⟨l0, rfl, hr0, hm0, hw0, hc0⟩ := xX0 w0
  obtain ⟨k, h⟩ := P l0 hm0 y0 hw0
  refine (laws_FnMessages.calls k _ _ l0 true w (Kd.C_of_reads (d := (0 : Int)) (h1 := fun _ => rfl) hr0) hc0 hGErr hGMax hGPow h rfl).mono ?_
  rintro e w' ⟨rfl, hd⟩
  exact ⟨rfl, hd⟩
end Go.Proofs.YtbldejnlmpajeaaGreatDoor.QL
namespace Go.Proofs.YtbldejnlmpajeaaGreatDoor.Pure
open Go.RowKit Go.Proofs.YtbldejnlmpajeaaGreatDoor.QL Go.Proofs.YtbldejnlmpajeaaGreatDoorW.PrintWords Go.Proofs.YtbldejnlmpajeaaGreatDoorW.PrintLast Go.Proofs.YtbldejnlmpajeaaGreatDoorW.PrintMore Go.Proofs.YtbldejnlmpajeaaGreatDoor.Aux Go.Proofs.YtbldejnlmpajeaaGreatDoor.Dom Go.Proofs.YtbldejnlmpajeaaGreatDoor.Ext
theorem zS0 (b : List Int) (hb : b.length ≤ 1048576) : ∀ (d : Nat) (h i : Int), 0 ≤ i → (b.length : Int) - i = d → ∃ h', Ev (fun k => yc.l0 k b h i) (b, 0, h')
  | 0, h, i, h0, hd => ⟨h, yQ fun k => by simp only [yc.l0]; rw [if_neg (by omega)]⟩
  | d + 1, h, i, h0, hd => by
    by_cases h1 : i < 4000
    · obtain ⟨h', e⟩ := zS0 b hb d (Go.bits .and .i64 (wrap64 (wrap64 (wrap64 (h * 131) + wrap64 (rd b i)) + 7)) 1073741823) (i + 1) (by omega) (by omega)
      refine ⟨h', yk (fun k => ?_) e⟩
      simp only [yc.l0]
      rw [if_pos (by omega), if_pos h1, if_pos h0, yg (x := i + 1) (by omega) (by omega)]
    · exact ⟨h, yQ fun k => by simp only [yc.l0]; rw [if_pos (by omega), if_neg h1]⟩
theorem vt (b : List Int) (hb : b.length ≤ 1048576) : ∃ h', Ev (fun k => yc.f k b) (b, 0, h') :=
  zS0 b hb b.length _ 0 (by omega) (by omega)
theorem yk0 (x : Int) : 0 ≤ Go.bits .and .i64 x 255 ∧ Go.bits .and .i64 x 255 ≤ 255 := by
  have h : (BitVec.ofInt 64 x &&& BitVec.ofInt 64 255).toNat ≤ 255 := by
    rw [BitVec.toNat_and]
    exact Nat.and_le_right
  have e : Go.bits .and .i64 x 255 = (((BitVec.ofInt 64 x &&& BitVec.ofInt 64 255).toNat : Nat) : Int) := i64_pos (((BitVec.ofInt 64 x &&& BitVec.ofInt 64 255).toNat : Nat) : Int) (by omega) (by omega)
  rw [e]
  omega
theorem vk (b : List Int) (i h : Int) (hb : b.length ≤ 1048576) (h0 : 0 ≤ i) : ∃ x i' h', yT.f b i h = some (x, i', h') ∧ 0 ≤ x ∧ x ≤ 255 ∧ 0 ≤ i' := by
  unfold yT.f
  by_cases h1 : i < (b.length : Int)
  · rw [if_pos h1, if_pos h0, yg (x := i + 1) (by omega) (by omega)]
    exact ⟨_, _, _, rfl, (yk0 _).1, (yk0 _).2, by omega⟩
  · rw [if_neg h1]
    exact ⟨_, _, _, rfl, (yk0 _).1, (yk0 _).2, h0⟩
theorem jZ0 {x n : Int} (hx : 0 ≤ x) (hn : 0 < n) : 0 ≤ Int.tmod x n ∧ Int.tmod x n < n := by
  rw [Int.tmod_eq_emod_of_nonneg hx]
  exact ⟨Int.emod_nonneg _ (by omega), Int.emod_lt_of_pos _ hn⟩
theorem xg (b : List Int) (i h n : Int) (hb : b.length ≤ 1048576) (h0 : 0 ≤ i) : ∃ x i' h', zp.f b i h n = some (x, i', h') ∧ 0 ≤ x ∧ (x < n ∨ (n ≤ 0 ∧ x = 0)) ∧ 0 ≤ i' := by
  unfold zp.f
  by_cases h1 : n ≤ 0
  · rw [if_pos h1]
    exact ⟨0, i, h, rfl, by omega, Or.inr ⟨h1, rfl⟩, h0⟩
  rw [if_neg h1]
  obtain ⟨x, i1, g1, e1, a1, a2, a3⟩ := vk b i h hb h0
  by_cases h2 : n ≤ 256
  · rw [if_pos h2, e1, Option.bind_some, if_neg (by omega)]
    have := jZ0 a1 (show 0 < n by omega)
    exact ⟨_, _, _, rfl, this.1, Or.inl this.2, a3⟩
  · obtain ⟨y, i2, g2, e2, b1, b2, b3⟩ := vk b i1 g1 hb a3
    obtain ⟨z, i3, g3, e3, c1, c2, c3⟩ := vk b i2 g2 hb b3
    obtain ⟨v, i4, g4, e4, d1, d2, d3⟩ := vk b i3 g3 hb c3
    rw [if_neg h2, e1, Option.bind_some, e2, Option.bind_some, e3, Option.bind_some, e4, Option.bind_some, if_neg (by omega)]
    have w : wrap64 (wrap64 (wrap64 (wrap64 (x * 16777216) + wrap64 (y * 65536)) + wrap64 (z * 256)) + v) = x * 16777216 + y * 65536 + z * 256 + v := by
      rw [yg (x := x * 16777216) (by omega) (by omega), yg (x := y * 65536) (by omega) (by omega), yg (x := z * 256) (by omega) (by omega), yg (x := x * 16777216 + y * 65536) (by omega) (by omega), yg (x := x * 16777216 + y * 65536 + z * 256) (by omega) (by omega), yg (by omega) (by omega)]
    have t := jZ0 (show 0 ≤ x * 16777216 + y * 65536 + z * 256 + v by omega) (show 0 < n by omega)
    refine ⟨_, _, _, rfl, ?_, Or.inl ?_, d3⟩
    · show 0 ≤ Int.tmod (wrap64 (wrap64 (wrap64 (wrap64 (x * 16777216) + wrap64 (y * 65536)) + wrap64 (z * 256)) + v)) n
      rw [w]; exact t.1
    · show Int.tmod (wrap64 (wrap64 (wrap64 (wrap64 (x * 16777216) + wrap64 (y * 65536)) + wrap64 (z * 256)) + v)) n < n
      rw [w]; exact t.2
theorem rdOf_mem {α : Type} {d : α} {l : List α} {j : Int} (h0 : 0 ≤ j) (h1 : j < (l.length : Int)) : rdOf d l j ∈ l := by
  have e := qL (d := d) h0 h1
  exact List.mem_of_mem_drop (i := j.toNat) (by rw [e]; exact List.mem_cons_self)
theorem rd_mem {l : List Int} {j : Int} (h0 : 0 ≤ j) (h1 : j < (l.length : Int)) : rd l j ∈ l := by
  have e := zI1 h0 h1
  exact List.mem_of_mem_drop (i := j.toNat) (by rw [e]; exact List.mem_cons_self)
theorem ye0 (b : List Int) (i h : Int) (l : List ByteArray) (hl : 0 < l.length) (hb : b.length ≤ 1048576) (h0 : 0 ≤ i) : ∃ x i' h', zB.f b i h l = some (x, i', h') ∧ x ∈ l ∧ 0 ≤ i' := by
  obtain ⟨x, i1, g1, e1, a1, a2, a3⟩ := xg b i h (l.length : Int) hb h0
  have hx : x < (l.length : Int) := by omega
  unfold zB.f
  rw [e1, Option.bind_some, if_pos a1, if_pos hx]
  exact ⟨_, _, _, rfl, rdOf_mem a1 hx, a3⟩
theorem ev_k {α : Type} {x : Option α} {r : α} (h : x = some r) : Ev (fun _ : Nat => x) r := xa fun _ => h
theorem qF (a b c : Int) : yZ.f a b c = some (decide (b ≤ a ∧ a ≤ c)) := by
  unfold yZ.f
  by_cases h : a ≥ b
  · rw [if_pos h]; simp [show b ≤ a from h]
  · rw [if_neg h]; simp [show ¬ b ≤ a from h]
theorem zn0 {y : Int} (h : 0 ≤ y) : xT.f y = some (leapB y) := by
  unfold xT.f leapB
  rw [Int.tmod_eq_emod_of_nonneg h, Int.tmod_eq_emod_of_nonneg h, Int.tmod_eq_emod_of_nonneg h]
  by_cases h4 : y % 4 = 0
  · rw [if_pos h4]
    by_cases h100 : y % 100 = 0
    · rw [if_pos h100]
      congr 1
      rw [Bool.eq_iff_iff]; simp; omega
    · rw [if_neg h100, decide_eq_true (Or.inl ⟨h4, h100⟩)]
  · rw [if_neg h4, decide_eq_false (by omega)]
theorem vD {y : Int} (h : 0 ≤ y) : ∃ l, xO.f y = some l ∧ l.length = 12 ∧ ∀ m : Int, 1 ≤ m → m ≤ 12 → rd l (m - 1) = qw y m := by
  unfold xO.f
  rw [zn0 h, Option.bind_some]
  have hm : ∀ m : Int, 1 ≤ m → m ≤ 12 → m = 1 ∨ m = 2 ∨ m = 3 ∨ m = 4 ∨ m = 5 ∨ m = 6 ∨ m = 7 ∨ m = 8 ∨ m = 9 ∨ m = 10 ∨ m = 11 ∨ m = 12 := fun m h1 h2 => by omega
  cases hl : leapB y with
  | true =>
    refine ⟨_, if_pos rfl, rfl, fun m h1 h2 => ?_⟩
    rcases hm m h1 h2 with rfl | rfl | rfl | rfl | rfl | rfl | rfl | rfl | rfl | rfl | rfl | rfl <;> simp [qw, hl, rd]
  | false =>
    refine ⟨_, if_neg (by decide), rfl, fun m h1 h2 => ?_⟩
    rcases hm m h1 h2 with rfl | rfl | rfl | rfl | rfl | rfl | rfl | rfl | rfl | rfl | rfl | rfl <;> simp [qw, hl, rd]
theorem zp0 (y m : Int) (hy : 0 ≤ y) (hm : m ≤ 13) : ∀ (d : Nat) (n i : Int), 1 ≤ i → m - i = d → 0 ≤ n → n + 31 * d ≤ 100000 → Ev (fun k => zv.l1 k y m n i) (n + xk y d i)
  | 0, n, i, h1, hd, n0, n1 => by
    refine yQ fun k => ?_
    simp only [zv.l1]
    rw [if_neg (by omega)]
    simp [xk]
  | d + 1, n, i, h1, hd, n0, n1 => by
    obtain ⟨l, e, hl, hr⟩ := vD hy
    have hb := jy y i
    refine yk (f := fun k => zv.l1 k y m (n + qw y i) (i + 1)) (fun k => ?_) (ev_eq (zp0 y m hy hm d _ (i + 1) (by omega) (by omega) (by omega) (by omega)) (by rw [xk]; omega))
    simp only [zv.l1]
    rw [if_pos (by omega), e, Option.bind_some, yg (x := i - 1) (by omega) (by omega), if_pos (by omega), if_pos (by omega), hr i h1 (by omega), yg (by omega) (by omega), yg (by omega) (by omega)]
theorem zq0 (y m : Int) (hy : y ≤ 2037) (h1970 : 1970 ≤ y) (hm1 : 1 ≤ m) (hm : m ≤ 12) : ∀ (d : Nat) (n i : Int), 1970 ≤ i → y - i = d → 0 ≤ n → n + 366 * d ≤ 50000 → Ev (fun k => zv.l0 k y m n i) (n + qc d i + xk y (m - 1).toNat 1)
  | 0, n, i, h1, hd, n0, n1 => by
    refine yk (f := fun k => zv.l1 k y m n 1) (fun k => ?_) (ev_eq (zp0 y m (by omega) (by omega) (m - 1).toNat n 1 (by omega) (by omega) n0 (by omega)) (by simp [qc]))
    simp only [zv.l0]
    rw [if_neg (by omega)]
  | d + 1, n, i, h1, hd, n0, n1 => by
    have hb := zN0 i
    refine yk (f := fun k => zv.l0 k y m (n + yearD i) (i + 1)) (fun k => ?_) (ev_eq (zq0 y m hy h1970 hm1 hm d _ (i + 1) (by omega) (by omega) (by omega) (by omega)) (by rw [qc]; omega))
    simp only [zv.l0]
    rw [if_pos (by omega), zn0 (by omega), Option.bind_some, yg (x := n + 365) (by omega) (by omega), yg (x := i + 1) (by omega) (by omega), yg (x := n + 365 + 1) (by omega) (by omega)]
    unfold yearD
    cases leapB i with
    | true => rw [if_pos rfl, if_pos rfl, show n + 365 + 1 = n + 366 by omega]
    | false => rw [if_neg (by decide), if_neg (by decide)]
theorem jU (y m d : Int) : Ev (fun k => zv.f k y m d) (daysP y m d) := by
  have hbad : ∀ k, zv.j0 (k + 1) y m d true = some (-1) := fun k => by simp only [zv.j0]; rw [if_pos trivial]
  refine Ev.congr (fun k => by unfold zv.f; rw [qF, Option.bind_some]) ?_
  unfold daysP
  by_cases h1 : 1970 ≤ y ∧ y ≤ 2037
  · refine zf (by simpa using h1) ?_
    refine Ev.congr (fun k => by rw [qF, Option.bind_some]) ?_
    by_cases h2 : 1 ≤ m ∧ m ≤ 12
    · refine zf (by simpa using h2) ?_
      obtain ⟨l, e, hl, hr⟩ := vD (y := y) (by omega)
      refine Ev.congr (fun k => by rw [e, Option.bind_some, yg (x := m - 1) (by omega) (by omega), if_pos (by omega), if_pos (by omega), hr m h2.1 h2.2, qF, Option.bind_some]) ?_
      have hb := jy y m
      by_cases h3 : 1 ≤ d ∧ d ≤ qw y m
      · rw [decide_eq_true h3, if_pos ⟨h1, h2, h3⟩]
        refine yk (f := fun k => zv.l0 k y m (d - 1) 1970) (fun k => ?_) (ev_eq (zq0 y m h1.2 h1.1 h2.1 h2.2 (y - 1970).toNat (d - 1) 1970 (by omega) (by omega) (by omega) (by omega)) (by omega))
        simp only [zv.j0]
        rw [if_neg (by decide), yg (by omega) (by omega)]
      · rw [decide_eq_false h3, if_neg (fun h => h3 h.2.2)]
        exact yQ hbad
    · rw [if_neg (fun h => h2 h.2.1)]
      exact zi (by simpa using h2) (yQ hbad)
  · rw [if_neg (fun h => h1 h.1)]
    exact zi (by simpa using h1) (yQ hbad)
theorem yI0 : ∀ (d : Nat) (n : Int) (acc : List Int), 0 ≤ n → n ≤ 9223372036854775807 → n < 10 ^ d → acc.length + d ≤ 100 → Ev (fun k => yw.l0 k n (strOfNums acc) false) (strOfNums (decL d n acc))
  | 0, n, acc, h0, h1, hn, ha => by
    refine yQ fun k => ?_
    simp only [yw.l0]
    rw [if_pos (by simp at hn; omega), if_neg (by decide)]
    rfl
  | d + 1, n, acc, h0, h1, hn, ha => by
    by_cases h : n > 0
    · refine yk (f := fun k => yw.l0 k (n / 10) (strOfNums ((48 + n % 10) :: acc)) false) (fun k => ?_) (ev_eq (yI0 d (n / 10) _ (by omega) (by omega) (by rw [Int.pow_succ] at hn; omega) (by simp; omega)) (by rw [decL, if_pos h]))
      simp only [yw.l0, Option.bind_some]
      rw [if_neg (by omega), Int.tmod_eq_emod_of_nonneg (by omega), Int.tdiv_eq_ediv_of_nonneg (by omega), if_neg (by omega), if_pos (by rw [strOfNums_size, strOfNums_size]; simp; omega), yg (x := 48 + n % 10) (by omega) (by omega), yg (by omega) (by omega), Int.emod_eq_of_lt (a := 48 + n % 10) (by omega) (by omega), ← xp]
      rfl
    · refine yQ fun k => ?_
      simp only [yw.l0]
      rw [if_pos (by omega), if_neg (by decide), decL, if_neg h]
theorem yJ0 : ∀ (d : Nat) (n : Int) (acc : List Int), 0 ≤ n → n ≤ 9223372036854775808 → n < 10 ^ d → acc.length + d ≤ 100 → Ev (fun k => yw.l0 k (-n) (strOfNums acc) true) (strOfNums (45 :: decL d n acc))
  | 0, n, acc, h0, h1, hn, ha => by
    refine yQ fun k => ?_
    simp only [yw.l0]
    rw [if_pos (by simp at hn; omega), if_pos (by trivial), if_pos (by rw [strOfNums_size]; omega)]
    rw [show (45 :: decL 0 n acc : List Int) = [45] ++ acc from rfl, xp]
    rfl
  | d + 1, n, acc, h0, h1, hn, ha => by
    by_cases h : n > 0
    · refine yk (f := fun k => yw.l0 k (-(n / 10)) (strOfNums ((48 + n % 10) :: acc)) true) (fun k => ?_) (ev_eq (yJ0 d (n / 10) _ (by omega) (by omega) (by rw [Int.pow_succ] at hn; omega) (by simp; omega)) (by rw [decL, if_pos h]))
      simp only [yw.l0, Option.bind_some]
      rw [if_neg (by omega), Int.neg_tmod, Int.neg_tdiv, Int.tmod_eq_emod_of_nonneg (by omega), Int.tdiv_eq_ediv_of_nonneg (by omega)]
      by_cases hr : -(n % 10) < 0
      · rw [if_pos hr, if_pos (by rw [strOfNums_size, strOfNums_size]; simp; omega), Int.neg_neg, yg (x := n % 10) (by omega) (by omega), yg (x := 48 + n % 10) (by omega) (by omega), yg (by omega) (by omega), Int.emod_eq_of_lt (a := 48 + n % 10) (by omega) (by omega), ← xp]
        rfl
      · have hr0 : n % 10 = 0 := by omega
        rw [if_neg hr, if_pos (by rw [strOfNums_size, strOfNums_size]; simp; omega), hr0, yg (x := -(n / 10)) (by omega) (by omega), ← xp, show (wrap64 (48 + -0) % 256 : Int) = 48 + 0 by rw [yg (by omega) (by omega)]; omega]
        rfl
    · refine yQ fun k => ?_
      simp only [yw.l0]
      rw [if_pos (by omega), if_pos (by trivial), if_pos (by rw [strOfNums_size]; omega), decL, if_neg h]
      rw [show (45 :: acc : List Int) = [45] ++ acc from rfl, xp]
      rfl
theorem xu0 (n : Int) (h0 : -9223372036854775808 ≤ n) (h1 : n ≤ 9223372036854775807) : Ev (fun k => yw.f k n) (decB n) := by
  have hp : (10 : Int) ^ 20 = 100000000000000000000 := by decide
  unfold decB decP
  by_cases hz : n = 0
  · rw [if_pos hz]
    exact xa fun k => by unfold yw.f; rw [if_pos hz]; rfl
  · rw [if_neg hz]
    refine Ev.congr (fun k => by unfold yw.f; rw [if_neg hz]) ?_
    by_cases hn : n < 0
    · rw [if_pos hn, decide_eq_true hn]
      have h := yJ0 20 (-n) [] (by omega) (by omega) (by rw [hp]; omega) (by simp)
      rw [Int.neg_neg] at h
      exact h
    · rw [if_neg hn, decide_eq_false hn]
      exact yI0 20 n [] (by omega) (by omega) (by rw [hp]; omega) (by simp)
theorem jk {n : Int} (h0 : 0 ≤ n) (h1 : n ≤ 99) : yK.f n = some (strOfNums (twoL n)) := by
  unfold yK.f twoL
  rw [Int.tdiv_eq_ediv_of_nonneg h0, yg (x := n / 10) (by omega) (by omega), Int.tmod_eq_emod_of_nonneg (by omega), Int.tmod_eq_emod_of_nonneg h0, yg (by omega) (by omega), yg (by omega) (by omega), Int.emod_eq_of_lt (a := 48 + n / 10 % 10) (by omega) (by omega), Int.emod_eq_of_lt (a := 48 + n % 10) (by omega) (by omega)]
theorem yC0 {y : Int} (h : 1970 ≤ y) (h2 : y ≤ 2037) : daysP y 1 1 = qc (y - 1970).toNat 1970 := by
  have hb := jy y 1
  unfold daysP
  rw [if_pos ⟨⟨h, h2⟩, by omega, by omega⟩]
  simp [xk]
theorem zF0 {y m : Int} (h : 1970 ≤ y) (h2 : y ≤ 2037) (h3 : 1 ≤ m) (h4 : m ≤ 12) : daysP y m 1 = qc (y - 1970).toNat 1970 + xk y (m - 1).toNat 1 := by
  have hb := jy y m
  unfold daysP
  rw [if_pos ⟨⟨h, h2⟩, ⟨h3, h4⟩, by omega⟩]
  omega
theorem vH (sec y m : Int) (hs0 : 0 ≤ sec) (hs1 : sec ≤ 2000000000) (hy : 1970 ≤ y) (hy2 : y ≤ 2037) (hm : 1 ≤ m) (hm2 : m ≤ 12) (hd : daysP y m 1 ≤ sec / 86400) (hd2 : sec / 86400 < daysP y m 1 + qw y m) :
    Ev (fun k => zm.j3 k sec (sec / 86400) y m) (strOfNums (weekL (sec / 86400 % 7) ++ [44, 32] ++ twoL (sec / 86400 - daysP y m 1 + 1) ++ [32] ++ monL m ++ [32] ++ decP y ++ [32] ++ twoL (sec / 3600 % 24) ++ [58] ++ twoL (sec / 60 % 60) ++ [58] ++ twoL (sec % 60) ++ [32, 71, 77, 84])) := by
  have hb := jy y m
  have hdp := zF0 hy hy2 hm hm2
  have hyb := xp0 (y - 1970).toNat 1970
  have hmb := qu0 y (m - 1).toNat 1
  have w2 : wrap64 (m - 1) = m - 1 := yg (by omega) (by omega)
  have w1 : wrap64 (wrap64 (sec / 86400 - daysP y m 1) + 1) = sec / 86400 - daysP y m 1 + 1 := by rw [yg (x := sec / 86400 - daysP y m 1) (by omega) (by omega), yg (by omega) (by omega)]
  have w3 : Int.tmod (wrap64 (Int.tdiv sec 3600)) 24 = sec / 3600 % 24 := by rw [Int.tdiv_eq_ediv_of_nonneg hs0, yg (by omega) (by omega), Int.tmod_eq_emod_of_nonneg (by omega)]
  have w4 : Int.tmod (wrap64 (Int.tdiv sec 60)) 60 = sec / 60 % 60 := by rw [Int.tdiv_eq_ediv_of_nonneg hs0, yg (by omega) (by omega), Int.tmod_eq_emod_of_nonneg (by omega)]
  have w5 : Int.tmod sec 60 = sec % 60 := Int.tmod_eq_emod_of_nonneg hs0
  have w6 : Int.tmod (sec / 86400) 7 = sec / 86400 % 7 := Int.tmod_eq_emod_of_nonneg (by omega)
  have s1 : (strOfNums (weekL (sec / 86400 % 7))).size = 3 := by rw [strOfNums_size, yG0]
  have s2 : ∀ n, (strOfNums (twoL n)).size = 2 := fun n => by rw [strOfNums_size]; rfl
  have s3 : (strOfNums (monL m)).size = 3 := by rw [strOfNums_size, xE0]
  have s4 : (decB y).size = 4 := by unfold decB; rw [jE0 (by omega) (by omega), strOfNums_size]; rfl
  have z1 : (⟨#[44, 32]⟩ : ByteArray).size = 2 := rfl
  have z2 : (⟨#[32]⟩ : ByteArray).size = 1 := rfl
  have z3 : (⟨#[58]⟩ : ByteArray).size = 1 := rfl
  refine yk (fun k => by simp only [zm.j3]; rfl) (zj (jU y m 1) ?_)
  refine Ev.congr (fun k => by
    simp only [Option.bind_some]
    rw [w6, if_pos (c := 0 ≤ sec / 86400 % 7) (by omega), if_pos (c := sec / 86400 % 7 < _) (by simp; omega), w2, if_pos (c := 0 ≤ m - 1) (by omega), if_pos (c := m - 1 < _) (by simp; omega), week_rd (by omega) (by omega), zw1 hm hm2, if_pos (by rw [s1]; decide), w1, jk (n := sec / 86400 - daysP y m 1 + 1) (by omega) (by omega), Option.bind_some]) ?_
  refine Ev.congr (fun k => by
    simp only [ByteArray.size_append, s1, s2, s3, z1, z2, Nat.reduceAdd, Nat.reduceLeDiff, if_true]
    rfl) ?_
  refine zj (xu0 y (by omega) (by omega)) ?_
  refine xa fun k => ?_
  rw [w3, w4, w5, jk (n := sec / 3600 % 24) (by omega) (by omega), jk (n := sec / 60 % 60) (by omega) (by omega), jk (n := sec % 60) (by omega) (by omega)]
  simp only [Option.bind_some, ByteArray.size_append, s1, s2, s3, s4, z1, z2, z3, Nat.reduceAdd, Nat.reduceLeDiff, if_true]
  congr 1
  simp only [xp, decB]
  rfl
theorem vF (sec y : Int) (hs0 : 0 ≤ sec) (hs1 : sec ≤ 2000000000) (hy : 1970 ≤ y) (hy2 : y ≤ 2037) : ∀ (f : Nat) (m d : Int), 1 ≤ m → m + f = 13 → 0 ≤ d → d < xk y f m → daysP y m 1 + d = sec / 86400 →
    Ev (fun k => zm.l1 k sec (sec / 86400) y m) (strOfNums (weekL (sec / 86400 % 7) ++ [44, 32] ++ twoL ((mdL y f m d).2 + 1) ++ [32] ++ monL (mdL y f m d).1 ++ [32] ++ decP y ++ [32] ++ twoL (sec / 3600 % 24) ++ [58] ++ twoL (sec / 60 % 60) ++ [58] ++ twoL (sec % 60) ++ [32, 71, 77, 84]))
  | 0, m, d, h1, hf, h0, hd, he => by simp [xk] at hd; omega
  | f + 1, m, d, h1, hf, h0, hd, he => by
    have hb := jy y m
    rw [xk] at hd
    rw [mdL]
    have e3 : d = sec / 86400 - daysP y m 1 := by omega
    by_cases h12 : m < 12
    · have hn : daysP y (m + 1) 1 = daysP y m 1 + qw y m := by
        rw [zF0 hy hy2 (by omega) (by omega), zF0 hy hy2 h1 (by omega), show (m + 1 - 1).toNat = (m - 1).toNat + 1 by omega, yM0, show 1 + (((m - 1).toNat : Nat) : Int) = m by omega]
        omega
      refine yk (fun k => by simp only [zm.l1]; rw [if_pos h12, yg (x := m + 1) (by omega) (by omega)]) (zj (jU y (m + 1) 1) ?_)
      by_cases h : qw y m ≤ d
      · rw [if_pos h]
        exact zf (by omega) (vF sec y hs0 hs1 hy hy2 f (m + 1) (d - qw y m) (by omega) (by omega) (by omega) (by omega) (by omega))
      · rw [if_neg h]
        refine zi (by omega) ?_
        have := vH sec y m hs0 hs1 hy hy2 h1 (by omega) (by omega) (by omega)
        rw [← e3] at this
        exact this
    · refine yk (f := fun k => zm.j3 k sec (sec / 86400) y m) (fun k => by simp only [zm.l1]; rw [if_neg h12]) ?_
      have hf0 : f = 0 := by omega
      subst hf0
      simp only [xk] at hd
      rw [if_neg (by omega)]
      have := vH sec y m hs0 hs1 hy hy2 h1 (by omega) (by omega) (by omega)
      rw [← e3] at this
      exact this
theorem vG (sec : Int) (hs0 : 0 ≤ sec) (hs1 : sec ≤ 2000000000) : ∀ (f : Nat) (y d : Int), 1970 ≤ y → y + f = 2037 → 0 ≤ d → d < 365 * f → daysP y 1 1 + d = sec / 86400 →
    Ev (fun k => zm.l0 k sec (sec / 86400) y 1) (strOfNums (weekL (sec / 86400 % 7) ++ [44, 32] ++ twoL ((mdL (ydL f y d).1 12 1 (ydL f y d).2).2 + 1) ++ [32] ++ monL (mdL (ydL f y d).1 12 1 (ydL f y d).2).1 ++ [32] ++ decP (ydL f y d).1 ++ [32] ++ twoL (sec / 3600 % 24) ++ [58] ++ twoL (sec / 60 % 60) ++ [58] ++ twoL (sec % 60) ++ [32, 71, 77, 84]))
  | 0, y, d, h1, hf, h0, hd, he => by omega
  | f + 1, y, d, h1, hf, h0, hd, he => by
    have hb := zN0 y
    rw [ydL]
    have hn : daysP (y + 1) 1 1 = daysP y 1 1 + yearD y := by
      rw [yC0 (by omega) (by omega), yC0 h1 (by omega), show (y + 1 - 1970).toNat = (y - 1970).toNat + 1 by omega, xo0, show 1970 + (((y - 1970).toNat : Nat) : Int) = y by omega]
    refine yk (fun k => by simp only [zm.l0]; rw [if_pos (by omega), yg (x := y + 1) (by omega) (by omega)]) (zj (jU (y + 1) 1 1) ?_)
    by_cases h : yearD y ≤ d
    · rw [if_pos h]
      exact zf (by omega) (vG sec hs0 hs1 f (y + 1) (d - yearD y) (by omega) (by omega) (by omega) (by omega) (by omega))
    · rw [if_neg h]
      have hw := vn0 y
      unfold yearW at hw
      refine zi (by omega) (yk (f := fun k => zm.l1 k sec (sec / 86400) y 1) (fun k => by simp only [zm.j1]) ?_)
      exact vF sec y hs0 hs1 h1 (by omega) 12 1 d (by omega) (by omega) h0 (by omega) he
theorem vI (sec : Int) (h0 : -9223372036854775808 ≤ sec) (h1 : sec ≤ 9223372036854775807) : Ev (fun k => zm.f k sec) (dateB sec) := by
  refine Ev.congr (fun k => by unfold zm.f; rw [qF, Option.bind_some]) ?_
  unfold dateB
  by_cases h : 0 ≤ sec ∧ sec ≤ 2000000000
  · rw [if_pos h]
    refine zf (by simpa using h) ?_
    have w1 : wrap64 (Int.tdiv sec 86400) = sec / 86400 := by rw [Int.tdiv_eq_ediv_of_nonneg h.1, yg (by omega) (by omega)]
    refine Ev.congr (fun k => by rw [w1]) ?_
    have hy0 : daysP 1970 1 1 = 0 := by rw [yC0 (by omega) (by omega)]; rfl
    refine ev_eq (vG sec h.1 h.2 67 1970 (sec / 86400) (by omega) (by omega) (by omega) (by omega) (by omega)) ?_
    unfold dateL ymd
    rw [show (70 : Nat) = 67 + 3 from rfl, vp0 67 3 1970 (sec / 86400) (by omega) (by omega)]
  · rw [if_neg h]
    exact zi (by simpa using h) (zO _)
theorem jY0 (s : ByteArray) : trimB (⟨#[32]⟩ ++ s) = trimB s := by
  unfold trimB trimC
  rw [yP, qY, qY, show bytesOf (⟨#[32]⟩ : ByteArray) = [32] from rfl, List.singleton_append, List.dropWhile_cons_of_pos (by decide)]
def qsS : List Int → Bool → Bool → Bool × Bool
  | [], q, k => (q, k)
  | _ :: r, q, true => qsS r q false
  | c :: r, q, false => if c = 34 then qsS r (!q) false else if q = true ∧ c = 92 then qsS r q true else qsS r q false
def balB (v : ByteArray) : Prop := qsS (bytesOf v) false false = (false, false)
theorem zB0 (nm : ByteArray) : ∀ A B : List (ByteArray × ByteArray), getL nm (A ++ B) = getL nm A ++ getL nm B
  | [], B => rfl
  | p :: A, B => by
    rw [List.cons_append, getL, getL, zB0 nm A B]
    by_cases h : p.1 = nm
    · rw [if_pos h, if_pos h, List.cons_append]
    · rw [if_neg h, if_neg h]
theorem vN0 (x : Int) : (dateB x).size ≤ 29 := by
  unfold dateB
  split
  · rename_i hx
    rw [strOfNums_size, jG0 hx.1 hx.2]
    exact Nat.le_refl _
  · exact Nat.zero_le _
def drB (v : ByteArray) : Bool := decide (v.size ≤ 60) && decide (qsS (bytesOf v) false false = (false, false))
def nmB (v : ByteArray) : Bool := decide (v.size ≤ 60) && decide (bytesOf v ≠ bytesOf nmCC)
def okF (a v : ByteArray) : Prop := a.size ≤ 60 ∧ v.size ≤ 60 ∧ (a = nmCC → balB v)
theorem yd0 {a v : ByteArray} (ha : a.size ≤ 60) (hv : drB v = true) : okF a v := by
  unfold drB at hv
  rw [Bool.and_eq_true, decide_eq_true_eq, decide_eq_true_eq] at hv
  exact ⟨ha, hv.1, fun _ => hv.2⟩
theorem jx {a v : ByteArray} (ha : nmB a = true) (hv : v.size ≤ 60) : okF a v := by
  unfold nmB at ha
  rw [Bool.and_eq_true, decide_eq_true_eq, decide_eq_true_eq] at ha
  exact ⟨ha.1, hv, fun h => absurd (congrArg bytesOf h) ha.2⟩
theorem xS (p : ByteArray → Bool) (b : List Int) (i h : Int) (l : List ByteArray) (hp : l.all p = true) (hl : 0 < l.length) (hb : b.length ≤ 1048576) (h0 : 0 ≤ i) : ∃ x i' h', zB.f b i h l = some (x, i', h') ∧ p x = true ∧ 0 ≤ i' := by
  obtain ⟨x, i1, g1, e1, a1, a3⟩ := ye0 b i h l hl hb h0
  exact ⟨x, i1, g1, e1, List.all_eq_true.1 hp x a1, a3⟩
def l3cc : List ByteArray := [⟨#[109, 97, 120, 45, 97, 103, 101, 61, 49, 48]⟩, ⟨#[110, 111, 45, 115, 116, 111, 114, 101]⟩, ⟨#[110, 111, 45, 99, 97, 99, 104, 101]⟩, ⟨#[112, 114, 105, 118, 97, 116, 101]⟩, ⟨#[112, 117, 98, 108, 105, 99, 44, 32, 109, 97, 120, 45, 97, 103, 101, 61, 51]⟩, ⟨#[115, 45, 109, 97, 120, 97, 103, 101, 61, 55, 44, 32, 109, 97, 120, 45, 97, 103, 101, 61, 49]⟩, ⟨#[109, 117, 115, 116, 45, 114, 101, 118, 97, 108, 105, 100, 97, 116, 101]⟩, ⟨#[109, 97, 120, 45, 115, 116, 97, 108, 101, 61, 53]⟩, ⟨#[109, 105, 110, 45, 102, 114, 101, 115, 104, 61, 50]⟩, ⟨#[111, 110, 108, 121, 45, 105, 102, 45, 99, 97, 99, 104, 101, 100]⟩, ⟨#[109, 97, 120, 45, 97, 103, 101, 61, 48]⟩, ⟨#[112, 117, 98, 108, 105, 99]⟩]
def l3vary : List ByteArray := [⟨#[97, 99, 99, 101, 112, 116]⟩, ⟨#[42]⟩, ⟨#[97, 99, 99, 101, 112, 116, 44, 32, 120, 45, 97]⟩, ⟨#[120, 45, 97]⟩]
def l3acc : List ByteArray := [⟨#[97]⟩, ⟨#[98]⟩, ⟨#[97, 44, 32, 98]⟩, ⟨#[]⟩]
def l3xa : List ByteArray := [⟨#[49]⟩, ⟨#[50]⟩]
def l3etag : List ByteArray := [⟨#[34, 118, 49, 34]⟩, ⟨#[34, 118, 50, 34]⟩, ⟨#[87, 47, 34, 118, 49, 34]⟩]
def l3val : List ByteArray := [⟨#[51]⟩, ⟨#[48]⟩, ⟨#[57, 57, 57, 57, 57, 57, 57, 57, 57, 57, 57]⟩, ⟨#[120]⟩]
def l3dat : List ByteArray := [⟨#[101, 120, 112, 105, 114, 101, 115]⟩, ⟨#[108, 97, 115, 116, 45, 109, 111, 100, 105, 102, 105, 101, 100]⟩]
def l3nam : List ByteArray := [⟨#[97, 103, 101]⟩, ⟨#[120, 45, 98]⟩, ⟨#[97, 117, 116, 104, 111, 114, 105, 122, 97, 116, 105, 111, 110]⟩]
theorem yv0 (b : List Int) (hb : b.length ≤ 1048576) (x i h : Int) (t : Bool) (h0 : 0 ≤ i) : ∃ a v i' h', Ev (fun k => zR.j0 k x t b i h) (a, v, i', h') ∧ okF a v ∧ 0 ≤ i' := by
  by_cases ht : t = true
  · obtain ⟨y, i2, g2, e2, b1, b3⟩ := xS drB b i h l3cc (by decide) (by decide) hb h0
    exact ⟨_, _, _, _, yk (fun k => by simp only [zR.j0]; rfl) (zf ht (zj (ev_k e2) (zO _))), yd0 (by decide) b1, b3⟩
  by_cases c3 : x = 3
  · obtain ⟨y, i2, g2, e2, b1, b3⟩ := xS drB b i h l3vary (by decide) (by decide) hb h0
    exact ⟨_, _, _, _, yk (fun k => by simp only [zR.j0]; rfl) (zi ht (zf c3 (zj (ev_k e2) (zO _)))), yd0 (by decide) b1, b3⟩
  by_cases c4 : x = 4
  · obtain ⟨y, i2, g2, e2, b1, b3⟩ := xS drB b i h l3acc (by decide) (by decide) hb h0
    exact ⟨_, _, _, _, yk (fun k => by simp only [zR.j0]; rfl) (zi ht (zi c3 (zf c4 (zj (ev_k e2) (zO _))))), yd0 (by decide) b1, b3⟩
  by_cases c5 : x = 5
  · obtain ⟨y, i2, g2, e2, b1, b3⟩ := xS drB b i h l3xa (by decide) (by decide) hb h0
    exact ⟨_, _, _, _, yk (fun k => by simp only [zR.j0]; rfl) (zi ht (zi c3 (zi c4 (zf c5 (zj (ev_k e2) (zO _)))))), yd0 (by decide) b1, b3⟩
  by_cases c6 : x = 6
  · obtain ⟨y, i2, g2, e2, b1, b3⟩ := xS drB b i h l3etag (by decide) (by decide) hb h0
    exact ⟨_, _, _, _, yk (fun k => by simp only [zR.j0]; rfl) (zi ht (zi c3 (zi c4 (zi c5 (zf c6 (zj (ev_k e2) (zO _))))))), yd0 (by decide) b1, b3⟩
  by_cases c7 : x = 7
  · obtain ⟨y, i2, g2, e2, b1, b2, b3⟩ := xg b i h 60 hb h0
    have hd := vN0 y
    exact ⟨_, _, _, _, yk (fun k => by simp only [zR.j0]; rfl) (zi ht (zi c3 (zi c4 (zi c5 (zi c6 (zf c7 (zj (ev_k e2) (zj (vI y (by omega) (by omega)) (zO _))))))))), jx (a := ⟨#[100, 97, 116, 101]⟩) (v := dateB y) (by decide) (by omega), b3⟩
  by_cases c8 : x = 8
  · obtain ⟨z, i2, g2, e2, b1, b3⟩ := xS nmB b i h l3dat (by decide) (by decide) hb h0
    obtain ⟨y, i3, g3, e3, d1, d2, d3⟩ := xg b i2 g2 60 hb b3
    have hd := vN0 y
    exact ⟨_, _, _, _, yk (fun k => by simp only [zR.j0]; rfl) (zi ht (zi c3 (zi c4 (zi c5 (zi c6 (zi c7 (zf c8 (zj (ev_k e2) (zj (ev_k e3) (zj (vI y (by omega) (by omega)) (zO _))))))))))), jx (v := dateB y) b1 (by omega), d3⟩
  · obtain ⟨z, i2, g2, e2, b1, b3⟩ := xS nmB b i h l3nam (by decide) (by decide) hb h0
    obtain ⟨y, i3, g3, e3, d1, d3⟩ := xS drB b i2 g2 l3val (by decide) (by decide) hb b3
    have hd : y.size ≤ 60 := by
      unfold drB at d1
      rw [Bool.and_eq_true, decide_eq_true_eq] at d1
      exact d1.1
    exact ⟨_, _, _, _, yk (fun k => by simp only [zR.j0]; rfl) (zi ht (zi c3 (zi c4 (zi c5 (zi c6 (zi c7 (zi c8 (zj (ev_k e2) (zj (ev_k e3) (zO _)))))))))), jx b1 hd, d3⟩
theorem qv0 (b : List Int) (i h : Int) (hb : b.length ≤ 1048576) (h0 : 0 ≤ i) : ∃ a v i' h', Ev (fun k => zR.f k b i h) (a, v, i', h') ∧ okF a v ∧ 0 ≤ i' := by
  obtain ⟨x, i1, g1, e1, a1, a2, a3⟩ := xg b i h 10 hb h0
  by_cases c0 : x = 0
  · obtain ⟨a, v, i', h', e, q, r⟩ := yv0 b hb x i1 g1 (x == 0) a3
    exact ⟨a, v, i', h', Ev.congr (fun k => by unfold zR.f; rfl) (zj (ev_k e1) (zf c0 e)), q, r⟩
  by_cases c1 : x = 1
  · obtain ⟨a, v, i', h', e, q, r⟩ := yv0 b hb x i1 g1 (x == 1) a3
    exact ⟨a, v, i', h', Ev.congr (fun k => by unfold zR.f; rfl) (zj (ev_k e1) (zi c0 (zf c1 e))), q, r⟩
  · obtain ⟨a, v, i', h', e, q, r⟩ := yv0 b hb x i1 g1 (x == 2) a3
    exact ⟨a, v, i', h', Ev.congr (fun k => by unfold zR.f; rfl) (zj (ev_k e1) (zi c0 (zi c1 e))), q, r⟩
def okL (l : List S55) : Prop := ∀ x ∈ l, okF x.f0 x.f1
theorem zf0 {l : List S55} {a v : ByteArray} (h : okL l) (q : okF a v) : okL (l ++ [(⟨a, v⟩ : S55)]) := by
  intro x hx
  rcases List.mem_append.1 hx with hx | hx
  · exact h x hx
  · rw [List.mem_singleton.1 hx]
    exact q
theorem xr0 : ∀ (l : List (ByteArray × ByteArray)) (n : Int), (∀ p ∈ l, p.1.size ≤ 60 ∧ p.2.size ≤ 60) → 120 * (l.length : Int) ≤ n → ¬ szL n l < 0
  | [], n, _, hn => by
    simp only [szL, List.length_nil] at hn ⊢
    omega
  | p :: r, n, h, hn => by
    have hp := h p List.mem_cons_self
    rw [List.length_cons] at hn
    rw [szL, if_neg (by omega)]
    exact xr0 r _ (fun q hq => h q (List.mem_cons_of_mem _ hq)) (by omega)
theorem okL_size {l : List S55} (h : okL l) (hl : l.length ≤ 1000) : ¬ szF 1048576 (l.map fun x => (x.f0, x.f1)) < 0 := by
  unfold szF
  rw [List.length_map, if_neg (by omega)]
  refine xr0 _ _ (fun p hp => ?_) (by rw [List.length_map]; omega)
  obtain ⟨x, hx, rfl⟩ := List.mem_map.1 hp
  exact ⟨(h x hx).1, (h x hx).2.1⟩
theorem zm0 (b : List Int) (hb : b.length ≤ 1048576) (st : Int) : ∀ (d : Nat) (acc : List Int) (i h : Int), 0 ≤ i → acc.length + d ≤ 1000000 → ∃ s i' h', Ev (fun k => zP.l0 k acc st (d : Int) b i h) (s, i', h') ∧ s.size = acc.length + d ∧ 0 ≤ i'
  | 0, acc, i, h, h0, hd => ⟨strOfNums acc, i, h, yQ fun k => by simp only [zP.l0]; rw [if_neg (by omega)], by rw [strOfNums_size]; omega, h0⟩
  | d + 1, acc, i, h, h0, hd => by
    obtain ⟨x, i1, g1, e1, a1, a2, a3⟩ := vk b i h hb h0
    have hl : acc.length < 140737488355328 := by omega
    have key : ∃ v, ∀ k, zP.l0 (k + 1) acc st ((d + 1 : Nat) : Int) b i h = zP.l0 k (acc ++ [v]) st (d : Int) b i1 g1 := by
      have hw : wrap64 (((d + 1 : Nat) : Int) - 1) = (d : Int) := by rw [yg (by omega) (by omega)]; omega
      by_cases s1 : st = 1
      · by_cases s2 : st = 2
        · omega
        · exact ⟨_, fun k => by simp only [zP.l0]; rw [if_pos (by omega), e1, Option.bind_some, if_pos s1, if_neg s2, if_pos hl, hw]⟩
      · by_cases s2 : st = 2
        · exact ⟨_, fun k => by simp only [zP.l0]; rw [if_pos (by omega), e1, Option.bind_some, if_neg s1, if_pos s2, if_pos hl, hw]⟩
        · exact ⟨_, fun k => by simp only [zP.l0]; rw [if_pos (by omega), e1, Option.bind_some, if_neg s1, if_neg s2, if_pos hl, hw]⟩
    obtain ⟨v, hv⟩ := key
    obtain ⟨s, i', h', e, q, r⟩ := zm0 b hb st d (acc ++ [v]) i1 g1 a3 (by rw [List.length_append, List.length_singleton]; omega)
    refine ⟨s, i', h', yk hv e, ?_, r⟩
    rw [q, List.length_append, List.length_singleton]
    omega
theorem jT (b : List Int) (i h a : Int) (hb : b.length ≤ 1048576) (h0 : 0 ≤ i) (ha : 0 ≤ a) (ha2 : a ≤ 100000) : ∃ s i' h', Ev (fun k => zP.f k b i h a) (s, i', h') ∧ (s.size : Int) ≤ a ∧ 0 ≤ i' := by
  obtain ⟨x, i1, g1, e1, a1, a2, a3⟩ := xg b i h 4 hb h0
  obtain ⟨y, i2, g2, e2, b1, b2, b3⟩ := xg b i1 g1 (a + 1) hb a3
  obtain ⟨n, rfl⟩ := Int.eq_ofNat_of_zero_le b1
  obtain ⟨s, i', h', e, q, r⟩ := zm0 b hb x n [] i2 g2 b3 (by simp; omega)
  refine ⟨s, i', h', ?_, by rw [q]; simp; omega, r⟩
  refine Ev.congr (fun k => by unfold zP.f; rw [e1, Option.bind_some, yg (x := a + 1) (by omega) (by omega), e2, Option.bind_some]) e
def l6met : List ByteArray := [⟨#[71, 69, 84]⟩, ⟨#[71, 69, 84]⟩, ⟨#[71, 69, 84]⟩, ⟨#[71, 69, 84]⟩, ⟨#[80, 85, 84]⟩, ⟨#[68, 69, 76, 69, 84, 69]⟩, ⟨#[80, 79, 83, 84]⟩]
def l6uri : List ByteArray := [⟨#[47]⟩, ⟨#[47, 97]⟩, ⟨#[47, 98]⟩, ⟨#[47, 99]⟩]
theorem l6Uri_ok (b : List Int) (i h : Int) (hb : b.length ≤ 1048576) (h0 : 0 ≤ i) : ∃ x i' h', qE.f b i h = some (x, i', h') ∧ x ∈ l6uri ∧ 0 ≤ i' := by
  obtain ⟨y, i3, g3, e3, d1, d3⟩ := ye0 b i h l6uri (by decide) hb h0
  refine ⟨y, i3, g3, ?_, d1, d3⟩
  unfold qE.f
  show (zB.f b i h l6uri).bind _ = _
  rw [e3, Option.bind_some]
theorem jW (b : List Int) (hb : b.length ≤ 1048576) (m u : ByteArray) : ∀ (d : Nat) (acc : List S55) (i h : Int), 0 ≤ i → okL acc → acc.length + d ≤ 1000 → ∃ l t i' h', Ev (fun k => zt.l0 k (d : Int) b i h m u acc ⟨#[]⟩) (m, u, l, t, i', h') ∧ okL l ∧ l.length = acc.length + d ∧ t.size ≤ 6 ∧ 0 ≤ i'
  | 0, acc, i, h, h0, ha, hd => by
    by_cases hm : m.toList = ([71, 69, 84] : List UInt8)
    · exact ⟨acc, ⟨#[]⟩, i, h, yQ fun k => by simp only [zt.l0]; rw [if_neg (by omega), if_pos hm], ha, rfl, by decide, h0⟩
    · obtain ⟨t, i1, g1, e1, q1, r1⟩ := jT b i h 6 hb h0 (by omega) (by omega)
      exact ⟨acc, t, i1, g1, yk (fun k => by simp only [zt.l0]; rw [if_neg (by omega), if_neg hm]) (zj e1 (zO _)), ha, rfl, by omega, r1⟩
  | d + 1, acc, i, h, h0, ha, hd => by
    obtain ⟨a, v, i1, g1, e1, q1, r1⟩ := qv0 b i h hb h0
    have hw : wrap64 (((d + 1 : Nat) : Int) - 1) = (d : Int) := by rw [yg (by omega) (by omega)]; omega
    obtain ⟨l, t, i', h', e, q, ql, qt, r⟩ := jW b hb m u d (acc ++ [(⟨a, v⟩ : S55)]) i1 g1 r1 (zf0 ha q1) (by rw [List.length_append, List.length_singleton]; omega)
    refine ⟨l, t, i', h', yk (fun k => by simp only [zt.l0]; rw [if_pos (by omega), hw]) (zj e1 (zf (show acc.length < 4398046511104 by omega) e)), q, ?_, qt, r⟩
    rw [ql, List.length_append, List.length_singleton]
    omega
theorem yN0 (b : List Int) (i h : Int) (hb : b.length ≤ 1048576) (h0 : 0 ≤ i) : ∃ m u l t i' h', Ev (fun k => zt.f k b i h) (m, u, l, t, i', h') ∧ m ∈ l6met ∧ u ∈ l6uri ∧ okL l ∧ l.length ≤ 2 ∧ t.size ≤ 6 ∧ 0 ≤ i' := by
  obtain ⟨m, i1, g1, e1, d1, a3⟩ := ye0 b i h l6met (by decide) hb h0
  obtain ⟨u, i2, g2, e2, d2, b3⟩ := l6Uri_ok b i1 g1 hb a3
  obtain ⟨x, i3, g3, e3, c1, c2, c3⟩ := xg b i2 g2 3 hb b3
  obtain ⟨n, rfl⟩ := Int.eq_ofNat_of_zero_le c1
  obtain ⟨l, t, i', h', e, q, ql, qt, r⟩ := jW b hb m u n [] i3 g3 c3 (fun x hx => by cases hx) (by simp; omega)
  exact ⟨m, u, l, t, i', h', Ev.congr (fun k => by unfold zt.f; rfl) (zj (ev_k e1) (zj (ev_k e2) (zj (ev_k e3) e))), d1, d2, q, by rw [ql]; simp; omega, qt, r⟩
theorem vA0 {l : List ByteArray} {x : ByteArray} (n : Nat) (h : l.all (fun v => decide (v.size ≤ n)) = true) (hx : x ∈ l) : x.size ≤ n := of_decide_eq_true (List.all_eq_true.1 h x hx)
theorem vE (b : List Int) (hb : b.length ≤ 1048576) : ∀ (d : Nat) (acc : List S55) (i h : Int), 0 ≤ i → okL acc → acc.length + d ≤ 1000 → ∃ l i' h', Ev (fun k => zK.l0 k acc (d : Int) b i h) (l, i', h') ∧ okL l ∧ l.length = acc.length + d ∧ 0 ≤ i'
  | 0, acc, i, h, h0, ha, hd => ⟨acc, i, h, yQ fun k => by simp only [zK.l0]; rw [if_neg (by omega)], ha, rfl, h0⟩
  | d + 1, acc, i, h, h0, ha, hd => by
    obtain ⟨a, v, i1, g1, e1, q1, r1⟩ := qv0 b i h hb h0
    have hw : wrap64 (((d + 1 : Nat) : Int) - 1) = (d : Int) := by rw [yg (by omega) (by omega)]; omega
    obtain ⟨l, i', h', e, q, ql, r⟩ := vE b hb d (acc ++ [(⟨a, v⟩ : S55)]) i1 g1 r1 (zf0 ha q1) (by rw [List.length_append, List.length_singleton]; omega)
    refine ⟨l, i', h', yk (fun k => by simp only [zK.l0]; rw [if_pos (by omega), hw]) (zj e1 (zf (show acc.length < 4398046511104 by omega) e)), q, ?_, r⟩
    rw [ql, List.length_append, List.length_singleton]
    omega
theorem xF0 (b : List Int) (i h : Int) (hb : b.length ≤ 1048576) (h0 : 0 ≤ i) : ∃ l i' h', Ev (fun k => zK.f k b i h) (l, i', h') ∧ okL l ∧ l.length ≤ 5 ∧ 0 ≤ i' := by
  obtain ⟨x, i1, g1, e1, a1, a2, a3⟩ := xg b i h 5 hb h0
  obtain ⟨n, rfl⟩ := Int.eq_ofNat_of_zero_le a1
  obtain ⟨l, i', h', e, q, ql, r⟩ := vE b hb n [] i1 g1 a3 (fun x hx => by cases hx) (by simp; omega)
  exact ⟨l, i', h', Ev.congr (fun k => by unfold zK.f; rfl) (zj (ev_k e1) e), q, by rw [ql]; simp; omega, r⟩
def l3odd : List ByteArray := [⟨#[]⟩, ⟨#[65]⟩, ⟨#[97, 32, 98]⟩, ⟨#[97, 98, 99, 100, 101, 102, 103, 104, 105, 106, 107, 108, 109, 110, 111, 112, 113, 114, 115, 116, 117, 118, 119, 120, 121]⟩]
def l3odv : List ByteArray := [⟨#[32, 120]⟩, ⟨#[97, 13, 10, 98]⟩, ⟨#[195, 169]⟩]
theorem zR0 (b : List Int) (hb : b.length ≤ 1048576) : ∀ (d : Nat) (acc : List S55) (i h : Int), 0 ≤ i → okL acc → acc.length + d = 13 → ∃ l i' h', Ev (fun k => yt.l0 k acc b i h) (l, i', h') ∧ okL l ∧ l.length ≤ 13 ∧ 0 ≤ i'
  | 0, acc, i, h, h0, ha, hd => by
    obtain ⟨x, i1, g1, e1, a1, a2, a3⟩ := xg b i h 2 hb h0
    have hw : wrap64 (12 + x) = 12 + x := yg (by omega) (by omega)
    exact ⟨acc, i1, g1, yk (fun k => by simp only [yt.l0]; rfl) (zj (ev_k e1) (zi (show ¬ ((acc.length : Int) < wrap64 (12 + x)) by rw [hw]; omega) (zO _))), ha, by omega, a3⟩
  | d + 1, acc, i, h, h0, ha, hd => by
    obtain ⟨x, i1, g1, e1, a1, a2, a3⟩ := xg b i h 2 hb h0
    have hw : wrap64 (12 + x) = 12 + x := yg (by omega) (by omega)
    by_cases hc : (acc.length : Int) < 12 + x
    · obtain ⟨l, i', h', e, q, ql, r⟩ := zR0 b hb d (acc ++ [(⟨⟨#[97]⟩, ⟨#[]⟩⟩ : S55)]) i1 g1 a3 (zf0 ha (jx (a := ⟨#[97]⟩) (v := ⟨#[]⟩) (by decide) (by decide))) (by rw [List.length_append, List.length_singleton]; omega)
      exact ⟨l, i', h', yk (fun k => by simp only [yt.l0]; rfl) (zj (ev_k e1) (zf (show (acc.length : Int) < wrap64 (12 + x) by rw [hw]; exact hc) (zf (show acc.length < 4398046511104 by omega) e))), q, ql, r⟩
    · exact ⟨acc, i1, g1, yk (fun k => by simp only [yt.l0]; rfl) (zj (ev_k e1) (zi (show ¬ ((acc.length : Int) < wrap64 (12 + x)) by rw [hw]; exact hc) (zO _))), ha, by omega, a3⟩
theorem vC0 (b : List Int) (i h : Int) (hb : b.length ≤ 1048576) (h0 : 0 ≤ i) : ∃ l i' h', Ev (fun k => yt.f k b i h) (l, i', h') ∧ okL l ∧ l.length ≤ 13 ∧ 0 ≤ i' := by
  obtain ⟨l, i1, g1, e1, q1, n1, a3⟩ := xF0 b i h hb h0
  obtain ⟨x, i2, g2, e2, b1, b2, b3⟩ := xg b i1 g1 12 hb a3
  by_cases c0 : x = 0
  · obtain ⟨y, i3, g3, e3, d1, d3⟩ := xS nmB b i2 g2 l3odd (by decide) (by decide) hb b3
    exact ⟨_, _, _, Ev.congr (fun k => by unfold yt.f; rfl) (zj e1 (zj (ev_k e2) (zf c0 (zj (ev_k e3) (zf (show l.length < 4398046511104 by omega) (zO _)))))), zf0 q1 (jx (v := ⟨#[]⟩) d1 (by decide)), by rw [List.length_append, List.length_singleton]; omega, d3⟩
  by_cases c1 : x = 1
  · obtain ⟨y, i3, g3, e3, d1, d3⟩ := xS (fun v => decide (v.size ≤ 60)) b i2 g2 l3odv (by decide) (by decide) hb b3
    exact ⟨_, _, _, Ev.congr (fun k => by unfold yt.f; rfl) (zj e1 (zj (ev_k e2) (zi c0 (zf c1 (zj (ev_k e3) (zf (show l.length < 4398046511104 by omega) (zO _))))))), zf0 q1 (jx (a := ⟨#[97]⟩) (v := y) (by decide) (of_decide_eq_true d1)), by rw [List.length_append, List.length_singleton]; omega, d3⟩
  by_cases c2 : x = 2
  · obtain ⟨l', i3, g3, e3, q3, n3, d3⟩ := zR0 b hb (13 - l.length) l i2 g2 b3 q1 (by omega)
    exact ⟨_, _, _, Ev.congr (fun k => by unfold yt.f; rfl) (zj e1 (zj (ev_k e2) (zi c0 (zi c1 (zf c2 e3))))), q3, n3, d3⟩
  · exact ⟨_, _, _, Ev.congr (fun k => by unfold yt.f; rfl) (zj e1 (zj (ev_k e2) (zi c0 (zi c1 (zi c2 (zO _)))))), q1, by omega, b3⟩
def dqMet : List ByteArray := [⟨#[]⟩, ⟨#[71, 32, 84]⟩, ⟨#[80, 82, 79, 80, 80, 65, 84, 67, 72, 69, 83]⟩]
def dqNam : List ByteArray := [⟨#[99, 111, 110, 116, 101, 110, 116, 45, 108, 101, 110, 103, 116, 104]⟩, ⟨#[116, 114, 97, 110, 115, 102, 101, 114, 45, 101, 110, 99, 111, 100, 105, 110, 103]⟩]
theorem qZ (b : List Int) (hb : b.length ≤ 1048576) (m u : ByteArray) (l : List S55) : ∀ (d : Nat) (t : ByteArray) (i h : Int), 0 ≤ i → t.size + d = 61 → ∃ t', Ev (fun k => zo.l0 k b i h m u l t) (m, u, l, t') ∧ t'.size ≤ 61
  | 0, t, i, h, h0, hd => by
    obtain ⟨x, i1, g1, e1, a1, a2, a3⟩ := xg b i h 2 hb h0
    have hw : wrap64 (60 + x) = 60 + x := yg (by omega) (by omega)
    exact ⟨t, yk (fun k => by simp only [zo.l0]; rfl) (zj (ev_k e1) (zi (show ¬ ((t.size : Int) < wrap64 (60 + x)) by rw [hw]; omega) (zO _))), by omega⟩
  | d + 1, t, i, h, h0, hd => by
    obtain ⟨x, i1, g1, e1, a1, a2, a3⟩ := xg b i h 2 hb h0
    have hw : wrap64 (60 + x) = 60 + x := yg (by omega) (by omega)
    by_cases hc : (t.size : Int) < 60 + x
    · obtain ⟨t', e, q⟩ := qZ b hb m u l d (t ++ ⟨#[120]⟩) i1 g1 a3 (by rw [ByteArray.size_append, show (⟨#[120]⟩ : ByteArray).size = 1 from rfl]; omega)
      exact ⟨t', yk (fun k => by simp only [zo.l0]; rfl) (zj (ev_k e1) (zf (show (t.size : Int) < wrap64 (60 + x) by rw [hw]; exact hc) (zf (show t.size + 1 ≤ 9223372036854775807 by omega) e))), q⟩
    · exact ⟨t, yk (fun k => by simp only [zo.l0]; rfl) (zj (ev_k e1) (zi (show ¬ ((t.size : Int) < wrap64 (60 + x)) by rw [hw]; exact hc) (zO _))), by omega⟩
theorem vV (b : List Int) (hb : b.length ≤ 1048576) : ∃ m u l t, Ev (fun k => zo.f k b) (m, u, l, t) ∧ m.size ≤ 60 ∧ u.size ≤ 60 ∧ okL l ∧ l.length ≤ 13 ∧ t.size ≤ 61 := by
  obtain ⟨h', e⟩ := vt b hb
  obtain ⟨m, u, l, t, i1, g1, e1, hm, hu, q1, n1, t1, a3⟩ := yN0 b 0 h' hb (by omega)
  have hm := vA0 60 (by decide) hm
  have hu := vA0 60 (by decide) hu
  obtain ⟨x, i2, g2, e2, b1, b2, b3⟩ := xg b i1 g1 10 hb a3
  by_cases c0 : x = 0
  · obtain ⟨y, i3, g3, e3, d1, d3⟩ := xS (fun v => decide (v.size ≤ 60)) b i2 g2 dqMet (by decide) (by decide) hb b3
    exact ⟨y, u, l, t, Ev.congr (fun k => by unfold zo.f; rfl) (zj e (zj e1 (zj (ev_k e2) (zf c0 (zj (ev_k e3) (zO _)))))), of_decide_eq_true d1, hu, q1, by omega, by omega⟩
  by_cases c1 : x = 1
  · exact ⟨m, ⟨#[120]⟩, l, t, Ev.congr (fun k => by unfold zo.f; rfl) (zj e (zj e1 (zj (ev_k e2) (zi c0 (zf c1 (zO _)))))), hm, by decide, q1, by omega, by omega⟩
  by_cases c2 : x = 2
  · obtain ⟨l', i3, g3, e3, q3, n3, d3⟩ := vC0 b i2 g2 hb b3
    exact ⟨m, u, l', t, Ev.congr (fun k => by unfold zo.f; rfl) (zj e (zj e1 (zj (ev_k e2) (zi c0 (zi c1 (zf c2 (zj e3 (zO _)))))))), hm, hu, q3, n3, by omega⟩
  by_cases c3 : x = 3
  · obtain ⟨y, i3, g3, e3, d1, d3⟩ := xS nmB b i2 g2 dqNam (by decide) (by decide) hb b3
    exact ⟨m, u, _, t, Ev.congr (fun k => by unfold zo.f; rfl) (zj e (zj e1 (zj (ev_k e2) (zi c0 (zi c1 (zi c2 (zf c3 (zj (ev_k e3) (zf (show l.length < 4398046511104 by omega) (zO _)))))))))), hm, hu, zf0 q1 (jx (v := ⟨#[53]⟩) d1 (by decide)), by rw [List.length_append, List.length_singleton]; omega, by omega⟩
  by_cases c4 : x = 4
  · obtain ⟨t', e3, q3⟩ := qZ b hb m u l (61 - t.size) t i2 g2 b3 (by omega)
    exact ⟨m, u, l, t', Ev.congr (fun k => by unfold zo.f; rfl) (zj e (zj e1 (zj (ev_k e2) (zi c0 (zi c1 (zi c2 (zi c3 (zf c4 e3)))))))), hm, hu, q1, by omega, q3⟩
  · exact ⟨m, u, l, t, Ev.congr (fun k => by unfold zo.f; rfl) (zj e (zj e1 (zj (ev_k e2) (zi c0 (zi c1 (zi c2 (zi c3 (zi c4 (zO _))))))))), hm, hu, q1, by omega, by omega⟩
theorem vu (b : List Int) (hb : b.length ≤ 1048576) : ∃ m u l t, Ev (fun k => yr.f k b) (m, u, l, t) ∧ m.size ≤ 60 ∧ u.size ≤ 60 ∧ okL l ∧ l.length ≤ 13 ∧ t.size ≤ 61 := by
  obtain ⟨m, u, l, t, e, q⟩ := vV b hb
  exact ⟨m, u, l, t, Ev.congr (fun k => by unfold yr.f; rfl) (zj e (zO _)), q⟩
theorem yO0 (b : List Int) (i h : Int) (l : List Int) (hl : 0 < l.length) (hb : b.length ≤ 1048576) (h0 : 0 ≤ i) : ∃ x i' h', xf.f b i h l = some (x, i', h') ∧ x ∈ l ∧ 0 ≤ i' := by
  obtain ⟨x, i1, g1, e1, a1, a2, a3⟩ := xg b i h (l.length : Int) hb h0
  have hx : x < (l.length : Int) := by omega
  unfold xf.f
  rw [e1, Option.bind_some, if_pos a1, if_pos hx]
  exact ⟨_, _, _, rfl, rd_mem a1 hx, a3⟩
def l6sts : List Int := [200, 200, 200, 200, 404, 301, 203, 500, 204, 304]
theorem qe0 (b : List Int) (i h : Int) (hb : b.length ≤ 1048576) (h0 : 0 ≤ i) : ∃ st l t i' h', Ev (fun k => yJ.f k b i h) (st, l, t, i', h') ∧ -1000 ≤ st ∧ st ≤ 1000 ∧ okL l ∧ l.length ≤ 5 ∧ t.size ≤ 8 ∧ 0 ≤ i' := by
  obtain ⟨st, i1, g1, e1, d1, a3⟩ := yO0 b i h l6sts (by decide) hb h0
  obtain ⟨l, i2, g2, e2, q2, n2, b3⟩ := xF0 b i1 g1 hb a3
  obtain ⟨t, i3, g3, e3, q3, c3⟩ := jT b i2 g2 8 hb b3 (by omega) (by omega)
  have hz : ∀ z ∈ l6sts, -1000 ≤ z ∧ z ≤ 1000 := by decide
  have hs := hz st d1
  by_cases h1 : st = 204
  · exact ⟨st, l, ⟨#[]⟩, i2, g2, Ev.congr (fun k => by unfold yJ.f; rfl) (zj (ev_k e1) (zj e2 (zf h1 (zO _)))), hs.1, hs.2, q2, n2, by decide, b3⟩
  by_cases h2 : st = 304
  · exact ⟨st, l, ⟨#[]⟩, i2, g2, Ev.congr (fun k => by unfold yJ.f; rfl) (zj (ev_k e1) (zj e2 (zi h1 (zf h2 (zO _))))), hs.1, hs.2, q2, n2, by decide, b3⟩
  · exact ⟨st, l, t, i3, g3, Ev.congr (fun k => by unfold yJ.f; rfl) (zj (ev_k e1) (zj e2 (zi h1 (zi h2 (zj e3 (zO _)))))), hs.1, hs.2, q2, n2, by omega, c3⟩
theorem vQ (b : List Int) (hb : b.length ≤ 1048576) : ∃ st l t, Ev (fun k => yu.f k b) (st, l, t) ∧ -1000 ≤ st ∧ st ≤ 1000 ∧ okL l ∧ l.length ≤ 13 ∧ t.size ≤ 8 := by
  obtain ⟨h', e⟩ := vt b hb
  obtain ⟨st, l, t, i1, g1, e1, s1, s2, q1, n1, t1, a3⟩ := qe0 b 0 h' hb (by omega)
  obtain ⟨x, i2, g2, e2, b1, b2, b3⟩ := xg b i1 g1 8 hb a3
  by_cases c0 : x = 0
  · obtain ⟨y, i3, g3, e3, d1, d3⟩ := yO0 b i2 g2 [199, 600, 599, 100] (by decide) hb b3
    have hy : ∀ z ∈ ([199, 600, 599, 100] : List Int), -1000 ≤ z ∧ z ≤ 1000 := by decide
    exact ⟨y, l, t, Ev.congr (fun k => by unfold yu.f; rfl) (zj e (zj e1 (zj (ev_k e2) (zf c0 (zj (ev_k e3) (zO _)))))), (hy y d1).1, (hy y d1).2, q1, by omega, t1⟩
  by_cases c1 : x = 1
  · obtain ⟨l', i3, g3, e3, q3, n3, d3⟩ := vC0 b i2 g2 hb b3
    exact ⟨st, l', t, Ev.congr (fun k => by unfold yu.f; rfl) (zj e (zj e1 (zj (ev_k e2) (zi c0 (zf c1 (zj e3 (zO _))))))), s1, s2, q3, n3, t1⟩
  by_cases c2 : x = 2
  · exact ⟨st, l, ⟨#[120]⟩, Ev.congr (fun k => by unfold yu.f; rfl) (zj e (zj e1 (zj (ev_k e2) (zi c0 (zi c1 (zf c2 (zO _))))))), s1, s2, q1, by omega, by decide⟩
  · exact ⟨st, l, t, Ev.congr (fun k => by unfold yu.f; rfl) (zj e (zj e1 (zj (ev_k e2) (zi c0 (zi c1 (zi c2 (zO _))))))), s1, s2, q1, by omega, t1⟩
theorem jY (b : List Int) (hb : b.length ≤ 1048576) : ∃ st l t, Ev (fun k => ym.f k b) (st, l, t) ∧ -1000 ≤ st ∧ st ≤ 1000 ∧ okL l ∧ l.length ≤ 13 ∧ t.size ≤ 8 := by
  obtain ⟨st, l, t, e, q⟩ := vQ b hb
  exact ⟨st, l, t, Ev.congr (fun k => by unfold ym.f; rfl) (zj e (zO _)), q⟩
theorem wf_u8 {a : Int} (h : (Lit.int .u8 a).wf = true) : 0 ≤ a ∧ a ≤ 255 := by
  simp [Lit.wf, IntKind.min, IntKind.max, IntKind.signed, IntKind.bits] at h
  omega
theorem zd1 (b : List Int) (hb : b.length ≤ 1048576) (hw : ∀ x ∈ b, (Lit.int .u8 x).wf = true) : ∃ v, zx0.f b 0 = some v ∧ 0 ≤ v ∧ v ≤ 255 := by
  unfold zx0.f
  by_cases h : 0 < (b.length : Int)
  · have hm := zI1 (xs := b) (i := 0) (by omega) h
    have h1 := wf_u8 (hw (rd b 0) (List.mem_of_mem_drop (i := (0 : Int).toNat) (by rw [hm]; exact List.mem_cons_self)))
    rw [if_pos h, if_pos (by omega), yg (by omega) (by omega)]
    exact ⟨_, rfl, h1.1, h1.2⟩
  · have h0 : (b.length : Int) = 0 := by omega
    have e : wrap64 (wrap64 (0 * 37) + wrap64 (0 * 11)) = 0 := by unfold wrap64; omega
    rw [if_neg h, h0, e]
    exact ⟨_, rfl, by decide, by decide⟩
def blA : List Int := [32, 9]
def ascA (l : List Int) : Prop := 8 < l.length ∨ zk.okA l = true
theorem xK0 (cs : List Int) (b : Int) (l : List Int) : zk.idxA (b :: l) cs = if cs.contains b = true then 0 else if zk.idxA l cs = -1 then -1 else zk.idxA l cs + 1 := rfl
theorem qy0 (cs : List Int) : ∀ l : List Int, zk.idxA l cs = -1 ∨ (0 ≤ zk.idxA l cs ∧ zk.idxA l cs < l.length)
  | [] => .inl rfl
  | b :: l => by
    rw [xK0]
    split
    · exact .inr ⟨by omega, by rw [List.length_cons]; omega⟩
    · rcases qy0 cs l with h | h
      · rw [if_pos h]; exact .inl rfl
      · rw [if_neg (by omega), List.length_cons]; exact .inr ⟨by omega, by omega⟩
theorem xL0 (r : List Int) : ∀ A : List Int, (∀ c ∈ A, c ≠ 32 ∧ c ≠ 9) → zk.idxA (A ++ 32 :: r) blA = A.length
  | [], _ => rfl
  | a :: A, h => by
    have ha := h a List.mem_cons_self
    have e := xL0 r A fun c hc => h c (List.mem_cons_of_mem _ hc)
    have hc : blA.contains a = false := by simp [blA, ha.1, ha.2]
    rw [List.cons_append, xK0, hc, if_neg (by decide), e, if_neg (by omega), List.length_cons]
    omega
theorem jr (s : ByteArray) (hs : s.size ≤ 8388608) (h : ascA (bytesOf s)) : zk.f s ⟨#[32, 9]⟩ = some (zk.idxA (bytesOf s) blA) := by
  unfold zk.f
  unfold ascA at h
  rw [zw] at h
  rw [if_pos ⟨hs, by decide, by decide, h, by decide⟩]
  rfl
theorem qW0 (r : List Int) : ∀ (H : List Int), (∀ c ∈ H, c ≠ 13) → idxS (H ++ 13 :: 10 :: r) [13, 10] = H.length
  | [], _ => by
    rw [List.nil_append, zc0, if_pos ⟨rfl, rfl⟩]
    rfl
  | [a], h => by
    have ha := h a List.mem_cons_self
    have e := qW0 r [] (fun c hc => by cases hc)
    rw [List.nil_append] at e
    rw [List.singleton_append, zc0, if_neg (fun x => ha x.1), e]
    rfl
  | a :: b :: H, h => by
    have ha := h a List.mem_cons_self
    have e := qW0 r (b :: H) (fun c hc => h c (List.mem_cons_of_mem _ hc))
    rw [List.cons_append] at e
    rw [List.cons_append, List.cons_append, zc0, if_neg (fun x => ha x.1), e, if_neg (by omega), List.length_cons, List.length_cons, List.length_cons]
    omega
theorem zy1 (H r : List Int) : (H ++ 13 :: 10 :: r).take ((H.length : Nat) : Int).toNat = H := by rw [Int.toNat_natCast, List.take_left]
theorem jB0 (H r : List Int) : (H ++ 13 :: 10 :: r).drop (((H.length : Nat) : Int).toNat + 2) = r := by
  rw [Int.toNat_natCast, List.drop_append, List.drop_of_length_le (by omega), show H.length + 2 - H.length = 2 by omega]
  rfl
theorem size_nil {s : ByteArray} (h : s.size = 0) : s = ⟨#[]⟩ := qm (by rw [jF h]; rfl)
theorem secP_dec (n : Nat) (h : n ≤ 60) : secP (bytesOf (decB (n : Int))) = ((n : Int), true) := by
  have key : ((List.range 61).all fun n => decide (secP (bytesOf (decB (n : Int))) = ((n : Int), true))) = true := by decide
  rw [List.all_eq_true] at key
  exact of_decide_eq_true (key n (List.mem_range.2 (by omega)))
theorem xl0 (nm : ByteArray) : ∀ (l : List (ByteArray × ByteArray)), ∀ p ∈ dropL nm l, p ∈ l
  | [], p, h => h
  | q :: r, p, h => by
    rw [dropL] at h
    split at h
    · exact List.mem_cons_of_mem _ (xl0 nm r p h)
    · rcases List.mem_cons.1 h with rfl | h
      · exact List.mem_cons_self
      · exact List.mem_cons_of_mem _ (xl0 nm r p h)
theorem qk0 : ∀ l : List (ByteArray × ByteArray), sameL l l = true
  | [] => rfl
  | p :: r => by rw [sameL, if_pos ⟨rfl, rfl⟩]; exact qk0 r
theorem ql0 (l : List (ByteArray × ByteArray)) : sameF l l = true := by
  unfold sameF
  rw [if_pos rfl]
  exact qk0 l
theorem zE1 (r : List Int) : ∀ (H : List Int), (∀ c ∈ H, c ≠ 58) → idxS (H ++ 58 :: r) [58] = H.length
  | [], _ => by
    rw [List.nil_append, vF0, if_pos rfl]
    rfl
  | a :: H, h => by
    have ha := h a List.mem_cons_self
    have e := zE1 r H (fun c hc => h c (List.mem_cons_of_mem _ hc))
    rw [List.cons_append, vF0, if_neg (fun x => ha x.symm), e, if_neg (by omega), List.length_cons]
    omega
theorem yP0 {p : ByteArray × ByteArray} (h : xQ p = true) : (bytesOf p.1).all tokC = true ∧ 1 ≤ p.1.size ∧ lowB p.1 = p.1 ∧ (bytesOf p.2).all valC = true ∧ trimB p.2 = p.2 := by
  unfold xQ tokB valB at h
  simp only [Bool.and_eq_true, decide_eq_true_eq] at h
  refine ⟨h.1.1.1.1.1, ?_, h.1.1.2, h.1.2.1, h.1.2.2⟩
  have h2 := h.1.1.1.1.2
  rcases Nat.eq_zero_or_pos p.1.size with e | e
  · rw [jF e] at h2
    cases h2
  · exact e
theorem tok_no {l : List Int} (h : l.all tokC = true) : ∀ c ∈ l, c ≠ 13 ∧ c ≠ 58 := by
  intro c hc
  have := List.all_eq_true.1 h c hc
  constructor
  · rintro rfl
    exact absurd this (by decide)
  · rintro rfl
    exact absurd this (by decide)
theorem val_no {l : List Int} (h : l.all valC = true) : ∀ c ∈ l, c ≠ 13 := by
  intro c hc
  have := List.all_eq_true.1 h c hc
  rintro rfl
  exact absurd this (by decide)
theorem jq0 : ∀ l : List (ByteArray × ByteArray), l.length + 2 ≤ (showR l).size
  | [] => by decide
  | p :: r => by
    have ih := jq0 r
    rw [showR]
    simp only [ByteArray.size_append, xM, xw, List.length_cons]
    omega
theorem jt0 (L T : List Int) : ∀ (l : List (ByteArray × ByteArray)) (d : Nat) (acc : List (ByteArray × ByteArray)) (i : Int), 0 ≤ i → (∀ p ∈ l, xQ p = true) → acc.length + l.length ≤ 12 → l.length < d → L.drop i.toNat = bytesOf (showR l) ++ T → rfP L d acc i = (acc ++ l, i + (showR l).size, true)
  | _, 0, _, _, _, _, _, hd, _ => by omega
  | [], d + 1, acc, i, h0, hf, ha, hd, hl => by
    have e : bytesOf (showR []) ++ T = 13 :: 10 :: T := rfl
    have e0 : idxS (13 :: 10 :: T) [13, 10] = 0 := by rw [zc0, if_pos ⟨rfl, rfl⟩]
    rw [rfP, hl, e, e0, if_neg (by decide), if_pos rfl, List.append_nil]
    rfl
  | p :: r, d + 1, acc, i, h0, hf, ha, hd, hl => by
    have hp := hf p List.mem_cons_self
    obtain ⟨t1, t2, t3, t4, t5⟩ := yP0 hp
    have hn1 := tok_no t1
    have hn2 := val_no t4
    have hlen1 := zw p.1
    have hlen2 := zw p.2
    have e : bytesOf (showR (p :: r)) ++ T = (bytesOf p.1 ++ 58 :: 32 :: bytesOf p.2) ++ 13 :: 10 :: (bytesOf (showR r) ++ T) := by
      rw [showR]
      simp only [yP, List.append_assoc]
      rfl
    have eL : (bytesOf p.1 ++ 58 :: 32 :: bytesOf p.2).length = p.1.size + p.2.size + 2 := by
      rw [List.length_append, List.length_cons, List.length_cons]
      omega
    have e1 := qW0 (bytesOf (showR r) ++ T) (bytesOf p.1 ++ 58 :: 32 :: bytesOf p.2) (fun c hc => by
      rcases List.mem_append.1 hc with hc | hc
      · exact (hn1 c hc).1
      · rcases List.mem_cons.1 hc with rfl | hc
        · decide
        · rcases List.mem_cons.1 hc with rfl | hc
          · decide
          · exact hn2 c hc)
    have e2 := zE1 (32 :: bytesOf p.2) (bytesOf p.1) (fun c hc => (hn1 c hc).2)
    have e3 : lineF (bytesOf p.1 ++ 58 :: 32 :: bytesOf p.2) ((bytesOf p.1).length : Int) = p := by
      unfold lineF
      have a1 : (bytesOf p.1 ++ 58 :: 32 :: bytesOf p.2).take (((bytesOf p.1).length : Int)).toNat = bytesOf p.1 := by rw [Int.toNat_natCast, List.take_left]
      have a2 : (bytesOf p.1 ++ 58 :: 32 :: bytesOf p.2).drop ((((bytesOf p.1).length : Int)).toNat + 1) = 32 :: bytesOf p.2 := by
        rw [Int.toNat_natCast, List.drop_append, List.drop_of_length_le (by omega), show (bytesOf p.1).length + 1 - (bytesOf p.1).length = 1 by omega]
        rfl
      rw [a1, a2, yy, t3]
      have a3 : strOfNums (32 :: bytesOf p.2) = ⟨#[32]⟩ ++ p.2 := by
        have : strOfNums ([32] ++ bytesOf p.2) = strOfNums [32] ++ strOfNums (bytesOf p.2) := xp _ _
        rw [yy] at this
        exact this
      rw [a3, jY0, t5]
    rw [List.length_cons] at ha hd
    have ih := jt0 L T r d (acc ++ [p]) (i + ((bytesOf p.1 ++ 58 :: 32 :: bytesOf p.2).length : Int) + 2) (by omega) (fun q hq => hf q (List.mem_cons_of_mem _ hq)) (by rw [List.length_append, List.length_singleton]; omega) (by omega) (by
      rw [show (i + ((bytesOf p.1 ++ 58 :: 32 :: bytesOf p.2).length : Int) + 2).toNat = i.toNat + (((((bytesOf p.1 ++ 58 :: 32 :: bytesOf p.2).length : Nat) : Int)).toNat + 2) by omega, ← List.drop_drop, hl, e, jB0])
    rw [rfP, hl, e, e1]
    simp only [zy1]
    rw [e2, e3, if_neg (by omega), if_neg (by omega), if_neg (by omega), if_pos ⟨hp, by omega⟩, ih]
    refine Prod.ext ?_ (Prod.ext ?_ rfl)
    · simp
    · show i + ((bytesOf p.1 ++ 58 :: 32 :: bytesOf p.2).length : Int) + 2 + ((showR r).size : Int) = i + ((showR (p :: r)).size : Int)
      rw [showR]
      simp only [ByteArray.size_append, xM, xw]
      omega
theorem zk1 (l : List (ByteArray × ByteArray)) (t : ByteArray) (h : qa l = true) : rfP (bytesOf (showR l ++ t)) ((showR l ++ t).size + 1) [] 0 = (l, ((showR l).size : Int), true) := by
  unfold qa at h
  rw [Bool.and_eq_true, decide_eq_true_eq, List.all_eq_true] at h
  have hs := jq0 l
  have e := jt0 (bytesOf (showR l ++ t)) (bytesOf t) l ((showR l ++ t).size + 1) [] 0 (by omega) h.1 (by simpa using h.2) (by rw [ByteArray.size_append]; omega) (by rw [Int.toNat_zero, List.drop_zero, yP])
  rw [e, List.nil_append, show (0 : Int) + ((showR l).size : Int) = (showR l).size by omega]
theorem xt0 {c : Int} (h0 : 0 ≤ c) (h1 : c < 256) : xW.f c = some (tokC c) := by unfold xW.f; rw [if_pos ⟨h0, h1⟩]
theorem jt (s : ByteArray) (hs : s.size ≤ 8388608) : ∀ (d : Nat) (i : Int), 0 ≤ i → (s.size : Int) - i = d →
    Ev (fun k => zx.l0 k s i) (((bytesOf s).drop i.toNat).all tokC && !(bytesOf s).isEmpty)
  | 0, i, h0, hd => by
    refine yQ fun k => ?_
    simp only [zx.l0]
    rw [if_neg (by omega), vA (by omega)]
    have hl := zw s
    cases hb : bytesOf s with
    | nil => rw [hb] at hl; simp at hl; simp [← hl]
    | cons a r => rw [hb] at hl; simp at hl; simp; omega
  | d + 1, i, h0, hd => by
    have hb := vB s i
    have hlt : i < (s.size : Int) := by omega
    have e := xt0 hb.1 hb.2
    rw [qM h0 hlt, List.all_cons]
    cases ht : tokC (bt s i) with
    | true =>
      refine yk (f := fun k => zx.l0 k s (i + 1)) (fun k => ?_) (ev_eq (jt s hs d (i + 1) (by omega) (by omega)) (by rw [Bool.true_and]))
      simp only [zx.l0]
      rw [if_pos hlt, if_pos h0, e, ht, Option.bind_some, if_pos rfl, yg (by omega) (by omega)]
    | false =>
      refine yQ fun k => ?_
      simp only [zx.l0]
      rw [if_pos hlt, if_pos h0, e, ht, Option.bind_some, if_neg (by decide)]
      rfl
theorem ju (s : ByteArray) (hs : s.size ≤ 8388608) : Ev (fun k => zx.f k s) (tokB (bytesOf s)) := by
  have h := jt s hs s.size 0 (by omega) (by omega)
  simpa [zx.f, tokB] using h
theorem zT0 (s : ByteArray) (hs : s.size ≤ 8388608) : ∀ (d : Nat) (i : Int), 0 ≤ i → (s.size : Int) - i = d →
    Ev (fun k => yA.l0 k s i) (((bytesOf s).drop i.toNat).all (fun c => decide (33 ≤ c ∧ c ≤ 126)) && (decide (1 ≤ (s.size : Int) ∧ (s.size : Int) ≤ 20) && (rd (bytesOf s) 0 == 47)))
  | 0, i, h0, hd => by
    refine yQ fun k => ?_
    simp only [yA.l0]
    rw [if_neg (by omega), vA (by omega), qF]
    simp only [Option.bind_some]
    by_cases h : 1 ≤ (s.size : Int) ∧ (s.size : Int) ≤ 20
    · rw [if_pos (by simpa using h), if_pos (by omega), bt_eq]
      simp [h]
    · rw [if_neg (by simpa using h)]
      simp [h]
  | d + 1, i, h0, hd => by
    have hb := vB s i
    have hlt : i < (s.size : Int) := by omega
    by_cases c1 : bt s i ≤ 32
    · refine yQ fun k => ?_
      simp only [yA.l0]
      rw [if_pos hlt, if_pos h0, if_pos c1, qM h0 hlt, List.all_cons, decide_eq_false (p := 33 ≤ bt s i ∧ bt s i ≤ 126) (by omega)]
      rfl
    · by_cases c2 : bt s i ≥ 127
      · refine yQ fun k => ?_
        simp only [yA.l0]
        rw [if_pos hlt, if_pos h0, if_neg c1, if_pos c2, qM h0 hlt, List.all_cons, decide_eq_false (p := 33 ≤ bt s i ∧ bt s i ≤ 126) (by omega)]
        rfl
      · refine yk (f := fun k => yA.l0 k s (i + 1)) (fun k => ?_) (ev_eq (zT0 s hs d (i + 1) (by omega) (by omega)) ?_)
        · simp only [yA.l0]
          rw [if_pos hlt, if_pos h0, if_neg c1, if_neg c2, yg (by omega) (by omega)]
        · rw [qM h0 hlt, List.all_cons, decide_eq_true (p := 33 ≤ bt s i ∧ bt s i ≤ 126) (by omega), Bool.true_and]
theorem qL0 (s : ByteArray) (hs : s.size ≤ 8388608) : Ev (fun k => yA.f k s) (uriB (bytesOf s)) := by
  have h := zT0 s hs s.size 0 (by omega) (by omega)
  simpa [yA.f, uriB, zw] using h
theorem qz (l : List S55) (nm : ByteArray) (hl : l.length ≤ 1048576) (V : List ByteArray) (hV : (V.map fun v => v.size + 2).sum ≤ 8388608) : ∀ (d : Nat) (acc : List ByteArray) (i : Int), 0 ≤ i → (l.length : Int) - i = d → acc ++ getL nm ((l.drop i.toNat).map fun x => (x.f0, x.f1)) = V →
    Ev (fun k => zH.l0 k l nm (joinB ⟨#[44, 32]⟩ acc) (!acc.isEmpty) i) (joinB ⟨#[44, 32]⟩ V, !V.isEmpty)
  | 0, acc, i, h0, hd, ha => by
    refine yQ fun k => ?_
    simp only [zH.l0]
    rw [jQ (by omega)] at ha
    simp only [List.map_nil, getL, List.append_nil] at ha
    rw [if_neg (by omega), ha]
  | d + 1, acc, i, h0, hd, ha => by
    have hlt : i < (l.length : Int) := by omega
    have hdrop : l.drop i.toNat = zV l i :: l.drop (i + 1).toNat := qL (d := z55) h0 hlt
    rw [hdrop] at ha
    simp only [List.map_cons, getL] at ha
    by_cases h : (zV l i).f0 = nm
    · rw [if_pos h] at ha
      have hs := yy0 ⟨#[44, 32]⟩ acc
      have hb : (acc.map fun v => v.size + 2).sum + ((zV l i).f1.size + 2) ≤ 8388608 := by
        rw [← ha] at hV
        simp only [List.map_append, List.sum_append, List.map_cons, List.sum_cons] at hV
        omega
      have hs2 : (joinB ⟨#[44, 32]⟩ acc).size ≤ (acc.map fun v => v.size + 2).sum := hs
      cases acc with
      | nil =>
        refine yk (f := fun k => zH.l0 k l nm (joinB ⟨#[44, 32]⟩ [(zV l i).f1]) true (i + 1)) (fun k => ?_) (qz l nm hl V hV d [(zV l i).f1] (i + 1) (by omega) (by omega) ha)
        simp only [zH.l0]
        have e0 : (joinB ⟨#[44, 32]⟩ [] ++ (zV l i).f1) = (zV l i).f1 := ByteArray.empty_append
        have e1 : (joinB ⟨#[44, 32]⟩ []).size = 0 := rfl
        rw [if_pos hlt, if_pos h0, if_pos (by rw [h]), if_neg (by decide), if_pos (by omega), yg (by omega) (by omega), e0]
        rfl
      | cons a acc =>
        refine yk (f := fun k => zH.l0 k l nm (joinB ⟨#[44, 32]⟩ ((a :: acc) ++ [(zV l i).f1])) true (i + 1)) (fun k => ?_) (qz l nm hl V hV d ((a :: acc) ++ [(zV l i).f1]) (i + 1) (by omega) (by omega) (by rw [← ha]; simp))
        simp only [zH.l0]
        rw [if_pos hlt, if_pos h0, if_pos (by rw [h]), if_pos (show (!(a :: acc).isEmpty) = true from rfl), if_pos (by omega), if_pos (by rw [ByteArray.size_append]; have : (⟨#[44, 32]⟩ : ByteArray).size = 2 := rfl; omega), yg (by omega) (by omega), zf1 _ _ _ (by simp)]
    · rw [if_neg h] at ha
      refine yk (f := fun k => zH.l0 k l nm (joinB ⟨#[44, 32]⟩ acc) (!acc.isEmpty) (i + 1)) (fun k => ?_) (qz l nm hl V hV d acc (i + 1) (by omega) (by omega) ha)
      simp only [zH.l0]
      rw [if_pos hlt, if_pos h0, if_neg (by rw [xF]; exact h), yg (by omega) (by omega)]
theorem vL (l : List S55) (nm : ByteArray) (hl : l.length ≤ 1048576) (hV : ((getL nm (l.map fun x => (x.f0, x.f1))).map fun v => v.size + 2).sum ≤ 8388608) : Ev (fun k => zH.f k l nm) (joinB ⟨#[44, 32]⟩ (getL nm (l.map fun x => (x.f0, x.f1))), !(getL nm (l.map fun x => (x.f0, x.f1))).isEmpty) := by
  have h := qz l nm hl _ hV l.length [] 0 (by omega) (by omega) (by simp)
  simpa [zH.f, joinB] using h
theorem qH (c : Int) : xK.f c = some (blkC c) := by
  unfold xK.f blkC
  by_cases h : c = 32
  · rw [if_pos h, decide_eq_true h, Bool.true_or]
  · rw [if_neg h, decide_eq_false h, Bool.false_or]
    congr 1
theorem vU : ∀ (d : Nat) (s : ByteArray), s.size = d → d ≤ 8388608 → Ev (fun k => zT.l1 k s) (strOfNums ((bytesOf s).reverse.dropWhile blkC).reverse)
  | 0, s, h, _ => by
    refine yQ fun k => ?_
    simp only [zT.l1]
    rw [if_neg (by omega), jF h]
    congr 1
    rw [← yy s, jF h]
    rfl
  | d + 1, s, h, hd => by
    have hb := jN0 h
    have hw : wrap64 ((s.size : Int) - 1) = (d : Int) := by rw [yg (by omega) (by omega)]; omega
    have er : (bytesOf s).reverse = bt s (d : Int) :: ((bytesOf s).take d).reverse := by
      conv => lhs; rw [hb]
      rw [List.reverse_append, List.reverse_singleton, List.singleton_append]
    by_cases hk : blkC (bt s (d : Int)) = true
    · have hx : bytesOf (s.extract 0 d) = (bytesOf s).take d := by rw [xH, List.drop_zero]
      have ih := vU d (s.extract 0 d) (by rw [ByteArray.size_extract]; omega) (by omega)
      rw [hx] at ih
      refine yk (f := fun k => zT.l1 k (s.extract 0 d)) (fun k => ?_) (ev_eq ih (by rw [er, List.dropWhile_cons_of_pos hk]))
      simp only [zT.l1, hw]
      rw [if_pos (by omega), if_pos (by omega), if_pos (by omega), qH, hk, Option.bind_some, if_pos rfl, if_pos (by omega), Int.toNat_natCast]
    · refine yQ fun k => ?_
      simp only [zT.l1, hw]
      have hk' : blkC (bt s (d : Int)) = false := by simpa using hk
      rw [if_pos (by omega), if_pos (by omega), if_pos (by omega), qH, hk', Option.bind_some, if_neg (by decide), er, List.dropWhile_cons_of_neg hk, ← er, List.reverse_reverse, yy]
theorem yH0 : ∀ (d : Nat) (s : ByteArray), s.size = d → d ≤ 8388608 → Ev (fun k => zT.l0 k s) (strOfNums (((bytesOf s).dropWhile blkC).reverse.dropWhile blkC).reverse)
  | 0, s, h, hd => by
    refine yk (f := fun k => zT.j1 k s) (fun k => ?_) (yk (f := fun k => zT.l1 k s) (fun k => by simp only [zT.j1]) (ev_eq (vU 0 s h hd) (by rw [jF h]; rfl)))
    simp only [zT.l0]
    rw [if_neg (by omega)]
  | d + 1, s, h, hd => by
    have er : bytesOf s = bt s 0 :: (bytesOf s).drop 1 := qM (s := s) (i := 0) (by omega) (by omega)
    by_cases hk : blkC (bt s 0) = true
    · have hx : bytesOf (s.extract 1 s.size) = (bytesOf s).drop 1 := by rw [xH, List.take_of_length_le (by rw [zw]; omega)]
      have ih := yH0 d (s.extract 1 s.size) (by rw [ByteArray.size_extract]; omega) (by omega)
      rw [hx] at ih
      refine yk (f := fun k => zT.l0 k (s.extract 1 s.size)) (fun k => ?_) (ev_eq ih (by conv => rhs; rw [er, List.dropWhile_cons_of_pos hk]))
      simp only [zT.l0]
      rw [if_pos (by omega), if_pos (by omega), qH, hk, Option.bind_some, if_pos rfl, if_pos (by omega)]
    · have hk' : blkC (bt s 0) = false := by simpa using hk
      refine yk (f := fun k => zT.j1 k s) (fun k => ?_) (yk (f := fun k => zT.l1 k s) (fun k => by simp only [zT.j1]) (ev_eq (vU (d + 1) s h hd) (by conv => rhs; rw [er, List.dropWhile_cons_of_neg hk, ← er])))
      simp only [zT.l0]
      rw [if_pos (by omega), if_pos (by omega), qH, hk', Option.bind_some, if_neg (by decide)]
theorem jp0 (s : ByteArray) (hs : s.size ≤ 8388608) : Ev (fun k => zT.f k s) (trimB s) := by
  have h := yH0 s.size s rfl hs
  rw [← qY] at h
  exact h
theorem js (s : ByteArray) (hs : s.size ≤ 8388608) : ∀ (d : Nat) (i : Int), 0 ≤ i → (s.size : Int) - i = d →
    Ev (fun k => zD.l0 k s i) (((bytesOf s).drop i.toNat).all valC && decide (trimB s = s))
  | 0, i, h0, hd => by
    refine yk (f := fun k => (zT.f k s).bind fun t103 => some (t103.toList == s.toList)) (fun k => ?_) (zj (jp0 s hs) (xa fun k => ?_))
    · simp only [zD.l0]
      rw [if_neg (by omega)]
    · rw [vA (by omega), qh0]
      rfl
  | d + 1, i, h0, hd => by
    have hlt : i < (s.size : Int) := by omega
    have ih := js s hs d (i + 1) (by omega) (by omega)
    rw [qM h0 hlt, List.all_cons]
    by_cases h9 : bt s i = 9
    · refine yk (f := fun k => zD.l0 k s (i + 1)) (fun k => ?_) (ev_eq ih (by rw [valC, h9]; rfl))
      simp only [zD.l0]
      rw [if_pos hlt, if_pos h0, if_pos h9, yg (by omega) (by omega)]
    · by_cases h32 : bt s i < 32
      · refine yQ fun k => ?_
        simp only [zD.l0]
        rw [if_pos hlt, if_pos h0, if_neg h9, if_pos h32, valC, decide_eq_false h9, decide_eq_false (by omega : ¬ 32 ≤ bt s i)]
        rfl
      · by_cases h7 : bt s i = 127
        · refine yQ fun k => ?_
          simp only [zD.l0]
          rw [if_pos hlt, if_pos h0, if_neg h9, if_neg h32, if_pos h7, valC, h7]
          rfl
        · refine yk (f := fun k => zD.l0 k s (i + 1)) (fun k => ?_) (ev_eq ih (by rw [valC, decide_eq_true (by omega : 32 ≤ bt s i), decide_eq_true h7]; simp))
          simp only [zD.l0]
          rw [if_pos hlt, if_pos h0, if_neg h9, if_neg h32, if_neg h7, yg (by omega) (by omega)]
theorem zw0 (s : ByteArray) (hs : s.size ≤ 8388608) : Ev (fun k => zD.f k s) (valB s) :=
  js s hs s.size 0 (by omega) (by omega)
theorem qM0 (s : ByteArray) (hs : s.size ≤ 8388608) : qe.f s = some (strOfNums ((bytesOf s).map lowC)) := by unfold qe.f; rw [if_pos hs]
theorem yp0 (nm v : ByteArray) (hn : nm.size ≤ 8388608) (hv : v.size ≤ 8388608) : Ev (fun k => zZ.f k nm v) (xQ (nm, v)) := by
  refine Ev.congr (fun k => by unfold zZ.f; rfl) ?_
  refine zj (ju nm hn) ?_
  by_cases a : tokB (bytesOf nm) = true
  · refine zf a (zj (xa fun _ => qM0 nm hn) ?_)
    by_cases b : lowB nm = nm
    · refine zf (by rw [xF]; exact b.symm) ?_
      by_cases c : nm.size ≤ 24
      · refine zf (by omega) (zj (zw0 v hv) ?_)
        by_cases d : valB v = true
        · refine zf d (xa fun _ => ?_)
          congr 1
          have e : decide ((v.size : Int) ≤ 60) = decide (v.size ≤ 60) := by rw [decide_eq_decide]; omega
          rw [e]
          simp [xQ, a, b, c, d]
        · exact zi d (ev_eq (zO _) (by simp [xQ, d]))
      · exact zi (by omega) (ev_eq (zO _) (by simp [xQ, c]))
    · exact zi (by rw [xF]; exact fun h => b h.symm) (ev_eq (zO _) (by simp [xQ, b]))
  · exact zi a (ev_eq (zO _) (by simp [xQ, a]))
theorem vJ (l : List S55) (hl : l.length ≤ 2097152) (hm : ∀ x ∈ l, x.f0.size ≤ 8388608 ∧ x.f1.size ≤ 8388608) : ∀ (d : Nat) (i : Int), 0 ≤ i → (l.length : Int) - i = d →
    Ev (fun k => zQ.l0 k l i) (((l.drop i.toNat).map fun x => (x.f0, x.f1)).all xQ && decide (l.length ≤ 12))
  | 0, i, h0, hd => by
    refine yQ fun k => ?_
    simp only [zQ.l0]
    rw [if_neg (by omega), jQ (by omega)]
    congr 1
    have e : decide ((l.length : Int) ≤ 12) = decide (l.length ≤ 12) := by rw [decide_eq_decide]; omega
    rw [e]
    rfl
  | d + 1, i, h0, hd => by
    have hlt : i < (l.length : Int) := by omega
    have hdrop : l.drop i.toNat = zV l i :: l.drop (i + 1).toNat := qL (d := z55) h0 hlt
    have hx : zV l i ∈ l := List.mem_of_mem_drop (i := i.toNat) (by rw [hdrop]; exact List.mem_cons_self)
    have hs := hm _ hx
    rw [hdrop]
    simp only [List.map_cons, List.all_cons]
    refine yk (f := fun k => (zZ.f k (zV l i).f0 (zV l i).f1).bind fun t => if t = true then zQ.l0 k l (i + 1) else some false) (fun k => ?_) (zj (yp0 _ _ hs.1 hs.2) ?_)
    · simp only [zQ.l0]
      rw [if_pos hlt, if_pos h0, yg (by omega) (by omega)]
    · by_cases a : xQ ((zV l i).f0, (zV l i).f1) = true
      · exact zf a (ev_eq (vJ l hl hm d (i + 1) (by omega) (by omega)) (by rw [a, Bool.true_and]))
      · exact zi a (ev_eq (zO _) (by simp [a]))
theorem vK (l : List S55) (hl : l.length ≤ 2097152) (hm : ∀ x ∈ l, x.f0.size ≤ 8388608 ∧ x.f1.size ≤ 8388608) : Ev (fun k => zQ.f k l) (qa (l.map fun x => (x.f0, x.f1))) := by
  have h := vJ l hl hm l.length 0 (by omega) (by omega)
  simpa [zQ.f, qa] using h
theorem vT (l : List S55) (hl : l.length ≤ 1048576) (hm : ∀ x ∈ l, x.f0.size ≤ 8388608 ∧ x.f1.size ≤ 8388608) (hG : ∀ nm, ((getL nm (l.map fun x => (x.f0, x.f1))).map fun v => v.size + 2).sum ≤ 8388608) :
    Ev (fun k => yR.f k l) (qx (l.map fun x => (x.f0, x.f1))) := by
  have t := vL l nmTE hl (hG _)
  have c := vL l nmCL hl (hG _)
  refine Ev.congr (fun k => by unfold yR.f; rfl) (zj t (zj c ?_))
  unfold qx
  cases h1 : (getL nmTE (l.map fun x => (x.f0, x.f1))).isEmpty with
  | false => exact zf (by rfl) (ev_eq (zO _) (by simp))
  | true =>
    refine zi (by simp) ?_
    cases h2 : (getL nmCL (l.map fun x => (x.f0, x.f1))).isEmpty with
    | false => exact zf (by rfl) (ev_eq (zO _) (by simp))
    | true =>
      refine zi (by simp) ?_
      by_cases h : (l.length : Int) < 12
      · refine zf h (ev_eq (zj (vK l (by omega) hm) (zO _)) ?_)
        have e : decide ((l.map fun x => (x.f0, x.f1)).length < 12) = true := by rw [decide_eq_true_eq, List.length_map]; omega
        rw [e]; simp
      · refine zi h (ev_eq (zO _) ?_)
        have e : decide ((l.map fun x => (x.f0, x.f1)).length < 12) = false := by rw [decide_eq_false_iff_not, List.length_map]; omega
        rw [e]; simp
theorem qQ (m u : ByteArray) (l : List S55) (b : ByteArray) (sm : m.size ≤ 8388608) (su : u.size ≤ 8388608) (hl : l.length ≤ 1048576) (hm : ∀ x ∈ l, x.f0.size ≤ 8388608 ∧ x.f1.size ≤ 8388608) (hG : ∀ nm, ((getL nm (l.map fun x => (x.f0, x.f1))).map fun v => v.size + 2).sum ≤ 8388608) :
    Ev (fun k => yx.f k m u l b) (reqB m u (l.map fun x => (x.f0, x.f1)) b) := by
  refine Ev.congr (fun k => by unfold yx.f; rfl) (zj (ju m sm) ?_)
  unfold reqB
  cases h1 : tokB (bytesOf m) with
  | false => exact zi (by simp) (ev_eq (zO _) (by simp))
  | true =>
    refine zf rfl ?_
    by_cases h2 : (m.size : Int) ≤ 10
    · have e2 : decide (m.size ≤ 10) = true := by rw [decide_eq_true_eq]; omega
      rw [e2]
      refine zf h2 (zj (qL0 u su) ?_)
      cases h3 : uriB (bytesOf u) with
      | false => exact zi (by simp) (ev_eq (zO _) (by simp))
      | true =>
        refine zf rfl (zj (vT l hl hm hG) ?_)
        cases h4 : qx (l.map fun x => (x.f0, x.f1)) with
        | false => exact zi (by simp) (ev_eq (zO _) (by simp))
        | true => exact zf rfl (ev_eq (zO _) (by rw [jD0]; simp))
    · have e2 : decide (m.size ≤ 10) = false := by rw [decide_eq_false_iff_not]; omega
      rw [e2]
      exact zi h2 (ev_eq (zO _) (by simp))
theorem jI (l : List S55) (hl : l.length ≤ 2097152) (hm : ∀ x ∈ l, x.f0.size ≤ 8388608 ∧ x.f1.size ≤ 8388608) : ∀ (d : Nat) (acc : ByteArray) (i : Int), 0 ≤ i → (l.length : Int) - i = d → acc.size + d * 16777220 ≤ 100000000000000 →
    Ev (fun k => ya.l0 k l acc i) (acc ++ showR ((l.drop i.toNat).map fun x => (x.f0, x.f1)))
  | 0, acc, i, h0, hd, ha => by
    refine yQ fun k => ?_
    simp only [ya.l0]
    rw [if_neg (by omega), jQ (by omega), if_pos (by omega)]
    rfl
  | d + 1, acc, i, h0, hd, ha => by
    have hlt : i < (l.length : Int) := by omega
    have hdrop : l.drop i.toNat = zV l i :: l.drop (i + 1).toNat := qL (d := z55) h0 hlt
    have hx : zV l i ∈ l := List.mem_of_mem_drop (i := i.toNat) (by rw [hdrop]; exact List.mem_cons_self)
    have hs := hm _ hx
    rw [hdrop]
    simp only [List.map_cons, showR]
    have ih := jI l hl hm d (acc ++ ((zV l i).f0 ++ ⟨#[58, 32]⟩ ++ (zV l i).f1 ++ ⟨#[13, 10]⟩)) (i + 1) (by omega) (by omega) (by (try simp only [ByteArray.size_append, xM, xw]); omega)
    refine yk (f := fun k => ya.l0 k l (acc ++ ((zV l i).f0 ++ ⟨#[58, 32]⟩ ++ (zV l i).f1 ++ ⟨#[13, 10]⟩)) (i + 1)) (fun k => ?_) (ev_eq ih (by simp only [ByteArray.append_assoc]))
    simp only [ya.l0]
    rw [if_pos hlt, if_pos h0, if_pos (by (try simp only [ByteArray.size_append, xM, xw]); omega), if_pos (by (try simp only [ByteArray.size_append, xM, xw]); omega), if_pos (by (try simp only [ByteArray.size_append, xM, xw]); omega), if_pos (by (try simp only [ByteArray.size_append, xM, xw]); omega), yg (by omega) (by omega)]
    simp only [ByteArray.append_assoc]
theorem zU0 (l : List S55) (hl : l.length ≤ 2097152) (hm : ∀ x ∈ l, x.f0.size ≤ 8388608 ∧ x.f1.size ≤ 8388608) : Ev (fun k => ya.f k l) (showB (l.map fun x => (x.f0, x.f1))) := by
  refine Ev.congr (fun k => by unfold ya.f; rfl) (zj (vK l hl hm) ?_)
  unfold showB
  by_cases h : qa (l.map fun x => (x.f0, x.f1)) = true
  · rw [if_pos h]
    have hh := jI l hl hm l.length ⟨#[]⟩ 0 (by omega) (by omega) (by have : (⟨#[]⟩ : ByteArray).size = 0 := rfl; omega)
    refine zf h (ev_eq hh ?_)
    simp only [Int.toNat_zero, List.drop_zero]
    exact ByteArray.empty_append
  · rw [if_neg h]
    exact zi h (zO _)
theorem qR (l : List S55) (nm : ByteArray) (hl : l.length ≤ 4194304) : ∀ (d : Nat) (acc : List S55) (i : Int), 0 ≤ i → (l.length : Int) - i = d → (acc.length : Int) ≤ i →
    Ev (fun k => zM.l0 k l nm acc i) (acc ++ (dropL nm ((l.drop i.toNat).map fun x => (x.f0, x.f1))).map fun p => (⟨p.1, p.2⟩ : S55))
  | 0, acc, i, h0, hd, ha => by
    refine yQ fun k => ?_
    simp only [zM.l0]
    rw [if_neg (by omega), jQ (by omega)]
    simp [dropL]
  | d + 1, acc, i, h0, hd, ha => by
    have hlt : i < (l.length : Int) := by omega
    have hdrop : l.drop i.toNat = zV l i :: l.drop (i + 1).toNat := qL (d := z55) h0 hlt
    rw [hdrop]
    simp only [List.map_cons, dropL]
    by_cases h : (zV l i).f0 = nm
    · rw [if_pos h]
      refine yk (f := fun k => zM.l0 k l nm acc (i + 1)) (fun k => ?_) (qR l nm hl d acc (i + 1) (by omega) (by omega) (by omega))
      simp only [zM.l0]
      rw [if_pos hlt, if_pos h0, if_pos (by rw [h]), yg (by omega) (by omega)]
    · rw [if_neg h]
      refine yk (f := fun k => zM.l0 k l nm (acc ++ [zV l i]) (i + 1)) (fun k => ?_) (ev_eq (qR l nm hl d _ (i + 1) (by omega) (by omega) (by simp; omega)) (by simp))
      simp only [zM.l0]
      rw [if_pos hlt, if_pos h0, if_neg (by rw [xF]; exact h), if_pos (by omega), yg (by omega) (by omega)]
theorem jX (l : List S55) (nm : ByteArray) (hl : l.length ≤ 4194304) : Ev (fun k => zM.f k l nm) ((dropL nm (l.map fun x => (x.f0, x.f1))).map fun p => (⟨p.1, p.2⟩ : S55)) := by
  have h := qR l nm hl l.length [] 0 (by omega) (by omega) (by simp)
  simpa [zM.f] using h
def xU (l : List (ByteArray × ByteArray)) (b : ByteArray) : List (ByteArray × ByteArray) := l ++ [(nmCL, decB (b.size : Int))]
theorem qi0 : ∀ l : List (ByteArray × ByteArray), (∀ x ∈ l, x.1.size ≤ 8388608 ∧ x.2.size ≤ 8388608) → (showR l).size ≤ 2 + l.length * 16777220
  | [], _ => Nat.le_refl 2
  | p :: r, h => by
    have ih := qi0 r fun x hx => h x (List.mem_cons_of_mem _ hx)
    have hp := h p List.mem_cons_self
    rw [showR, List.length_cons]
    simp only [ByteArray.size_append, xM, xw]
    omega
theorem qj0 {l : List (ByteArray × ByteArray)} (h : ∀ x ∈ l, x.1.size ≤ 8388608 ∧ x.2.size ≤ 8388608) : (showB l).size ≤ 2 + l.length * 16777220 := by
  unfold showB
  split
  · exact qi0 l h
  · exact Nat.zero_le _
theorem ja0 : ∀ (f : Nat) (n : Int) (acc : List Int), (decL f n acc).length ≤ f + acc.length
  | 0, n, acc => by rw [decL]; omega
  | f + 1, n, acc => by
    rw [decL]
    have := ja0 f (n / 10) ((48 + n % 10) :: acc)
    rw [List.length_cons] at this
    split <;> omega
theorem vl0 (n : Int) : (decB n).size ≤ 21 := by
  unfold decB decP
  rw [strOfNums_size]
  have h1 := ja0 20 (-n) []
  have h2 := ja0 20 n []
  (repeat' split) <;> simp at h1 h2 ⊢ <;> omega
theorem zM1 {b : ByteArray} (_h : b.size ≤ 60) : (decB (b.size : Int)).size ≤ 8388608 := by
  have := vl0 (b.size : Int)
  omega
theorem yA0 (l : List S55) (b : ByteArray) (hm : ∀ x ∈ l, x.f0.size ≤ 8388608 ∧ x.f1.size ≤ 8388608) (hb : b.size ≤ 60) : ∀ x ∈ l ++ [(⟨nmCL, decB (b.size : Int)⟩ : S55)], x.f0.size ≤ 8388608 ∧ x.f1.size ≤ 8388608 := by
  intro x hx
  rcases List.mem_append.1 hx with hx | hx
  · exact hm x hx
  · rw [List.mem_singleton.1 hx]
    exact ⟨show nmCL.size ≤ 8388608 by decide, zM1 hb⟩
theorem zC0 (l : List S55) (b : ByteArray) (hl : l.length ≤ 1048576) (hm : ∀ x ∈ l, x.f0.size ≤ 8388608 ∧ x.f1.size ≤ 8388608) (hb : b.size ≤ 60) : (showB (xU (l.map fun x => (x.f0, x.f1)) b)).size ≤ 100000000000000 := by
  have h : ∀ x ∈ xU (l.map fun x => (x.f0, x.f1)) b, x.1.size ≤ 8388608 ∧ x.2.size ≤ 8388608 := by
    intro x hx
    rcases List.mem_append.1 hx with hx | hx
    · obtain ⟨y, hy, rfl⟩ := List.mem_map.1 hx
      exact hm y hy
    · rw [List.mem_singleton.1 hx]
      exact ⟨show nmCL.size ≤ 8388608 by decide, zM1 hb⟩
  have := qj0 h
  unfold xU at this ⊢
  rw [List.length_append, List.length_map, List.length_singleton] at this
  omega
theorem za1 (l : List S55) (hl : l.length ≤ 1048576) (hm : ∀ x ∈ l, x.f0.size ≤ 8388608 ∧ x.f1.size ≤ 8388608) : (showB (l.map fun x => (x.f0, x.f1))).size ≤ 100000000000000 := by
  have h : ∀ x ∈ (l.map fun x => (x.f0, x.f1)), x.1.size ≤ 8388608 ∧ x.2.size ≤ 8388608 := by
    intro x hx
    obtain ⟨y, hy, rfl⟩ := List.mem_map.1 hx
    exact hm y hy
  have := qj0 h
  rw [List.length_map] at this
  omega
theorem xk0 (l : List S55) : (l.map fun x => (x.f0, x.f1)).map (fun p => (⟨p.1, p.2⟩ : S55)) = l := by
  rw [List.map_map]; exact List.map_id l
theorem yB0 (l : List S55) (b : ByteArray) : (l ++ [(⟨nmCL, decB (b.size : Int)⟩ : S55)]).map (fun x => (x.f0, x.f1)) = xU (l.map fun x => (x.f0, x.f1)) b := by
  rw [List.map_append]; rfl
theorem yX0 (l : List S55) (b : ByteArray) (hl : l.length ≤ 1048576) (hb : b.size ≤ 60) (hp : qx (l.map fun x => (x.f0, x.f1)) = true) : Ev (fun k => xB.f k l b) (l ++ [(⟨nmCL, decB (b.size : Int)⟩ : S55)]) := by
  unfold qx at hp
  simp only [Bool.and_eq_true, List.isEmpty_iff] at hp
  have h1 := jX l nmTE (by omega)
  rw [vq nmTE hp.1.2, xk0] at h1
  have h2 := jX l nmCL (by omega)
  rw [vq nmCL hp.2, xk0] at h2
  exact Ev.congr (fun k => by unfold xB.f; rfl) (zj h1 (zj h2 (zj (xu0 (b.size : Int) (by omega) (by omega)) (zf (show l.length < 4398046511104 by omega) (zO _)))))
def reqT (m u : ByteArray) (l : List (ByteArray × ByteArray)) (b : ByteArray) : ByteArray := if reqB m u l b = true then m ++ ⟨#[32]⟩ ++ u ++ ⟨#[32, 72, 84, 84, 80, 47, 49, 46, 49, 13, 10]⟩ ++ showB (xU l b) ++ b else ⟨#[]⟩
theorem yb0 {m u : ByteArray} {l : List (ByteArray × ByteArray)} {b : ByteArray} (h : reqB m u l b = true) : qx l = true ∧ b.size ≤ 60 := by
  unfold reqB at h
  simp only [Bool.and_eq_true, decide_eq_true_eq] at h
  exact ⟨h.1.2, h.2⟩
theorem jZ (a : UInt8) : (⟨#[a]⟩ : ByteArray).size = 1 := rfl
theorem zX0 : (⟨#[32, 72, 84, 84, 80, 47, 49, 46, 49, 13, 10]⟩ : ByteArray).size = 11 := rfl
theorem zv0 (m u : ByteArray) (l : List S55) (b : ByteArray) (sm : m.size ≤ 8388608) (su : u.size ≤ 8388608) (hl : l.length ≤ 1048576) (hm : ∀ x ∈ l, x.f0.size ≤ 8388608 ∧ x.f1.size ≤ 8388608) (hG : ∀ nm, ((getL nm (l.map fun x => (x.f0, x.f1))).map fun v => v.size + 2).sum ≤ 8388608) :
    Ev (fun k => yb.f k m u l b) (reqT m u (l.map fun x => (x.f0, x.f1)) b) := by
  refine Ev.congr (fun k => by unfold yb.f; rfl) (zj (qQ m u l b sm su hl hm hG) ?_)
  unfold reqT
  by_cases h : reqB m u (l.map fun x => (x.f0, x.f1)) b = true
  · obtain ⟨hp, hb⟩ := yb0 h
    have sh := zU0 (l ++ [(⟨nmCL, decB (b.size : Int)⟩ : S55)]) (by rw [List.length_append, List.length_singleton]; omega) (yA0 l b hm hb)
    rw [yB0] at sh
    have hz := zC0 l b hl hm hb
    rw [if_pos h]
    exact zf h (zf (by omega) (zf (by simp only [ByteArray.size_append, jZ]; omega) (zf (by simp only [ByteArray.size_append, jZ]; omega) (zj (yX0 l b hl hb hp) (zj sh (zf (by simp only [ByteArray.size_append, jZ, zX0]; omega) (zf (by simp only [ByteArray.size_append, jZ, zX0]; omega) (zO _))))))))
  · rw [if_neg h]
    exact zi h (zO _)
def vx (a : Int) : ByteArray := (xI.f a).getD ⟨#[]⟩
theorem vX0 {c : Prop} [Decidable c] {x y : Option ByteArray} (hx : ∃ r, x = some r ∧ r.size ≤ 64) (hy : ∃ r, y = some r ∧ r.size ≤ 64) : ∃ r, (if c then x else y) = some r ∧ r.size ≤ 64 := by
  by_cases h : c
  · rw [if_pos h]; exact hx
  · rw [if_neg h]; exact hy
theorem xa0 (a : Int) : ∃ r, xI.f a = some r ∧ r.size ≤ 64 := by
  unfold xI.f
  repeat' first
  | exact ⟨_, rfl, by decide⟩
  | refine vX0 ?_ ?_
theorem jV (a : Int) : xI.f a = some (vx a) ∧ (vx a).size ≤ 64 := by
  obtain ⟨r, h, hs⟩ := xa0 a
  unfold vx
  rw [h]
  exact ⟨rfl, hs⟩
def respT (a : Int) (l : List (ByteArray × ByteArray)) (b : ByteArray) : ByteArray := if respB a l b = true then ⟨#[72, 84, 84, 80, 47, 49, 46, 49, 32]⟩ ++ decB a ++ ⟨#[32]⟩ ++ vx a ++ ⟨#[13, 10]⟩ ++ showB (if a = 204 ∨ a = 304 then l else xU l b) ++ b else ⟨#[]⟩
theorem yr0 {a : Int} {l : List (ByteArray × ByteArray)} {b : ByteArray} (h : respB a l b = true) : qx l = true ∧ b.size ≤ 60 ∧ 200 ≤ a ∧ a ≤ 599 := by
  unfold respB at h
  simp only [Bool.and_eq_true, decide_eq_true_eq] at h
  exact ⟨h.1.1.2, h.1.2, h.1.1.1⟩
theorem jv (a : UInt8) : (⟨#[a]⟩ : ByteArray).size = 1 := rfl
theorem jd : (⟨#[72, 84, 84, 80, 47, 49, 46, 49, 32]⟩ : ByteArray).size = 9 := rfl
theorem zQ0 (s : ByteArray) (n : Int) (hs : s.size ≤ 18) (h : Lib.atoi s.data.toList = some n) : xh.f s = some (n, none) := by
  unfold xh.f
  rw [if_pos (by omega), Lib.atoiAll_short _ (by rw [← Lib.size_eq]; exact hs), h]
  rfl
theorem vR0 (ds : List Int) (hd : ds.all digC = true) (hne : ds ≠ []) : Lib.atoi (strOfNums ds).data.toList = some (valL 0 ds) := by
  have hr : bytesOf (strOfNums ds) = ds := yC fun c hc => by
    have := qN.1 (List.all_eq_true.1 hd c hc)
    omega
  have hm : ((strOfNums ds).data.toList.map fun b : UInt8 => (b.toNat : Int)) = ds := hr
  obtain ⟨m, h1, h2⟩ := zD0 (strOfNums ds).data.toList 0 (by rw [hm]; exact hd)
  rw [hm] at h2
  cases hl : (strOfNums ds).data.toList with
  | nil => rw [hl] at hm; exact absurd hm.symm hne
  | cons b r =>
    rw [hl] at hm h1
    have hb : digC (b.toNat : Int) = true := by
      rw [← hm] at hd
      rw [List.map_cons, List.all_cons, Bool.and_eq_true] at hd
      exact hd.1
    rw [qN] at hb
    have n45 : (b == 45) = false := beq_eq_false_iff_ne.mpr fun e => by subst e; simp at hb
    have n43 : (b == 43) = false := beq_eq_false_iff_ne.mpr fun e => by subst e; simp at hb
    rw [Lib.atoi, if_neg (by rw [n45]; decide), if_neg (by rw [n43]; decide), Lib.decNat, if_neg (by simp), h1, Option.map_some, h2]
    rfl
theorem yV0 (ds : List Int) (hd : ds.all digC = true) (hne : ds ≠ []) (hl : ds.length ≤ 18) : xh.f (strOfNums ds) = some (valL 0 ds, none) :=
  zQ0 _ _ (by rw [strOfNums_size]; exact hl) (vR0 ds hd hne)
theorem yW0 (ds : List Int) (hd : ds.all digC = true) (hl : ds.length ≤ 10) : xh.f ((⟨#[48]⟩ : ByteArray) ++ strOfNums ds) = some (valL 0 ds, none) := by
  have e : (⟨#[48]⟩ : ByteArray) ++ strOfNums ds = strOfNums (48 :: ds) := by
    rw [show (48 :: ds : List Int) = [48] ++ ds from rfl, xp]
    rfl
  rw [e, yV0 (48 :: ds) (by rw [List.all_cons, hd]; rfl) (by simp) (by simp; omega)]
  rfl
theorem jn0 : ∀ (f : Nat) (n : Int) (acc : List Int), 0 ≤ n → n < 10 ^ f → valL 0 (decL f n acc) = valL n acc
  | 0, n, acc, h0, h => by
    have : n = 0 := by simp at h; omega
    subst this; rfl
  | f + 1, n, acc, h0, h => by
    rw [decL]
    split
    · rw [jn0 f (n / 10) _ (by omega) (by rw [Int.pow_succ] at h; omega), valL]
      congr 1
      omega
    · have : n = 0 := by omega
      subst this; rfl
theorem vM0 : ∀ (f : Nat) (n : Int) (acc : List Int), 0 ≤ n → acc.all digC = true → (decL f n acc).all digC = true
  | 0, n, acc, h0, h => h
  | f + 1, n, acc, h0, h => by
    rw [decL]
    split
    · refine vM0 f (n / 10) _ (by omega) ?_
      rw [List.all_cons, h, Bool.and_true, qN]
      omega
    · exact h
theorem zK1 : ∀ (f : Nat) (n : Int) (acc : List Int), acc ≠ [] → decL f n acc ≠ []
  | 0, n, acc, h => h
  | f + 1, n, acc, h => by
    rw [decL]
    split
    · exact zK1 f (n / 10) _ (by simp)
    · exact h
theorem zj0 {n : Int} (h0 : 0 < n) (h1 : n ≤ 999999999) : (decL 20 n []).all digC = true ∧ decL 20 n [] ≠ [] ∧ valL 0 (decL 20 n []) = n ∧ (decL 20 n []).length ≤ 9 := by
  have hp : (10 : Int) ^ 9 = 1000000000 := by decide
  have hp2 : (10 : Int) ^ 20 = 100000000000000000000 := by decide
  refine ⟨vM0 20 n [] (by omega) rfl, ?_, ?_, ?_⟩
  · rw [show (20 : Nat) = 19 + 1 from rfl, decL, if_pos (by omega)]
    exact zK1 19 _ _ (by simp)
  · rw [jn0 20 n [] (by omega) (by omega)]; rfl
  · rw [show (20 : Nat) = 9 + 11 from rfl, jF0 11 9 n [] (by omega)]
    have := xQ0 9 n []
    simpa using this
theorem xU0 {n : Int} (h0 : -999999999 ≤ n) (h1 : n ≤ 999999999) : Lib.atoi (decB n).data.toList = some n := by
  unfold decB decP
  by_cases hz : n = 0
  · subst hz; rfl
  · rw [if_neg hz]
    by_cases hn : n < 0
    · rw [if_pos hn]
      obtain ⟨a1, a2, a3, a4⟩ := zj0 (n := -n) (by omega) (by omega)
      generalize decL 20 (-n) [] = ds at a1 a2 a3 a4
      have hr : bytesOf (strOfNums ds) = ds := yC fun c hc => by
        have := qN.1 (List.all_eq_true.1 a1 c hc)
        omega
      have hm : ((strOfNums ds).data.toList.map fun b : UInt8 => (b.toNat : Int)) = ds := hr
      obtain ⟨m, h1, h2⟩ := zD0 (strOfNums ds).data.toList 0 (by rw [hm]; exact a1)
      rw [hm] at h2
      have e1 : (strOfNums (45 :: ds)).data.toList = 45 :: (strOfNums ds).data.toList := by
        rw [show (45 :: ds : List Int) = [45] ++ ds from rfl, xp, ByteArray.data_append, Array.toList_append]
        rfl
      have hne : (strOfNums ds).data.toList.isEmpty = false := by
        cases hl : (strOfNums ds).data.toList with
        | nil => rw [hl] at hm; exact absurd hm.symm a2
        | cons b r => rfl
      rw [e1, Lib.atoi, if_pos (by decide), Lib.decNat, if_neg (by rw [hne]; decide), h1, Option.map_some, h2]
      congr 1
      have : ((0 : Nat) : Int) = 0 := rfl
      rw [this, a3]
      omega
    · rw [if_neg hn]
      obtain ⟨a1, a2, a3, a4⟩ := zj0 (n := n) (by omega) (by omega)
      rw [vR0 _ a1 a2, a3]
theorem zL1 {n : Int} (h0 : -999999999 ≤ n) (h1 : n ≤ 999999999) : (decB n).size ≤ 10 := by
  unfold decB decP
  rw [strOfNums_size]
  by_cases hz : n = 0
  · rw [if_pos hz]; simp
  · rw [if_neg hz]
    by_cases hn : n < 0
    · rw [if_pos hn]
      have := (zj0 (n := -n) (by omega) (by omega)).2.2.2
      simp; omega
    · rw [if_neg hn]
      have := (zj0 (n := n) (by omega) (by omega)).2.2.2
      omega
theorem decB_inj {n m : Int} (h0 : -999999999 ≤ n) (h1 : n ≤ 999999999) (h2 : -999999999 ≤ m) (h3 : m ≤ 999999999) (h : decB n = decB m) : n = m := by
  have a := xU0 h0 h1
  rw [h, xU0 h2 h3] at a
  exact (Option.some.inj a).symm
open Classical in
noncomputable def decOf (s : ByteArray) : Option Int := if h : ∃ n, -999999999 ≤ n ∧ n ≤ 999999999 ∧ decB n = s then some h.choose else none
theorem qE0 {s : ByteArray} {n : Int} (h0 : -999999999 ≤ n) (h1 : n ≤ 999999999) (h : decB n = s) : decOf s = some n := by
  have hx : ∃ n, -999999999 ≤ n ∧ n ≤ 999999999 ∧ decB n = s := ⟨n, h0, h1, h⟩
  unfold decOf
  rw [dif_pos hx]
  obtain ⟨a, b, c⟩ := hx.choose_spec
  exact congrArg some (decB_inj a b h0 h1 (c.trans h.symm))
theorem zg1 {s : ByteArray} {n : Int} (h : decOf s = some n) : -999999999 ≤ n ∧ n ≤ 999999999 ∧ decB n = s := by
  unfold decOf at h
  split at h
  · rename_i hx
    obtain rfl := Option.some.inj h
    exact hx.choose_spec
  · cases h
noncomputable def yc0 (s : ByteArray) : Int × Bool := match decOf s with
  | some n => (n, true)
  | none => (0, false)
theorem zA0 (n : Int) (h0 : -9223372036854775808 ≤ n) (h1 : n ≤ 9223372036854775807) : qb.f n = some (decB n) := by
  unfold qb.f qi.f
  rw [if_pos ⟨h0, h1⟩, Option.bind_some]
theorem zi0 (a b c : Int) : qf.f a b c = some (decide (b ≤ a ∧ a ≤ c)) := by
  unfold qf.f
  by_cases h : a ≥ b
  · rw [if_pos h]; simp [show b ≤ a from h]
  · rw [if_neg h]; simp [show ¬ b ≤ a from h]
theorem xJ0 (s : ByteArray) (hs : s.size ≤ 8388608) : qr.f s = some (yc0 s) := by
  unfold yc0
  have hno : (∀ v, Lib.atoiAll s.data.toList = .ok v → ¬ (decB v = s ∧ -999999999 ≤ v ∧ v ≤ 999999999)) → decOf s = none := by
    intro h
    cases hd : decOf s with
    | none => rfl
    | some n =>
      obtain ⟨a, b, c⟩ := zg1 hd
      have h2 := xU0 a b
      rw [c] at h2
      have h3 : Lib.atoiAll s.data.toList = .ok n := by
        rw [Lib.atoiAll_short _ (by rw [← Lib.size_eq, ← c]; exact Nat.le_trans (zL1 a b) (by decide)), h2]
        rfl
      exact absurd ⟨c, a, b⟩ (h n h3)
  unfold qr.f xh.f
  rw [if_pos hs]
  cases hc : Lib.atoiAll s.data.toList with
  | ok v =>
    have hb := Lib.atoiAll_bounds hc
    simp only [Option.bind_some, Option.isNone_none, if_true]
    rw [zA0 v hb.1 hb.2, Option.bind_some, zi0, Option.bind_some]
    by_cases h1 : decB v = s
    · rw [if_pos (by rw [h1])]
      by_cases h2 : -999999999 ≤ v ∧ v ≤ 999999999
      · rw [if_pos (by simpa using h2), qE0 h2.1 h2.2 h1]
      · rw [if_neg (by simpa using h2), hno (fun w hw hh => h2 (by rw [hc] at hw; injection hw with hw; subst hw; exact hh.2))]
    · rw [if_neg (by rw [xF]; exact h1), hno (fun w hw hh => h1 (by rw [hc] at hw; injection hw with hw; subst hw; exact hh.1))]
  | range =>
    rw [hno (fun w hw => by rw [hc] at hw; cases hw)]
    rfl
  | _ =>
    rw [hno (fun w hw => by rw [hc] at hw; cases hw)]
    rfl
def cr4 : List Int := [13, 10, 13, 10]
theorem qV0 (T : List Int) : ∀ A : List Int, 0 ≤ idxS (A ++ 13 :: 10 :: 13 :: 10 :: T) cr4
  | [] => by
    rw [List.nil_append, idxS, if_pos (by simp [cr4, List.isPrefixOf])]
    omega
  | a :: A => by
    have h := qV0 T A
    rw [List.cons_append, idxS]
    split
    · omega
    · rw [if_neg (by omega)]; omega
theorem qR0 {a : Int} {l : List Int} (h : cr4.isPrefixOf (a :: l) = false) (h2 : idxS l cr4 = -1) : idxS (a :: l) cr4 = -1 := by
  rw [idxS, h, if_neg (by decide), if_pos h2]
theorem zu1 {P : List Int} (hP : idxS P cr4 = -1) : ∀ X : List Int, (∀ c ∈ X, c ≠ 13) → idxS (X ++ P) cr4 = -1
  | [], _ => hP
  | a :: X, h => by
    have ha := h a List.mem_cons_self
    refine qR0 ?_ (zu1 hP X fun c hc => h c (List.mem_cons_of_mem _ hc))
    simp [cr4, List.isPrefixOf, Ne.symm ha]
theorem no4_line {P : List Int} (h : ([13, 10] : List Int).isPrefixOf P = false) (hP : idxS P cr4 = -1) : idxS (13 :: 10 :: P) cr4 = -1 := by
  refine qR0 ?_ (qR0 (by simp [cr4, List.isPrefixOf]) hP)
  cases P with
  | nil => rfl
  | cons a P => cases P with
    | nil => simp [cr4, List.isPrefixOf]
    | cons b P =>
      simp [List.isPrefixOf] at h
      simp [cr4, List.isPrefixOf]
      intro h1 h2
      exact absurd h2 (h h1)
theorem qQ0 (X R : List Int) (hX : ∀ c ∈ X, c ≠ 13) (j : Nat) (h : X.length + 2 ≤ j → idxS (R.take (j - X.length - 2)) cr4 = -1 ∧ ([13, 10] : List Int).isPrefixOf (R.take (j - X.length - 2)) = false) : idxS ((X ++ 13 :: 10 :: R).take j) cr4 = -1 := by
  rw [List.take_append]
  refine zu1 ?_ _ fun c hc => hX c (List.mem_of_mem_take hc)
  by_cases h2 : X.length + 2 ≤ j
  · obtain ⟨a, b⟩ := h h2
    obtain ⟨d, rfl⟩ : ∃ d, j = d + X.length + 2 := ⟨j - X.length - 2, by omega⟩
    rw [show d + X.length + 2 - X.length - 2 = d by omega] at a b
    rw [show d + X.length + 2 - X.length = d + 2 by omega]
    exact no4_line b a
  · have : j - X.length = 0 ∨ j - X.length = 1 := by omega
    rcases this with e | e <;> rw [e]
    · rfl
    · rfl
def lineL (p : ByteArray × ByteArray) : List Int := bytesOf p.1 ++ 58 :: 32 :: bytesOf p.2
theorem zd0 (p : ByteArray × ByteArray) (r : List (ByteArray × ByteArray)) : bytesOf (showR (p :: r)) = lineL p ++ 13 :: 10 :: bytesOf (showR r) := by
  rw [showR]
  unfold lineL
  simp only [yP, List.append_assoc]
  rfl
theorem lineL_no {p : ByteArray × ByteArray} (h : xQ p = true) : (∀ c ∈ lineL p, c ≠ 13) ∧ ∃ a r, lineL p = a :: r ∧ a ≠ 13 := by
  obtain ⟨t1, t2, _, t4, _⟩ := yP0 h
  have n1 := tok_no t1
  have n2 := val_no t4
  have hn : ∀ c ∈ lineL p, c ≠ 13 := by
    intro c hc
    rcases List.mem_append.1 hc with hc | hc
    · exact (n1 c hc).1
    · rcases List.mem_cons.1 hc with rfl | hc
      · decide
      · rcases List.mem_cons.1 hc with rfl | hc
        · decide
        · exact n2 c hc
  refine ⟨hn, ?_⟩
  cases e : lineL p with
  | nil => simp [lineL] at e
  | cons a r => exact ⟨a, r, rfl, hn a (by rw [e]; exact List.mem_cons_self)⟩
theorem vw0 : ∀ (l : List (ByteArray × ByteArray)) (j : Nat), (∀ p ∈ l, xQ p = true) → j < (showR l).size → idxS ((bytesOf (showR l)).take j) cr4 = -1 ∧ ([13, 10] : List Int).isPrefixOf ((bytesOf (showR l)).take j) = false
  | [], j, _, hj => by
    have : j = 0 ∨ j = 1 := by have : (showR []).size = 2 := rfl; omega
    rcases this with rfl | rfl <;> exact ⟨rfl, rfl⟩
  | p :: r, j, hf, hj => by
    obtain ⟨h1, a, q, h2, h3⟩ := lineL_no (hf p List.mem_cons_self)
    have hl : (bytesOf (showR (p :: r))).length = (showR (p :: r)).size := zw _
    have hl2 : (bytesOf (showR r)).length = (showR r).size := zw _
    rw [zd0, List.length_append, List.length_cons, List.length_cons] at hl
    rw [zd0]
    refine ⟨qQ0 _ _ h1 j fun h4 => vw0 r _ (fun p hp => hf p (List.mem_cons_of_mem _ hp)) (by omega), ?_⟩
    rw [h2]
    cases j with
    | zero => rfl
    | succ j =>
      rw [List.cons_append, List.take_succ_cons]
      simp [List.isPrefixOf, Ne.symm h3]
theorem jr0 : ∀ l : List (ByteArray × ByteArray), l ≠ [] → ∃ A, bytesOf (showR l) = A ++ [13, 10, 13, 10]
  | [], h => absurd rfl h
  | [p], _ => ⟨lineL p, by rw [zd0]; rfl⟩
  | p :: q :: r, _ => by
    obtain ⟨A, e⟩ := jr0 (q :: r) (by simp)
    exact ⟨lineL p ++ 13 :: 10 :: A, by rw [zd0, e]; simp⟩
theorem va0 (l : List (ByteArray × ByteArray)) (X T : List Int) : 0 ≤ idxS (X ++ 13 :: 10 :: (bytesOf (showR l) ++ T)) cr4 := by
  by_cases h : l = []
  · subst h
    exact qV0 T X
  · obtain ⟨A, e⟩ := jr0 l h
    have := qV0 T (X ++ 13 :: 10 :: A)
    rw [e]
    simpa using this
def headP (u : ByteArray) : List ByteArray × List (ByteArray × ByteArray) × ByteArray × Int :=
  if idxS (bytesOf u) cr4 < 0 then ([], [], ⟨#[]⟩, if (u.size : Int) > 1500 then 2 else 1)
  else
    let c := cutL (bytesOf u) [13, 10]
    let i := zk.idxA c.1 blA
    let l1 := c.1.drop (i + 1).toNat
    let j := zk.idxA l1 blA
    let q := rfP c.2.1 (c.2.1.length + 1) [] 0
    if i < 0 then ([], [], ⟨#[]⟩, 2)
    else if j < 0 then ([], [], ⟨#[]⟩, 2)
    else if q.2.2 = true then ([strOfNums (c.1.take i.toNat), strOfNums (l1.take j.toNat), strOfNums (l1.drop (j + 1).toNat)], q.1, strOfNums (c.2.1.drop q.2.1.toNat), 0)
    else ([], [], ⟨#[]⟩, 2)
def okH (u : ByteArray) : Prop := 0 ≤ idxS (bytesOf u) cr4 → ascA (cutL (bytesOf u) [13, 10]).1 ∧ ascA ((cutL (bytesOf u) [13, 10]).1.drop (zk.idxA (cutL (bytesOf u) [13, 10]).1 blA + 1).toNat)
theorem qB0 {u : ByteArray} (h : idxS (bytesOf u) cr4 = -1) (hs : u.size ≤ 1500) : headP u = ([], [], ⟨#[]⟩, 1) := by
  unfold headP
  rw [if_pos (by omega), if_neg (by omega)]
def goodC (c : Int) : Prop := 33 ≤ c ∧ c < 128
theorem cut_line (X R : List Int) (hX : ∀ c ∈ X, c ≠ 13) : cutL (X ++ 13 :: 10 :: R) [13, 10] = (X, R, true) := by
  unfold cutL
  rw [qW0 R X hX, if_pos (by omega), Int.toNat_natCast, List.take_left]
  have := jB0 X R
  rw [Int.toNat_natCast] at this
  simp only [List.length_cons, List.length_nil]
  rw [this]
theorem qS0 {A B C : List Int} (hA : ∀ c ∈ A, goodC c) (hB : ∀ c ∈ B, goodC c) (hC : ∀ c ∈ C, c ≠ 13 ∧ 0 ≤ c ∧ c < 128) : ∀ c ∈ A ++ 32 :: (B ++ 32 :: C), c ≠ 13 ∧ 0 ≤ c ∧ c < 128 := by
  intro c hc
  have k : ∀ {D : List Int}, (∀ c ∈ D, goodC c) → c ∈ D → c ≠ 13 ∧ 0 ≤ c ∧ c < 128 := by
    intro D h hc
    have := h c hc
    unfold goodC at this
    omega
  have e : ∀ {D : List Int}, c ∈ 32 :: D → (c ∈ D → c ≠ 13 ∧ 0 ≤ c ∧ c < 128) → c ≠ 13 ∧ 0 ≤ c ∧ c < 128 := by
    intro D h f
    rcases List.mem_cons.1 h with rfl | h
    · decide
    · exact f h
  rcases List.mem_append.1 hc with hc | hc
  · exact k hA hc
  · refine e hc fun hc => ?_
    rcases List.mem_append.1 hc with hc | hc
    · exact k hB hc
    · exact e hc fun hc => hC c hc
theorem vj0 {A B : List Int} (hA : ∀ c ∈ A, goodC c) (hB : ∀ c ∈ B, goodC c) : (∀ c ∈ A, c ≠ 32 ∧ c ≠ 9) ∧ ∀ c ∈ B, c ≠ 32 ∧ c ≠ 9 := by
  refine ⟨fun c hc => ?_, fun c hc => ?_⟩
  · have := hA c hc; unfold goodC at this; omega
  · have := hB c hc; unfold goodC at this; omega
theorem xP0 (A D : List Int) : (A ++ 32 :: D).drop ((A.length : Int) + 1).toNat = D := by
  rw [show ((A.length : Int) + 1).toNat = A.length + 1 by omega, List.drop_append, List.drop_of_length_le (by omega), show A.length + 1 - A.length = 1 by omega]
  rfl
theorem vJ0 {u : ByteArray} {A B C R : List Int} (hA : ∀ c ∈ A, goodC c) (hB : ∀ c ∈ B, goodC c) (hC : ∀ c ∈ C, c ≠ 13 ∧ 0 ≤ c ∧ c < 128) (hu : bytesOf u = (A ++ 32 :: (B ++ 32 :: C)) ++ 13 :: 10 :: R) : cutL (bytesOf u) [13, 10] = (A ++ 32 :: (B ++ 32 :: C), R, true) ∧ zk.idxA (A ++ 32 :: (B ++ 32 :: C)) blA = A.length ∧ zk.idxA (B ++ 32 :: C) blA = B.length := by
  have hn := qS0 hA hB hC
  obtain ⟨b1, b2⟩ := vj0 hA hB
  refine ⟨?_, xL0 _ A b1, xL0 _ B b2⟩
  rw [hu, cut_line _ _ fun c hc => (hn c hc).1]
theorem zg0 {u : ByteArray} {A B C R : List Int} (hA : ∀ c ∈ A, goodC c) (hB : ∀ c ∈ B, goodC c) (hC : ∀ c ∈ C, c ≠ 13 ∧ 0 ≤ c ∧ c < 128) (hu : bytesOf u = (A ++ 32 :: (B ++ 32 :: C)) ++ 13 :: 10 :: R) : okH u := by
  intro _
  obtain ⟨e1, e2, e3⟩ := vJ0 hA hB hC hu
  have hn := qS0 hA hB hC
  have ok : ∀ D : List Int, (∀ c ∈ D, c ∈ A ++ 32 :: (B ++ 32 :: C)) → ascA D := fun D h => .inr (List.all_eq_true.2 fun c hc => decide_eq_true (hn c (h c hc)).2.2)
  rw [e1]
  exact ⟨ok _ fun c hc => hc, ok _ fun c hc => List.mem_of_mem_drop hc⟩
theorem yz0 {u : ByteArray} {A B C R : List Int} (hA : ∀ c ∈ A, goodC c) (hB : ∀ c ∈ B, goodC c) (hC : ∀ c ∈ C, c ≠ 13 ∧ 0 ≤ c ∧ c < 128) (hu : bytesOf u = (A ++ 32 :: (B ++ 32 :: C)) ++ 13 :: 10 :: R) {l : List (ByteArray × ByteArray)} {T : List Int} (hR : R = bytesOf (showR l) ++ T) (hl : qa l = true) : headP u = ([strOfNums A, strOfNums B, strOfNums C], l, strOfNums T, 0) := by
  obtain ⟨e1, e2, e4⟩ := vJ0 hA hB hC hu
  subst hR
  have h4 : 0 ≤ idxS (bytesOf u) cr4 := by rw [hu]; exact va0 l _ T
  have hT : ∀ c ∈ T, 0 ≤ c ∧ c < 256 := fun c hc => xJ (s := u) (by rw [hu]; simp [hc])
  have hr : rfP (bytesOf (showR l) ++ T) ((bytesOf (showR l) ++ T).length + 1) [] 0 = (l, ((showR l).size : Int), true) := by
    have := zk1 l (strOfNums T) hl
    rw [yP, yC hT, ByteArray.size_append, strOfNums_size] at this
    rw [List.length_append, zw]
    exact this
  have e6 : (bytesOf (showR l) ++ T).drop ((showR l).size : Int).toNat = T := by rw [Int.toNat_natCast, ← zw, List.drop_left]
  unfold headP
  rw [if_neg (by omega)]
  simp only [e1, e2, xP0, e4, e6, hr]
  rw [if_neg (by omega), if_neg (by omega), if_pos trivial, Int.toNat_natCast, Int.toNat_natCast, List.take_left, List.take_left]
theorem zu0 (s sep : ByteArray) (hs : s.size ≤ 8388608) : xo.f s sep = some (decide (0 ≤ idxS (bytesOf s) (bytesOf sep))) := by unfold xo.f; rw [if_pos hs]
theorem qV (s sep : ByteArray) (hs : s.size ≤ 8388608) : yM.f s sep = some (strOfNums (cutL (bytesOf s) (bytesOf sep)).1, strOfNums (cutL (bytesOf s) (bytesOf sep)).2.1, (cutL (bytesOf s) (bytesOf sep)).2.2) := by unfold yM.f; rw [if_pos hs]
theorem jo (s : ByteArray) (hs : s.size ≤ 8388608) : xl.f s = some (strOfNums ((bytesOf s).map lowC)) := by unfold xl.f; rw [if_pos hs]
theorem za0 (s : ByteArray) (hs : s.size ≤ 8388608) : qq.f s = some (trimB s) := by
  unfold qq.f qh.f
  rw [if_pos ⟨hs, rfl⟩, Option.bind_some]
theorem jh (s : ByteArray) (c : Int) (h0 : 0 ≤ c) (h1 : c < 256) : yV.f s c = some (idxB (bytesOf s) c) := by unfold yV.f; rw [if_pos ⟨h0, h1⟩]
def lodC (c : Int) : Bool := decide (97 ≤ c ∧ c ≤ 122) || decide (65 ≤ c ∧ c ≤ 90) || decide (48 ≤ c ∧ c ≤ 57)
theorem vy {c : Int} (h0 : 0 ≤ c) (h1 : c < 256) : yX.f c = some (lodC c) :=
  xm0 (P := fun c => yX.f c = some (lodC c)) (by decide +kernel) h0 h1
theorem impl_tok {c : Int} (h0 : 0 ≤ c) (h1 : c < 256) : tokC c = (lodC c || !decide (idxB [33, 35, 36, 37, 38, 39, 42, 43, 45, 46, 94, 95, 124, 126, 96] c < 0)) :=
  xm0 (P := fun c => tokC c = (lodC c || !decide (idxB [33, 35, 36, 37, 38, 39, 42, 43, 45, 46, 94, 95, 124, 126, 96] c < 0))) (by decide +kernel) h0 h1
theorem qC (s : ByteArray) (hs : s.size ≤ 8388608) : ∀ (d : Nat) (i : Int), 0 ≤ i → (s.size : Int) - i = d →
    Ev (fun k => zu.l0 k s (s.size : Int) i) (((bytesOf s).drop i.toNat).all tokC && !(bytesOf s).isEmpty)
  | 0, i, h0, hd => by
    refine yQ fun k => ?_
    simp only [zu.l0]
    rw [if_neg (by omega), vA (by omega)]
    congr 1
    rw [Bool.eq_iff_iff]
    simp only [bne_iff_ne, ne_eq, List.all_nil, Bool.true_and, Bool.not_eq_true', List.isEmpty_eq_false_iff]
    constructor
    · intro h he
      apply h
      exact (qd _ _).2 he
    · intro h he
      exact h ((qd _ _).1 he)
  | d + 1, i, h0, hd => by
    have hb := vB s i
    have hlt : i < (s.size : Int) := by omega
    have e := vy hb.1 hb.2
    have et := impl_tok hb.1 hb.2
    rw [qM h0 hlt, List.all_cons]
    have ei := jh (⟨#[33, 35, 36, 37, 38, 39, 42, 43, 45, 46, 94, 95, 124, 126, 96]⟩ : ByteArray) (bt s i) hb.1 hb.2
    have eb : bytesOf (⟨#[33, 35, 36, 37, 38, 39, 42, 43, 45, 46, 94, 95, 124, 126, 96]⟩ : ByteArray) = [33, 35, 36, 37, 38, 39, 42, 43, 45, 46, 94, 95, 124, 126, 96] := by decide +kernel
    rw [eb] at ei
    cases hl : lodC (bt s i) with
    | true =>
      rw [hl, Bool.true_or] at et
      refine yk (f := fun k => zu.l0 k s (s.size : Int) (i + 1)) (fun k => ?_) (ev_eq (qC s hs d (i + 1) (by omega) (by omega)) (by rw [et, Bool.true_and]))
      simp only [zu.l0]
      rw [if_pos hlt, if_pos h0, if_pos hlt, e, hl, Option.bind_some, if_pos rfl, yg (by omega) (by omega)]
    | false =>
      rw [hl, Bool.false_or] at et
      by_cases hx : idxB [33, 35, 36, 37, 38, 39, 42, 43, 45, 46, 94, 95, 124, 126, 96] (bt s i) < 0
      · refine yQ fun k => ?_
        simp only [zu.l0]
        rw [if_pos hlt, if_pos h0, if_pos hlt, e, hl, Option.bind_some, if_neg (by decide), ei, Option.bind_some, if_pos hx, et, decide_eq_true hx]
        rfl
      · refine yk (f := fun k => zu.l0 k s (s.size : Int) (i + 1)) (fun k => ?_) (ev_eq (qC s hs d (i + 1) (by omega) (by omega)) (by rw [et, decide_eq_false hx]; rfl))
        simp only [zu.l0]
        rw [if_pos hlt, if_pos h0, if_pos hlt, e, hl, Option.bind_some, if_neg (by decide), ei, Option.bind_some, if_neg hx, yg (by omega) (by omega)]
theorem jD (s : ByteArray) (hs : s.size ≤ 8388608) : Ev (fun k => zu.f k s) (tokB (bytesOf s)) := by
  have h := qC s hs s.size 0 (by omega) (by omega)
  simpa [zu.f, tokB] using h
theorem jC (s : ByteArray) (hs : s.size ≤ 8388608) : ∀ (d : Nat) (i : Int), 0 ≤ i → (s.size : Int) - i = d →
    Ev (fun k => zE.l0 k s (s.size : Int) i) (((bytesOf s).drop i.toNat).all valC && decide (trimB s = s))
  | 0, i, h0, hd => by
    refine yQ fun k => ?_
    simp only [zE.l0]
    rw [if_neg (by omega), za0 s hs, Option.bind_some, vA (by omega), qh0]
    rfl
  | d + 1, i, h0, hd => by
    have hlt : i < (s.size : Int) := by omega
    have ih := jC s hs d (i + 1) (by omega) (by omega)
    rw [qM h0 hlt, List.all_cons]
    by_cases h9 : bt s i = 9
    · refine yk (f := fun k => zE.l0 k s (s.size : Int) (i + 1)) (fun k => ?_) (ev_eq ih (by rw [valC, h9]; rfl))
      simp only [zE.l0]
      rw [if_pos hlt, if_pos h0, if_pos hlt, if_pos (by omega), if_pos h9, if_neg (by omega), yg (by omega) (by omega)]
    · by_cases h32 : bt s i < 32
      · refine yQ fun k => ?_
        simp only [zE.l0]
        rw [if_pos hlt, if_pos h0, if_pos hlt, if_pos h32, if_neg h9, valC, decide_eq_false h9, decide_eq_false (by omega : ¬ 32 ≤ bt s i)]
        rfl
      · by_cases h7 : bt s i = 127
        · refine yQ fun k => ?_
          simp only [zE.l0]
          rw [if_pos hlt, if_pos h0, if_pos hlt, if_neg h32, if_pos h7, valC, h7]
          rfl
        · refine yk (f := fun k => zE.l0 k s (s.size : Int) (i + 1)) (fun k => ?_) (ev_eq ih (by rw [valC, decide_eq_true (by omega : 32 ≤ bt s i), decide_eq_true h7]; simp))
          simp only [zE.l0]
          rw [if_pos hlt, if_pos h0, if_pos hlt, if_neg h32, if_neg h7, yg (by omega) (by omega)]
theorem zz0 (s : ByteArray) (hs : s.size ≤ 8388608) : Ev (fun k => zE.f k s) (valB s) :=
  jC s hs s.size 0 (by omega) (by omega)
theorem vY (nm v : ByteArray) (hn : nm.size ≤ 8388608) (hv : v.size ≤ 8388608) : Ev (fun k => yf.f k nm v) (xQ (nm, v)) := by
  refine Ev.congr (fun k => by unfold yf.f; rfl) ?_
  refine zj (jD nm hn) ?_
  by_cases a : tokB (bytesOf nm) = true
  · refine zf a ?_
    by_cases c : nm.size ≤ 24
    · refine zf (by omega) (zj (xa fun _ => jo nm hn) ?_)
      by_cases b : lowB nm = nm
      · refine zf (by rw [xF]; exact b) (zj (zz0 v hv) ?_)
        by_cases d : valB v = true
        · refine zf d (xa fun _ => ?_)
          congr 1
          have e : decide ((v.size : Int) ≤ 60) = decide (v.size ≤ 60) := by rw [decide_eq_decide]; omega
          rw [e]
          simp [xQ, a, b, c, d]
        · exact zi d (ev_eq (zO _) (by simp [xQ, d]))
      · exact zi (by rw [xF]; exact b) (ev_eq (zO _) (by simp [xQ, b]))
    · exact zi (by omega) (ev_eq (zO _) (by simp [xQ, c]))
  · exact zi a (ev_eq (zO _) (by simp [xQ, a]))
theorem jP (s : ByteArray) (hs : s.size ≤ 8388608) : ∀ (d : Nat) (acc : List (ByteArray × ByteArray)) (i : Int), 0 ≤ i → i ≤ (s.size : Int) → (s.size : Int) - i < d → acc.length ≤ 12 →
    Ev (fun k => zX.l0 k s (acc.map fun p => (⟨p.1, p.2⟩ : S55)) (strOfNums ((bytesOf s).drop i.toNat))) (((rfP (bytesOf s) d acc i).1.map fun p => (⟨p.1, p.2⟩ : S55)), (rfP (bytesOf s) d acc i).2)
  | 0, acc, i, h0, h1, hd, ha => by omega
  | d + 1, acc, i, h0, h1, hd, ha => by
    have hl := zw s
    have hx := qg [13, 10] ((bytesOf s).drop i.toNat)
    simp only [List.length_cons, List.length_nil, List.length_drop] at hx
    have ih := fun acc' i' => jP s hs d acc' i'
    have hR : bytesOf (strOfNums ((bytesOf s).drop i.toNat)) = (bytesOf s).drop i.toNat := yC fun c hc => xJ (List.mem_of_mem_drop hc)
    have hcut := qV (strOfNums ((bytesOf s).drop i.toNat)) ⟨#[13, 10]⟩ (by rw [strOfNums_size, List.length_drop]; omega)
    rw [hR, show bytesOf (⟨#[13, 10]⟩ : ByteArray) = [13, 10] from by decide +kernel] at hcut
    refine yk (fun k => by simp only [zX.l0]; rfl) (zj (xa fun _ => hcut) ?_)
    rw [rfP]
    unfold cutL
    by_cases hi : idxS ((bytesOf s).drop i.toNat) [13, 10] < 0
    · rw [if_neg (show ¬ 0 ≤ idxS ((bytesOf s).drop i.toNat) [13, 10] by omega), if_pos hi]
      exact zi (by simp) (zO _)
    · rw [if_pos (show 0 ≤ idxS ((bytesOf s).drop i.toNat) [13, 10] by omega), if_neg hi]
      refine zf rfl ?_
      generalize hj : idxS ((bytesOf s).drop i.toNat) [13, 10] = j at hi hx
      have hline : bytesOf (strOfNums (((bytesOf s).drop i.toNat).take j.toNat)) = ((bytesOf s).drop i.toNat).take j.toNat := yC fun c hc => xJ (List.mem_of_mem_drop (List.mem_of_mem_take hc))
      have hlen : (((bytesOf s).drop i.toNat).take j.toNat).length = j.toNat := by rw [List.length_take, List.length_drop]; omega
      have hrest : ((bytesOf s).drop i.toNat).drop (j.toNat + ([13, 10] : List Int).length) = (bytesOf s).drop (i + j + 2).toNat := by
        rw [List.drop_drop]
        congr 1
        simp only [List.length_cons, List.length_nil]
        omega
      simp only [hrest]
      by_cases hz : j = 0
      · rw [if_pos hz]
        subst hz
        refine zf (by simp only [Int.toNat_zero, List.take_zero]; exact qt0) (ev_eq (zO _) ?_)
        have e : wrap64 ((s.size : Int) - ((strOfNums ((bytesOf s).drop (i + 0 + 2).toNat)).size : Int)) = i + 2 := by
          rw [strOfNums_size, List.length_drop, yg (by omega) (by omega)]
          omega
        rw [e]
      · rw [if_neg hz]
        refine zi (by
          rw [qd, hline]
          intro h
          rw [h] at hlen
          simp at hlen
          omega) ?_
        have hcut2 := qV (strOfNums (((bytesOf s).drop i.toNat).take j.toNat)) ⟨#[58]⟩ (by rw [strOfNums_size, hlen]; omega)
        rw [hline, show bytesOf (⟨#[58]⟩ : ByteArray) = [58] from by decide +kernel] at hcut2
        refine zj (xa fun _ => hcut2) ?_
        generalize hL : ((bytesOf s).drop i.toNat).take j.toNat = L at hline hlen
        have hcb := qg [58] L
        simp only [List.length_cons, List.length_nil] at hcb
        unfold cutL
        generalize hc : idxS L [58] = c at hcb
        by_cases hc0 : c < 0
        · rw [if_neg (show ¬ 0 ≤ c by omega), if_pos hc0]
          have hlow := jo (strOfNums L) (by rw [strOfNums_size]; omega)
          have htr := za0 (strOfNums []) (by rw [strOfNums_size]; simp)
          exact zj (xa fun _ => hlow) (zj (xa fun _ => htr) (zi (by simp) (zO _)))
        · rw [if_pos (show 0 ≤ c by omega), if_neg hc0]
          have hlow := jo (strOfNums (L.take c.toNat)) (by rw [strOfNums_size, List.length_take]; omega)
          have htr := za0 (strOfNums (L.drop (c.toNat + 1))) (by rw [strOfNums_size, List.length_drop]; omega)
          have hok := vY (lowB (strOfNums (L.take c.toNat))) (trimB (strOfNums (L.drop (c.toNat + 1)))) (by rw [zx1, strOfNums_size, List.length_take]; omega) (by have := @vS0 (strOfNums (L.drop (c.toNat + 1))); rw [strOfNums_size, List.length_drop] at this; omega)
          refine zj (xa fun _ => hlow) (zj (xa fun _ => htr) (zf rfl (zj hok ?_)))
          by_cases hfo : xQ (lowB (strOfNums (L.take c.toNat)), trimB (strOfNums (L.drop (c.toNat + 1)))) = true
          · refine zf hfo ?_
            by_cases h12 : acc.length < 12
            · rw [if_pos ⟨hfo, h12⟩]
              refine zi (by rw [List.length_map]; omega) (zf (by rw [List.length_map]; omega) ?_)
              have h := ih (acc ++ [lineF L c]) (i + j + 2) (by omega) (by omega) (by omega) (by simp; omega)
              simpa [lineF, lowB] using h
            · rw [if_neg (fun h => h12 h.2)]
              exact zf (by rw [List.length_map]; omega) (zO _)
          · rw [if_neg (fun h => hfo h.1)]
            exact zi hfo (zO _)
theorem yj0 (s : ByteArray) (hs : s.size ≤ 8388608) : Ev (fun k => zX.f k s) (((rfP (bytesOf s) (s.size + 1) [] 0).1.map fun p => (⟨p.1, p.2⟩ : S55)), (rfP (bytesOf s) (s.size + 1) [] 0).2) := by
  have h := jP s hs (s.size + 1) [] 0 (by omega) (by omega) (by omega) (by simp)
  have e : strOfNums ((bytesOf s).drop (0 : Int).toNat) = s := by rw [Int.toNat_zero, List.drop_zero, yy]
  rw [e] at h
  exact h
theorem qZ0 {L : List Int} (h : ∀ c ∈ L, 0 ≤ c ∧ c < 256) (i j : Nat) : (strOfNums L).extract i j = strOfNums ((L.take j).drop i) :=
  qm (by rw [xH, yC h, yC fun c hc => h c (List.mem_of_mem_take (List.mem_of_mem_drop hc))])
theorem zp1 (l : List Int) : ∀ (d : Nat) (acc : List (ByteArray × ByteArray)) (i : Int), 0 ≤ i → (∀ p ∈ acc, xQ p = true) → (rfP l d acc i).2.2 = true → (∀ p ∈ (rfP l d acc i).1, xQ p = true) ∧ i + 2 ≤ (rfP l d acc i).2.1 ∧ (rfP l d acc i).2.1 ≤ l.length
  | 0, _, _, _, _, h => by rw [rfP] at h; cases h
  | d + 1, acc, i, h0, ha, h => by
    have hx := qg [13, 10] (l.drop i.toNat)
    simp only [List.length_cons, List.length_nil, List.length_drop] at hx
    rw [rfP] at h ⊢
    by_cases h1 : idxS (l.drop i.toNat) [13, 10] < 0
    · rw [if_pos h1] at h; cases h
    rw [if_neg h1] at h ⊢
    by_cases h2 : idxS (l.drop i.toNat) [13, 10] = 0
    · rw [if_pos h2]
      exact ⟨ha, Int.le_refl _, by show i + 2 ≤ _; omega⟩
    rw [if_neg h2] at h ⊢
    split at h
    · cases h
    rename_i h3
    rw [if_neg h3]
    split at h
    · rename_i h4
      rw [if_pos h4]
      obtain ⟨a, b, c⟩ := zp1 l d _ _ (by omega) (fun p hp => by
        rcases List.mem_append.1 hp with hp | hp
        · exact ha p hp
        · rw [List.mem_singleton.1 hp]; exact h4.1) h
      exact ⟨a, by omega, c⟩
    · cases h
theorem vU0 {u : ByteArray} : ∀ c ∈ (cutL (bytesOf u) [13, 10]).2.1, 0 ≤ c ∧ c < 256 := by
  obtain ⟨n, e⟩ := jb0 (bytesOf u) [13, 10]
  rw [e]
  exact fun c hc => xJ (List.mem_of_mem_drop hc)
theorem zc1 {u : ByteArray} : ∀ c ∈ (cutL (bytesOf u) [13, 10]).1, 0 ≤ c ∧ c < 256 := by
  obtain ⟨n, e⟩ := jc0 (bytesOf u) [13, 10]
  rw [e]
  exact fun c hc => xJ (List.mem_of_mem_take hc)
theorem qY0 {u : ByteArray} (h : (headP u).2.2.2 = 0) : ∃ a b c, (headP u).1 = [a, b, c] ∧ a.size ≤ u.size ∧ b.size ≤ u.size ∧ c.size ≤ u.size ∧ (∀ p ∈ (headP u).2.1, xQ p = true) ∧ (headP u).2.1.length ≤ 12 ∧ (headP u).2.2.1.size + 2 ≤ u.size := by
  unfold headP at h ⊢
  by_cases h1 : idxS (bytesOf u) cr4 < 0
  · rw [if_pos h1] at h
    simp only at h
    split at h <;> cases h
  rw [if_neg h1] at h ⊢
  have hl : (cutL (bytesOf u) [13, 10]).1.length ≤ u.size := by
    obtain ⟨n, e⟩ := jc0 (bytesOf u) [13, 10]
    rw [e, List.length_take, zw]; omega
  have hr : (cutL (bytesOf u) [13, 10]).2.1.length ≤ u.size := by
    obtain ⟨n, e⟩ := jb0 (bytesOf u) [13, 10]
    rw [e, List.length_drop, zw]; omega
  simp only at h ⊢
  generalize (cutL (bytesOf u) [13, 10]).1 = L at *
  generalize (cutL (bytesOf u) [13, 10]).2.1 = R at *
  split at h
  · cases h
  rename_i h2
  rw [if_neg h2]
  split at h
  · cases h
  rename_i h3
  rw [if_neg h3]
  split at h
  · rename_i h4
    rw [if_pos h4]
    obtain ⟨a, b, c⟩ := zp1 R (R.length + 1) [] 0 (by omega) (fun p hp => by cases hp) h4
    refine ⟨_, _, _, rfl, ?_, ?_, ?_, a, qm0 R _ [] 0 (by simp), ?_⟩
    all_goals
      simp only [strOfNums_size, List.length_take, List.length_drop]
      omega
  · cases h
theorem qC0 (L : List Int) (x7 : ByteArray) (acc : List ByteArray) (n : Int) (h2 : n < 2) (hL : ∀ c ∈ L, 0 ≤ c ∧ c < 256) (hs : L.length ≤ 8388608) (ok : ascA L) (h : zk.idxA L blA < 0) :
    Ev (fun k => zL.l0 k (strOfNums L) x7 acc n) ([], [], ⟨#[]⟩, 2) := by
  have e := jr (strOfNums L) (by rw [strOfNums_size]; exact hs) (by rw [yC hL]; exact ok)
  rw [yC hL] at e
  exact yk (fun k => by simp only [zL.l0]; rfl) (zf h2 (zj (xa fun _ => e) (zf h (zO _))))
theorem xN0 (L : List Int) (x7 : ByteArray) (acc : List ByteArray) (n : Int) (h0 : 0 ≤ n) (h2 : n < 2) (hL : ∀ c ∈ L, 0 ≤ c ∧ c < 256) (hs : L.length ≤ 8388608) (ok : ascA L) (ha : acc.length ≤ 10) (h : ¬ zk.idxA L blA < 0) {r}
    (hr : Ev (fun k => zL.l0 k (strOfNums (L.drop (zk.idxA L blA + 1).toNat)) x7 (acc ++ [strOfNums (L.take (zk.idxA L blA).toNat)]) (n + 1)) r) :
    Ev (fun k => zL.l0 k (strOfNums L) x7 acc n) r := by
  have e := jr (strOfNums L) (by rw [strOfNums_size]; exact hs) (by rw [yC hL]; exact ok)
  have hb := (qy0 blA L).resolve_left (by omega)
  rw [yC hL] at e
  have w1 : wrap64 (zk.idxA L blA + 1) = zk.idxA L blA + 1 := yg (by omega) (by omega)
  have w2 : wrap64 (n + 1) = n + 1 := yg (by omega) (by omega)
  have e1 : (strOfNums L).extract (zk.idxA L blA + 1).toNat (strOfNums L).size = strOfNums (L.drop (zk.idxA L blA + 1).toNat) := by rw [qZ0 hL, strOfNums_size, List.take_length]
  have e2 : (strOfNums L).extract 0 (zk.idxA L blA).toNat = strOfNums (L.take (zk.idxA L blA).toNat) := by rw [qZ0 hL]; rfl
  have z := strOfNums_size L
  refine yk (fun k => by simp only [zL.l0]; rfl) (zf h2 (zj (xa fun _ => e) (zi h ?_)))
  simp only [w1, w2, e1, e2]
  exact zf (by omega) (zf (by omega) (zf (by omega) (zf (by omega) (zf (by omega) hr))))
theorem qX (u : ByteArray) (hs : u.size ≤ 8388608) (ok : okH u) : Ev (fun k => zL.f k u) ((headP u).1, ((headP u).2.1.map fun p => (⟨p.1, p.2⟩ : S55)), (headP u).2.2.1, (headP u).2.2.2) := by
  have c := zu0 u ⟨#[13, 10, 13, 10]⟩ hs
  refine Ev.congr (fun k => by unfold zL.f; rfl) (zj (xa fun _ => c) ?_)
  unfold headP
  by_cases h1 : idxS (bytesOf u) cr4 < 0
  · rw [if_pos h1]
    refine zi (by rw [decide_eq_true_eq]; intro h; exact absurd h (Int.not_le.2 h1)) ?_
    by_cases h2 : (u.size : Int) > 1500
    · simp only [if_pos h2]; exact zO _
    · simp only [if_neg h2]; exact zO _
  rw [if_neg h1]
  obtain ⟨o1, o2⟩ := ok (by omega)
  have hcut := qV u ⟨#[13, 10]⟩ hs
  rw [show bytesOf (⟨#[13, 10]⟩ : ByteArray) = [13, 10] from by decide +kernel] at hcut
  refine zf (decide_eq_true (show 0 ≤ idxS (bytesOf u) (bytesOf ⟨#[13, 10, 13, 10]⟩) from Int.not_lt.1 h1)) (zj (xa fun _ => hcut) ?_)
  have rL := zc1 (u := u)
  have rR := vU0 (u := u)
  have hl : (cutL (bytesOf u) [13, 10]).1.length ≤ u.size := by
    obtain ⟨n, e⟩ := jc0 (bytesOf u) [13, 10]
    rw [e, List.length_take, zw]; omega
  have hr : (cutL (bytesOf u) [13, 10]).2.1.length ≤ u.size := by
    obtain ⟨n, e⟩ := jb0 (bytesOf u) [13, 10]
    rw [e, List.length_drop, zw]; omega
  simp only
  generalize (cutL (bytesOf u) [13, 10]).1 = L at *
  generalize (cutL (bytesOf u) [13, 10]).2.1 = R at *
  by_cases h2 : zk.idxA L blA < 0
  · rw [if_pos h2]; exact qC0 L _ _ 0 (by decide) rL (by omega) o1 h2
  rw [if_neg h2]
  refine xN0 L _ _ 0 (by decide) (by decide) rL (by omega) o1 (by simp) h2 ?_
  have rL1 : ∀ c ∈ L.drop (zk.idxA L blA + 1).toNat, 0 ≤ c ∧ c < 256 := fun c hc => rL c (List.mem_of_mem_drop hc)
  have hl1 : (L.drop (zk.idxA L blA + 1).toNat).length ≤ 8388608 := by rw [List.length_drop]; omega
  generalize L.drop (zk.idxA L blA + 1).toNat = L1 at *
  by_cases h3 : zk.idxA L1 blA < 0
  · rw [if_pos h3]; exact qC0 L1 _ _ _ (by decide) rL1 hl1 o2 h3
  rw [if_neg h3]
  refine xN0 L1 _ _ _ (by decide) (by decide) rL1 hl1 o2 (by simp) h3 ?_
  have hf := yj0 (strOfNums R) (by rw [strOfNums_size]; omega)
  rw [yC rR, strOfNums_size] at hf
  refine yk (fun k => by simp only [zL.l0]; rfl) (zi (by decide) (zj hf ?_))
  by_cases h4 : (rfP R (R.length + 1) [] 0).2.2 = true
  · simp only [if_pos h4]
    obtain ⟨_, b, c⟩ := zp1 R (R.length + 1) [] 0 (by omega) (fun p hp => by cases hp) h4
    refine (zf (by simp) (zf (by show 0 ≤ (rfP R (R.length + 1) [] 0).2.1; omega) (zf (by rw [strOfNums_size]; exact c) (ev_eq (zO _) ?_))))
    simp only [qZ0 rR, strOfNums_size, List.take_length]
    rfl
  · simp only [if_neg h4]; exact zO _
theorem yQ0 (nm : ByteArray) : ∀ l : List S55, (l.filter fun x => !decide (x.f0 = nm)) = (dropL nm (l.map fun x => (x.f0, x.f1))).map fun p => (⟨p.1, p.2⟩ : S55)
  | [] => rfl
  | x :: r => by
    rw [List.filter_cons, List.map_cons, dropL, yQ0 nm r]
    by_cases h : x.f0 = nm
    · simp [h]
    · simp [h]
theorem vn (l : List S55) (nm : ByteArray) (hl : l.length ≤ 4194304) : zh.f l nm = some ((dropL nm (l.map fun x => (x.f0, x.f1))).map fun p => (⟨p.1, p.2⟩ : S55)) := by
  unfold zh.f
  rw [if_pos hl, yQ0]
def httpW : ByteArray := ⟨#[72, 84, 84, 80, 47, 49, 46, 49]⟩
theorem qX0 (b : ByteArray) : b.toList = ([72, 84, 84, 80, 47, 49, 46, 49] : List UInt8) ↔ b = httpW := by
  rw [qd]
  exact ⟨fun h => qm (h.trans rfl), fun h => h ▸ rfl⟩
def codeP (c : Int) : Int := if c = 0 then 0 else if c = 1 then 1 else 2
theorem yZ0 (c : Int) : xX.f c = some (codeP c) := by
  unfold xX.f codeP
  split
  · rfl
  · split <;> rfl
def wbL (l : List (ByteArray × ByteArray)) : List (ByteArray × ByteArray) := dropL nmTE (dropL nmCL l)
theorem jn (l : List (ByteArray × ByteArray)) : (l.map fun p => (⟨p.1, p.2⟩ : S55)).map (fun x => (x.f0, x.f1)) = l := by
  rw [List.map_map]; exact List.map_id l
theorem jB (l : List (ByteArray × ByteArray)) (hl : l.length ≤ 4194304) : xq.f (l.map fun p => (⟨p.1, p.2⟩ : S55)) = some ((wbL l).map fun p => (⟨p.1, p.2⟩ : S55)) := by
  have h1 := vn (l.map fun p => (⟨p.1, p.2⟩ : S55)) nmCL (by rw [List.length_map]; exact hl)
  have h2 := vn ((dropL nmCL l).map fun p => (⟨p.1, p.2⟩ : S55)) nmTE (by rw [List.length_map]; exact Nat.le_trans (jR nmCL l) hl)
  rw [jn] at h1 h2
  unfold xq.f
  show (zh.f _ nmCL).bind _ = _
  rw [h1, Option.bind_some]
  show (zh.f _ nmTE).bind _ = _
  rw [h2, Option.bind_some]
  rfl
theorem jX0 {l : List (ByteArray × ByteArray)} : ∀ p ∈ wbL l, p ∈ l := fun p hp => xl0 nmCL l p (xl0 nmTE _ p hp)
theorem ym0 (l : List (ByteArray × ByteArray)) : (wbL l).length ≤ l.length := Nat.le_trans (jR _ _) (jR _ _)
theorem vz {p : ByteArray × ByteArray} (h : xQ p = true) : p.1.size ≤ 60 ∧ p.2.size ≤ 60 := by
  unfold xQ at h
  simp only [Bool.and_eq_true, decide_eq_true_eq] at h
  omega
theorem xx0 {l : List (ByteArray × ByteArray)} (h : ∀ p ∈ l, p.1.size ≤ 60 ∧ p.2.size ≤ 60) (hl : l.length ≤ 1000) : ¬ szF 1048576 l < 0 := by
  unfold szF
  rw [if_neg (by omega)]
  exact xr0 l _ h (by omega)
theorem xw0 {l : List (ByteArray × ByteArray)} (h : ∀ p ∈ l, p.1.size ≤ 60 ∧ p.2.size ≤ 60) : ∀ x ∈ l.map fun p => (⟨p.1, p.2⟩ : S55), x.f0.size ≤ 8388608 ∧ x.f1.size ≤ 8388608 := by
  intro x hx
  obtain ⟨p, hp, rfl⟩ := List.mem_map.1 hx
  have := h p hp
  exact ⟨by show p.1.size ≤ _; omega, by show p.2.size ≤ _; omega⟩
theorem xv0 {l : List (ByteArray × ByteArray)} (h : ∀ p ∈ l, p.1.size ≤ 60 ∧ p.2.size ≤ 60) (hl : l.length ≤ 1000) (nm : ByteArray) : ((getL nm l).map fun v => v.size + 2).sum ≤ 8388608 := by
  have := xs0 nm (n := 1048576) (by decide) (xx0 h hl)
  omega
theorem vr0 (l : List Int) : ∀ (d : Nat) (out : ByteArray) (i : Int), 0 ≤ i → i ≤ l.length → out.size ≤ 60 → (unchP l d out i).2.2 = 0 → (unchP l d out i).1.size ≤ 60 ∧ 0 ≤ (unchP l d out i).2.1 ∧ (unchP l d out i).2.1 ≤ l.length
  | 0, _, _, _, _, _, _ => ⟨by show (0 : Nat) ≤ 60; omega, by show (0 : Int) ≤ 0; omega, by show (0 : Int) ≤ _; omega⟩
  | d + 1, out, i, h0, h1, ho, h => by
    rw [unchP] at h ⊢
    by_cases h2 : (jw (l.drop i.toNat) out.size).2.2 = 0
    · rw [if_pos h2] at h ⊢
      obtain ⟨a1, a2, a3, a4, e⟩ := jx0 h2 (by omega)
      have hb := qW a2
      rw [e] at h ⊢
      rw [List.length_drop] at a4
      simp only at h ⊢
      split at h
      · rename_i h3
        rw [if_pos h3]
        exact ⟨ho, by show 0 ≤ i + _; omega, by show i + _ ≤ _; omega⟩
      · rename_i h3
        rw [if_neg h3]
        exact vr0 l d _ _ (by omega) (by omega) (by rw [ByteArray.size_append, strOfNums_size, List.length_take]; omega) h
    · rw [if_neg h2] at h
      exact absurd h h2
theorem vQ0 {l : List (ByteArray × ByteArray)} {s : ByteArray} (h : (bodyP l s false).2.2 = 0) : (bodyP l s false).1.size ≤ 60 ∧ 0 ≤ (bodyP l s false).2.1 ∧ (bodyP l s false).2.1 ≤ s.size := by
  have z : ∀ q : ByteArray × Int × Int, q = (⟨#[]⟩, 0, 0) → q.1.size ≤ 60 ∧ 0 ≤ q.2.1 ∧ q.2.1 ≤ (s.size : Int) := by
    rintro q rfl
    exact ⟨by decide, by decide, by show (0 : Int) ≤ _; omega⟩
  unfold bodyP at h ⊢
  split at h
  · rename_i h1
    rw [if_pos h1]
    split at h
    · rename_i h2
      rw [if_pos h2]
      split at h
      · cases h
      · rename_i h3
        rw [if_neg h3]
        have := vr0 (bytesOf s) ((bytesOf s).length + 1) ⟨#[]⟩ 0 (by omega) (by omega) (by decide) h
        rw [zw] at this
        unfold xi0
        rw [zw]
        exact this
    · cases h
  · rename_i h1
    rw [if_neg h1]
    split at h
    · rename_i h2
      rw [if_pos h2]
      have hb := zl1 (bytesOf (joinG nmCL l))
      unfold lenP at h ⊢
      split at h
      · rename_i h3
        rw [if_pos h3]
        split at h
        · cases h
        · rename_i h4
          rw [if_neg h4]
          exact ⟨by show (s.extract 0 _).size ≤ 60; rw [ByteArray.size_extract]; omega, hb.1, by show (secP _).1 ≤ _; omega⟩
      · cases h
    · rename_i h2
      rw [if_neg h2, if_neg (by decide)]
      exact z _ rfl
theorem yh0 (s : ByteArray) (hs : s.size ≤ 8388608) : ∀ (d : Nat) (i : Int), 0 ≤ i → (s.size : Int) - i = d →
    Ev (fun k => yB.l0 k s (s.size : Int) i) (((bytesOf s).drop i.toNat).all (fun c => decide (33 ≤ c ∧ c ≤ 126)) && (decide (1 ≤ (s.size : Int) ∧ (s.size : Int) ≤ 20) && (rd (bytesOf s) 0 == 47)))
  | 0, i, h0, hd => by
    refine yQ fun k => ?_
    simp only [yB.l0]
    rw [if_neg (by omega), vA (by omega), zi0]
    simp only [Option.bind_some]
    by_cases h : 1 ≤ (s.size : Int) ∧ (s.size : Int) ≤ 20
    · rw [if_pos (by simpa using h), if_pos (by omega), bt_eq]
      simp [h]
    · rw [if_neg (by simpa using h)]
      simp [h]
  | d + 1, i, h0, hd => by
    have hb := vB s i
    have hlt : i < (s.size : Int) := by omega
    by_cases c1 : bt s i < 33
    · refine yQ fun k => ?_
      simp only [yB.l0]
      rw [if_pos hlt, if_pos h0, if_pos hlt, if_pos c1, qM h0 hlt, List.all_cons, decide_eq_false (p := 33 ≤ bt s i ∧ bt s i ≤ 126) (by omega)]
      rfl
    · by_cases c2 : bt s i > 126
      · refine yQ fun k => ?_
        simp only [yB.l0]
        rw [if_pos hlt, if_pos h0, if_pos hlt, if_neg c1, if_pos c2, qM h0 hlt, List.all_cons, decide_eq_false (p := 33 ≤ bt s i ∧ bt s i ≤ 126) (by omega)]
        rfl
      · refine yk (f := fun k => yB.l0 k s (s.size : Int) (i + 1)) (fun k => ?_) (ev_eq (yh0 s hs d (i + 1) (by omega) (by omega)) ?_)
        · simp only [yB.l0]
          rw [if_pos hlt, if_pos h0, if_pos hlt, if_neg c1, if_neg c2, yg (by omega) (by omega)]
        · rw [qM h0 hlt, List.all_cons, decide_eq_true (p := 33 ≤ bt s i ∧ bt s i ≤ 126) (by omega), Bool.true_and]
theorem qU0 (s : ByteArray) (hs : s.size ≤ 8388608) : Ev (fun k => yB.f k s) (uriB (bytesOf s)) := by
  have h := yh0 s hs s.size 0 (by omega) (by omega)
  simpa [yB.f, uriB, zw] using h
theorem jf (l : List S55) (nm : ByteArray) (hl : l.length ≤ 1048576) (V : List ByteArray) (hV : (V.map fun v => v.size + 2).sum ≤ 8388608) (hW : V.length ≤ 1048576) : ∀ (d : Nat) (acc : List ByteArray) (i : Int), 0 ≤ i → (l.length : Int) - i = d → acc ++ getL nm ((l.drop i.toNat).map fun x => (x.f0, x.f1)) = V →
    Ev (fun k => zy.l0 k nm acc l (l.length : Int) i) (joinB ⟨#[44, 32]⟩ V, !V.isEmpty)
  | 0, acc, i, h0, hd, ha => by
    refine yQ fun k => ?_
    simp only [zy.l0]
    rw [jQ (by omega)] at ha
    simp only [List.map_nil, getL, List.append_nil] at ha
    subst ha
    have hs : (joinB ⟨#[44, 32]⟩ acc).size ≤ (acc.map fun v => v.size + 2).sum := yy0 ⟨#[44, 32]⟩ acc
    rw [if_neg (by omega), qp.f, if_pos ⟨by omega, by omega⟩, Option.bind_some]
    cases acc <;> simp
  | d + 1, acc, i, h0, hd, ha => by
    have hlt : i < (l.length : Int) := by omega
    have hdrop : l.drop i.toNat = zV l i :: l.drop (i + 1).toNat := qL (d := z55) h0 hlt
    rw [hdrop] at ha
    simp only [List.map_cons, getL] at ha
    by_cases h : (zV l i).f0 = nm
    · rw [if_pos h] at ha
      have hlen : acc.length < 8796093022208 := by
        have := congrArg List.length ha
        simp at this
        omega
      refine yk (f := fun k => zy.l0 k nm (acc ++ [(zV l i).f1]) l (l.length : Int) (i + 1)) (fun k => ?_) (jf l nm hl V hV hW d (acc ++ [(zV l i).f1]) (i + 1) (by omega) (by omega) (by rw [← ha]; simp))
      simp only [zy.l0]
      rw [if_pos hlt, if_pos h0, if_pos hlt, if_pos (by rw [h]), if_pos hlen, yg (by omega) (by omega)]
    · rw [if_neg h] at ha
      refine yk (f := fun k => zy.l0 k nm acc l (l.length : Int) (i + 1)) (fun k => ?_) (jf l nm hl V hV hW d acc (i + 1) (by omega) (by omega) ha)
      simp only [zy.l0]
      rw [if_pos hlt, if_pos h0, if_pos hlt, if_neg (by rw [xF]; exact h), yg (by omega) (by omega)]
theorem jg (l : List S55) (nm : ByteArray) (hl : l.length ≤ 1048576) (hV : ((getL nm (l.map fun x => (x.f0, x.f1))).map fun v => v.size + 2).sum ≤ 8388608) : Ev (fun k => zy.f k l nm) (joinB ⟨#[44, 32]⟩ (getL nm (l.map fun x => (x.f0, x.f1))), !(getL nm (l.map fun x => (x.f0, x.f1))).isEmpty) := by
  have hW := xO0 nm (l.map fun x => (x.f0, x.f1))
  rw [List.length_map] at hW
  have h := jf l nm hl _ hV (by omega) l.length [] 0 (by omega) (by omega) (by simp)
  simpa [zy.f] using h
theorem jc : ∀ (l : List S55), (∀ x ∈ l, x.f0.size ≤ 8388608 ∧ x.f1.size ≤ 8388608) → Ev (fun k => zI.each k l) (l.map fun x => !xQ (x.f0, x.f1))
  | [], _ => xa fun _ => rfl
  | x :: r, hm => by
    have hs := hm x List.mem_cons_self
    have ih := jc r fun y hy => hm y (List.mem_cons_of_mem _ hy)
    have h1 : Ev (fun k => xd.f k x.f0 x.f1) (!xQ (x.f0, x.f1)) := Ev.congr (fun k => by unfold xd.f; rfl) (zj (vY _ _ hs.1 hs.2) (zO _))
    refine Ev.congr (fun k => by rw [zI.each]) (zj h1 (zj ih (zO _)))
theorem vO (l : List S55) (hm : ∀ x ∈ l, x.f0.size ≤ 8388608 ∧ x.f1.size ≤ 8388608) : Ev (fun k => zI.f k l) (qa (l.map fun x => (x.f0, x.f1))) := by
  refine Ev.congr (fun k => by unfold zI.f; rfl) ?_
  by_cases h : (l.length : Int) ≤ 12
  · refine zf h (zj (jc l hm) (xa fun _ => ?_))
    congr 1
    have e : decide (l.length ≤ 12) = true := by rw [decide_eq_true_eq]; omega
    simp only [qa, List.length_map, e, Bool.and_true, List.any_map, List.all_map]
    rw [List.not_any_eq_all_not]
    congr 1
    funext x
    simp
  · exact zi h (ev_eq (zO _) (by simp [qa]; intro _; omega))
theorem vN (l : List S55) (nm : ByteArray) (hl : l.length ≤ 1048576) (hG : ((getL nm (l.map fun x => (x.f0, x.f1))).map fun v => v.size + 2).sum ≤ 8388608) :
    Ev (fun k => xj.f k l nm) (!(getL nm (l.map fun x => (x.f0, x.f1))).isEmpty) :=
  Ev.congr (fun k => by unfold xj.f; rfl) (zj (jg l nm hl hG) (zO _))
theorem vl (l : List S55) (hl : l.length ≤ 1048576) (hm : ∀ x ∈ l, x.f0.size ≤ 8388608 ∧ x.f1.size ≤ 8388608) (hG : ∀ nm, ((getL nm (l.map fun x => (x.f0, x.f1))).map fun v => v.size + 2).sum ≤ 8388608) :
    Ev (fun k => yI.f k l) (qx (l.map fun x => (x.f0, x.f1))) := by
  have t := vN l nmTE hl (hG _)
  have c := vN l nmCL hl (hG _)
  have b : Ev (fun k => xc.f k l) (!((getL nmTE (l.map fun x => (x.f0, x.f1))).isEmpty && (getL nmCL (l.map fun x => (x.f0, x.f1))).isEmpty)) := by
    refine Ev.congr (fun k => by unfold xc.f; rfl) (zj c ?_)
    cases h2 : (getL nmCL (l.map fun x => (x.f0, x.f1))).isEmpty with
    | false => exact zf (by rfl) (ev_eq (zO _) (by simp))
    | true => exact zi (by simp) (ev_eq (zj t (zO _)) (by simp))
  refine Ev.congr (fun k => by unfold yI.f; rfl) (zj (vO l hm) ?_)
  unfold qx
  cases hF : qa (l.map fun x => (x.f0, x.f1)) with
  | false => exact zi (by simp) (ev_eq (zO _) (by simp))
  | true =>
    refine zf rfl ?_
    by_cases h : (l.length : Int) < 12
    · refine zf h (ev_eq (zj b (zO _)) ?_)
      have e : decide ((l.map fun x => (x.f0, x.f1)).length < 12) = true := by rw [decide_eq_true_eq, List.length_map]; omega
      rw [e]; simp
    · refine zi h (ev_eq (zO _) ?_)
      have e : decide ((l.map fun x => (x.f0, x.f1)).length < 12) = false := by rw [decide_eq_false_iff_not, List.length_map]; omega
      rw [e]; simp
theorem vm (m u : ByteArray) (l : List S55) (b : ByteArray) (sm : m.size ≤ 8388608) (su : u.size ≤ 8388608) (hl : l.length ≤ 1048576) (hm : ∀ x ∈ l, x.f0.size ≤ 8388608 ∧ x.f1.size ≤ 8388608) (hG : ∀ nm, ((getL nm (l.map fun x => (x.f0, x.f1))).map fun v => v.size + 2).sum ≤ 8388608) :
    Ev (fun k => yO.f k m u l b) (reqB m u (l.map fun x => (x.f0, x.f1)) b) := by
  refine Ev.congr (fun k => by unfold yO.f; rfl) (zj (jD m sm) ?_)
  unfold reqB
  cases h1 : tokB (bytesOf m) with
  | false => exact zi (by simp) (ev_eq (zO _) (by simp))
  | true =>
    refine zf rfl ?_
    by_cases h2 : (m.size : Int) ≤ 10
    · have e2 : decide (m.size ≤ 10) = true := by rw [decide_eq_true_eq]; omega
      rw [e2]
      refine zf h2 (zj (qU0 u su) ?_)
      cases h3 : uriB (bytesOf u) with
      | false => exact zi (by simp) (ev_eq (zO _) (by simp))
      | true =>
        refine zf rfl (zj (vl l hl hm hG) ?_)
        cases h4 : qx (l.map fun x => (x.f0, x.f1)) with
        | false => exact zi (by simp) (ev_eq (zO _) (by simp))
        | true => exact zf rfl (ev_eq (zO _) (by rw [jD0]; simp))
    · have e2 : decide (m.size ≤ 10) = false := by rw [decide_eq_false_iff_not]; omega
      rw [e2]
      exact zi h2 (ev_eq (zO _) (by simp))
theorem yg0 (c : Int) (h0 : 0 ≤ c) (h1 : c < 256) : yV.f (⟨#[48, 49, 50, 51, 52, 53, 54, 55, 56, 57, 97, 98, 99, 100, 101, 102]⟩ : ByteArray) c = some (idxB hexDs c) := jh _ c h0 h1
theorem zC1 {c : Int} (h0 : 0 ≤ c) (h1 : c < 256) : hexV c = if 65 ≤ c ∧ c ≤ 70 then c - 55 else idxB hexDs c :=
  xm0 (P := fun c => hexV c = if 65 ≤ c ∧ c ≤ 70 then c - 55 else idxB hexDs c) (by decide +kernel) h0 h1
theorem qK (s : ByteArray) (hs : s.size ≤ 8388608) : ∀ (d : Nat) (n i : Int), 0 ≤ i → (s.size : Int) - i = d →
    Ev (fun k => zr.l0 k s n (s.size : Int) i) (bif (((bytesOf s).drop i.toNat).all fun c => decide (0 ≤ hexV c)) then (hexW n ((bytesOf s).drop i.toNat), true) else (0, false))
  | 0, n, i, h0, hd => by
    refine yQ fun k => ?_
    simp only [zr.l0]
    rw [if_neg (by omega), vA (by omega)]
    simp [hexW]
  | d + 1, n, i, h0, hd => by
    have hb := vB s i
    have hlt : i < (s.size : Int) := by omega
    have wi : wrap64 (i + 1) = i + 1 := yg (by omega) (by omega)
    have hvv := zC1 hb.1 hb.2
    rw [qM h0 hlt]
    simp only [List.all_cons, hexW]
    by_cases hd3 : 65 ≤ bt s i ∧ bt s i ≤ 70
    · rw [if_pos hd3] at hvv
      refine yk (f := fun k => zr.j1 k s n i (idxB hexDs (bt s i)) (s.size : Int) i true) (fun k => ?_) (yk (f := fun k => zr.l0 k s (wrap64 (n * 16 + hexV (bt s i))) (s.size : Int) (i + 1)) (fun k => ?_) (ev_eq (qK s hs d _ (i + 1) (by omega) (by omega)) (by rw [decide_eq_true (show 0 ≤ hexV (bt s i) by omega), Bool.true_and])))
      · simp only [zr.l0]
        rw [if_pos hlt, if_pos h0, if_pos hlt, yg0 _ hb.1 hb.2, Option.bind_some, if_pos (by omega), decide_eq_true (by omega)]
      · simp only [zr.j1]
        rw [if_pos trivial, if_pos h0, if_pos hlt, if_neg (by omega), wi, jj0, hvv, Int.emod_eq_of_lt (by omega) (by omega), show 16 * n + (bt s i - 65 + 10) = n * 16 + (bt s i - 55) by omega]
    · rw [if_neg hd3] at hvv
      have hj1 : ∀ k, zr.l0 (k + 1) s n (s.size : Int) i = zr.j1 k s n i (idxB hexDs (bt s i)) (s.size : Int) i false := by
        intro k
        simp only [zr.l0]
        rw [if_pos hlt, if_pos h0, if_pos hlt, yg0 _ hb.1 hb.2, Option.bind_some]
        by_cases h65 : bt s i ≥ 65
        · rw [if_pos h65, decide_eq_false (by omega)]
        · rw [if_neg h65]
      refine yk hj1 ?_
      rw [hvv]
      by_cases hx : idxB hexDs (bt s i) < 0
      · refine yQ fun k => ?_
        simp only [zr.j1]
        rw [if_neg (by decide), if_pos hx, decide_eq_false (by omega)]
        simp
      · refine yk (f := fun k => zr.l0 k s (wrap64 (n * 16 + idxB hexDs (bt s i))) (s.size : Int) (i + 1)) (fun k => ?_) (ev_eq (qK s hs d _ (i + 1) (by omega) (by omega)) (by rw [decide_eq_true (show 0 ≤ idxB hexDs (bt s i) by omega), Bool.true_and]))
        simp only [zr.j1]
        rw [if_neg (by decide), if_neg hx, wi, jj0, show 16 * n + idxB hexDs (bt s i) = n * 16 + idxB hexDs (bt s i) by omega]
theorem yi0 (s : ByteArray) (hs : s.size ≤ 8388608) : Ev (fun k => zr.f k s) (xP (bytesOf s)) := by
  refine Ev.congr (fun k => by unfold zr.f; rw [zi0, Option.bind_some]) ?_
  unfold xP
  rw [zw]
  by_cases h : 1 ≤ (s.size : Int) ∧ (s.size : Int) ≤ 6
  · refine zf (by simpa using h) (ev_eq (qK s hs s.size 0 0 (by omega) (by omega)) ?_)
    rw [decide_eq_true h, Bool.and_true]; rfl
  · refine zi (by simpa using h) (ev_eq (zO _) ?_)
    rw [decide_eq_false h, Bool.and_false]; rfl
theorem qT0 (s : ByteArray) (hs : s.size ≤ 8388608) (ahead : Int) (h0 : 0 ≤ ahead) (h1 : ahead ≤ 60) : Ev (fun k => yG.f k s ahead) (jw (bytesOf s) ahead) := by
  have hl := zw s
  have hx := qg [13, 10] (bytesOf s)
  simp only [List.length_cons, List.length_nil] at hx
  refine Ev.congr (fun k => by unfold yG.f; rw [qV s _ hs, Option.bind_some]) ?_
  have eb : bytesOf (⟨#[13, 10]⟩ : ByteArray) = [13, 10] := by decide +kernel
  rw [eb]
  unfold cutL jw
  by_cases hi : idxS (bytesOf s) [13, 10] < 0
  · rw [if_neg (show ¬ 0 ≤ idxS (bytesOf s) [13, 10] by omega), if_pos hi]
    refine zi (fun hh => by cases hh) ?_
    rw [hl]
    exact zt0 (fun _ => zO _) (fun _ => zO _)
  · rw [if_pos (show 0 ≤ idxS (bytesOf s) [13, 10] by omega), if_neg hi]
    refine zf rfl ?_
    simp only
    have hline : bytesOf (strOfNums ((bytesOf s).take (idxS (bytesOf s) [13, 10]).toNat)) = (bytesOf s).take (idxS (bytesOf s) [13, 10]).toNat := yC fun c hc => xJ (List.mem_of_mem_take hc)
    have hrest : bytesOf (strOfNums ((bytesOf s).drop ((idxS (bytesOf s) [13, 10]).toNat + 2))) = (bytesOf s).drop ((idxS (bytesOf s) [13, 10]).toNat + 2) := yC fun c hc => xJ (List.mem_of_mem_drop hc)
    have hh := yi0 (strOfNums ((bytesOf s).take (idxS (bytesOf s) [13, 10]).toNat)) (by rw [strOfNums_size, List.length_take]; omega)
    rw [hline] at hh
    refine zj hh ?_
    have hbd := @qW ((bytesOf s).take (idxS (bytesOf s) [13, 10]).toNat)
    generalize xP ((bytesOf s).take (idxS (bytesOf s) [13, 10]).toNat) = h at hbd
    have hbad : ∀ k a b c, yG.j0 (k + 1) a b c true = some ((⟨#[]⟩ : ByteArray), 0, 2) := fun k a b c => by simp only [yG.j0]; rw [if_pos trivial]
    by_cases hok : h.2 = true
    · have hb := hbd hok
      refine zf hok ?_
      rw [yg (x := ahead + h.1) (by omega) (by omega)]
      by_cases h60 : ahead + h.1 > 60
      · rw [decide_eq_true h60, if_pos (fun hh => by omega)]
        exact yQ fun k => hbad k _ _ _
      · rw [decide_eq_false h60, if_neg (fun hn => hn ⟨hok, by omega⟩)]
        have hl2 : (idxS (bytesOf s) [13, 10]).toNat + ([13, 10] : List Int).length = (idxS (bytesOf s) [13, 10]).toNat + 2 := rfl
        rw [hl2]
        have hsz : ((strOfNums ((bytesOf s).drop ((idxS (bytesOf s) [13, 10]).toNat + 2))).size : Int) = (((bytesOf s).drop ((idxS (bytesOf s) [13, 10]).toNat + 2)).length : Int) := by rw [strOfNums_size]
        have hlen : (((bytesOf s).drop ((idxS (bytesOf s) [13, 10]).toNat + 2)).length : Int) ≤ 8388608 := by rw [List.length_drop]; omega
        refine yk (fun k => by simp only [yG.j0]; rw [if_neg (by decide), hsz, yg (x := h.1 + 2) (by omega) (by omega)]) ?_
        refine zt0 (fun _ => zO _) (fun h3 => ?_)
        refine Ev.congr (fun k => by rw [if_pos hb.1, if_pos (by omega), if_pos (by omega)]) ?_
        have hcmp : ((strOfNums ((bytesOf s).drop ((idxS (bytesOf s) [13, 10]).toNat + 2))).extract h.1.toNat (h.1 + 2).toNat).toList = ([13, 10] : List UInt8) ↔ (((bytesOf s).drop ((idxS (bytesOf s) [13, 10]).toNat + 2)).drop h.1.toNat).take 2 = [13, 10] := by
          rw [qd, xH, hrest, List.drop_take, show (h.1 + 2).toNat - h.1.toNat = 2 by omega]
          rfl
        by_cases h4 : (((bytesOf s).drop ((idxS (bytesOf s) [13, 10]).toNat + 2)).drop h.1.toNat).take 2 = [13, 10]
        · rw [if_pos h4]
          refine zf (hcmp.2 h4) (zf (by omega) (ev_eq (zO _) ?_))
          have e1 : (strOfNums ((bytesOf s).drop ((idxS (bytesOf s) [13, 10]).toNat + 2))).extract 0 h.1.toNat = strOfNums (((bytesOf s).drop ((idxS (bytesOf s) [13, 10]).toNat + 2)).take h.1.toNat) := by
            refine qm ?_
            rw [xH, hrest, yC (fun c hc => xJ (List.mem_of_mem_drop (List.mem_of_mem_take hc)))]
            simp
          rw [e1, strOfNums_size, List.length_take, yg (x := _ + h.1) (by omega) (by omega), yg (by omega) (by omega)]
          congr 2
          omega
        · rw [if_neg h4]
          exact zi (fun hh => h4 (hcmp.1 hh)) (zO _)
    · rw [if_pos (fun hh => hok hh.1)]
      exact zi hok (yQ fun k => hbad k _ _ _)
theorem vZ (s : ByteArray) (hs : s.size ≤ 8388608) : ∀ (d : Nat) (out : ByteArray) (i : Int), 0 ≤ i → i ≤ (s.size : Int) → (s.size : Int) - i < d → out.size ≤ 60 →
    Ev (fun k => yz.l0 k s out i) (unchP (bytesOf s) d out i)
  | 0, out, i, h0, h1, hd, ho => by omega
  | d + 1, out, i, h0, h1, hd, ho => by
    have hl := zw s
    have he : bytesOf (s.extract i.toNat s.size) = (bytesOf s).drop i.toNat := by
      rw [xH, List.take_of_length_le (by omega)]
    have hp := qT0 (s.extract i.toNat s.size) (by rw [← zw, he, List.length_drop]; omega) out.size (by omega) (by omega)
    rw [he] at hp
    refine yk (fun k => by simp only [yz.l0]; rw [if_pos h0, if_pos h1]) (zj hp ?_)
    rw [unchP]
    refine zt0 (fun hc => ?_) (fun hc => zO _)
    obtain ⟨q0, q1, q2, q3, q4⟩ := jx0 hc (by omega)
    have hb := qW q1
    rw [List.length_drop] at q3
    have e21 : (jw ((bytesOf s).drop i.toNat) out.size).2.1 = idxS ((bytesOf s).drop i.toNat) [13, 10] + (xP (((bytesOf s).drop i.toNat).take (idxS ((bytesOf s).drop i.toNat) [13, 10]).toNat)).1 + 4 := by rw [q4]
    have e1 : (jw ((bytesOf s).drop i.toNat) out.size).1.size = (xP (((bytesOf s).drop i.toNat).take (idxS ((bytesOf s).drop i.toNat) [13, 10]).toNat)).1.toNat := by
      rw [q4, strOfNums_size, List.length_take, List.length_drop, List.length_drop]
      omega
    rw [yg (x := i + _) (by omega) (by omega)]
    by_cases hz : (jw ((bytesOf s).drop i.toNat) out.size).1 = ⟨#[]⟩
    · rw [if_pos hz]
      exact zf ((qd _ _).2 (by rw [hz]; rfl)) (zO _)
    · rw [if_neg hz]
      refine zi (fun hh => hz (qm (by rw [(qd _ _).1 hh]; rfl))) (zf (by omega) ?_)
      exact vZ s hs d _ _ (by omega) (by omega) (by omega) (by rw [ByteArray.size_append]; omega)
theorem xH0 (s : ByteArray) (hs : s.size ≤ 8388608) : Ev (fun k => yz.f k s) (xi0 (bytesOf s)) := by
  have hl := zw s
  have h := vZ s hs (s.size + 1) ⟨#[]⟩ 0 (by omega) (by omega) (by omega) (by decide)
  unfold xi0
  rw [hl]
  exact h
theorem zb0 (s : ByteArray) (hs : s.size ≤ 8388608) (hA : (bytesOf s).all digC = true ∨ True) : ∀ (d : Nat) (i : Int), 0 ≤ i → (s.size : Int) - i = d → ((bytesOf s).take i.toNat).all digC = true →
    Ev (fun k => yo.l0 k s (s.size : Int) i) (secP (bytesOf s))
  | 0, i, h0, hd, ht => by
    have hl := zw s
    have hall : (bytesOf s).all digC = true := by rw [List.take_of_length_le (by omega)] at ht; exact ht
    refine yk (fun k => by simp only [yo.l0]; rw [if_neg (by omega)]) ?_
    unfold secP
    rw [if_pos hall, vb0 _ 0 (by omega) (by omega) hall, ← vq0]
    by_cases he : s.toList = ([] : List UInt8)
    · have hb : bytesOf s = [] := by have := (qd _ _).1 he; simpa using this
      refine zf he (ev_eq (zO _) ?_)
      rw [hb]
      rfl
    · have hne : 0 < (bytesOf s).length := by
        rcases Nat.eq_zero_or_pos (bytesOf s).length with h | h
        · exact absurd ((qd _ _).2 (by rw [List.eq_nil_of_length_eq_zero h]; rfl)) he
        · exact h
      rw [decide_eq_true hne]
      have htl : xz.f s (⟨#[48]⟩ : ByteArray) = some (strOfNums (cutC 48 (bytesOf s))) := by unfold xz.f; rw [if_pos rfl]
      refine zi he (zj (xa fun _ => htl) ?_)
      have hca := vO0 hall
      by_cases h10 : 10 < (cutC 48 (bytesOf s)).length
      · refine zf (by rw [strOfNums_size]; omega) (ev_eq (zO _) ?_)
        rw [mn_ge (cutC_big hall h10)]
      · refine zi (by rw [strOfNums_size]; omega) (zf (by rw [strOfNums_size]; omega) ?_)
        exact zj (xa fun _ => yW0 _ hca (by omega)) (zO _)
  | d + 1, i, h0, hd, ht => by
    have hlt : i < (s.size : Int) := by omega
    have hl := zw s
    have hmem : bt s i ∈ bytesOf s := List.mem_of_mem_drop (i := i.toNat) (by rw [qM h0 hlt]; exact List.mem_cons_self)
    by_cases h1 : digC (bt s i) = true
    · have h2 := qN.1 h1
      refine yk (f := fun k => yo.l0 k s (s.size : Int) (i + 1)) (fun k => ?_) (zb0 s hs hA d (i + 1) (by omega) (by omega) ?_)
      · simp only [yo.l0]
        rw [if_pos hlt, if_pos h0, if_pos hlt, if_neg (by omega), if_neg (by omega), yg (by omega) (by omega)]
      · have e : (bytesOf s).take (i + 1).toNat = (bytesOf s).take i.toNat ++ [bt s i] := by
          have h3 := List.take_append_drop i.toNat ((bytesOf s).take (i + 1).toNat)
          rw [List.take_take, Nat.min_eq_left (by omega), List.drop_take, qM h0 hlt, show (i + 1).toNat - i.toNat = 1 by omega] at h3
          rw [← h3]
          rfl
        rw [e, List.all_append, ht, List.all_cons, h1]
        rfl
    · have hn : ¬ (bytesOf s).all digC = true := fun h => h1 (List.all_eq_true.1 h _ hmem)
      unfold secP
      rw [if_neg hn]
      rw [qN] at h1
      refine yQ fun k => ?_
      simp only [yo.l0]
      rw [if_pos hlt, if_pos h0, if_pos hlt]
      by_cases h3 : bt s i < 48
      · rw [if_pos h3]
      · rw [if_neg h3, if_pos (by omega)]
theorem xI0 (s : ByteArray) (hs : s.size ≤ 8388608) : Ev (fun k => yo.f k s) (secP (bytesOf s)) :=
  zb0 s hs (.inr trivial) s.size 0 (by omega) (by omega) (by simp)
theorem zr0 (l : List S55) (s : ByteArray) (c : Bool) (hl : l.length ≤ 1048576) (hz : ¬ szF 1048576 (l.map fun x => (x.f0, x.f1)) < 0) (hs : s.size ≤ 8388608) : Ev (fun k => yn.f k l s c) (bodyP (l.map fun x => (x.f0, x.f1)) s c) := by
  have q1 := xs0 nmTE (by omega) hz
  have q2 := xs0 nmCL (by omega) hz
  have j1 := qw0 nmTE _ (by omega) hz
  have j2 := qw0 nmCL _ (by omega) hz
  have lw : xl.f (joinG nmTE (l.map fun x => (x.f0, x.f1))) = some (lowB (joinG nmTE (l.map fun x => (x.f0, x.f1)))) := jo _ (by omega)
  have sc := xI0 (joinG nmCL (l.map fun x => (x.f0, x.f1))) (by omega)
  refine Ev.congr (fun k => by unfold yn.f; rfl) (zj (jg l nmTE hl (by omega)) (zj (jg l nmCL hl (by omega)) ?_))
  unfold bodyP
  refine zt0 (fun h1 => ?_) (fun h1 => ?_)
  · refine zj (xa fun _ => lw) ?_
    by_cases h2 : lowB (joinG nmTE (l.map fun x => (x.f0, x.f1))) = je0
    · rw [if_pos h2]
      refine zf ((xR0 _).2 h2) (zt0 (fun h3 => zO _) (fun h3 => ?_))
      exact zj (xH0 s hs) (zO _)
    · rw [if_neg h2]
      exact zi (fun h => h2 ((xR0 _).1 h)) (zO _)
  · refine zt0 (fun h2 => ?_) (fun h2 => ?_)
    · refine zj sc ?_
      have hb := zl1 (bytesOf (joinG nmCL (l.map fun x => (x.f0, x.f1))))
      generalize secP (bytesOf (joinG nmCL (l.map fun x => (x.f0, x.f1)))) = q at hb ⊢
      obtain ⟨n, b⟩ := q
      simp only at hb
      unfold lenP
      cases b with
      | false =>
        refine zi (fun h => by cases h) (yQ fun k => ?_)
        simp only [yn.j0]
        rw [if_pos (by trivial), if_neg (fun h => by cases h.1)]
      | true =>
        refine zf rfl (yQ fun k => ?_)
        simp only [yn.j0]
        by_cases h3 : n > 60
        · rw [if_pos (decide_eq_true h3), if_neg (fun h => by omega)]
        · rw [if_neg (by rw [decide_eq_false h3]; decide), if_pos (c := True ∧ n ≤ 60) ⟨trivial, by omega⟩]
          by_cases h4 : (s.size : Int) < n
          · rw [if_pos h4, if_pos h4]
          · rw [if_neg h4, if_neg h4, if_pos hb.1, if_pos (by omega)]
    · exact zt0 (fun h3 => zt0 (fun h4 => zO _) (fun h4 => zO _)) (fun h3 => zO _)
def reqQ (n : Int) (a b c : ByteArray) (F : List (ByteArray × ByteArray)) (X : ByteArray) : ByteArray × ByteArray × List (ByteArray × ByteArray) × ByteArray × Int × Int :=
  if c = httpW ∧ reqB a b (wbL F) ⟨#[]⟩ = true then (if (bodyP F X false).2.2 = 0 then (a, b, wbL F, (bodyP F X false).1, n - X.size + (bodyP F X false).2.1, 0) else (⟨#[]⟩, ⟨#[]⟩, [], ⟨#[]⟩, 0, codeP (bodyP F X false).2.2)) else (⟨#[]⟩, ⟨#[]⟩, [], ⟨#[]⟩, 0, 2)
theorem ji (u : ByteArray) (hs : u.size ≤ 8388608) (ok : okH u) (h : (headP u).2.2.2 ≠ 0) : Ev (fun k => zn.f k u) (⟨#[]⟩, ⟨#[]⟩, [], ⟨#[]⟩, 0, (headP u).2.2.2) :=
  Ev.congr (fun k => by unfold zn.f; rfl) (zj (qX u hs ok) (zi h (zO _)))
theorem qB (u : ByteArray) (hs : u.size ≤ 8388608) (ok : okH u) {a b c : ByteArray} {F : List (ByteArray × ByteArray)} {X : ByteArray} (h : headP u = ([a, b, c], F, X, 0)) :
    Ev (fun k => zn.f k u) ((reqQ u.size a b c F X).1, (reqQ u.size a b c F X).2.1, (reqQ u.size a b c F X).2.2.1.map (fun p => (⟨p.1, p.2⟩ : S55)), (reqQ u.size a b c F X).2.2.2) := by
  obtain ⟨a', b', c', e, sa, sb, sc, hF, hn, hX⟩ := qY0 (u := u) (by rw [h])
  rw [h] at e hF hn hX
  obtain ⟨rfl, rfl, rfl⟩ : a = a' ∧ b = b' ∧ c = c' := by simpa using e
  have hF : ∀ p ∈ F, p.1.size ≤ 60 ∧ p.2.size ≤ 60 := fun p hp => vz (hF p hp)
  have hn : F.length ≤ 12 := hn
  have hX : X.size + 2 ≤ u.size := hX
  have hW : ∀ p ∈ wbL F, p.1.size ≤ 60 ∧ p.2.size ≤ 60 := fun p hp => hF p (jX0 p hp)
  have hm := ym0 F
  have e1 := qX u hs ok
  rw [h] at e1
  have e2 := vm a b ((wbL F).map fun p => (⟨p.1, p.2⟩ : S55)) ⟨#[]⟩ (by omega) (by omega) (by rw [List.length_map]; omega) (xw0 hW) (by rw [jn]; exact xv0 hW (by omega))
  have e3 := zr0 (F.map fun p => (⟨p.1, p.2⟩ : S55)) X false (by rw [List.length_map]; omega) (by rw [jn]; exact xx0 hF (by omega)) (by omega)
  rw [jn] at e2 e3
  have bad : Ev (fun k => zn.j0 k u (F.map fun p => (⟨p.1, p.2⟩ : S55)) X true a b ((wbL F).map fun p => (⟨p.1, p.2⟩ : S55)) ⟨#[]⟩) (⟨#[]⟩, ⟨#[]⟩, [], ⟨#[]⟩, 0, 2) :=
    yQ fun k => by simp only [zn.j0]; rw [if_pos (by trivial)]
  refine Ev.congr (fun k => by unfold zn.f; rfl) (zj e1 ?_)
  dsimp only
  refine zf rfl (zf ?_ (zf ?_ (zj (xa fun _ => jB F (by omega)) (zf ?_ ?_))))
  · exact show (0 : Int) < 3 by decide
  · exact show (1 : Int) < 3 by decide
  · exact show (2 : Int) < 3 by decide
  unfold reqQ
  by_cases h1 : c = httpW
  · refine zf ((qX0 c).2 h1) (zj e2 ?_)
    by_cases h2 : reqB a b (wbL F) ⟨#[]⟩ = true
    · rw [if_pos ⟨h1, h2⟩, h2]
      refine yk (fun k => by simp only [zn.j0]; rfl) (zi (by decide) (zj e3 ?_))
      by_cases h3 : (bodyP F X false).2.2 = 0
      · obtain ⟨_, b1, b2⟩ := vQ0 h3
        simp only [if_pos h3]
        refine ev_eq (zO _) ?_
        rw [yg (x := (u.size : Int) - X.size) (by omega) (by omega), yg (by omega) (by omega)]
        rfl
      · simp only [if_neg h3]
        exact zj (xa fun _ => yZ0 _) (zO _)
    · rw [if_neg (fun h => h2 h.2), Bool.eq_false_iff.2 h2]
      exact bad
  · rw [if_neg (fun h => h1 h.1)]
    exact zi (fun h => h1 ((qX0 c).1 h)) bad
theorem reqQ_ok {n : Int} {a b c : ByteArray} {F : List (ByteArray × ByteArray)} {X : ByteArray} (hn : (X.size : Int) + 2 ≤ n) (h : (reqQ n a b c F X).2.2.2.2.2 = 0) :
    ∃ B z, reqQ n a b c F X = (a, b, wbL F, B, z, 0) ∧ reqB a b (wbL F) B = true ∧ 0 < z ∧ z ≤ n := by
  unfold reqQ at h ⊢
  split at h
  · rename_i h1
    rw [if_pos h1]
    split at h
    · rename_i h2
      rw [if_pos h2]
      obtain ⟨b1, b2, b3⟩ := vQ0 h2
      refine ⟨_, _, rfl, ?_, by omega, by omega⟩
      have := h1.2
      unfold reqB at this ⊢
      simp only [Bool.and_eq_true, decide_eq_true_eq] at this ⊢
      exact ⟨this.1, b1⟩
    · rename_i h2
      have h : codeP (bodyP F X false).2.2 = 0 := h
      unfold codeP at h
      rw [if_neg h2] at h
      split at h <;> cases h
  · cases h
theorem yR0 (nm : ByteArray) : ∀ A B : List (ByteArray × ByteArray), dropL nm (A ++ B) = dropL nm A ++ dropL nm B
  | [], _ => rfl
  | p :: r, B => by
    rw [List.cons_append, dropL, dropL, yR0 nm r B]
    split <;> rfl
theorem jb {l : List (ByteArray × ByteArray)} (h : qx l = true) : qa l = true ∧ l.length < 12 ∧ getL nmTE l = [] ∧ getL nmCL l = [] := by
  unfold qx at h
  simp only [Bool.and_eq_true, decide_eq_true_eq, List.isEmpty_iff] at h
  exact ⟨h.1.1.1, h.1.1.2, h.1.2, h.2⟩
theorem nm_ne : nmCL ≠ nmTE := fun h => absurd (congrArg bytesOf h) (by decide)
theorem zz1 (n : Nat) (h : n ≤ 60) : xQ (nmCL, decB (n : Int)) = true := by
  have key : ((List.range 61).all fun n => xQ (nmCL, decB (n : Int))) = true := by decide +kernel
  rw [List.all_eq_true] at key
  exact key n (List.mem_range.2 (by omega))
theorem vp {l : List (ByteArray × ByteArray)} {b : ByteArray} (h : qx l = true) (hb : b.size ≤ 60) : qa (xU l b) = true := by
  obtain ⟨h1, h2, _, _⟩ := jb h
  unfold qa xU at *
  simp only [Bool.and_eq_true, decide_eq_true_eq, List.all_append, List.length_append, List.all_cons, List.all_nil, Bool.and_true, List.length_singleton] at h1 ⊢
  exact ⟨⟨h1.1, zz1 b.size hb⟩, by omega⟩
theorem jk0 {l : List (ByteArray × ByteArray)} (h : qx l = true) : wbL l = l := by
  obtain ⟨_, _, h3, h4⟩ := jb h
  unfold wbL
  rw [vq nmCL h4, vq nmTE h3]
theorem yn0 {l : List (ByteArray × ByteArray)} (b : ByteArray) (h : qx l = true) : wbL (xU l b) = l := by
  have e : dropL nmCL (xU l b) = dropL nmCL l := by
    unfold xU
    rw [yR0]
    show dropL nmCL l ++ (if nmCL = nmCL then [] else _) = _
    rw [if_pos rfl, List.append_nil]
  have := jk0 h
  unfold wbL at this ⊢
  rw [e]
  exact this
theorem zI0 {l : List (ByteArray × ByteArray)} {b : ByteArray} (h : qx l = true) (hb : b.size ≤ 60) (s : ByteArray) (c : Bool) : bodyP (xU l b) s c = lenP ((b.size : Int), true) s := by
  obtain ⟨_, _, h3, h4⟩ := jb h
  have e1 : getL nmTE (xU l b) = [] := by
    unfold xU
    rw [zB0, h3, getL, if_neg nm_ne]
    rfl
  have e2 : getL nmCL (xU l b) = [decB (b.size : Int)] := by
    unfold xU
    rw [zB0, h4, getL, if_pos rfl]
    rfl
  have e3 : joinG nmCL (xU l b) = decB (b.size : Int) := by
    unfold joinG
    rw [e2]
    rfl
  unfold bodyP
  rw [e1, e2, e3, if_neg (by decide), if_pos (by rfl), secP_dec _ hb]
theorem zA1 {b : ByteArray} (hb : b.size ≤ 60) (T : ByteArray) : lenP ((b.size : Int), true) (b ++ T) = (b, (b.size : Int), 0) := by
  unfold lenP
  rw [if_pos ⟨rfl, by simp only; omega⟩, if_neg (by simp only [ByteArray.size_append]; omega)]
  refine Prod.ext ?_ rfl
  refine qm ?_
  show bytesOf ((b ++ T).extract 0 ((b.size : Int)).toNat) = _
  rw [xH, yP, Int.toNat_natCast, List.drop_zero, ← zw, List.take_left]
theorem len_more {b s : ByteArray} (hb : b.size ≤ 60) (hs : s.size < b.size) : lenP ((b.size : Int), true) s = (⟨#[]⟩, 0, 1) := by
  unfold lenP
  rw [if_pos ⟨rfl, by simp only; omega⟩, if_pos (by simp only; omega)]
theorem qO0 {l : List (ByteArray × ByteArray)} (h : qa l = true) : showB l = showR l ∧ ∀ p ∈ l, xQ p = true := by
  unfold showB
  rw [if_pos h]
  unfold qa at h
  rw [Bool.and_eq_true, List.all_eq_true] at h
  exact ⟨rfl, h.1⟩
theorem tok_good {l : List Int} (h : l.all tokC = true) (hr : ∀ c ∈ l, 0 ≤ c ∧ c < 256) : ∀ c ∈ l, goodC c := by
  intro c hc
  have h1 := List.all_eq_true.1 h c hc
  have key : ∀ n : Nat, n < 256 → tokC (n : Int) = true → 33 ≤ (n : Int) ∧ (n : Int) < 128 := by decide +kernel
  obtain ⟨n, rfl⟩ := Int.eq_ofNat_of_zero_le (hr c hc).1
  exact key n (by have := (hr _ hc).2; omega) h1
theorem uri_good {l : List Int} (h : uriB l = true) : ∀ c ∈ l, goodC c := by
  unfold uriB at h
  simp only [Bool.and_eq_true] at h
  intro c hc
  have h1 := of_decide_eq_true (List.all_eq_true.1 h.1 c hc)
  unfold goodC
  omega
theorem vo : ∀ c ∈ bytesOf httpW, goodC c := by unfold goodC; decide +kernel
theorem yt0 {m u : ByteArray} {l : List (ByteArray × ByteArray)} {b : ByteArray} (h : reqB m u l b = true) : (∀ c ∈ bytesOf m, goodC c) ∧ (∀ c ∈ bytesOf u, goodC c) ∧ qx l = true ∧ b.size ≤ 60 ∧ reqB m u l ⟨#[]⟩ = true := by
  obtain ⟨h3, h4⟩ := yb0 h
  have h0 := h
  unfold reqB at h0 ⊢
  simp only [Bool.and_eq_true, decide_eq_true_eq] at h0 ⊢
  have t := h0.1.1.1.1
  unfold tokB at t
  rw [Bool.and_eq_true] at t
  exact ⟨tok_good t.1 fun c hc => xJ hc, uri_good h0.1.1.2, h3, h4, h0.1, by decide⟩
theorem ys0 {m u : ByteArray} {l : List (ByteArray × ByteArray)} {b : ByteArray} (h : reqB m u l b = true) : bytesOf (reqT m u l b) = (bytesOf m ++ 32 :: (bytesOf u ++ 32 :: bytesOf httpW)) ++ 13 :: 10 :: (bytesOf (showR (xU l b)) ++ bytesOf b) := by
  obtain ⟨h3, h4⟩ := yb0 h
  unfold reqT
  rw [if_pos h, (qO0 (vp h3 h4)).1]
  have e1 : bytesOf (⟨#[32]⟩ : ByteArray) = [32] := rfl
  have e2 : bytesOf (⟨#[32, 72, 84, 84, 80, 47, 49, 46, 49, 13, 10]⟩ : ByteArray) = 32 :: (bytesOf httpW ++ [13, 10]) := rfl
  simp [yP, e1, e2]
end Go.Proofs.YtbldejnlmpajeaaGreatDoor.Pure
