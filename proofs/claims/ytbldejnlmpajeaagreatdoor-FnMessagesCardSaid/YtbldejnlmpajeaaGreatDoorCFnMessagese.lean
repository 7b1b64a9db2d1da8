/- Requests and answers are read from their texts, whatever stands behind, and of a beginning more is wanted: for all codes that are drawn from (codes of more than 2^20 bytes are let by). -/
import Derived.Test.YtbldejnlmpajeaaGreatDoorCFnMessagesd
set_option linter.unusedVariables false
set_option linter.unusedSimpArgs false
set_option maxHeartbeats 8000000
set_option maxRecDepth 100000
namespace Go.Proofs.YtbldejnlmpajeaaGreatDoor.QL
open Go.RowKit Go.Proofs.YtbldejnlmpajeaaGreatDoorW.PrintWords Go.Proofs.YtbldejnlmpajeaaGreatDoorW.PrintLast Go.Proofs.YtbldejnlmpajeaaGreatDoorW.PrintMore Go.Proofs.YtbldejnlmpajeaaGreatDoor.Aux Go.Proofs.YtbldejnlmpajeaaGreatDoor.Dom Go.Proofs.YtbldejnlmpajeaaGreatDoor.Ext Go.Proofs.YtbldejnlmpajeaaGreatDoor.Glob
attribute [local go_sem] max2_int min2_int max_two min_two max_three min_three max_four min_four
def yu.f (k : Nat) (l0 : List Int) : Option (Int × (List (S55)) × ByteArray) := (yc.f k l0).bind fun bt102 => ((yJ.f k bt102.1 bt102.2.1 bt102.2.2).bind fun bt106 => ((zp.f bt102.1 bt106.2.2.2.1 bt106.2.2.2.2 8).bind fun bt114 => (if bt114.1 = 0 then ((xf.f bt102.1 bt114.2.1 bt114.2.2 (([199, 600, 599, 100] : List Int))).bind fun bt120 => (some (bt120.1, bt106.2.1, bt106.2.2.1))) else (if bt114.1 = 1 then ((yt.f k bt102.1 bt114.2.1 bt114.2.2).bind fun bt123 => (some (bt106.1, bt123.1, bt106.2.2.1))) else (if bt114.1 = 2 then (some (bt106.1, bt106.2.1, (⟨#[120]⟩ : ByteArray))) else (some (bt106.1, bt106.2.1, bt106.2.2.1)))))))
theorem yu.mono : ∀ a0 k, LeO (yu.f k a0) (yu.f (k + 1) a0) := by
 intro a0 k
 unfold yu.f
 exact mq3 yc.mono yt.mono yJ.mono
theorem yu.calls (k : Nat) (A0 : Option Addr) (c0 : Nat) (l0 : List Int) (r1 : Int) (r2 : List (S55)) (r3 : ByteArray) (w : World) (hr0 : Kd.C (Kd.int .u8) w A0 l0.length l0) (hc0 : l0.length ≤ c0) (h : yu.f k l0 = some (r1, r2, r3)) :
  Calls Tryz.prog 28 #[.slice A0 l0.length c0] w fun e w' => ∃ v1_ : Value, e = .returned (.agg #[.int .i64 r1, v1_, .string r3]) ∧ Kd.R k55 55 w' w.heap.size (fun _ => True) v1_ r2 ∧ Below w.heap.size w w' := by
 have hu35 := Tryz.underlying35
 have HR0 := ak hr0
 have HC0 := ak hc0
 clear hr0 hc0
 have HB := ak (Below.refl w.heap.size w)
 have H := h
 unfold yu.f at H
 clear h
 replace H := ob H
 obtain ⟨⟨t102, t103, t104⟩, A2, H⟩ := H
 try dsimp only at H
 replace H := ob H
 obtain ⟨⟨t106, t107, t110, t111, t112⟩, A3, H⟩ := H
 try dsimp only at H
 replace H := ob H
 obtain ⟨⟨t114, t115, t116⟩, A4, H⟩ := H
 try dsimp only at H
 replace H := se H
 rcases H with ⟨c5b0, c5b1, H⟩ | ⟨c5, c5b0, c5b1, H⟩
 ·obtain ⟨y117, hy117⟩ : ∃ y_ : List Int, y_ = (([199, 600, 599, 100] : List Int)) := ⟨_, rfl⟩
  replace H : ((xf.f t102 t115 t116 y117).bind fun bt120 => (some (bt120.1, t107, t110))) = some (r1, r2, r3) := rhq hy117
  have Ny117 := ak hy117
  clear hy117
  replace H := ob H
  obtain ⟨⟨t120, t121, t122⟩, A6, H⟩ := H
  try dsimp only at H
  obtain ⟨rfl, rfl, rfl⟩ := oi3 H
  go_enter Tryz.func28, Tryz.ntmps28
  go_wp2_with (first | ((with_reducible refine zl (N := 2) rfl ?_); refine bx 2 #[.int .i64 0, .slice none 0 0, .string ⟨#[]⟩] 35 ?_; intro gb101 hg w7 hbox hb; have BK101 := ak (hbox); have GW101 := ak ((by rw [hg]; exact (zd bq) : w.heap.size ≤ gb101)); have GE101 := GW101; replace HB := ak (zb bq hb); clear hb hbox hg) | ((with_reducible refine za (f := 35) rfl ?_); refine cl 6 rfl Tryz.func35 #[.slice A0 l0.length c0] (yc.calls k _ _ l0 t102 t103 t104 w _ ?side1 ?side2 ?side3 A2.out) ?_; (case side1 => exact bq1 GE101.out); (case side2 => exact HR0.out); (case side3 => exact HC0.out); rintro e w8 ⟨g105, rfl, hi, hb, hb2⟩; refine ⟨_, rfl, ?_⟩; have HI105 := ak (hi); have NB105_101 := ak (xR hi (ze (blq BK101.out) hb2) (by decide)); have NB101_105 := ak NB105_101.out.symm; replace BK101 := ak (ze (blq BK101.out) hb2); replace HB := ak (hb); (try clear hb hb2 hi)) | ((with_reducible refine za (f := 60) rfl ?_); refine cl 8 rfl Tryz.func60 #[.pointer (some ⟨g105, 0, none⟩)] (yJ.calls k g105 t102 t103 t104 t106 t107 t110 t111 t112 w _ ?side1 ?side2 A3.out) ?_; (case side1 => exact zS HI105.out NB105_101.out); (case side2 => exact bq2 (zc HI105.out) GE101.out); rintro e w9 ⟨v108, rfl, ho0, hi, hb, hk⟩; refine ⟨_, rfl, ?_⟩; have HO109 := ak (Kd.R_lower ho0 (zd (bq2 (zc HI105.out) GE101.out))); replace BK101 := ak (KeepBut.blk hk (blq BK101.out) NB101_105.out (by simp)); replace HB := ak (hb); replace HI105 := ak (hi); (try clear hb hk hi ho0)) | ((with_reducible refine zl (N := 4) rfl ?_); refine bx 4 #[.int .i64 0, .slice none 0 0, .string ⟨#[]⟩] 35 ?_; intro gb113 hg w10 hbox hb; have BK113 := ak (hbox); have GW113 := ak ((by rw [hg]; exact (zd (bq2 (zc HI105.out) GE101.out)) : w.heap.size ≤ gb113)); have GE113 := GW113; have NB101_113 := ak ((by rw [hg]; exact Nat.ne_of_lt (xn (blq BK101.out)) : gb101 ≠ gb113)); have NB113_101 := ak NB101_113.out.symm; have NB105_113 := ak ((by rw [hg]; exact Nat.ne_of_lt (xE (show IsS88 w _ g105 t102 t111 t112 from zS HI105.out NB105_101.out)) : g105 ≠ gb113)); have NB113_105 := ak NB105_113.out.symm; replace HO109 := ak (Kd.R_below (rdq HO109.out) hb); replace BK101 := ak (ze (blq BK101.out) hb); replace HB := ak (zb (bq2 (zc HI105.out) GE101.out) hb); replace HI105 := ak (IsS88.below (zS HI105.out NB105_101.out) hb); clear hb hbox hg; have hnb11 := NB113_101.out; have hnc11 := NB101_113.out; have hnb12 := NB113_105.out; have hnc12 := NB105_113.out; obtain ⟨hcz13_0, hcz13_1, hcz13_2, hfz13_0, hfz13_1, hfz13_2⟩ := blk3 BK113.out; obtain ⟨Ao14, co14, eo14⟩ := Kd.R_slice HO109.out; subst eo14) | ((with_reducible refine za (f := 38) rfl ?_); refine cl 10 rfl Tryz.func38 #[.pointer (some ⟨g105, 0, none⟩), .int .i64 8] (zp.calls g105 t102 t111 t112 8 t114 t115 t116 w _ ?side1 ?side2 A4.out) ?_; (case side1 => exact yU HI105.out NB105_101.out NB105_113.out); (case side2 => exact bq3 (zc HI105.out) GE101.out GE113.out); rintro e w15 ⟨rfl, hi, hb, hk⟩; refine ⟨_, rfl, ?_⟩; replace BK101 := ak (KeepBut.blk hk (g' := gb101) (o := .cells #[.int .i64 0, .slice none 0 0, .string ⟨#[]⟩] 35 (0, 0)) (blf1 BK101.out NB101_113.out) NB101_105.out (by simp)); replace HO109 := ak (Kd.R_mono (Kd.R_keep (IsS88.apart (show IsS88 w _ g105 t102 t111 t112 from yU HI105.out NB105_101.out NB105_113.out) (rfd HO109.out BK113.out) (by decide)) hk (fun _ h => h.2)) (fun _ h => h.1)); replace BK113 := ak (KeepBut.blk hk (g' := gb113) (o := .cells #[.int .i64 t106, .slice Ao14 t107.length co14, .string t110] 35 (0, 0)) (blp0 BK113.out) NB113_105.out (by simp)); replace HB := ak (hb); replace HI105 := ak (hi); (try clear hb hk hi)) | ((with_reducible refine zl (N := 14) rfl ?_); refine rI .i64 3 14 Ny117.out ?_; intro v118 w16 ho17 hb; have HO119 := ak (Kd.R_lower ho17 (zd (bq3 (zc HI105.out) GE101.out GE113.out))); replace HO109 := ak (Kd.R_below (rdq HO109.out) hb); replace BK101 := ak (ze (blq BK101.out) hb); replace BK113 := ak (ze (blq BK113.out) hb); replace HB := ak (zb (bq3 (zc HI105.out) GE101.out GE113.out) hb); replace HI105 := ak (IsS88.below (yU HI105.out NB105_101.out NB105_113.out) hb); clear hb ho17; obtain ⟨Ao18, co18, eo18⟩ := Kd.R_slice HO119.out; subst eo18) | ((with_reducible refine za (f := 61) rfl ?_); refine cl 15 rfl Tryz.func61 #[.pointer (some ⟨g105, 0, none⟩), .slice Ao18 y117.length co18] (xf.calls g105 t102 t115 t116 _ _ y117 t120 t121 t122 w _ ?side1 ?side2 ?side3 ?side4 ?side5 A6.out) ?_; (case side1 => exact yU HI105.out NB105_101.out NB105_113.out); (case side2 => exact bq3 (zc HI105.out) GE101.out GE113.out); (case side3 => exact cq (Kd.R_reads' HO119.out).2.2); (case side4 => exact (Kd.R_reads' HO119.out).2.1); (case side5 => exact xD (yp HI105.out HO119.out (by decide))); rintro e w19 ⟨rfl, hi, hb, hk⟩; refine ⟨_, rfl, ?_⟩; replace BK101 := ak (KeepBut.blk hk (blq BK101.out) NB101_105.out (by simp)); replace HO109 := ak (Kd.R_mono (Kd.R_keep (IsS88.apart (show IsS88 w _ g105 t102 t115 t116 from yU HI105.out NB105_101.out NB105_113.out) (rdq HO109.out) (by decide)) hk (fun _ h => h.2)) (fun _ h => h.1)); replace BK113 := ak (KeepBut.blk hk (blq BK113.out) NB113_105.out (by simp)); replace HO119 := ak (Kd.R_mono (Kd.R_keep (IsS88.apart (show IsS88 w _ g105 t102 t115 t116 from yU HI105.out NB105_101.out NB105_113.out) (rdq HO119.out) (by decide)) hk (fun _ h => h.2)) (fun _ h => h.1)); replace HB := ak (hb); replace HI105 := ak (hi); (try clear hb hk hi); obtain ⟨hcz20_0, hcz20_1, hcz20_2, hfz20_0, hfz20_1, hfz20_2⟩ := blk3 BK113.out; have hnb21 := NB101_105.out; have hnc21 := NB105_101.out; obtain ⟨hcz22_0, hcz22_1, hcz22_2, hfz22_0, hfz22_1, hfz22_2⟩ := blk3 BK101.out))
  refine bodyPost_ret (results_cell_row rfl _ _ gb101 35 #[.int .i64 t120, .slice Ao14 t107.length co14, .string t110] (0, 0) _ rfl (blp1 BK101.out NB101_113.out) Tryz.underlying35 rfl (by kernel_rfl)) rfl ?_
  exact ⟨_, rv, by (with_reducible repeat (first | apply Kd.R_alloc | apply Kd.R_drewN | apply Kd.R_drew)); exact Kd.R_mono (Kd.R_far (p := ⟨gb101, 2, none⟩) (Kd.R_far (p := ⟨gb101, 1, none⟩) (Kd.R_far (p := ⟨gb101, 0, none⟩) (Kd.R_far (p := ⟨gb113, 0, none⟩) (Kd.R_types (Kd.R_types HO109.out BK113.out (by decide)) BK101.out (by decide)) (fun _ hk => hk.1.2) (.int .i64 t120)) (fun _ hk => hk.2) (.int .i64 t120)) (fun _ hk => hk.2) (.slice Ao14 t107.length co14)) (fun _ hk => hk.2) (.string t110)) (fun _ hk => trivial), bq3 (zc HI105.out) GE101.out GE113.out⟩
 ·replace H := se H
  rcases H with ⟨c23b0, c23b1, H⟩ | ⟨c23, c23b0, c23b1, H⟩
  ·replace H := ob H
   obtain ⟨⟨t123, t126, t127⟩, A24, H⟩ := H
   try dsimp only at H
   obtain ⟨rfl, rfl, rfl⟩ := oi3 H
   go_enter Tryz.func28, Tryz.ntmps28
   go_wp2_with (first | ((with_reducible refine zl (N := 2) rfl ?_); refine bx 2 #[.int .i64 0, .slice none 0 0, .string ⟨#[]⟩] 35 ?_; intro gb101 hg w25 hbox hb; have BK101 := ak (hbox); have GW101 := ak ((by rw [hg]; exact (zd bq) : w.heap.size ≤ gb101)); have GE101 := GW101; replace HB := ak (zb bq hb); clear hb hbox hg) | ((with_reducible refine za (f := 35) rfl ?_); refine cl 6 rfl Tryz.func35 #[.slice A0 l0.length c0] (yc.calls k _ _ l0 t102 t103 t104 w _ ?side1 ?side2 ?side3 A2.out) ?_; (case side1 => exact bq1 GE101.out); (case side2 => exact HR0.out); (case side3 => exact HC0.out); rintro e w26 ⟨g105, rfl, hi, hb, hb2⟩; refine ⟨_, rfl, ?_⟩; have HI105 := ak (hi); have NB105_101 := ak (xR hi (ze (blq BK101.out) hb2) (by decide)); have NB101_105 := ak NB105_101.out.symm; replace BK101 := ak (ze (blq BK101.out) hb2); replace HB := ak (hb); (try clear hb hb2 hi)) | ((with_reducible refine za (f := 60) rfl ?_); refine cl 8 rfl Tryz.func60 #[.pointer (some ⟨g105, 0, none⟩)] (yJ.calls k g105 t102 t103 t104 t106 t107 t110 t111 t112 w _ ?side1 ?side2 A3.out) ?_; (case side1 => exact zS HI105.out NB105_101.out); (case side2 => exact bq2 (zc HI105.out) GE101.out); rintro e w27 ⟨v108, rfl, ho0, hi, hb, hk⟩; refine ⟨_, rfl, ?_⟩; have HO109 := ak (Kd.R_lower ho0 (zd (bq2 (zc HI105.out) GE101.out))); replace BK101 := ak (KeepBut.blk hk (blq BK101.out) NB101_105.out (by simp)); replace HB := ak (hb); replace HI105 := ak (hi); (try clear hb hk hi ho0)) | ((with_reducible refine zl (N := 4) rfl ?_); refine bx 4 #[.int .i64 0, .slice none 0 0, .string ⟨#[]⟩] 35 ?_; intro gb113 hg w28 hbox hb; have BK113 := ak (hbox); have GW113 := ak ((by rw [hg]; exact (zd (bq2 (zc HI105.out) GE101.out)) : w.heap.size ≤ gb113)); have GE113 := GW113; have NB101_113 := ak ((by rw [hg]; exact Nat.ne_of_lt (xn (blq BK101.out)) : gb101 ≠ gb113)); have NB113_101 := ak NB101_113.out.symm; have NB105_113 := ak ((by rw [hg]; exact Nat.ne_of_lt (xE (show IsS88 w _ g105 t102 t111 t112 from zS HI105.out NB105_101.out)) : g105 ≠ gb113)); have NB113_105 := ak NB105_113.out.symm; replace HO109 := ak (Kd.R_below (rdq HO109.out) hb); replace BK101 := ak (ze (blq BK101.out) hb); replace HB := ak (zb (bq2 (zc HI105.out) GE101.out) hb); replace HI105 := ak (IsS88.below (zS HI105.out NB105_101.out) hb); clear hb hbox hg; have hnb29 := NB113_101.out; have hnc29 := NB101_113.out; have hnb30 := NB113_105.out; have hnc30 := NB105_113.out; obtain ⟨hcz31_0, hcz31_1, hcz31_2, hfz31_0, hfz31_1, hfz31_2⟩ := blk3 BK113.out; obtain ⟨Ao32, co32, eo32⟩ := Kd.R_slice HO109.out; subst eo32) | ((with_reducible refine za (f := 38) rfl ?_); refine cl 10 rfl Tryz.func38 #[.pointer (some ⟨g105, 0, none⟩), .int .i64 8] (zp.calls g105 t102 t111 t112 8 t114 t115 t116 w _ ?side1 ?side2 A4.out) ?_; (case side1 => exact yU HI105.out NB105_101.out NB105_113.out); (case side2 => exact bq3 (zc HI105.out) GE101.out GE113.out); rintro e w33 ⟨rfl, hi, hb, hk⟩; refine ⟨_, rfl, ?_⟩; replace BK101 := ak (KeepBut.blk hk (g' := gb101) (o := .cells #[.int .i64 0, .slice none 0 0, .string ⟨#[]⟩] 35 (0, 0)) (blf1 BK101.out NB101_113.out) NB101_105.out (by simp)); replace HO109 := ak (Kd.R_mono (Kd.R_keep (IsS88.apart (show IsS88 w _ g105 t102 t111 t112 from yU HI105.out NB105_101.out NB105_113.out) (rfd HO109.out BK113.out) (by decide)) hk (fun _ h => h.2)) (fun _ h => h.1)); replace BK113 := ak (KeepBut.blk hk (g' := gb113) (o := .cells #[.int .i64 t106, .slice Ao32 t107.length co32, .string t110] 35 (0, 0)) (blp0 BK113.out) NB113_105.out (by simp)); replace HB := ak (hb); replace HI105 := ak (hi); (try clear hb hk hi)) | ((with_reducible refine za (f := 42) rfl ?_); refine cl 20 rfl Tryz.func42 #[.pointer (some ⟨g105, 0, none⟩)] (yt.calls k g105 t102 t115 t116 t123 t126 t127 w _ ?side1 ?side2 A24.out) ?_; (case side1 => exact yU HI105.out NB105_101.out NB105_113.out); (case side2 => exact bq3 (zc HI105.out) GE101.out GE113.out); rintro e w34 ⟨v124, rfl, ho0, hi, hb, hk⟩; refine ⟨_, rfl, ?_⟩; have HO125 := ak (Kd.R_lower (Kd.R_new' ho0 (Kd.R_lt (rdq HO109.out))) (zd (bq3 (zc HI105.out) GE101.out GE113.out))); replace BK101 := ak (KeepBut.blk hk (blq BK101.out) NB101_105.out (by simp)); replace HO109 := ak (Kd.R_mono (Kd.R_told (Kd.R_oldK (IsS88.apart (show IsS88 w _ g105 t102 t115 t116 from yU HI105.out NB105_101.out NB105_113.out) (rdq HO109.out) (by decide)) hk) (Kd.R_base ho0)) (fun _ h_ => h_.1)); replace BK113 := ak (KeepBut.blk hk (blq BK113.out) NB113_105.out (by simp)); replace HB := ak (hb); replace HI105 := ak (hi); (try clear hb hk hi ho0); obtain ⟨Ao35, co35, eo35⟩ := Kd.R_slice HO125.out; subst eo35; obtain ⟨hcz36_0, hcz36_1, hcz36_2, hfz36_0, hfz36_1, hfz36_2⟩ := blk3 BK113.out; have hnb37 := NB101_105.out; have hnc37 := NB105_101.out; obtain ⟨hcz38_0, hcz38_1, hcz38_2, hfz38_0, hfz38_1, hfz38_2⟩ := blk3 BK101.out))
   refine bodyPost_ret (results_cell_row rfl _ _ gb101 35 #[.int .i64 t106, .slice Ao35 t123.length co35, .string t110] (0, 0) _ rfl (blp1 BK101.out NB101_113.out) Tryz.underlying35 rfl (by kernel_rfl)) rfl ?_
   exact ⟨_, rv, by (with_reducible repeat (first | apply Kd.R_alloc | apply Kd.R_drewN | apply Kd.R_drew)); exact Kd.R_mono (Kd.R_far (p := ⟨gb101, 2, none⟩) (Kd.R_far (p := ⟨gb101, 1, none⟩) (Kd.R_far (p := ⟨gb101, 0, none⟩) (Kd.R_far (p := ⟨gb113, 1, none⟩) (Kd.R_types (Kd.R_types HO125.out BK113.out (by decide)) BK101.out (by decide)) (fun _ hk => hk.1.2) (.slice Ao35 t123.length co35)) (fun _ hk => hk.2) (.int .i64 t106)) (fun _ hk => hk.2) (.slice Ao35 t123.length co35)) (fun _ hk => hk.2) (.string t110)) (fun _ hk => trivial), bq3 (zc HI105.out) GE101.out GE113.out⟩
  ·replace H := se H
   rcases H with ⟨c39b0, c39b1, H⟩ | ⟨c39, c39b0, c39b1, H⟩
   ·obtain ⟨rfl, rfl, rfl⟩ := oi3 H
    go_enter Tryz.func28, Tryz.ntmps28
    go_wp2_with (first | ((with_reducible refine zl (N := 2) rfl ?_); refine bx 2 #[.int .i64 0, .slice none 0 0, .string ⟨#[]⟩] 35 ?_; intro gb101 hg w40 hbox hb; have BK101 := ak (hbox); have GW101 := ak ((by rw [hg]; exact (zd bq) : w.heap.size ≤ gb101)); have GE101 := GW101; replace HB := ak (zb bq hb); clear hb hbox hg) | ((with_reducible refine za (f := 35) rfl ?_); refine cl 6 rfl Tryz.func35 #[.slice A0 l0.length c0] (yc.calls k _ _ l0 t102 t103 t104 w _ ?side1 ?side2 ?side3 A2.out) ?_; (case side1 => exact bq1 GE101.out); (case side2 => exact HR0.out); (case side3 => exact HC0.out); rintro e w41 ⟨g105, rfl, hi, hb, hb2⟩; refine ⟨_, rfl, ?_⟩; have HI105 := ak (hi); have NB105_101 := ak (xR hi (ze (blq BK101.out) hb2) (by decide)); have NB101_105 := ak NB105_101.out.symm; replace BK101 := ak (ze (blq BK101.out) hb2); replace HB := ak (hb); (try clear hb hb2 hi)) | ((with_reducible refine za (f := 60) rfl ?_); refine cl 8 rfl Tryz.func60 #[.pointer (some ⟨g105, 0, none⟩)] (yJ.calls k g105 t102 t103 t104 t106 t107 t110 t111 t112 w _ ?side1 ?side2 A3.out) ?_; (case side1 => exact zS HI105.out NB105_101.out); (case side2 => exact bq2 (zc HI105.out) GE101.out); rintro e w42 ⟨v108, rfl, ho0, hi, hb, hk⟩; refine ⟨_, rfl, ?_⟩; have HO109 := ak (Kd.R_lower ho0 (zd (bq2 (zc HI105.out) GE101.out))); replace BK101 := ak (KeepBut.blk hk (blq BK101.out) NB101_105.out (by simp)); replace HB := ak (hb); replace HI105 := ak (hi); (try clear hb hk hi ho0)) | ((with_reducible refine zl (N := 4) rfl ?_); refine bx 4 #[.int .i64 0, .slice none 0 0, .string ⟨#[]⟩] 35 ?_; intro gb113 hg w43 hbox hb; have BK113 := ak (hbox); have GW113 := ak ((by rw [hg]; exact (zd (bq2 (zc HI105.out) GE101.out)) : w.heap.size ≤ gb113)); have GE113 := GW113; have NB101_113 := ak ((by rw [hg]; exact Nat.ne_of_lt (xn (blq BK101.out)) : gb101 ≠ gb113)); have NB113_101 := ak NB101_113.out.symm; have NB105_113 := ak ((by rw [hg]; exact Nat.ne_of_lt (xE (show IsS88 w _ g105 t102 t111 t112 from zS HI105.out NB105_101.out)) : g105 ≠ gb113)); have NB113_105 := ak NB105_113.out.symm; replace HO109 := ak (Kd.R_below (rdq HO109.out) hb); replace BK101 := ak (ze (blq BK101.out) hb); replace HB := ak (zb (bq2 (zc HI105.out) GE101.out) hb); replace HI105 := ak (IsS88.below (zS HI105.out NB105_101.out) hb); clear hb hbox hg; have hnb44 := NB113_101.out; have hnc44 := NB101_113.out; have hnb45 := NB113_105.out; have hnc45 := NB105_113.out; obtain ⟨hcz46_0, hcz46_1, hcz46_2, hfz46_0, hfz46_1, hfz46_2⟩ := blk3 BK113.out; obtain ⟨Ao47, co47, eo47⟩ := Kd.R_slice HO109.out; subst eo47) | ((with_reducible refine za (f := 38) rfl ?_); refine cl 10 rfl Tryz.func38 #[.pointer (some ⟨g105, 0, none⟩), .int .i64 8] (zp.calls g105 t102 t111 t112 8 t114 t115 t116 w _ ?side1 ?side2 A4.out) ?_; (case side1 => exact yU HI105.out NB105_101.out NB105_113.out); (case side2 => exact bq3 (zc HI105.out) GE101.out GE113.out); rintro e w48 ⟨rfl, hi, hb, hk⟩; refine ⟨_, rfl, ?_⟩; replace BK101 := ak (KeepBut.blk hk (g' := gb101) (o := .cells #[.int .i64 0, .slice none 0 0, .string ⟨#[]⟩] 35 (0, 0)) (blf1 BK101.out NB101_113.out) NB101_105.out (by simp)); replace HO109 := ak (Kd.R_mono (Kd.R_keep (IsS88.apart (show IsS88 w _ g105 t102 t111 t112 from yU HI105.out NB105_101.out NB105_113.out) (rfd HO109.out BK113.out) (by decide)) hk (fun _ h => h.2)) (fun _ h => h.1)); replace BK113 := ak (KeepBut.blk hk (g' := gb113) (o := .cells #[.int .i64 t106, .slice Ao47 t107.length co47, .string t110] 35 (0, 0)) (blp0 BK113.out) NB113_105.out (by simp)); replace HB := ak (hb); replace HI105 := ak (hi); (try clear hb hk hi); obtain ⟨hcz49_0, hcz49_1, hcz49_2, hfz49_0, hfz49_1, hfz49_2⟩ := blk3 BK113.out; have hnb50 := NB101_105.out; have hnc50 := NB105_101.out; obtain ⟨hcz51_0, hcz51_1, hcz51_2, hfz51_0, hfz51_1, hfz51_2⟩ := blk3 BK101.out))
    refine bodyPost_ret (results_cell_row rfl _ _ gb101 35 #[.int .i64 t106, .slice Ao47 t107.length co47, .string ⟨#[120]⟩] (0, 0) _ rfl (blp1 BK101.out NB101_113.out) Tryz.underlying35 rfl (by kernel_rfl)) rfl ?_
    exact ⟨_, rv, by (with_reducible repeat (first | apply Kd.R_alloc | apply Kd.R_drewN | apply Kd.R_drew)); exact Kd.R_mono (Kd.R_far (p := ⟨gb101, 2, none⟩) (Kd.R_far (p := ⟨gb101, 1, none⟩) (Kd.R_far (p := ⟨gb101, 0, none⟩) (Kd.R_far (p := ⟨gb113, 2, none⟩) (Kd.R_types (Kd.R_types HO109.out BK113.out (by decide)) BK101.out (by decide)) (fun _ hk => hk.1.2) (.string ⟨#[120]⟩)) (fun _ hk => hk.2) (.int .i64 t106)) (fun _ hk => hk.2) (.slice Ao47 t107.length co47)) (fun _ hk => hk.2) (.string ⟨#[120]⟩)) (fun _ hk => trivial), bq3 (zc HI105.out) GE101.out GE113.out⟩
   ·obtain ⟨rfl, rfl, rfl⟩ := oi3 H
    go_enter Tryz.func28, Tryz.ntmps28
    go_wp2_with (first | ((with_reducible refine zl (N := 2) rfl ?_); refine bx 2 #[.int .i64 0, .slice none 0 0, .string ⟨#[]⟩] 35 ?_; intro gb101 hg w52 hbox hb; have BK101 := ak (hbox); have GW101 := ak ((by rw [hg]; exact (zd bq) : w.heap.size ≤ gb101)); have GE101 := GW101; replace HB := ak (zb bq hb); clear hb hbox hg) | ((with_reducible refine za (f := 35) rfl ?_); refine cl 6 rfl Tryz.func35 #[.slice A0 l0.length c0] (yc.calls k _ _ l0 t102 t103 t104 w _ ?side1 ?side2 ?side3 A2.out) ?_; (case side1 => exact bq1 GE101.out); (case side2 => exact HR0.out); (case side3 => exact HC0.out); rintro e w53 ⟨g105, rfl, hi, hb, hb2⟩; refine ⟨_, rfl, ?_⟩; have HI105 := ak (hi); have NB105_101 := ak (xR hi (ze (blq BK101.out) hb2) (by decide)); have NB101_105 := ak NB105_101.out.symm; replace BK101 := ak (ze (blq BK101.out) hb2); replace HB := ak (hb); (try clear hb hb2 hi)) | ((with_reducible refine za (f := 60) rfl ?_); refine cl 8 rfl Tryz.func60 #[.pointer (some ⟨g105, 0, none⟩)] (yJ.calls k g105 t102 t103 t104 t106 t107 t110 t111 t112 w _ ?side1 ?side2 A3.out) ?_; (case side1 => exact zS HI105.out NB105_101.out); (case side2 => exact bq2 (zc HI105.out) GE101.out); rintro e w54 ⟨v108, rfl, ho0, hi, hb, hk⟩; refine ⟨_, rfl, ?_⟩; have HO109 := ak (Kd.R_lower ho0 (zd (bq2 (zc HI105.out) GE101.out))); replace BK101 := ak (KeepBut.blk hk (blq BK101.out) NB101_105.out (by simp)); replace HB := ak (hb); replace HI105 := ak (hi); (try clear hb hk hi ho0)) | ((with_reducible refine zl (N := 4) rfl ?_); refine bx 4 #[.int .i64 0, .slice none 0 0, .string ⟨#[]⟩] 35 ?_; intro gb113 hg w55 hbox hb; have BK113 := ak (hbox); have GW113 := ak ((by rw [hg]; exact (zd (bq2 (zc HI105.out) GE101.out)) : w.heap.size ≤ gb113)); have GE113 := GW113; have NB101_113 := ak ((by rw [hg]; exact Nat.ne_of_lt (xn (blq BK101.out)) : gb101 ≠ gb113)); have NB113_101 := ak NB101_113.out.symm; have NB105_113 := ak ((by rw [hg]; exact Nat.ne_of_lt (xE (show IsS88 w _ g105 t102 t111 t112 from zS HI105.out NB105_101.out)) : g105 ≠ gb113)); have NB113_105 := ak NB105_113.out.symm; replace HO109 := ak (Kd.R_below (rdq HO109.out) hb); replace BK101 := ak (ze (blq BK101.out) hb); replace HB := ak (zb (bq2 (zc HI105.out) GE101.out) hb); replace HI105 := ak (IsS88.below (zS HI105.out NB105_101.out) hb); clear hb hbox hg; have hnb56 := NB113_101.out; have hnc56 := NB101_113.out; have hnb57 := NB113_105.out; have hnc57 := NB105_113.out; obtain ⟨hcz58_0, hcz58_1, hcz58_2, hfz58_0, hfz58_1, hfz58_2⟩ := blk3 BK113.out; obtain ⟨Ao59, co59, eo59⟩ := Kd.R_slice HO109.out; subst eo59) | ((with_reducible refine za (f := 38) rfl ?_); refine cl 10 rfl Tryz.func38 #[.pointer (some ⟨g105, 0, none⟩), .int .i64 8] (zp.calls g105 t102 t111 t112 8 t114 t115 t116 w _ ?side1 ?side2 A4.out) ?_; (case side1 => exact yU HI105.out NB105_101.out NB105_113.out); (case side2 => exact bq3 (zc HI105.out) GE101.out GE113.out); rintro e w60 ⟨rfl, hi, hb, hk⟩; refine ⟨_, rfl, ?_⟩; replace BK101 := ak (KeepBut.blk hk (g' := gb101) (o := .cells #[.int .i64 0, .slice none 0 0, .string ⟨#[]⟩] 35 (0, 0)) (blf1 BK101.out NB101_113.out) NB101_105.out (by simp)); replace HO109 := ak (Kd.R_mono (Kd.R_keep (IsS88.apart (show IsS88 w _ g105 t102 t111 t112 from yU HI105.out NB105_101.out NB105_113.out) (rfd HO109.out BK113.out) (by decide)) hk (fun _ h => h.2)) (fun _ h => h.1)); replace BK113 := ak (KeepBut.blk hk (g' := gb113) (o := .cells #[.int .i64 t106, .slice Ao59 t107.length co59, .string t110] 35 (0, 0)) (blp0 BK113.out) NB113_105.out (by simp)); replace HB := ak (hb); replace HI105 := ak (hi); (try clear hb hk hi); obtain ⟨hcz61_0, hcz61_1, hcz61_2, hfz61_0, hfz61_1, hfz61_2⟩ := blk3 BK113.out; have hnb62 := NB101_105.out; have hnc62 := NB105_101.out; obtain ⟨hcz63_0, hcz63_1, hcz63_2, hfz63_0, hfz63_1, hfz63_2⟩ := blk3 BK101.out))
    refine bodyPost_ret (results_cell_row rfl _ _ gb101 35 #[.int .i64 t106, .slice Ao59 t107.length co59, .string t110] (0, 0) _ rfl (blp0 BK101.out) Tryz.underlying35 rfl (by kernel_rfl)) rfl ?_
    exact ⟨_, rv, by (with_reducible repeat (first | apply Kd.R_alloc | apply Kd.R_drewN | apply Kd.R_drew)); exact Kd.R_mono (Kd.R_far (p := ⟨gb101, 2, none⟩) (Kd.R_far (p := ⟨gb101, 1, none⟩) (Kd.R_far (p := ⟨gb101, 0, none⟩) (Kd.R_types HO109.out BK101.out (by decide)) (fun _ hk => hk.2) (.int .i64 t106)) (fun _ hk => hk.2) (.slice Ao59 t107.length co59)) (fun _ hk => hk.2) (.string t110)) (fun _ hk => trivial), bq3 (zc HI105.out) GE101.out GE113.out⟩
def ym.f (k : Nat) (l0 : List Int) : Option (Int × (List (S55)) × ByteArray) := (yu.f k l0).bind fun bt102 => (some (bt102.1, bt102.2.1, bt102.2.2))
theorem ym.mono : ∀ a0 k, LeO (ym.f k a0) (ym.f (k + 1) a0) := by
 intro a0 k
 unfold ym.f
 exact mq1 yu.mono
theorem ym.calls (k : Nat) (A0 : Option Addr) (c0 : Nat) (l0 : List Int) (r1 : Int) (r2 : List (S55)) (r3 : ByteArray) (w : World) (hr0 : Kd.C (Kd.int .u8) w A0 l0.length l0) (hc0 : l0.length ≤ c0) (h : ym.f k l0 = some (r1, r2, r3)) :
  Calls Tryz.prog 11 #[.slice A0 l0.length c0] w fun e w' => ∃ v1_ : Value, e = .returned (.agg #[.int .i64 r1, v1_, .string r3]) ∧ Kd.R k55 55 w' w.heap.size (fun _ => True) v1_ r2 ∧ Below w.heap.size w w' := by
 have hu35 := Tryz.underlying35
 have HR0 := ak hr0
 have HC0 := ak hc0
 clear hr0 hc0
 have HB := ak (Below.refl w.heap.size w)
 have H := h
 unfold ym.f at H
 clear h
 replace H := ob H
 obtain ⟨⟨t102, t103, t106⟩, A2, H⟩ := H
 try dsimp only at H
 obtain ⟨rfl, rfl, rfl⟩ := oi3 H
 go_enter Tryz.func11, Tryz.ntmps11
 go_wp2_with (first | ((with_reducible refine zl (N := 2) rfl ?_); refine bx 2 #[.int .i64 0, .slice none 0 0, .string ⟨#[]⟩] 35 ?_; intro gb101 hg w3 hbox hb; have BK101 := ak (hbox); have GW101 := ak ((by rw [hg]; exact (zd bq) : w.heap.size ≤ gb101)); have GE101 := GW101; replace HB := ak (zb bq hb); clear hb hbox hg) | ((with_reducible refine za (f := 28) rfl ?_); refine cl 4 rfl Tryz.func28 #[.slice A0 l0.length c0] (yu.calls k _ _ l0 t102 t103 t106 _ ?side1 ?side2 A2.out) ?_; (case side1 => repeat (first | exact (Kd.C_below HR0.out HB.out) | (with_reducible refine Kd.C_alloc ?_ _) | (with_reducible refine Kd.C_drewN ?_ _) | (with_reducible refine Kd.C_drew ?_))); (case side2 => exact HC0.out); rintro e w4 ⟨v104, rfl, ho0, hb⟩; refine ⟨_, rfl, ?_⟩; have HO105 := ak (Kd.R_lower ho0 (zd (bq1 GE101.out))); replace BK101 := ak (ze (blq BK101.out) hb); replace HB := ak (zb (bq1 GE101.out) hb); (try clear hb ho0); obtain ⟨hcz5_0, hcz5_1, hcz5_2, hfz5_0, hfz5_1, hfz5_2⟩ := blk3 BK101.out; obtain ⟨Ao6, co6, eo6⟩ := Kd.R_slice HO105.out; subst eo6))
 refine bodyPost_ret (results_cell_row rfl _ _ gb101 35 #[.int .i64 t102, .slice Ao6 t103.length co6, .string t106] (0, 0) _ rfl (blp0 BK101.out) Tryz.underlying35 rfl (by kernel_rfl)) rfl ?_
 exact ⟨_, rv, by (with_reducible repeat (first | apply Kd.R_alloc | apply Kd.R_drewN | apply Kd.R_drew)); exact Kd.R_mono (Kd.R_far (p := ⟨gb101, 2, none⟩) (Kd.R_far (p := ⟨gb101, 1, none⟩) (Kd.R_far (p := ⟨gb101, 0, none⟩) (Kd.R_types HO105.out BK101.out (by decide)) (fun _ hk => hk.2) (.int .i64 t102)) (fun _ hk => hk.2) (.slice Ao6 t103.length co6)) (fun _ hk => hk.2) (.string t106)) (fun _ hk => trivial), bq1 GE101.out⟩
def xt.f (a0 : Int) : Option (Bool) := if a0 = 204 then (some true) else (some (a0 == 304))
theorem xt.calls (a0 : Int) (r : Bool) (w : World) (h : xt.f a0 = some r) :
  Calls Tryz.prog 30 #[.int .i64 a0] w fun e w' => e = .returned (.bool r) ∧ Drawn0 w w' := by
 have H : (if a0 = 204 then (some true) else (some (a0 == 304))) = some r := h
 clear h
 replace H := se H
 rcases H with ⟨c2b0, c2b1, H⟩ | ⟨c2, c2b0, c2b1, H⟩
 ·obtain rfl := oi1 H
  go_enter Tryz.func30, Tryz.ntmps30
  go_wp2
  go_ret
  exact ⟨rt, dr⟩
 ·obtain rfl := oi1 H
  go_enter Tryz.func30, Tryz.ntmps30
  go_wp2
  go_ret
  exact ⟨rt, dr⟩
def yE.f (k : Nat) (a0_0 : Int) (l0_1 : List (S55)) (a0_2 : ByteArray) : Option (Bool) := (qf.f a0_0 200 599).bind fun t102 => (if t102 = true then ((yI.f k l0_1).bind fun t103 => (if t103 = true then (if (a0_2.size : Int) ≤ 60 then (if a0_2.toList = ([] : List UInt8) then (some true) else ((xt.f a0_0).bind fun t104 => (some (!t104)))) else (some false)) else (some false))) else (some false))
theorem yE.mono : ∀ a0 a1 a2 k, LeO (yE.f k a0 a1 a2) (yE.f (k + 1) a0 a1 a2) := by
 intro a0 a1 a2 k
 unfold yE.f
 exact mq1 yI.mono
theorem yE.calls (k : Nat) (a0_0 : Int) (A0_1 : Option Addr) (c0_1 : Nat) (l0_1 : List (S55)) (a0_2 : ByteArray) (r : Bool) (w : World) (hr0_1 : Kd.C k55 w A0_1 l0_1.length l0_1) (hc0_1 : l0_1.length ≤ c0_1) (h : yE.f k a0_0 l0_1 a0_2 = some r) :
  Calls Tryz.prog 29 #[.agg #[.int .i64 a0_0, .slice A0_1 l0_1.length c0_1, .string a0_2]] w fun e w' => e = .returned (.bool r) ∧ Below w.heap.size w w' := by
 have hu35 := Tryz.underlying35
 have HR0_1 := ak hr0_1
 have HC0_1 := ak hc0_1
 clear hr0_1 hc0_1
 have HB := ak (Below.refl w.heap.size w)
 have H := h
 unfold yE.f at H
 clear h
 replace H := ob H
 obtain ⟨t102, A2, H⟩ := H
 replace H := sb H
 rcases H with ⟨rfl, H⟩ | ⟨rfl, H⟩
 ·replace H := ob H
  obtain ⟨t103, A4, H⟩ := H
  try dsimp only at H
  replace H := sb H
  rcases H with ⟨rfl, H⟩ | ⟨rfl, H⟩
  ·replace H := si H
   rcases H with ⟨c6, H⟩ | ⟨c6, H⟩
   ·have c6b0 := decide_eq_true c6
    have c6b1 : decide (a0_2.size ≤ 60) = true := decide_eq_true (by omega)
    clear c6
    replace H := se H
    rcases H with ⟨c7b0, c7b1, H⟩ | ⟨c7, c7b0, c7b1, H⟩
    ·obtain rfl := oi1 H
     go_enter Tryz.func29, Tryz.ntmps29
     go_wp2_with (first | ((with_reducible refine zl (N := 1) rfl ?_); (try (refine yd (by rfl) ?_; dsimp only)); refine bx 1 #[.int .i64 a0_0, .slice A0_1 l0_1.length c0_1, .string a0_2] 35 ?_; intro gb101 hg w8 hbox hb; have BK101 := ak (hbox); have GW101 := ak ((by rw [hg]; exact (zd bq) : w.heap.size ≤ gb101)); have GE101 := GW101; replace HB := ak (zb bq hb); clear hb hbox hg; obtain ⟨hcz9_0, hcz9_1, hcz9_2, hfz9_0, hfz9_1, hfz9_2⟩ := blk3 BK101.out) | ((with_reducible refine za (f := 62) rfl ?_); refine cl 5 rfl Tryz.func62 #[.int .i64 a0_0, .int .i64 200, .int .i64 599] (qf.calls a0_0 200 599 true _ A2.out) ?_; rintro e w' ⟨rfl, ⟨nd, rfl⟩⟩; refine ⟨_, rfl, ?_⟩) | (go_at_call 45; (with_reducible refine (yI.calls k _ _ l0_1 true _ ?side1 ?side2 A4.out).mono ?_); (case side1 => repeat (first | exact (Kd.C_below HR0_1.out (bq1 GE101.out)) | (with_reducible refine Kd.C_alloc ?_ _) | (with_reducible refine Kd.C_drewN ?_ _) | (with_reducible refine Kd.C_drew ?_))); (case side2 => exact HC0_1.out); rintro e w10 ⟨rfl, hb⟩; replace BK101 := ak (ze (blq BK101.out) hb); replace HB := ak (zb (bq1 GE101.out) hb); (try clear hb); obtain ⟨hcz11_0, hcz11_1, hcz11_2, hfz11_0, hfz11_1, hfz11_2⟩ := blk3 BK101.out))
     go_ret
     exact ⟨rv, bq1 GE101.out⟩
    ·replace H := ob H
     obtain ⟨t104, A12, H⟩ := H
     obtain rfl := oi1 H
     go_enter Tryz.func29, Tryz.ntmps29
     go_wp2_with (first | ((with_reducible refine zl (N := 1) rfl ?_); (try (refine yd (by rfl) ?_; dsimp only)); refine bx 1 #[.int .i64 a0_0, .slice A0_1 l0_1.length c0_1, .string a0_2] 35 ?_; intro gb101 hg w13 hbox hb; have BK101 := ak (hbox); have GW101 := ak ((by rw [hg]; exact (zd bq) : w.heap.size ≤ gb101)); have GE101 := GW101; replace HB := ak (zb bq hb); clear hb hbox hg; obtain ⟨hcz14_0, hcz14_1, hcz14_2, hfz14_0, hfz14_1, hfz14_2⟩ := blk3 BK101.out) | ((with_reducible refine za (f := 62) rfl ?_); refine cl 5 rfl Tryz.func62 #[.int .i64 a0_0, .int .i64 200, .int .i64 599] (qf.calls a0_0 200 599 true _ A2.out) ?_; rintro e w' ⟨rfl, ⟨nd, rfl⟩⟩; refine ⟨_, rfl, ?_⟩) | (go_at_call 45; (with_reducible refine (yI.calls k _ _ l0_1 true _ ?side1 ?side2 A4.out).mono ?_); (case side1 => repeat (first | exact (Kd.C_below HR0_1.out (bq1 GE101.out)) | (with_reducible refine Kd.C_alloc ?_ _) | (with_reducible refine Kd.C_drewN ?_ _) | (with_reducible refine Kd.C_drew ?_))); (case side2 => exact HC0_1.out); rintro e w15 ⟨rfl, hb⟩; replace BK101 := ak (ze (blq BK101.out) hb); replace HB := ak (zb (bq1 GE101.out) hb); (try clear hb); obtain ⟨hcz16_0, hcz16_1, hcz16_2, hfz16_0, hfz16_1, hfz16_2⟩ := blk3 BK101.out) | (go_at_call 30; (with_reducible refine (xt.calls a0_0 t104 _ A12.out).mono ?_); rintro e w' ⟨rfl, ⟨nd, rfl⟩⟩))
     go_ret
     exact ⟨rv, bq1 GE101.out⟩
   ·have c6b0 := decide_eq_false c6
    have c6b1 : decide (a0_2.size ≤ 60) = false := decide_eq_false (by omega)
    clear c6
    obtain rfl := oi1 H
    go_enter Tryz.func29, Tryz.ntmps29
    go_wp2_with (first | ((with_reducible refine zl (N := 1) rfl ?_); (try (refine yd (by rfl) ?_; dsimp only)); refine bx 1 #[.int .i64 a0_0, .slice A0_1 l0_1.length c0_1, .string a0_2] 35 ?_; intro gb101 hg w17 hbox hb; have BK101 := ak (hbox); have GW101 := ak ((by rw [hg]; exact (zd bq) : w.heap.size ≤ gb101)); have GE101 := GW101; replace HB := ak (zb bq hb); clear hb hbox hg; obtain ⟨hcz18_0, hcz18_1, hcz18_2, hfz18_0, hfz18_1, hfz18_2⟩ := blk3 BK101.out) | ((with_reducible refine za (f := 62) rfl ?_); refine cl 5 rfl Tryz.func62 #[.int .i64 a0_0, .int .i64 200, .int .i64 599] (qf.calls a0_0 200 599 true _ A2.out) ?_; rintro e w' ⟨rfl, ⟨nd, rfl⟩⟩; refine ⟨_, rfl, ?_⟩) | (go_at_call 45; (with_reducible refine (yI.calls k _ _ l0_1 true _ ?side1 ?side2 A4.out).mono ?_); (case side1 => repeat (first | exact (Kd.C_below HR0_1.out (bq1 GE101.out)) | (with_reducible refine Kd.C_alloc ?_ _) | (with_reducible refine Kd.C_drewN ?_ _) | (with_reducible refine Kd.C_drew ?_))); (case side2 => exact HC0_1.out); rintro e w19 ⟨rfl, hb⟩; replace BK101 := ak (ze (blq BK101.out) hb); replace HB := ak (zb (bq1 GE101.out) hb); (try clear hb); obtain ⟨hcz20_0, hcz20_1, hcz20_2, hfz20_0, hfz20_1, hfz20_2⟩ := blk3 BK101.out))
    go_ret
    exact ⟨rv, bq1 GE101.out⟩
  ·obtain rfl := oi1 H
   go_enter Tryz.func29, Tryz.ntmps29
   go_wp2_with (first | ((with_reducible refine zl (N := 1) rfl ?_); (try (refine yd (by rfl) ?_; dsimp only)); refine bx 1 #[.int .i64 a0_0, .slice A0_1 l0_1.length c0_1, .string a0_2] 35 ?_; intro gb101 hg w21 hbox hb; have BK101 := ak (hbox); have GW101 := ak ((by rw [hg]; exact (zd bq) : w.heap.size ≤ gb101)); have GE101 := GW101; replace HB := ak (zb bq hb); clear hb hbox hg; obtain ⟨hcz22_0, hcz22_1, hcz22_2, hfz22_0, hfz22_1, hfz22_2⟩ := blk3 BK101.out) | ((with_reducible refine za (f := 62) rfl ?_); refine cl 5 rfl Tryz.func62 #[.int .i64 a0_0, .int .i64 200, .int .i64 599] (qf.calls a0_0 200 599 true _ A2.out) ?_; rintro e w' ⟨rfl, ⟨nd, rfl⟩⟩; refine ⟨_, rfl, ?_⟩) | (go_at_call 45; (with_reducible refine (yI.calls k _ _ l0_1 false _ ?side1 ?side2 A4.out).mono ?_); (case side1 => repeat (first | exact (Kd.C_below HR0_1.out (bq1 GE101.out)) | (with_reducible refine Kd.C_alloc ?_ _) | (with_reducible refine Kd.C_drewN ?_ _) | (with_reducible refine Kd.C_drew ?_))); (case side2 => exact HC0_1.out); rintro e w23 ⟨rfl, hb⟩; replace BK101 := ak (ze (blq BK101.out) hb); replace HB := ak (zb (bq1 GE101.out) hb); (try clear hb)))
   go_ret
   exact ⟨rv, bq1 GE101.out⟩
 ·obtain rfl := oi1 H
  go_enter Tryz.func29, Tryz.ntmps29
  go_wp2_with (first | ((with_reducible refine zl (N := 1) rfl ?_); (try (refine yd (by rfl) ?_; dsimp only)); refine bx 1 #[.int .i64 a0_0, .slice A0_1 l0_1.length c0_1, .string a0_2] 35 ?_; intro gb101 hg w24 hbox hb; have BK101 := ak (hbox); have GW101 := ak ((by rw [hg]; exact (zd bq) : w.heap.size ≤ gb101)); have GE101 := GW101; replace HB := ak (zb bq hb); clear hb hbox hg; obtain ⟨hcz25_0, hcz25_1, hcz25_2, hfz25_0, hfz25_1, hfz25_2⟩ := blk3 BK101.out) | ((with_reducible refine za (f := 62) rfl ?_); refine cl 5 rfl Tryz.func62 #[.int .i64 a0_0, .int .i64 200, .int .i64 599] (qf.calls a0_0 200 599 false _ A2.out) ?_; rintro e w' ⟨rfl, ⟨nd, rfl⟩⟩; refine ⟨_, rfl, ?_⟩))
  go_ret
  exact ⟨rv, bq1 GE101.out⟩
def xI.f (a0 : Int) : Option (ByteArray) := if a0 = 200 then (some (⟨#[79, 75]⟩ : ByteArray)) else (if a0 = 203 then (some (⟨#[78, 111, 110, 45, 65, 117, 116, 104, 111, 114, 105, 116, 97, 116, 105, 118, 101, 32, 73, 110, 102, 111, 114, 109, 97, 116, 105, 111, 110]⟩ : ByteArray)) else (if a0 = 204 then (some (⟨#[78, 111, 32, 67, 111, 110, 116, 101, 110, 116]⟩ : ByteArray)) else (if a0 = 300 then (some (⟨#[77, 117, 108, 116, 105, 112, 108, 101, 32, 67, 104, 111, 105, 99, 101, 115]⟩ : ByteArray)) else (if a0 = 301 then (some (⟨#[77, 111, 118, 101, 100, 32, 80, 101, 114, 109, 97, 110, 101, 110, 116, 108, 121]⟩ : ByteArray)) else (if a0 = 304 then (some (⟨#[78, 111, 116, 32, 77, 111, 100, 105, 102, 105, 101, 100]⟩ : ByteArray)) else (if a0 = 400 then (some (⟨#[66, 97, 100, 32, 82, 101, 113, 117, 101, 115, 116]⟩ : ByteArray)) else (if a0 = 404 then (some (⟨#[78, 111, 116, 32, 70, 111, 117, 110, 100]⟩ : ByteArray)) else (if a0 = 410 then (some (⟨#[71, 111, 110, 101]⟩ : ByteArray)) else (if a0 = 502 then (some (⟨#[66, 97, 100, 32, 71, 97, 116, 101, 119, 97, 121]⟩ : ByteArray)) else (if a0 = 504 then (some (⟨#[71, 97, 116, 101, 119, 97, 121, 32, 84, 105, 109, 101, 111, 117, 116]⟩ : ByteArray)) else (some (⟨#[83, 116, 97, 116, 117, 115]⟩ : ByteArray))))))))))))
theorem xI.calls (a0 : Int) (r : ByteArray) (w : World) (h : xI.f a0 = some r) :
  Calls Tryz.prog 32 #[.int .i64 a0] w fun e w' => e = .returned (.string r) ∧ Drawn0 w w' := by
 have H := h
 unfold xI.f at H
 clear h
 replace H := se H
 rcases H with ⟨c2b0, c2b1, H⟩ | ⟨c2, c2b0, c2b1, H⟩
 ·obtain rfl := oi1 H
  go_enter Tryz.func32, Tryz.ntmps32
  go_wp2
  go_ret
  exact ⟨rt, dr⟩
 ·replace H := se H
  rcases H with ⟨c3b0, c3b1, H⟩ | ⟨c3, c3b0, c3b1, H⟩
  ·obtain rfl := oi1 H
   go_enter Tryz.func32, Tryz.ntmps32
   go_wp2
   go_ret
   exact ⟨rt, dr⟩
  ·replace H := se H
   rcases H with ⟨c4b0, c4b1, H⟩ | ⟨c4, c4b0, c4b1, H⟩
   ·obtain rfl := oi1 H
    go_enter Tryz.func32, Tryz.ntmps32
    go_wp2
    go_ret
    exact ⟨rt, dr⟩
   ·replace H := se H
    rcases H with ⟨c5b0, c5b1, H⟩ | ⟨c5, c5b0, c5b1, H⟩
    ·obtain rfl := oi1 H
     go_enter Tryz.func32, Tryz.ntmps32
     go_wp2
     go_ret
     exact ⟨rt, dr⟩
    ·replace H := se H
     rcases H with ⟨c6b0, c6b1, H⟩ | ⟨c6, c6b0, c6b1, H⟩
     ·obtain rfl := oi1 H
      go_enter Tryz.func32, Tryz.ntmps32
      go_wp2
      go_ret
      exact ⟨rt, dr⟩
     ·replace H := se H
      rcases H with ⟨c7b0, c7b1, H⟩ | ⟨c7, c7b0, c7b1, H⟩
      ·obtain rfl := oi1 H
       go_enter Tryz.func32, Tryz.ntmps32
       go_wp2
       go_ret
       exact ⟨rt, dr⟩
      ·replace H := se H
       rcases H with ⟨c8b0, c8b1, H⟩ | ⟨c8, c8b0, c8b1, H⟩
       ·obtain rfl := oi1 H
        go_enter Tryz.func32, Tryz.ntmps32
        go_wp2
        go_ret
        exact ⟨rt, dr⟩
       ·replace H := se H
        rcases H with ⟨c9b0, c9b1, H⟩ | ⟨c9, c9b0, c9b1, H⟩
        ·obtain rfl := oi1 H
         go_enter Tryz.func32, Tryz.ntmps32
         go_wp2
         go_ret
         exact ⟨rt, dr⟩
        ·replace H := se H
         rcases H with ⟨c10b0, c10b1, H⟩ | ⟨c10, c10b0, c10b1, H⟩
         ·obtain rfl := oi1 H
          go_enter Tryz.func32, Tryz.ntmps32
          go_wp2
          go_ret
          exact ⟨rt, dr⟩
         ·replace H := se H
          rcases H with ⟨c11b0, c11b1, H⟩ | ⟨c11, c11b0, c11b1, H⟩
          ·obtain rfl := oi1 H
           go_enter Tryz.func32, Tryz.ntmps32
           go_wp2
           go_ret
           exact ⟨rt, dr⟩
          ·replace H := se H
           rcases H with ⟨c12b0, c12b1, H⟩ | ⟨c12, c12b0, c12b1, H⟩
           ·obtain rfl := oi1 H
            go_enter Tryz.func32, Tryz.ntmps32
            go_wp2
            go_ret
            exact ⟨rt, dr⟩
           ·obtain rfl := oi1 H
            go_enter Tryz.func32, Tryz.ntmps32
            go_wp2
            go_ret
            exact ⟨rt, dr⟩
def zW.f (k : Nat) (a0_0 : Int) (l0_1 : List (S55)) (a0_2 : ByteArray) : Option (ByteArray) := (yE.f k a0_0 l0_1 a0_2).bind fun t102 => (if t102 = true then ((xt.f a0_0).bind fun t103 => (if t103 = true then ((qb.f a0_0).bind fun t104 => (if 9 + t104.size ≤ 9223372036854775807 then (if ((⟨#[72, 84, 84, 80, 47, 49, 46, 49, 32]⟩ : ByteArray) ++ t104).size + 1 ≤ 9223372036854775807 then ((xI.f a0_0).bind fun t105 => (if (((⟨#[72, 84, 84, 80, 47, 49, 46, 49, 32]⟩ : ByteArray) ++ t104) ++ (⟨#[32]⟩ : ByteArray)).size + t105.size ≤ 9223372036854775807 then (if ((((⟨#[72, 84, 84, 80, 47, 49, 46, 49, 32]⟩ : ByteArray) ++ t104) ++ (⟨#[32]⟩ : ByteArray)) ++ t105).size + 2 ≤ 9223372036854775807 then ((zJ.f k l0_1).bind fun t106 => (if (((((⟨#[72, 84, 84, 80, 47, 49, 46, 49, 32]⟩ : ByteArray) ++ t104) ++ (⟨#[32]⟩ : ByteArray)) ++ t105) ++ (⟨#[13, 10]⟩ : ByteArray)).size + t106.size ≤ 9223372036854775807 then (if ((((((⟨#[72, 84, 84, 80, 47, 49, 46, 49, 32]⟩ : ByteArray) ++ t104) ++ (⟨#[32]⟩ : ByteArray)) ++ t105) ++ (⟨#[13, 10]⟩ : ByteArray)) ++ t106).size + a0_2.size ≤ 9223372036854775807 then (some (((((((⟨#[72, 84, 84, 80, 47, 49, 46, 49, 32]⟩ : ByteArray) ++ t104) ++ (⟨#[32]⟩ : ByteArray)) ++ t105) ++ (⟨#[13, 10]⟩ : ByteArray)) ++ t106) ++ a0_2)) else (none)) else (none))) else (none)) else (none))) else (none)) else (none))) else ((xG.f l0_1 a0_2).bind fun t107 => ((qb.f a0_0).bind fun t110 => (if 9 + t110.size ≤ 9223372036854775807 then (if ((⟨#[72, 84, 84, 80, 47, 49, 46, 49, 32]⟩ : ByteArray) ++ t110).size + 1 ≤ 9223372036854775807 then ((xI.f a0_0).bind fun t111 => (if (((⟨#[72, 84, 84, 80, 47, 49, 46, 49, 32]⟩ : ByteArray) ++ t110) ++ (⟨#[32]⟩ : ByteArray)).size + t111.size ≤ 9223372036854775807 then (if ((((⟨#[72, 84, 84, 80, 47, 49, 46, 49, 32]⟩ : ByteArray) ++ t110) ++ (⟨#[32]⟩ : ByteArray)) ++ t111).size + 2 ≤ 9223372036854775807 then ((zJ.f k t107).bind fun t112 => (if (((((⟨#[72, 84, 84, 80, 47, 49, 46, 49, 32]⟩ : ByteArray) ++ t110) ++ (⟨#[32]⟩ : ByteArray)) ++ t111) ++ (⟨#[13, 10]⟩ : ByteArray)).size + t112.size ≤ 9223372036854775807 then (if ((((((⟨#[72, 84, 84, 80, 47, 49, 46, 49, 32]⟩ : ByteArray) ++ t110) ++ (⟨#[32]⟩ : ByteArray)) ++ t111) ++ (⟨#[13, 10]⟩ : ByteArray)) ++ t112).size + a0_2.size ≤ 9223372036854775807 then (some (((((((⟨#[72, 84, 84, 80, 47, 49, 46, 49, 32]⟩ : ByteArray) ++ t110) ++ (⟨#[32]⟩ : ByteArray)) ++ t111) ++ (⟨#[13, 10]⟩ : ByteArray)) ++ t112) ++ a0_2)) else (none)) else (none))) else (none)) else (none))) else (none)) else (none)))))) else (some (⟨#[]⟩ : ByteArray)))
theorem zW.mono : ∀ a0 a1 a2 k, LeO (zW.f k a0 a1 a2) (zW.f (k + 1) a0 a1 a2) := by
 intro a0 a1 a2 k
 unfold zW.f
 exact mq2 yE.mono zJ.mono
def zW.T6 : Bool × List (List Nat × List Nat) := (true, [([], []), ([0], [0]), ([1], [1]), ([2], [2]), ([3], [3]), ([], []), ([5], [5]), ([6, 2], [6]), ([4, 7], [4, 7]), ([8], [8]), ([], []), ([10, 7], [10]), ([9, 11], [9, 11]), ([], []), ([13], [13]), ([12, 14], [12, 14]), ([15, 11, 0, 1, 2, 3, 4, 5, 6, 7, 8, 9, 10, 11, 12, 13, 14, 15], [15])])
def zW.B6 : List Nat := [0, 1, 3, 7, 15, 0, 32, 103, 255, 511, 0, 1255, 4095, 0, 8192, 32767, 65535]
theorem zW.tab6 : rtab .any (opsOf Tryz.f12 6) = zW.T6 := by kernel_rfl
theorem zW.bits6 : qj zW.T6.2 zW.B6 = true := by kernel_rfl
theorem zW.calls (k : Nat) (a0_0 : Int) (A0_1 : Option Addr) (c0_1 : Nat) (l0_1 : List (S55)) (a0_2 : ByteArray) (r : ByteArray) (w : World) (hr0_1 : Kd.C k55 w A0_1 l0_1.length l0_1) (hc0_1 : l0_1.length ≤ c0_1) (hGPow : GPow w) (h : zW.f k a0_0 l0_1 a0_2 = some r) :
  Calls Tryz.prog 12 #[.agg #[.int .i64 a0_0, .slice A0_1 l0_1.length c0_1, .string a0_2]] w fun e w' => e = .returned (.string r) ∧ Below w.heap.size w w' := by
 have hu35 := Tryz.underlying35
 have HR0_1 := ak hr0_1
 have HC0_1 := ak hc0_1
 clear hr0_1 hc0_1
 have HGPow := ak hGPow
 clear hGPow
 have HB := ak (Below.refl w.heap.size w)
 have H := h
 unfold zW.f at H
 clear h
 replace H := ob H
 obtain ⟨t102, A2, H⟩ := H
 replace H := sb H
 rcases H with ⟨rfl, H⟩ | ⟨rfl, H⟩
 ·replace H := ob H
  obtain ⟨t103, A4, H⟩ := H
  try dsimp only at H
  replace H := sb H
  rcases H with ⟨rfl, H⟩ | ⟨rfl, H⟩
  ·replace H := ob H
   obtain ⟨t104, A6, H⟩ := H
   try dsimp only at H
   replace H := sK H
   obtain ⟨c7, c7b0, c7b1, H⟩ := H
   have c7b2 := sz c7
   replace H := sK H
   obtain ⟨c8, c8b0, c8b1, H⟩ := H
   have c8b2 := sz c8
   try have c8b3 : (9223372036854775807 < 9 + (t104).size + 1) = False := sz3 c8
   replace H := ob H
   obtain ⟨t105, A9, H⟩ := H
   replace H := sK H
   obtain ⟨c10, c10b0, c10b1, H⟩ := H
   have c10b2 := sz c10
   try have c10b3 : (9223372036854775807 < 9 + (t104).size + 1 + (t105).size) = False := sz3 c10
   replace H := sK H
   obtain ⟨c11, c11b0, c11b1, H⟩ := H
   have c11b2 := sz c11
   try have c11b3 : (9223372036854775807 < 9 + (t104).size + 1 + (t105).size + 2) = False := sz3 c11
   replace H := ob H
   obtain ⟨t106, A12, H⟩ := H
   replace H := sK H
   obtain ⟨c13, c13b0, c13b1, H⟩ := H
   have c13b2 := sz c13
   try have c13b3 : (9223372036854775807 < 9 + (t104).size + 1 + (t105).size + 2 + (t106).size) = False := sz3 c13
   replace H := sK H
   obtain ⟨c14, c14b0, c14b1, H⟩ := H
   have c14b2 := sz c14
   try have c14b3 : (9223372036854775807 < 9 + (t104).size + 1 + (t105).size + 2 + (t106).size + (a0_2).size) = False := sz3 c14
   obtain rfl := oi1 H
   go_enter Tryz.func12, Tryz.ntmps12
   try go_wp2_with (first | ((with_reducible refine zl (N := 1) rfl ?_); refine bx 1 #[.int .i64 a0_0, .slice A0_1 l0_1.length c0_1, .string a0_2] 35 ?_; intro gb101 hg w15 hbox hb; have BK101 := ak (hbox); have GW101 := ak ((by rw [hg]; exact (zd bq) : w.heap.size ≤ gb101)); have GE101 := GW101; replace HB := ak (zb bq hb); clear hb hbox hg; obtain ⟨hcz16_0, hcz16_1, hcz16_2, hfz16_0, hfz16_1, hfz16_2⟩ := blk3 BK101.out) | ((with_reducible refine za (f := 29) rfl ?_); refine cl 5 rfl Tryz.func29 #[.agg #[.int .i64 a0_0, .slice A0_1 l0_1.length c0_1, .string a0_2]] (yE.calls k a0_0 _ _ l0_1 a0_2 true _ ?side1 ?side2 A2.out) ?_; (case side1 => repeat (first | exact (Kd.C_below HR0_1.out HB.out) | (with_reducible refine Kd.C_alloc ?_ _) | (with_reducible refine Kd.C_drewN ?_ _) | (with_reducible refine Kd.C_drew ?_))); (case side2 => exact HC0_1.out); rintro e w17 ⟨rfl, hb⟩; refine ⟨_, rfl, ?_⟩; replace BK101 := ak (ze (blq BK101.out) hb); replace HB := ak (zb (bq1 GE101.out) hb); (try clear hb); obtain ⟨hcz18_0, hcz18_1, hcz18_2, hfz18_0, hfz18_1, hfz18_2⟩ := blk3 BK101.out) | ((with_reducible refine za (f := 30) rfl ?_); refine cl 11 rfl Tryz.func30 #[.int .i64 a0_0] (xt.calls a0_0 true _ A4.out) ?_; rintro e w' ⟨rfl, ⟨nd, rfl⟩⟩; refine ⟨_, rfl, ?_⟩))
   (try (rw [qT w17]; generalize hq_ : World.drewN w17 _ = w17; have n0_ : Aside0 (w17.heap[gb101]? = some (.cells #[.int .i64 a0_0, .slice A0_1 l0_1.length c0_1, .string a0_2] 35 (0, 0))) := ⟨by rw [← hq_]; exact (blq BK101.out)⟩; have n1_ : Aside0 (Below w.heap.size w w17) := ⟨by rw [← hq_]; exact (bq1 GE101.out)⟩; clear BK101 HB hq_; have BK101 := n0_; have HB := n1_; clear n0_ n1_))
   have n0_ := ak (xe BK101.out)
   have n1_ := ak (ye HB.out)
   clear BK101
   clear HB
   have BK101 := n0_
   have HB := n1_
   clear n0_ n1_
   refine start_ (n := 17) (S := fun w' => w'.cell? ⟨gb101, 0, none⟩ = some (.int .i64 a0_0) ∧ w'.cell? ⟨gb101, 1, none⟩ = some (.slice A0_1 l0_1.length c0_1) ∧ w'.cell? ⟨gb101, 2, none⟩ = some (.string a0_2)) (ds := []) (Array.replicate 17 false) (by kernel_rfl) rfl rfl ⟨(zg BK101.out 0).trans rfl, (zg BK101.out 1).trans rfl, (zg BK101.out 2).trans rfl⟩ (fun hHeld => ?_); refine xm zW.tab6 zW.bits6 (fun HT_ HW_ => ?_)
   generalize w17.drew = w19 at BK101 HB hHeld ⊢
   refine pu 0 18 HT_ ?_
   refine pu 5 23 HT_ ?_
   refine pu 10 28 HT_ ?_
   refine pu 13 31 HT_ ?_
   refine tk 1 19 HT_ HW_ hHeld ?_ (hy := by rintro w' ⟨s0, s1, s2⟩; go_simp; with_reducible rfl)
   refine tk 6 24 HT_ HW_ hHeld ?_ (hy := by rintro w' ⟨s0, s1, s2⟩; go_simp; with_reducible rfl)
   refine tk 14 32 HT_ HW_ hHeld ?_ (hy := by rintro w' ⟨s0, s1, s2⟩; go_simp; with_reducible rfl)
   refine on1 2 20 HT_ (fun K hK => ?_)
   refine goes_ Tryz.func31 (by kernel_rfl) rfl #[.int .i64 a0_0] (by rfl) rfl rfl am ?_
   with_reducible refine (qb.calls a0_0 t104 _ ?side1 A6.out).mono ?_
   (case side1 => refine xu HGPow.out ?_; exact bq1 GE101.out)
   rintro e w20 ⟨rfl, hb⟩
   refine ⟨_, rfl, ?_⟩
   have n0_ := ak (ze (blq BK101.out) hb)
   have n1_ := ak (zb (bq1 GE101.out) hb)
   clear BK101
   clear HB
   have BK101 := n0_
   have HB := n1_
   clear n0_ n1_
   (try clear hb)
   (try clear hb2)
   (try clear hk)
   (try clear hi)
   refine hK.out _ _ ⟨(zg BK101.out 0).trans rfl, (zg BK101.out 1).trans rfl, (zg BK101.out 2).trans rfl⟩ (fun hHeld => ?_)
   clear hK K
   refine nrm 20 ?_
   refine pu 3 21 HT_ ?_
   refine pu 4 22 HT_ ?_
   refine on1 7 25 HT_ (fun K hK => ?_)
   refine goes_ Tryz.func32 (by kernel_rfl) rfl #[.int .i64 a0_0] (by rfl) rfl rfl am ?_
   with_reducible refine (xI.calls a0_0 t105 _ A9.out).mono ?_
   rintro e w' ⟨rfl, ⟨nd, rfl⟩⟩
   refine ⟨_, rfl, ?_⟩
   refine hK.out _ _ ⟨(zg BK101.out 0).trans rfl, (zg BK101.out 1).trans rfl, (zg BK101.out 2).trans rfl⟩ (fun hHeld => ?_)
   clear hK K
   refine nrm 25 ?_
   refine pu 8 26 HT_ ?_
   refine pu 9 27 HT_ ?_
   refine on1 11 29 HT_ (fun K hK => ?_)
   refine goes_ Tryz.func19 (by kernel_rfl) rfl #[.slice A0_1 l0_1.length c0_1] (by rfl) rfl rfl am ?_
   with_reducible refine (zJ.calls k _ _ l0_1 t106 _ ?side1 ?side2 A12.out).mono ?_
   (case side1 => repeat (first | exact (Kd.C_below HR0_1.out (bq1 GE101.out)) | (with_reducible refine Kd.C_alloc ?_ _) | (with_reducible refine Kd.C_drewN ?_ _) | (with_reducible refine Kd.C_drew ?_)))
   (case side2 => exact HC0_1.out)
   rintro e w21 ⟨rfl, hb⟩
   refine ⟨_, rfl, ?_⟩
   have n0_ := ak (ze (blq BK101.out) hb)
   have n1_ := ak (zb (bq1 GE101.out) hb)
   clear BK101
   clear HB
   have BK101 := n0_
   have HB := n1_
   clear n0_ n1_
   (try clear hb)
   (try clear hb2)
   (try clear hk)
   (try clear hi)
   refine hK.out _ _ ⟨(zg BK101.out 0).trans rfl, (zg BK101.out 1).trans rfl, (zg BK101.out 2).trans rfl⟩ (fun hHeld => ?_)
   clear hK K
   refine nrm 29 ?_
   refine pu 12 30 HT_ ?_
   refine pu 15 33 HT_ ?_
   refine pu 16 2 HT_ ?_
   refine done_ (xV HT_.out (by kernel_rfl)) ?_
   try go_wp2
   go_ret
   exact ⟨rv, bq1 GE101.out⟩
  ·replace H := ob H
   obtain ⟨t107, A22, H⟩ := H
   try dsimp only at H
   replace H := ob H
   obtain ⟨t110, A23, H⟩ := H
   replace H := sK H
   obtain ⟨c24, c24b0, c24b1, H⟩ := H
   have c24b2 := sz c24
   replace H := sK H
   obtain ⟨c25, c25b0, c25b1, H⟩ := H
   have c25b2 := sz c25
   try have c25b3 : (9223372036854775807 < 9 + (t110).size + 1) = False := sz3 c25
   replace H := ob H
   obtain ⟨t111, A26, H⟩ := H
   replace H := sK H
   obtain ⟨c27, c27b0, c27b1, H⟩ := H
   have c27b2 := sz c27
   try have c27b3 : (9223372036854775807 < 9 + (t110).size + 1 + (t111).size) = False := sz3 c27
   replace H := sK H
   obtain ⟨c28, c28b0, c28b1, H⟩ := H
   have c28b2 := sz c28
   try have c28b3 : (9223372036854775807 < 9 + (t110).size + 1 + (t111).size + 2) = False := sz3 c28
   replace H := ob H
   obtain ⟨t112, A29, H⟩ := H
   replace H := sK H
   obtain ⟨c30, c30b0, c30b1, H⟩ := H
   have c30b2 := sz c30
   try have c30b3 : (9223372036854775807 < 9 + (t110).size + 1 + (t111).size + 2 + (t112).size) = False := sz3 c30
   replace H := sK H
   obtain ⟨c31, c31b0, c31b1, H⟩ := H
   have c31b2 := sz c31
   try have c31b3 : (9223372036854775807 < 9 + (t110).size + 1 + (t111).size + 2 + (t112).size + (a0_2).size) = False := sz3 c31
   obtain rfl := oi1 H
   go_enter Tryz.func12, Tryz.ntmps12
   try go_wp2_with (first | ((with_reducible refine zl (N := 1) rfl ?_); refine bx 1 #[.int .i64 a0_0, .slice A0_1 l0_1.length c0_1, .string a0_2] 35 ?_; intro gb101 hg w32 hbox hb; have BK101 := ak (hbox); have GW101 := ak ((by rw [hg]; exact (zd bq) : w.heap.size ≤ gb101)); have GE101 := GW101; replace HB := ak (zb bq hb); clear hb hbox hg; obtain ⟨hcz33_0, hcz33_1, hcz33_2, hfz33_0, hfz33_1, hfz33_2⟩ := blk3 BK101.out) | ((with_reducible refine za (f := 29) rfl ?_); refine cl 5 rfl Tryz.func29 #[.agg #[.int .i64 a0_0, .slice A0_1 l0_1.length c0_1, .string a0_2]] (yE.calls k a0_0 _ _ l0_1 a0_2 true _ ?side1 ?side2 A2.out) ?_; (case side1 => repeat (first | exact (Kd.C_below HR0_1.out HB.out) | (with_reducible refine Kd.C_alloc ?_ _) | (with_reducible refine Kd.C_drewN ?_ _) | (with_reducible refine Kd.C_drew ?_))); (case side2 => exact HC0_1.out); rintro e w34 ⟨rfl, hb⟩; refine ⟨_, rfl, ?_⟩; replace BK101 := ak (ze (blq BK101.out) hb); replace HB := ak (zb (bq1 GE101.out) hb); (try clear hb); obtain ⟨hcz35_0, hcz35_1, hcz35_2, hfz35_0, hfz35_1, hfz35_2⟩ := blk3 BK101.out) | ((with_reducible refine za (f := 30) rfl ?_); refine cl 11 rfl Tryz.func30 #[.int .i64 a0_0] (xt.calls a0_0 false _ A4.out) ?_; rintro e w' ⟨rfl, ⟨nd, rfl⟩⟩; refine ⟨_, rfl, ?_⟩) | ((with_reducible refine za (f := 20) rfl ?_); refine cl 17 rfl Tryz.func20 #[.slice A0_1 l0_1.length c0_1, .string a0_2] (xG.calls _ _ l0_1 a0_2 t107 _ ?side1 ?side2 ?side3 A22.out) ?_; (case side1 => repeat (first | exact (Kd.C_below HR0_1.out (bq1 GE101.out)) | (with_reducible refine Kd.C_alloc ?_ _) | (with_reducible refine Kd.C_drewN ?_ _) | (with_reducible refine Kd.C_drew ?_))); (case side2 => exact HC0_1.out); (case side3 => refine xu HGPow.out ?_; exact bq1 GE101.out); rintro e w36 ⟨v108, rfl, ho0, hb⟩; refine ⟨_, rfl, ?_⟩; have HO109 := ak (Kd.R_lower ho0 (zd (bq1 GE101.out))); replace BK101 := ak (ze (blq BK101.out) hb); replace HB := ak (zb (bq1 GE101.out) hb); (try clear hb ho0)))
   have n0_ := ak (Kd.R_drew HO109.out)
   have n1_ := ak (xe BK101.out)
   have n2_ := ak (ye HB.out)
   clear HO109
   clear BK101
   clear HB
   have HO109 := n0_
   have BK101 := n1_
   have HB := n2_
   clear n0_ n1_ n2_
   refine start_ (n := 17) (S := fun w' => w'.cell? ⟨gb101, 0, none⟩ = some (.int .i64 a0_0) ∧ w'.cell? ⟨gb101, 1, none⟩ = some (.slice A0_1 l0_1.length c0_1) ∧ w'.cell? ⟨gb101, 2, none⟩ = some (.string a0_2)) (ds := []) (Array.replicate 17 false) (by kernel_rfl) rfl rfl ⟨(zg BK101.out 0).trans rfl, (zg BK101.out 1).trans rfl, (zg BK101.out 2).trans rfl⟩ (fun hHeld => ?_); refine xm zW.tab6 zW.bits6 (fun HT_ HW_ => ?_)
   generalize w36.drew = w37 at HO109 BK101 HB hHeld ⊢
   refine pu 0 18 HT_ ?_
   refine pu 5 23 HT_ ?_
   refine pu 10 28 HT_ ?_
   refine pu 13 31 HT_ ?_
   refine tk 1 19 HT_ HW_ hHeld ?_ (hy := by rintro w' ⟨s0, s1, s2⟩; go_simp; with_reducible rfl)
   refine tk 6 24 HT_ HW_ hHeld ?_ (hy := by rintro w' ⟨s0, s1, s2⟩; go_simp; with_reducible rfl)
   refine tk 14 32 HT_ HW_ hHeld ?_ (hy := by rintro w' ⟨s0, s1, s2⟩; go_simp; with_reducible rfl)
   refine on1 2 20 HT_ (fun K hK => ?_)
   refine goes_ Tryz.func31 (by kernel_rfl) rfl #[.int .i64 a0_0] (by rfl) rfl rfl am ?_
   with_reducible refine (qb.calls a0_0 t110 _ ?side1 A23.out).mono ?_
   (case side1 => refine xu HGPow.out ?_; exact bq1 GE101.out)
   rintro e w38 ⟨rfl, hb⟩
   refine ⟨_, rfl, ?_⟩
   have n0_ := ak (Kd.R_below (rdq HO109.out) hb)
   have n1_ := ak (ze (blq BK101.out) hb)
   have n2_ := ak (zb (bq1 GE101.out) hb)
   clear HO109
   clear BK101
   clear HB
   have HO109 := n0_
   have BK101 := n1_
   have HB := n2_
   clear n0_ n1_ n2_
   (try clear hb)
   (try clear hb2)
   (try clear hk)
   (try clear hi)
   refine hK.out _ _ ⟨(zg BK101.out 0).trans rfl, (zg BK101.out 1).trans rfl, (zg BK101.out 2).trans rfl⟩ (fun hHeld => ?_)
   clear hK K
   refine nrm 20 ?_
   refine pu 3 21 HT_ ?_
   refine pu 4 22 HT_ ?_
   refine on1 7 25 HT_ (fun K hK => ?_)
   refine goes_ Tryz.func32 (by kernel_rfl) rfl #[.int .i64 a0_0] (by rfl) rfl rfl am ?_
   with_reducible refine (xI.calls a0_0 t111 _ A26.out).mono ?_
   rintro e w' ⟨rfl, ⟨nd, rfl⟩⟩
   refine ⟨_, rfl, ?_⟩
   obtain ⟨Ao39, co39, eo39⟩ := Kd.R_slice HO109.out
   (first | subst eo39 | (injection eo39 with f1_ f2_ f3_; have f4_ := f1_.symm; have f5_ := f3_.symm; clear f1_ f2_ f3_; subst f4_; subst f5_))
   refine hK.out _ _ ⟨(zg BK101.out 0).trans rfl, (zg BK101.out 1).trans rfl, (zg BK101.out 2).trans rfl⟩ (fun hHeld => ?_)
   clear hK K
   refine nrm 25 ?_
   refine pu 8 26 HT_ ?_
   refine pu 9 27 HT_ ?_
   refine on1 11 29 HT_ (fun K hK => ?_)
   refine goes_ Tryz.func19 (by kernel_rfl) rfl #[.slice Ao39 t107.length co39] (by rfl) rfl rfl am ?_
   with_reducible refine (zJ.calls k _ _ t107 t112 _ ?side1 ?side2 A29.out).mono ?_
   (case side1 => exact cq (Kd.R_reads' HO109.out).2.2)
   (case side2 => exact (Kd.R_reads' HO109.out).2.1)
   rintro e w40 ⟨rfl, hb⟩
   refine ⟨_, rfl, ?_⟩
   have n0_ := ak (Kd.R_below (rdq HO109.out) hb)
   have n1_ := ak (ze (blq BK101.out) hb)
   have n2_ := ak (zb (bq1 GE101.out) hb)
   clear HO109
   clear BK101
   clear HB
   have HO109 := n0_
   have BK101 := n1_
   have HB := n2_
   clear n0_ n1_ n2_
   (try clear hb)
   (try clear hb2)
   (try clear hk)
   (try clear hi)
   refine hK.out _ _ ⟨(zg BK101.out 0).trans rfl, (zg BK101.out 1).trans rfl, (zg BK101.out 2).trans rfl⟩ (fun hHeld => ?_)
   clear hK K
   refine nrm 29 ?_
   refine pu 12 30 HT_ ?_
   refine pu 15 33 HT_ ?_
   refine pu 16 2 HT_ ?_
   refine done_ (xV HT_.out (by kernel_rfl)) ?_
   try go_wp2
   go_ret
   exact ⟨rv, bq1 GE101.out⟩
 ·obtain rfl := oi1 H
  go_enter Tryz.func12, Tryz.ntmps12
  go_wp2_with (first | ((with_reducible refine zl (N := 1) rfl ?_); refine bx 1 #[.int .i64 a0_0, .slice A0_1 l0_1.length c0_1, .string a0_2] 35 ?_; intro gb101 hg w41 hbox hb; have BK101 := ak (hbox); have GW101 := ak ((by rw [hg]; exact (zd bq) : w.heap.size ≤ gb101)); have GE101 := GW101; replace HB := ak (zb bq hb); clear hb hbox hg; obtain ⟨hcz42_0, hcz42_1, hcz42_2, hfz42_0, hfz42_1, hfz42_2⟩ := blk3 BK101.out) | ((with_reducible refine za (f := 29) rfl ?_); refine cl 5 rfl Tryz.func29 #[.agg #[.int .i64 a0_0, .slice A0_1 l0_1.length c0_1, .string a0_2]] (yE.calls k a0_0 _ _ l0_1 a0_2 false _ ?side1 ?side2 A2.out) ?_; (case side1 => repeat (first | exact (Kd.C_below HR0_1.out HB.out) | (with_reducible refine Kd.C_alloc ?_ _) | (with_reducible refine Kd.C_drewN ?_ _) | (with_reducible refine Kd.C_drew ?_))); (case side2 => exact HC0_1.out); rintro e w43 ⟨rfl, hb⟩; refine ⟨_, rfl, ?_⟩; replace BK101 := ak (ze (blq BK101.out) hb); replace HB := ak (zb (bq1 GE101.out) hb); (try clear hb)))
  go_ret
  exact ⟨rv, bq1 GE101.out⟩
def qr.f (a0 : ByteArray) : Option (Int × Bool) := (xh.f a0).bind fun bt101 => (if bt101.2.isNone = true then ((qb.f bt101.1).bind fun t104 => (if t104.toList = a0.toList then ((qf.f bt101.1 (-999999999) 999999999).bind fun t105 => (if t105 = true then (some (bt101.1, true)) else (some (0, false)))) else (some (0, false)))) else (some (0, false)))
theorem qr.calls (a0 : ByteArray) (r1 : Int) (r2 : Bool) (w : World) (hGErr : GErr w) (hGPow : GPow w) (h : qr.f a0 = some (r1, r2)) :
  Calls Tryz.prog 33 #[.string a0] w fun e w' => e = .returned (.tuple #[.int .i64 r1, .bool r2]) ∧ Below w.heap.size w w' := by
 have hu84 := Tryz.underlying84
 have HGErr := ak hGErr
 clear hGErr
 have HGPow := ak hGPow
 clear hGPow
 have HB := ak (Below.refl w.heap.size w)
 have H := h
 unfold qr.f at H
 clear h
 replace H := ob H
 obtain ⟨⟨t101, t102⟩, A2, H⟩ := H
 try dsimp only at H
 rcases t102 with _ | q103
 ·have H1 : ((qb.f t101).bind fun t104 => (if t104.toList = a0.toList then ((qf.f t101 (-999999999) 999999999).bind fun t105 => (if t105 = true then (some (t101, true)) else (some (0, false)))) else (some (0, false)))) = some (r1, r2) := by rw [if_pos (show (none : Option Int).isNone = true by rfl)] at H; exact H
  clear H
  have H := H1
  clear H1
  try simp only [xy, xx]
  replace H := ob H
  obtain ⟨t104, A3, H⟩ := H
  replace H := se H
  rcases H with ⟨c4b0, c4b1, H⟩ | ⟨c4, c4b0, c4b1, H⟩
  ·replace H := ob H
   obtain ⟨t105, A5, H⟩ := H
   replace H := sb H
   rcases H with ⟨rfl, H⟩ | ⟨rfl, H⟩
   ·obtain ⟨rfl, rfl⟩ := oi2 H
    go_enter Tryz.func33, Tryz.ntmps33
    go_wp2_with (first | ((with_reducible refine za (f := 64) rfl ?_); refine cl 8 rfl Tryz.func64 #[.string a0] (xh.calls a0 t101 none _ ?side1 A2.out) ?_; (case side1 => refine yY HGErr.out ?_; exact bq); rintro e w7 ⟨ev_, rfl, he_, hf_, hb⟩; obtain rfl := he_ rfl; clear he_ hf_; refine ⟨_, rfl, ?_⟩; replace HB := ak (zb bq hb); (try clear hb); (try simp only [xy, xx])) | (go_at_call 31; (with_reducible refine (qb.calls t101 t104 _ ?side1 A3.out).mono ?_); (case side1 => refine xu HGPow.out ?_; exact bq); rintro e w8 ⟨rfl, hb⟩; replace HB := ak (zb bq hb); (try clear hb)) | (go_at_call 62; (with_reducible refine (qf.calls t101 (-999999999) 999999999 true _ A5.out).mono ?_); rintro e w' ⟨rfl, ⟨nd, rfl⟩⟩))
    go_ret2
    exact ⟨rv, bq⟩
   ·obtain ⟨rfl, rfl⟩ := oi2 H
    go_enter Tryz.func33, Tryz.ntmps33
    go_wp2_with (first | ((with_reducible refine za (f := 64) rfl ?_); refine cl 8 rfl Tryz.func64 #[.string a0] (xh.calls a0 t101 none _ ?side1 A2.out) ?_; (case side1 => refine yY HGErr.out ?_; exact bq); rintro e w9 ⟨ev_, rfl, he_, hf_, hb⟩; obtain rfl := he_ rfl; clear he_ hf_; refine ⟨_, rfl, ?_⟩; replace HB := ak (zb bq hb); (try clear hb); (try simp only [xy, xx])) | (go_at_call 31; (with_reducible refine (qb.calls t101 t104 _ ?side1 A3.out).mono ?_); (case side1 => refine xu HGPow.out ?_; exact bq); rintro e w10 ⟨rfl, hb⟩; replace HB := ak (zb bq hb); (try clear hb)) | (go_at_call 62; (with_reducible refine (qf.calls t101 (-999999999) 999999999 false _ A5.out).mono ?_); rintro e w' ⟨rfl, ⟨nd, rfl⟩⟩))
    go_ret2
    exact ⟨rv, bq⟩
  ·obtain ⟨rfl, rfl⟩ := oi2 H
   go_enter Tryz.func33, Tryz.ntmps33
   go_wp2_with (first | ((with_reducible refine za (f := 64) rfl ?_); refine cl 8 rfl Tryz.func64 #[.string a0] (xh.calls a0 t101 none _ ?side1 A2.out) ?_; (case side1 => refine yY HGErr.out ?_; exact bq); rintro e w11 ⟨ev_, rfl, he_, hf_, hb⟩; obtain rfl := he_ rfl; clear he_ hf_; refine ⟨_, rfl, ?_⟩; replace HB := ak (zb bq hb); (try clear hb); (try simp only [xy, xx])) | (go_at_call 31; (with_reducible refine (qb.calls t101 t104 _ ?side1 A3.out).mono ?_); (case side1 => refine xu HGPow.out ?_; exact bq); rintro e w12 ⟨rfl, hb⟩; replace HB := ak (zb bq hb); (try clear hb)))
   go_ret2
   exact ⟨rv, bq⟩
 ·have H1 : (some (0, false)) = some (r1, r2) := by rw [if_neg (show ¬ (some q103).isNone = true by simp)] at H; exact H
  clear H
  have H := H1
  clear H1
  try simp only [xy, xx]
  obtain ⟨rfl, rfl⟩ := oi2 H
  go_enter Tryz.func33, Tryz.ntmps33
  go_wp2_with (first | ((with_reducible refine za (f := 64) rfl ?_); refine cl 8 rfl Tryz.func64 #[.string a0] (xh.calls a0 t101 (some q103) _ ?side1 A2.out) ?_; (case side1 => refine yY HGErr.out ?_; exact bq); rintro e w13 ⟨ev_, rfl, he_, hf_, hb⟩; obtain ⟨et_, ep_, rfl⟩ := hf_ _ rfl; clear he_ hf_; refine ⟨_, rfl, ?_⟩; replace HB := ak (zb bq hb); (try clear hb); (try simp only [xy, xx])))
  go_ret2
  exact ⟨rv, bq⟩
def zA.j0 : Nat → ByteArray → List (S55) → ByteArray → Int → Bool → Int → List (S55) → ByteArray → Option (Int × (List (S55)) × ByteArray × Int × Int)
 | 0, _, _, _, _, _, _, _, _ => none
 | k + 1, x0, x6, x7, x9, x56, x117000, x117001, x117002 => if x56 = true then (some (0, ([] : List (S55)), (⟨#[]⟩ : ByteArray), 0, 2)) else ((xt.f x9).bind fun t120 => (if t120 = true then (some (x117000, x117001, x117002, wrap64 ((x0.size : Int) - (x7.size : Int)), 0)) else ((yn.f k x6 x7 true).bind fun bt121 => (if bt121.2.2 = 0 then (some (x117000, x117001, bt121.1, wrap64 ((wrap64 ((x0.size : Int) - (x7.size : Int))) + bt121.2.1), 0)) else ((xX.f bt121.2.2).bind fun t124 => (some (0, ([] : List (S55)), (⟨#[]⟩ : ByteArray), 0, t124)))))))
def zA.f (k : Nat) (a0 : ByteArray) : Option (Int × (List (S55)) × ByteArray × Int × Int) := (zL.f k a0).bind fun bt102 => (if bt102.2.2.2 = 0 then (if 1 < (bt102.1.length : Int) then ((qr.f (rdOf ByteArray.empty bt102.1 1)).bind fun bt111 => ((xq.f bt102.2.1).bind fun t113 => (if 0 < (bt102.1.length : Int) then (if (rdOf ByteArray.empty bt102.1 0).toList = ([72, 84, 84, 80, 47, 49, 46, 49] : List UInt8) then (if bt111.2 = true then (if ((rdOf ByteArray.empty bt102.1 1).size : Int) = 3 then ((yE.f k bt111.1 t113 (⟨#[]⟩ : ByteArray)).bind fun t119 => (zA.j0 k a0 bt102.2.1 bt102.2.2.1 bt111.1 (!t119) bt111.1 t113 (⟨#[]⟩ : ByteArray))) else (zA.j0 k a0 bt102.2.1 bt102.2.2.1 bt111.1 true bt111.1 t113 (⟨#[]⟩ : ByteArray))) else (zA.j0 k a0 bt102.2.1 bt102.2.2.1 bt111.1 true bt111.1 t113 (⟨#[]⟩ : ByteArray))) else (zA.j0 k a0 bt102.2.1 bt102.2.2.1 bt111.1 true bt111.1 t113 (⟨#[]⟩ : ByteArray))) else (none)))) else (none)) else (some (0, ([] : List (S55)), (⟨#[]⟩ : ByteArray), 0, bt102.2.2.2)))
theorem zA.mono_l : ∀ k, (∀ y0 y1 y2 y3 y4 y5 y6 y7, LeO (zA.j0 k y0 y1 y2 y3 y4 y5 y6 y7) (zA.j0 (k + 1) y0 y1 y2 y3 y4 y5 y6 y7))
 | 0 => fun _ _ _ _ _ _ _ _ r h => by simp [zA.j0] at h
 | k + 1 => by
  have ih0 := zA.mono_l k
  ·intro y0 y1 y2 y3 y4 y5 y6 y7
   unfold zA.j0
   exact mq4 ih0 yn.mono yE.mono zL.mono
theorem zA.mono : ∀ a0 k, LeO (zA.f k a0) (zA.f (k + 1) a0) := by
 intro a0 k
 have ih0 := zA.mono_l k
 unfold zA.f
 exact mq4 ih0 yn.mono yE.mono zL.mono
theorem zA.calls (k : Nat) (a0 : ByteArray) (r1 : Int) (r2 : List (S55)) (r3 : ByteArray) (r4 : Int) (r5 : Int) (w : World) (hGErr : GErr w) (hGMax : GMax w) (hGPow : GPow w) (h : zA.f k a0 = some (r1, r2, r3, r4, r5)) :
  Calls Tryz.prog 13 #[.string a0] w fun e w' => ∃ v1_ : Value, e = .returned (.tuple #[.agg #[.int .i64 r1, v1_, .string r3], .int .i64 r4, .int .i64 r5]) ∧ Kd.R k55 55 w' w.heap.size (fun _ => True) v1_ r2 ∧ Below w.heap.size w w' := by
 have hu35 := Tryz.underlying35
 have HGErr := ak hGErr
 clear hGErr
 have HGMax := ak hGMax
 clear hGMax
 have HGPow := ak hGPow
 clear hGPow
 have HB := ak (Below.refl w.heap.size w)
 have H := h
 unfold zA.f at H
 clear h
 replace H := ob H
 obtain ⟨⟨t102, t103, t104, t105⟩, A2, H⟩ := H
 try dsimp only at H
 replace H := se H
 rcases H with ⟨c3b0, c3b1, H⟩ | ⟨c3, c3b0, c3b1, H⟩
 ·replace H := sT H
  obtain ⟨c4, H⟩ := H
  have c4b0 := decide_eq_true c4
  have c4b1 : decide (1 < t102.length) = true := decide_eq_true (by omega)
  clear c4
  replace H := ob H
  obtain ⟨⟨t111, t112⟩, A5, H⟩ := H
  try dsimp only at H
  replace H := ob H
  obtain ⟨t113, A6, H⟩ := H
  have HC7 := ak H
  clear H
  go_enter Tryz.func13, Tryz.ntmps13
  go_upto_region 6 with (first | ((with_reducible refine zl (N := 2) rfl ?_); (try (refine yd (by rfl) ?_; dsimp only)); refine bx 2 #[.int .i64 0, .slice none 0 0, .string ⟨#[]⟩] 35 ?_; intro gb101 hg w8 hbox hb; have BK101 := ak (hbox); have GW101 := ak ((by rw [hg]; exact (zd bq) : w.heap.size ≤ gb101)); have GE101 := GW101; replace HB := ak (zb bq hb); clear hb hbox hg) | ((with_reducible refine za (f := 21) rfl ?_); refine cl 17 rfl Tryz.func21 #[.string a0] (zL.calls k a0 t102 t103 t104 t105 _ ?side1 A2.out) ?_; (case side1 => refine zY HGMax.out ?_; exact bq1 GE101.out); rintro e w9 ⟨v106, v108, rfl, ho0, ho1, hb⟩; refine ⟨_, rfl, ?_⟩; have HO107 := ak (Kd.R_lower ho0 (zd (bq1 GE101.out))); have HO109 := ak (Kd.R_lower ho1 (zd (bq1 GE101.out))); replace BK101 := ak (ze (blq BK101.out) hb); replace HB := ak (zb (bq1 GE101.out) hb); (try clear hb ho0 ho1); obtain ⟨Ao10, co10, eo10⟩ := Kd.R_slice HO107.out; subst eo10; have p110 : 0 ≤ (1 : Int) := (by omega); have q110 : 1 < (t102.length : Int) := of_decide_eq_true asm; obtain ⟨ad110, e110, hx110_0⟩ := Kd.at_string (Kd.R_reads' HO107.out).2.2 1 p110 q110; cases e110; (try simp only [show (1 : Int).toNat = 1 from rfl, Nat.reduceMul, Nat.reduceEqDiff, Go.Addr.add, ↓reduceIte] at hx110_0); have qi110 : (1 < t102.length) = True := eq_true (by omega); (try rw [show ((1 : Int)).toNat = 1 from rfl] at hx110_0); replace p110 := eq_true p110; replace q110 := eq_true q110) | ((with_reducible refine za (f := 33) rfl ?_); refine cl 30 rfl Tryz.func33 #[.string (rdOf ByteArray.empty t102 1)] (qr.calls (rdOf ByteArray.empty t102 1) t111 t112 _ ?side1 ?side2 A5.out) ?_; (case side1 => refine yY HGErr.out ?_; exact bq1 GE101.out); (case side2 => refine xu HGPow.out ?_; exact bq1 GE101.out); rintro e w11 ⟨rfl, hb⟩; refine ⟨_, rfl, ?_⟩; replace HO107 := ak (Kd.R_below (rdq HO107.out) hb); replace HO109 := ak (Kd.R_below (rdq HO109.out) hb); replace BK101 := ak (ze (blq BK101.out) hb); replace HB := ak (zb (bq1 GE101.out) hb); (try clear hb); obtain ⟨Ao12, co12, eo12⟩ := Kd.R_slice HO109.out; subst eo12) | ((with_reducible refine za (f := 22) rfl ?_); refine cl 35 rfl Tryz.func22 #[.slice Ao12 t103.length co12] (xq.calls _ _ t103 t113 _ ?side1 ?side2 A6.out) ?_; (case side1 => exact cq (Kd.R_reads' HO109.out).2.2); (case side2 => exact (Kd.R_reads' HO109.out).2.1); rintro e w13 ⟨v114, rfl, ho0, hb⟩; refine ⟨_, rfl, ?_⟩; have HO115 := ak (Kd.R_lower (Kd.R_new' ho0 (Kd.R_lt (rdq HO109.out))) (zd (bq1 GE101.out))); replace HO107 := ak (Kd.R_below (rdq HO107.out) hb); replace HO109 := ak (Kd.R_elder' (rdq HO109.out) (Kd.R_base ho0) hb); replace BK101 := ak (ze (blq BK101.out) hb); replace HB := ak (zb (bq1 GE101.out) hb); (try clear hb ho0); obtain ⟨Ao14, co14, eo14⟩ := Kd.R_slice HO115.out; subst eo14) | ((with_reducible refine zl (N := 11) rfl ?_); (try (refine yd (by rfl) ?_; dsimp only)); refine bx 11 #[.int .i64 0, .slice none 0 0, .string ⟨#[]⟩] 35 ?_; intro gb116 hg w15 hbox hb; have BK116 := ak (hbox); have GW116 := ak ((by rw [hg]; exact (zd (bq1 GE101.out)) : w.heap.size ≤ gb116)); have GE116 := GW116; have NB101_116 := ak ((by rw [hg]; exact Nat.ne_of_lt (xn (blq BK101.out)) : gb101 ≠ gb116)); have NB116_101 := ak NB101_116.out.symm; replace HO107 := ak (Kd.R_below (rdq HO107.out) hb); replace HO109 := ak (Kd.R_below (rdq HO109.out) hb); replace HO115 := ak (Kd.R_below (rdq HO115.out) hb); replace BK101 := ak (ze (blq BK101.out) hb); replace HB := ak (zb (bq1 GE101.out) hb); clear hb hbox hg; have hnb16 := NB116_101.out; have hnc16 := NB101_116.out; obtain ⟨hcz17_0, hcz17_1, hcz17_2, hfz17_0, hfz17_1, hfz17_2⟩ := blk3 BK116.out))
  (try simp only [Act.put, List.setIfInBounds_toArray, List.set_cons_zero, List.set_cons_succ])
  go_cut [56] (fun v56 wc => ∃ (kq : Nat) (x56_6 : Bool), v56 = .bool x56_6 ∧ Aside0 (zA.j0 kq a0 t103 t104 t111 x56_6 t111 t113 (⟨#[]⟩ : ByteArray) = some (r1, r2, r3, r4, r5)) ∧ Aside0 (kq ≤ k) ∧ Aside0 (Kd.R k55 55 wc w.heap.size (fun k_ => some k_ ≠ ((.slice Ao14 t113.length co14) : Value).ownBlock) (.slice Ao12 t103.length co12) t103) ∧ Aside0 (Kd.R k55 55 wc w.heap.size (fun k_ => some k_ ≠ ((.slice Ao12 t103.length co12) : Value).ownBlock) (.slice Ao14 t113.length co14) t113) ∧ Aside0 (wc.heap[gb101]? = some (.cells #[.int .i64 0, (.slice none 0 0), .string ⟨#[]⟩] 35 (0, 0))) ∧ Aside0 (wc.heap[gb116]? = some (.cells #[.int .i64 t111, (.slice Ao14 t113.length co14), .string ⟨#[]⟩] 35 (0, 0))) ∧ Aside0 (Below w.heap.size w wc))
  case first =>
   have H := HC7.out
   clear HC7
   replace H := sT H
   obtain ⟨c18, H⟩ := H
   have c18b0 := decide_eq_true c18
   have c18b1 : decide (0 < t102.length) = true := decide_eq_true (by omega)
   clear c18
   (first | rw [c18b0] | (simp only [i64_w, i32_w]; rw [c18b0]) | skip)
   replace H := se H
   rcases H with ⟨c19b0, c19b1, H⟩ | ⟨c19, c19b0, c19b1, H⟩
   ·replace H := sb H
    rcases H with ⟨rfl, H⟩ | ⟨rfl, H⟩
    ·replace H := se H
     rcases H with ⟨c21b0, c21b1, H⟩ | ⟨c21, c21b0, c21b1, H⟩
     ·replace H := ob H
      obtain ⟨t119, A22, H⟩ := H
      have H' := ak H
      clear H
      have p117 : 0 ≤ (0 : Int) := (by omega)
      have q117 : 0 < (t102.length : Int) := of_decide_eq_true asm
      obtain ⟨ad117, e117, hx117_0⟩ := Kd.at_string (Kd.R_reads' HO107.out).2.2 0 p117 q117
      obtain rfl : ad110 = ad117 := (by injection e117)
      have qi117 : (0 < t102.length) = True := eq_true (by omega)
      (try rw [show ((0 : Int)).toNat = 0 from rfl] at hx117_0)
      (try rw [Addr.add_zero'] at hx117_0)
      have hn117_0 : ad110.block ≠ gb116 := Kd.own_blk (Kd.R_ne HO107.out BK116.out (by decide))
      have hn117_1 : ad110.block ≠ gb116 := Kd.own_blk (Kd.R_ne HO107.out BK116.out (by decide))
      have hn117_2 : ad110.block ≠ gb116 := Kd.own_blk (Kd.R_ne HO107.out BK116.out (by decide))
      replace hx117_0 := (yW (p := ⟨gb116, 0, none⟩) (by first | (rw [zG]; exact hn117_0) | (show (Addr.add _ _).block ≠ _; rw [zG]; exact hn117_0) | exact hn117_0) (.int .i64 t111)).trans hx117_0
      replace hx117_0 := (yW (p := ⟨gb116, 1, none⟩) (by first | (rw [zG]; exact hn117_1) | (show (Addr.add _ _).block ≠ _; rw [zG]; exact hn117_1) | exact hn117_1) (.slice Ao14 t113.length co14)).trans hx117_0
      replace hx117_0 := (yW (p := ⟨gb116, 2, none⟩) (by first | (rw [zG]; exact hn117_2) | (show (Addr.add _ _).block ≠ _; rw [zG]; exact hn117_2) | exact hn117_2) (.string ⟨#[]⟩)).trans hx117_0
      clear hn117_0
      clear hn117_1
      clear hn117_2
      replace p117 := eq_true p117
      replace q117 := eq_true q117
      have p118 : 0 ≤ (1 : Int) := (by omega)
      have q118 : 1 < (t102.length : Int) := of_decide_eq_true asm
      obtain ⟨ad118, e118, hx118_0⟩ := Kd.at_string (Kd.R_reads' HO107.out).2.2 1 p118 q118
      obtain rfl : ad110 = ad118 := (by injection e118)
      (try simp only [show (1 : Int).toNat = 1 from rfl, Nat.reduceMul, Nat.reduceEqDiff, Go.Addr.add, ↓reduceIte] at hx118_0)
      have qi118 : (1 < t102.length) = True := eq_true (by omega)
      (try rw [show ((1 : Int)).toNat = 1 from rfl] at hx118_0)
      have hn118_0 : ad110.block ≠ gb116 := Kd.own_blk (Kd.R_ne HO107.out BK116.out (by decide))
      have hn118_1 : ad110.block ≠ gb116 := Kd.own_blk (Kd.R_ne HO107.out BK116.out (by decide))
      have hn118_2 : ad110.block ≠ gb116 := Kd.own_blk (Kd.R_ne HO107.out BK116.out (by decide))
      replace hx118_0 := (yW (p := ⟨gb116, 0, none⟩) (by first | (rw [zG]; exact hn118_0) | (show (Addr.add _ _).block ≠ _; rw [zG]; exact hn118_0) | exact hn118_0) (.int .i64 t111)).trans hx118_0
      replace hx118_0 := (yW (p := ⟨gb116, 1, none⟩) (by first | (rw [zG]; exact hn118_1) | (show (Addr.add _ _).block ≠ _; rw [zG]; exact hn118_1) | exact hn118_1) (.slice Ao14 t113.length co14)).trans hx118_0
      replace hx118_0 := (yW (p := ⟨gb116, 2, none⟩) (by first | (rw [zG]; exact hn118_2) | (show (Addr.add _ _).block ≠ _; rw [zG]; exact hn118_2) | exact hn118_2) (.string ⟨#[]⟩)).trans hx118_0
      clear hn118_0
      clear hn118_1
      clear hn118_2
      replace p118 := eq_true p118
      replace q118 := eq_true q118
      have hnb23 := NB116_101.out
      have hnc23 := NB101_116.out
      obtain ⟨hcz24_0, hcz24_1, hcz24_2, hfz24_0, hfz24_1, hfz24_2⟩ := blk3 BK116.out
      go_wp2_with (first | (go_at_call 29; (with_reducible refine (yE.calls k t111 _ _ t113 (⟨#[]⟩ : ByteArray) t119 _ ?side1 ?side2 A22.out).mono ?_); (case side1 => refine (Kd.R_reads' (e := 55) (base := w.heap.size) (ok := fun k_ => (True ∧ some k_ ≠ (.slice Ao12 t103.length co12 : Value).ownBlock)) (n := t113.length) (c := co14) ?_).2.2; exact (rfd HO115.out BK116.out)); (case side2 => exact (Kd.R_reads' HO115.out).2.1); rintro e w25 ⟨rfl, hb⟩; replace HO107 := ak (Kd.R_below (rfd HO107.out BK116.out) hb); replace HO109 := ak (Kd.R_below (rfd HO109.out BK116.out) hb); replace HO115 := ak (Kd.R_below (rfd HO115.out BK116.out) hb); replace BK101 := ak (ze (g := gb101) (o := .cells #[.int .i64 0, .slice none 0 0, .string ⟨#[]⟩] 35 (0, 0)) (blf1 BK101.out NB101_116.out) hb); replace BK116 := ak (ze (g := gb116) (o := .cells #[.int .i64 t111, .slice Ao14 t113.length co14, .string ⟨#[]⟩] 35 (0, 0)) (blp0 BK116.out) hb); replace HB := ak (zb (bq2 GE101.out GE116.out) hb); (try clear hb)))
      go_meet
      case rel => exact ⟨_, (!t119), rs, H', ⟨om⟩, ⟨by (with_reducible repeat (first | apply Kd.R_alloc | apply Kd.R_drewN | apply Kd.R_drew)); exact Kd.R_mono HO109.out (fun _ hk => hk.2)⟩, ⟨by (with_reducible repeat (first | apply Kd.R_alloc | apply Kd.R_drewN | apply Kd.R_drew)); exact Kd.R_mono HO115.out (fun _ hk => hk.2)⟩, ⟨blq BK101.out⟩, ⟨blq BK116.out⟩, ⟨bq2 GE101.out GE116.out⟩⟩
     ·have H' := ak H
      clear H
      have p117 : 0 ≤ (0 : Int) := (by omega)
      have q117 : 0 < (t102.length : Int) := of_decide_eq_true asm
      obtain ⟨ad117, e117, hx117_0⟩ := Kd.at_string (Kd.R_reads' HO107.out).2.2 0 p117 q117
      obtain rfl : ad110 = ad117 := (by injection e117)
      have qi117 : (0 < t102.length) = True := eq_true (by omega)
      (try rw [show ((0 : Int)).toNat = 0 from rfl] at hx117_0)
      (try rw [Addr.add_zero'] at hx117_0)
      have hn117_0 : ad110.block ≠ gb116 := Kd.own_blk (Kd.R_ne HO107.out BK116.out (by decide))
      have hn117_1 : ad110.block ≠ gb116 := Kd.own_blk (Kd.R_ne HO107.out BK116.out (by decide))
      have hn117_2 : ad110.block ≠ gb116 := Kd.own_blk (Kd.R_ne HO107.out BK116.out (by decide))
      replace hx117_0 := (yW (p := ⟨gb116, 0, none⟩) (by first | (rw [zG]; exact hn117_0) | (show (Addr.add _ _).block ≠ _; rw [zG]; exact hn117_0) | exact hn117_0) (.int .i64 t111)).trans hx117_0
      replace hx117_0 := (yW (p := ⟨gb116, 1, none⟩) (by first | (rw [zG]; exact hn117_1) | (show (Addr.add _ _).block ≠ _; rw [zG]; exact hn117_1) | exact hn117_1) (.slice Ao14 t113.length co14)).trans hx117_0
      replace hx117_0 := (yW (p := ⟨gb116, 2, none⟩) (by first | (rw [zG]; exact hn117_2) | (show (Addr.add _ _).block ≠ _; rw [zG]; exact hn117_2) | exact hn117_2) (.string ⟨#[]⟩)).trans hx117_0
      clear hn117_0
      clear hn117_1
      clear hn117_2
      replace p117 := eq_true p117
      replace q117 := eq_true q117
      have p118 : 0 ≤ (1 : Int) := (by omega)
      have q118 : 1 < (t102.length : Int) := of_decide_eq_true asm
      obtain ⟨ad118, e118, hx118_0⟩ := Kd.at_string (Kd.R_reads' HO107.out).2.2 1 p118 q118
      obtain rfl : ad110 = ad118 := (by injection e118)
      (try simp only [show (1 : Int).toNat = 1 from rfl, Nat.reduceMul, Nat.reduceEqDiff, Go.Addr.add, ↓reduceIte] at hx118_0)
      have qi118 : (1 < t102.length) = True := eq_true (by omega)
      (try rw [show ((1 : Int)).toNat = 1 from rfl] at hx118_0)
      have hn118_0 : ad110.block ≠ gb116 := Kd.own_blk (Kd.R_ne HO107.out BK116.out (by decide))
      have hn118_1 : ad110.block ≠ gb116 := Kd.own_blk (Kd.R_ne HO107.out BK116.out (by decide))
      have hn118_2 : ad110.block ≠ gb116 := Kd.own_blk (Kd.R_ne HO107.out BK116.out (by decide))
      replace hx118_0 := (yW (p := ⟨gb116, 0, none⟩) (by first | (rw [zG]; exact hn118_0) | (show (Addr.add _ _).block ≠ _; rw [zG]; exact hn118_0) | exact hn118_0) (.int .i64 t111)).trans hx118_0
      replace hx118_0 := (yW (p := ⟨gb116, 1, none⟩) (by first | (rw [zG]; exact hn118_1) | (show (Addr.add _ _).block ≠ _; rw [zG]; exact hn118_1) | exact hn118_1) (.slice Ao14 t113.length co14)).trans hx118_0
      replace hx118_0 := (yW (p := ⟨gb116, 2, none⟩) (by first | (rw [zG]; exact hn118_2) | (show (Addr.add _ _).block ≠ _; rw [zG]; exact hn118_2) | exact hn118_2) (.string ⟨#[]⟩)).trans hx118_0
      clear hn118_0
      clear hn118_1
      clear hn118_2
      replace p118 := eq_true p118
      replace q118 := eq_true q118
      go_wp2
      go_meet
      case rel => exact ⟨_, (true), rs, H', ⟨om⟩, ⟨by (with_reducible repeat (first | apply Kd.R_alloc | apply Kd.R_drewN | apply Kd.R_drew)); exact Kd.R_mono (Kd.R_far (p := ⟨gb116, 2, none⟩) (Kd.R_far (p := ⟨gb116, 1, none⟩) (Kd.R_far (p := ⟨gb116, 0, none⟩) (Kd.R_types HO109.out BK116.out (by decide)) (fun _ hk => hk.2) (.int .i64 t111)) (fun _ hk => hk.2) (.slice Ao14 t113.length co14)) (fun _ hk => hk.2) (.string ⟨#[]⟩)) (fun _ hk => hk.1.2)⟩, ⟨by (with_reducible repeat (first | apply Kd.R_alloc | apply Kd.R_drewN | apply Kd.R_drew)); exact Kd.R_mono (Kd.R_far (p := ⟨gb116, 2, none⟩) (Kd.R_far (p := ⟨gb116, 1, none⟩) (Kd.R_far (p := ⟨gb116, 0, none⟩) (Kd.R_types HO115.out BK116.out (by decide)) (fun _ hk => hk.2) (.int .i64 t111)) (fun _ hk => hk.2) (.slice Ao14 t113.length co14)) (fun _ hk => hk.2) (.string ⟨#[]⟩)) (fun _ hk => hk.1.2)⟩, ⟨blf1 BK101.out NB101_116.out⟩, ⟨blp0 BK116.out⟩, ⟨bq2 GE101.out GE116.out⟩⟩
    ·have H' := ak H
     clear H
     have p117 : 0 ≤ (0 : Int) := (by omega)
     have q117 : 0 < (t102.length : Int) := of_decide_eq_true asm
     obtain ⟨ad117, e117, hx117_0⟩ := Kd.at_string (Kd.R_reads' HO107.out).2.2 0 p117 q117
     obtain rfl : ad110 = ad117 := (by injection e117)
     have qi117 : (0 < t102.length) = True := eq_true (by omega)
     (try rw [show ((0 : Int)).toNat = 0 from rfl] at hx117_0)
     (try rw [Addr.add_zero'] at hx117_0)
     have hn117_0 : ad110.block ≠ gb116 := Kd.own_blk (Kd.R_ne HO107.out BK116.out (by decide))
     have hn117_1 : ad110.block ≠ gb116 := Kd.own_blk (Kd.R_ne HO107.out BK116.out (by decide))
     have hn117_2 : ad110.block ≠ gb116 := Kd.own_blk (Kd.R_ne HO107.out BK116.out (by decide))
     replace hx117_0 := (yW (p := ⟨gb116, 0, none⟩) (by first | (rw [zG]; exact hn117_0) | (show (Addr.add _ _).block ≠ _; rw [zG]; exact hn117_0) | exact hn117_0) (.int .i64 t111)).trans hx117_0
     replace hx117_0 := (yW (p := ⟨gb116, 1, none⟩) (by first | (rw [zG]; exact hn117_1) | (show (Addr.add _ _).block ≠ _; rw [zG]; exact hn117_1) | exact hn117_1) (.slice Ao14 t113.length co14)).trans hx117_0
     replace hx117_0 := (yW (p := ⟨gb116, 2, none⟩) (by first | (rw [zG]; exact hn117_2) | (show (Addr.add _ _).block ≠ _; rw [zG]; exact hn117_2) | exact hn117_2) (.string ⟨#[]⟩)).trans hx117_0
     clear hn117_0
     clear hn117_1
     clear hn117_2
     replace p117 := eq_true p117
     replace q117 := eq_true q117
     go_wp2
     go_meet
     case rel => exact ⟨_, (true), rs, H', ⟨om⟩, ⟨by (with_reducible repeat (first | apply Kd.R_alloc | apply Kd.R_drewN | apply Kd.R_drew)); exact Kd.R_mono (Kd.R_far (p := ⟨gb116, 2, none⟩) (Kd.R_far (p := ⟨gb116, 1, none⟩) (Kd.R_far (p := ⟨gb116, 0, none⟩) (Kd.R_types HO109.out BK116.out (by decide)) (fun _ hk => hk.2) (.int .i64 t111)) (fun _ hk => hk.2) (.slice Ao14 t113.length co14)) (fun _ hk => hk.2) (.string ⟨#[]⟩)) (fun _ hk => hk.1.2)⟩, ⟨by (with_reducible repeat (first | apply Kd.R_alloc | apply Kd.R_drewN | apply Kd.R_drew)); exact Kd.R_mono (Kd.R_far (p := ⟨gb116, 2, none⟩) (Kd.R_far (p := ⟨gb116, 1, none⟩) (Kd.R_far (p := ⟨gb116, 0, none⟩) (Kd.R_types HO115.out BK116.out (by decide)) (fun _ hk => hk.2) (.int .i64 t111)) (fun _ hk => hk.2) (.slice Ao14 t113.length co14)) (fun _ hk => hk.2) (.string ⟨#[]⟩)) (fun _ hk => hk.1.2)⟩, ⟨blf1 BK101.out NB101_116.out⟩, ⟨blp0 BK116.out⟩, ⟨bq2 GE101.out GE116.out⟩⟩
   ·have H' := ak H
    clear H
    have p117 : 0 ≤ (0 : Int) := (by omega)
    have q117 : 0 < (t102.length : Int) := of_decide_eq_true asm
    obtain ⟨ad117, e117, hx117_0⟩ := Kd.at_string (Kd.R_reads' HO107.out).2.2 0 p117 q117
    obtain rfl : ad110 = ad117 := (by injection e117)
    have qi117 : (0 < t102.length) = True := eq_true (by omega)
    (try rw [show ((0 : Int)).toNat = 0 from rfl] at hx117_0)
    (try rw [Addr.add_zero'] at hx117_0)
    have hn117_0 : ad110.block ≠ gb116 := Kd.own_blk (Kd.R_ne HO107.out BK116.out (by decide))
    have hn117_1 : ad110.block ≠ gb116 := Kd.own_blk (Kd.R_ne HO107.out BK116.out (by decide))
    have hn117_2 : ad110.block ≠ gb116 := Kd.own_blk (Kd.R_ne HO107.out BK116.out (by decide))
    replace hx117_0 := (yW (p := ⟨gb116, 0, none⟩) (by first | (rw [zG]; exact hn117_0) | (show (Addr.add _ _).block ≠ _; rw [zG]; exact hn117_0) | exact hn117_0) (.int .i64 t111)).trans hx117_0
    replace hx117_0 := (yW (p := ⟨gb116, 1, none⟩) (by first | (rw [zG]; exact hn117_1) | (show (Addr.add _ _).block ≠ _; rw [zG]; exact hn117_1) | exact hn117_1) (.slice Ao14 t113.length co14)).trans hx117_0
    replace hx117_0 := (yW (p := ⟨gb116, 2, none⟩) (by first | (rw [zG]; exact hn117_2) | (show (Addr.add _ _).block ≠ _; rw [zG]; exact hn117_2) | exact hn117_2) (.string ⟨#[]⟩)).trans hx117_0
    clear hn117_0
    clear hn117_1
    clear hn117_2
    replace p117 := eq_true p117
    replace q117 := eq_true q117
    go_wp2
    go_meet
    case rel => exact ⟨_, (true), rs, H', ⟨om⟩, ⟨by (with_reducible repeat (first | apply Kd.R_alloc | apply Kd.R_drewN | apply Kd.R_drew)); exact Kd.R_mono (Kd.R_far (p := ⟨gb116, 2, none⟩) (Kd.R_far (p := ⟨gb116, 1, none⟩) (Kd.R_far (p := ⟨gb116, 0, none⟩) (Kd.R_types HO109.out BK116.out (by decide)) (fun _ hk => hk.2) (.int .i64 t111)) (fun _ hk => hk.2) (.slice Ao14 t113.length co14)) (fun _ hk => hk.2) (.string ⟨#[]⟩)) (fun _ hk => hk.1.2)⟩, ⟨by (with_reducible repeat (first | apply Kd.R_alloc | apply Kd.R_drewN | apply Kd.R_drew)); exact Kd.R_mono (Kd.R_far (p := ⟨gb116, 2, none⟩) (Kd.R_far (p := ⟨gb116, 1, none⟩) (Kd.R_far (p := ⟨gb116, 0, none⟩) (Kd.R_types HO115.out BK116.out (by decide)) (fun _ hk => hk.2) (.int .i64 t111)) (fun _ hk => hk.2) (.slice Ao14 t113.length co14)) (fun _ hk => hk.2) (.string ⟨#[]⟩)) (fun _ hk => hk.1.2)⟩, ⟨blf1 BK101.out NB101_116.out⟩, ⟨blp0 BK116.out⟩, ⟨bq2 GE101.out GE116.out⟩⟩
  case rest =>
   clear HC7
   try clear q1
   try clear hx1
   try clear qi1
   try clear q11
   try clear hx11
   try clear qi11
   try clear hcz17_0 hcz17_1 hcz17_2 hfz17_0 hfz17_1 hfz17_2
   try clear hcz24_0 hcz24_1 hcz24_2 hfz24_0 hfz24_1 hfz24_2
   try clear hx110_0
   try clear hx117_0
   try clear hx118_0
   try clear q110
   try clear q117
   try clear q118
   obtain ⟨kq, x56_6, rfl, HA, HJ6, HO_6, HO_117001, BK101, BK116, HB⟩ := hcut
   cases kq with
   | zero => exact absurd HA.out (by simp [zA.j0])
   | succ kj6 =>
    have H := HA.out
    clear HA
    simp only [zA.j0] at H
    replace H := sb H
    rcases H with ⟨rfl, H⟩ | ⟨rfl, H⟩
    ·obtain ⟨rfl, rfl, rfl, rfl, rfl⟩ := oi5 H
     have hnb27 := NB101_116.out
     have hnc27 := NB116_101.out
     obtain ⟨hcz28_0, hcz28_1, hcz28_2, hfz28_0, hfz28_1, hfz28_2⟩ := blk3 BK101.out
     go_wp2
     refine bodyPost_ret (qk rfl _ _ gb101 35 #[.int .i64 0, .slice none 0 0, .string ⟨#[]⟩] (0, 0) _ rfl (blp0 BK101.out) Tryz.underlying35 rfl (by kernel_rfl)) rfl ?_
     exact ⟨_, rv, Kd.R_nil _ _ _ _ _, bq2 GE101.out GE116.out⟩
    ·replace H := ob H
     obtain ⟨t120, A29, H⟩ := H
     try dsimp only at H
     replace H := sb H
     rcases H with ⟨rfl, H⟩ | ⟨rfl, H⟩
     ·obtain ⟨rfl, rfl, rfl, rfl, rfl⟩ := oi5 H
      go_wp2_with (first | ((with_reducible refine za (f := 30) rfl ?_); refine cl 59 rfl Tryz.func30 #[.int .i64 t111] (xt.calls t111 true _ A29.out) ?_; rintro e w' ⟨rfl, ⟨nd, rfl⟩⟩; refine ⟨_, rfl, ?_⟩; (try (rw [qT wc]; generalize hq_ : World.drewN wc _ = wc; have n0_ : Aside0 (Kd.R k55 55 wc w.heap.size (fun k_ => some k_ ≠ (.slice Ao12 t103.length co12 : Value).ownBlock) (.slice Ao14 t113.length co14) t113) := ⟨by rw [← hq_]; exact (rdq HO_117001.out)⟩; have n1_ : Aside0 (Kd.R k55 55 wc w.heap.size (fun k_ => some k_ ≠ (.slice Ao14 t113.length co14 : Value).ownBlock) (.slice Ao12 t103.length co12) t103) := ⟨by rw [← hq_]; exact (rdq HO_6.out)⟩; have n2_ : Aside0 (wc.heap[gb101]? = some (.cells #[.int .i64 0, .slice none 0 0, .string ⟨#[]⟩] 35 (0, 0))) := ⟨by rw [← hq_]; exact (blq BK101.out)⟩; have n3_ : Aside0 (wc.heap[gb116]? = some (.cells #[.int .i64 t111, .slice Ao14 t113.length co14, .string ⟨#[]⟩] 35 (0, 0))) := ⟨by rw [← hq_]; exact (blq BK116.out)⟩; have n4_ : Aside0 (Below w.heap.size w wc) := ⟨by rw [← hq_]; exact (bq2 GE101.out GE116.out)⟩; clear HO_117001 HO_6 BK101 BK116 HB hq_; have HO_117001 := n0_; have HO_6 := n1_; have BK101 := n2_; have BK116 := n3_; have HB := n4_; clear n0_ n1_ n2_ n3_ n4_)); have hnb31 := NB116_101.out; have hnc31 := NB101_116.out; obtain ⟨hcz32_0, hcz32_1, hcz32_2, hfz32_0, hfz32_1, hfz32_2⟩ := blk3 BK116.out; obtain ⟨hcz33_0, hcz33_1, hcz33_2, hfz33_0, hfz33_1, hfz33_2⟩ := blk3 BK101.out))
      refine bodyPost_ret (qk rfl _ _ gb101 35 #[.int .i64 t111, .slice Ao14 t113.length co14, .string ⟨#[]⟩] (0, 0) _ rfl (blp0 BK101.out) Tryz.underlying35 rfl (by kernel_rfl)) rfl ?_
      exact ⟨_, rv, by (with_reducible repeat (first | apply Kd.R_alloc | apply Kd.R_drewN | apply Kd.R_drew)); exact Kd.R_mono (Kd.R_far (p := ⟨gb101, 2, none⟩) (Kd.R_far (p := ⟨gb101, 1, none⟩) (Kd.R_far (p := ⟨gb101, 0, none⟩) (Kd.R_types HO_117001.out BK101.out (by decide)) (fun _ hk => hk.2) (.int .i64 t111)) (fun _ hk => hk.2) (.slice Ao14 t113.length co14)) (fun _ hk => hk.2) (.string ⟨#[]⟩)) (fun _ hk => trivial), bq2 GE101.out GE116.out⟩
     ·replace H := ob H
      obtain ⟨⟨t121, t122, t123⟩, A34, H⟩ := H
      try dsimp only at H
      replace H := se H
      rcases H with ⟨c35b0, c35b1, H⟩ | ⟨c35, c35b0, c35b1, H⟩
      ·obtain ⟨rfl, rfl, rfl, rfl, rfl⟩ := oi5 H
       go_wp2_with (first | ((with_reducible refine za (f := 30) rfl ?_); refine cl 59 rfl Tryz.func30 #[.int .i64 t111] (xt.calls t111 false _ A29.out) ?_; rintro e w' ⟨rfl, ⟨nd, rfl⟩⟩; refine ⟨_, rfl, ?_⟩; (try (rw [qT wc]; generalize hq_ : World.drewN wc _ = wc; have n0_ : Aside0 (Kd.R k55 55 wc w.heap.size (fun k_ => some k_ ≠ (.slice Ao12 t103.length co12 : Value).ownBlock) (.slice Ao14 t113.length co14) t113) := ⟨by rw [← hq_]; exact (rdq HO_117001.out)⟩; have n1_ : Aside0 (Kd.R k55 55 wc w.heap.size (fun k_ => some k_ ≠ (.slice Ao14 t113.length co14 : Value).ownBlock) (.slice Ao12 t103.length co12) t103) := ⟨by rw [← hq_]; exact (rdq HO_6.out)⟩; have n2_ : Aside0 (wc.heap[gb101]? = some (.cells #[.int .i64 0, .slice none 0 0, .string ⟨#[]⟩] 35 (0, 0))) := ⟨by rw [← hq_]; exact (blq BK101.out)⟩; have n3_ : Aside0 (wc.heap[gb116]? = some (.cells #[.int .i64 t111, .slice Ao14 t113.length co14, .string ⟨#[]⟩] 35 (0, 0))) := ⟨by rw [← hq_]; exact (blq BK116.out)⟩; have n4_ : Aside0 (Below w.heap.size w wc) := ⟨by rw [← hq_]; exact (bq2 GE101.out GE116.out)⟩; clear HO_117001 HO_6 BK101 BK116 HB hq_; have HO_117001 := n0_; have HO_6 := n1_; have BK101 := n2_; have BK116 := n3_; have HB := n4_; clear n0_ n1_ n2_ n3_ n4_))) | ((with_reducible refine za (f := 23) rfl ?_); refine cl 69 rfl Tryz.func23 #[.slice Ao12 t103.length co12, .string t104, .bool true] (yn.calls kj6 _ _ t103 t104 true t121 t122 t123 _ ?side1 ?side2 ?side3 ?side4 A34.out) ?_; (case side1 => exact cq (Kd.R_reads' HO_6.out).2.2); (case side2 => exact (Kd.R_reads' HO_6.out).2.1); (case side3 => refine yY HGErr.out ?_; exact bq2 GE101.out GE116.out); (case side4 => refine zY HGMax.out ?_; exact bq2 GE101.out GE116.out); rintro e w36 ⟨rfl, hb⟩; refine ⟨_, rfl, ?_⟩; replace HO_6 := ak (Kd.R_below (rdq HO_6.out) hb); replace HO_117001 := ak (Kd.R_below (rdq HO_117001.out) hb); replace BK101 := ak (ze (blq BK101.out) hb); replace BK116 := ak (ze (blq BK116.out) hb); replace HB := ak (zb (bq2 GE101.out GE116.out) hb); (try clear hb); have hnb37 := NB116_101.out; have hnc37 := NB101_116.out; obtain ⟨hcz38_0, hcz38_1, hcz38_2, hfz38_0, hfz38_1, hfz38_2⟩ := blk3 BK116.out; obtain ⟨hcz39_0, hcz39_1, hcz39_2, hfz39_0, hfz39_1, hfz39_2⟩ := blk3 BK101.out))
       refine bodyPost_ret (qk rfl _ _ gb101 35 #[.int .i64 t111, .slice Ao14 t113.length co14, .string t121] (0, 0) _ rfl (blp1 BK101.out NB101_116.out) Tryz.underlying35 rfl (by kernel_rfl)) rfl ?_
       exact ⟨_, rv, by (with_reducible repeat (first | apply Kd.R_alloc | apply Kd.R_drewN | apply Kd.R_drew)); exact Kd.R_mono (Kd.R_far (p := ⟨gb101, 2, none⟩) (Kd.R_far (p := ⟨gb101, 1, none⟩) (Kd.R_far (p := ⟨gb101, 0, none⟩) (Kd.R_far (p := ⟨gb116, 2, none⟩) (Kd.R_types (Kd.R_types HO_117001.out BK116.out (by decide)) BK101.out (by decide)) (fun _ hk => hk.1.2) (.string t121)) (fun _ hk => hk.2) (.int .i64 t111)) (fun _ hk => hk.2) (.slice Ao14 t113.length co14)) (fun _ hk => hk.2) (.string t121)) (fun _ hk => trivial), bq2 GE101.out GE116.out⟩
      ·replace H := ob H
       obtain ⟨t124, A40, H⟩ := H
       obtain ⟨rfl, rfl, rfl, rfl, rfl⟩ := oi5 H
       go_wp2_with (first | ((with_reducible refine za (f := 30) rfl ?_); refine cl 59 rfl Tryz.func30 #[.int .i64 t111] (xt.calls t111 false _ A29.out) ?_; rintro e w' ⟨rfl, ⟨nd, rfl⟩⟩; refine ⟨_, rfl, ?_⟩; (try (rw [qT wc]; generalize hq_ : World.drewN wc _ = wc; have n0_ : Aside0 (Kd.R k55 55 wc w.heap.size (fun k_ => some k_ ≠ (.slice Ao12 t103.length co12 : Value).ownBlock) (.slice Ao14 t113.length co14) t113) := ⟨by rw [← hq_]; exact (rdq HO_117001.out)⟩; have n1_ : Aside0 (Kd.R k55 55 wc w.heap.size (fun k_ => some k_ ≠ (.slice Ao14 t113.length co14 : Value).ownBlock) (.slice Ao12 t103.length co12) t103) := ⟨by rw [← hq_]; exact (rdq HO_6.out)⟩; have n2_ : Aside0 (wc.heap[gb101]? = some (.cells #[.int .i64 0, .slice none 0 0, .string ⟨#[]⟩] 35 (0, 0))) := ⟨by rw [← hq_]; exact (blq BK101.out)⟩; have n3_ : Aside0 (wc.heap[gb116]? = some (.cells #[.int .i64 t111, .slice Ao14 t113.length co14, .string ⟨#[]⟩] 35 (0, 0))) := ⟨by rw [← hq_]; exact (blq BK116.out)⟩; have n4_ : Aside0 (Below w.heap.size w wc) := ⟨by rw [← hq_]; exact (bq2 GE101.out GE116.out)⟩; clear HO_117001 HO_6 BK101 BK116 HB hq_; have HO_117001 := n0_; have HO_6 := n1_; have BK101 := n2_; have BK116 := n3_; have HB := n4_; clear n0_ n1_ n2_ n3_ n4_))) | ((with_reducible refine za (f := 23) rfl ?_); refine cl 69 rfl Tryz.func23 #[.slice Ao12 t103.length co12, .string t104, .bool true] (yn.calls kj6 _ _ t103 t104 true t121 t122 t123 _ ?side1 ?side2 ?side3 ?side4 A34.out) ?_; (case side1 => exact cq (Kd.R_reads' HO_6.out).2.2); (case side2 => exact (Kd.R_reads' HO_6.out).2.1); (case side3 => refine yY HGErr.out ?_; exact bq2 GE101.out GE116.out); (case side4 => refine zY HGMax.out ?_; exact bq2 GE101.out GE116.out); rintro e w41 ⟨rfl, hb⟩; refine ⟨_, rfl, ?_⟩; replace HO_6 := ak (Kd.R_below (rdq HO_6.out) hb); replace HO_117001 := ak (Kd.R_below (rdq HO_117001.out) hb); replace BK101 := ak (ze (blq BK101.out) hb); replace BK116 := ak (ze (blq BK116.out) hb); replace HB := ak (zb (bq2 GE101.out GE116.out) hb); (try clear hb)) | ((with_reducible refine za (f := 24) rfl ?_); refine cl 77 rfl Tryz.func24 #[.int .i64 t123] (xX.calls t123 t124 _ A40.out) ?_; rintro e w' ⟨rfl, ⟨nd, rfl⟩⟩; refine ⟨_, rfl, ?_⟩; (try (rw [qT w41]; generalize hq_ : World.drewN w41 _ = w41; have n0_ : Aside0 (Kd.R k55 55 w41 w.heap.size (fun k_ => some k_ ≠ (.slice Ao12 t103.length co12 : Value).ownBlock) (.slice Ao14 t113.length co14) t113) := ⟨by rw [← hq_]; exact (rdq HO_117001.out)⟩; have n1_ : Aside0 (Kd.R k55 55 w41 w.heap.size (fun k_ => some k_ ≠ (.slice Ao14 t113.length co14 : Value).ownBlock) (.slice Ao12 t103.length co12) t103) := ⟨by rw [← hq_]; exact (rdq HO_6.out)⟩; have n2_ : Aside0 (w41.heap[gb101]? = some (.cells #[.int .i64 0, .slice none 0 0, .string ⟨#[]⟩] 35 (0, 0))) := ⟨by rw [← hq_]; exact (blq BK101.out)⟩; have n3_ : Aside0 (w41.heap[gb116]? = some (.cells #[.int .i64 t111, .slice Ao14 t113.length co14, .string ⟨#[]⟩] 35 (0, 0))) := ⟨by rw [← hq_]; exact (blq BK116.out)⟩; have n4_ : Aside0 (Below w.heap.size w w41) := ⟨by rw [← hq_]; exact (bq2 GE101.out GE116.out)⟩; clear HO_117001 HO_6 BK101 BK116 HB hq_; have HO_117001 := n0_; have HO_6 := n1_; have BK101 := n2_; have BK116 := n3_; have HB := n4_; clear n0_ n1_ n2_ n3_ n4_)); have hnb42 := NB101_116.out; have hnc42 := NB116_101.out; obtain ⟨hcz43_0, hcz43_1, hcz43_2, hfz43_0, hfz43_1, hfz43_2⟩ := blk3 BK101.out))
       refine bodyPost_ret (qk rfl _ _ gb101 35 #[.int .i64 0, .slice none 0 0, .string ⟨#[]⟩] (0, 0) _ rfl (blp0 BK101.out) Tryz.underlying35 rfl (by kernel_rfl)) rfl ?_
       exact ⟨_, rv, Kd.R_nil _ _ _ _ _, bq2 GE101.out GE116.out⟩
 ·obtain ⟨rfl, rfl, rfl, rfl, rfl⟩ := oi5 H
  go_enter Tryz.func13, Tryz.ntmps13
  go_wp2_with (first | ((with_reducible refine zl (N := 2) rfl ?_); (try (refine yd (by rfl) ?_; dsimp only)); refine bx 2 #[.int .i64 0, .slice none 0 0, .string ⟨#[]⟩] 35 ?_; intro gb101 hg w44 hbox hb; have BK101 := ak (hbox); have GW101 := ak ((by rw [hg]; exact (zd bq) : w.heap.size ≤ gb101)); have GE101 := GW101; replace HB := ak (zb bq hb); clear hb hbox hg) | ((with_reducible refine za (f := 21) rfl ?_); refine cl 17 rfl Tryz.func21 #[.string a0] (zL.calls k a0 t102 t103 t104 t105 _ ?side1 A2.out) ?_; (case side1 => refine zY HGMax.out ?_; exact bq1 GE101.out); rintro e w45 ⟨v106, v108, rfl, ho0, ho1, hb⟩; refine ⟨_, rfl, ?_⟩; have HO107 := ak (Kd.R_lower ho0 (zd (bq1 GE101.out))); have HO109 := ak (Kd.R_lower ho1 (zd (bq1 GE101.out))); replace BK101 := ak (ze (blq BK101.out) hb); replace HB := ak (zb (bq1 GE101.out) hb); (try clear hb ho0 ho1); obtain ⟨hcz46_0, hcz46_1, hcz46_2, hfz46_0, hfz46_1, hfz46_2⟩ := blk3 BK101.out))
  refine bodyPost_ret (qk rfl _ _ gb101 35 #[.int .i64 0, .slice none 0 0, .string ⟨#[]⟩] (0, 0) _ rfl (blp0 BK101.out) Tryz.underlying35 rfl (by kernel_rfl)) rfl ?_
  exact ⟨_, rv, Kd.R_nil _ _ _ _ _, bq1 GE101.out⟩
def yL.f (k : Nat) (a0_0 : Int) (l0_1 : List (S55)) (a0_2 : ByteArray) : Option (Bool) := (yZ.f a0_0 200 599).bind fun t102 => (if t102 = true then ((yR.f k l0_1).bind fun t103 => (if t103 = true then (if (a0_2.size : Int) ≤ 60 then (if a0_0 = 204 then (some (a0_2.toList == ([] : List UInt8))) else (if a0_0 = 304 then (some (a0_2.toList == ([] : List UInt8))) else (some true))) else (some false)) else (some false))) else (some false))
theorem yL.mono : ∀ a0 a1 a2 k, LeO (yL.f k a0 a1 a2) (yL.f (k + 1) a0 a1 a2) := by
 intro a0 a1 a2 k
 unfold yL.f
 exact mq1 yR.mono
theorem yL.calls (k : Nat) (a0_0 : Int) (A0_1 : Option Addr) (c0_1 : Nat) (l0_1 : List (S55)) (a0_2 : ByteArray) (r : Bool) (w : World) (hr0_1 : Kd.C k55 w A0_1 l0_1.length l0_1) (hc0_1 : l0_1.length ≤ c0_1) (h : yL.f k a0_0 l0_1 a0_2 = some r) :
  Calls Tryz.prog 14 #[.agg #[.int .i64 a0_0, .slice A0_1 l0_1.length c0_1, .string a0_2]] w fun e w' => e = .returned (.bool r) ∧ Below w.heap.size w w' := by
 have hu35 := Tryz.underlying35
 have HR0_1 := ak hr0_1
 have HC0_1 := ak hc0_1
 clear hr0_1 hc0_1
 have HB := ak (Below.refl w.heap.size w)
 have H := h
 unfold yL.f at H
 clear h
 replace H := ob H
 obtain ⟨t102, A2, H⟩ := H
 replace H := sb H
 rcases H with ⟨rfl, H⟩ | ⟨rfl, H⟩
 ·replace H := ob H
  obtain ⟨t103, A4, H⟩ := H
  try dsimp only at H
  replace H := sb H
  rcases H with ⟨rfl, H⟩ | ⟨rfl, H⟩
  ·replace H := si H
   rcases H with ⟨c6, H⟩ | ⟨c6, H⟩
   ·have c6b0 := decide_eq_true c6
    have c6b1 : decide (a0_2.size ≤ 60) = true := decide_eq_true (by omega)
    clear c6
    replace H := se H
    rcases H with ⟨c7b0, c7b1, H⟩ | ⟨c7, c7b0, c7b1, H⟩
    ·obtain rfl := oi1 H
     go_enter Tryz.func14, Tryz.ntmps14
     go_wp2_with (first | ((with_reducible refine zl (N := 1) rfl ?_); (try (refine yd (by rfl) ?_; dsimp only)); refine bx 1 #[.int .i64 a0_0, .slice A0_1 l0_1.length c0_1, .string a0_2] 35 ?_; intro gb101 hg w8 hbox hb; have BK101 := ak (hbox); have GW101 := ak ((by rw [hg]; exact (zd bq) : w.heap.size ≤ gb101)); have GE101 := GW101; replace HB := ak (zb bq hb); clear hb hbox hg; obtain ⟨hcz9_0, hcz9_1, hcz9_2, hfz9_0, hfz9_1, hfz9_2⟩ := blk3 BK101.out) | ((with_reducible refine za (f := 34) rfl ?_); refine cl 5 rfl Tryz.func34 #[.int .i64 a0_0, .int .i64 200, .int .i64 599] (yZ.calls a0_0 200 599 true _ A2.out) ?_; rintro e w' ⟨rfl, ⟨nd, rfl⟩⟩; refine ⟨_, rfl, ?_⟩) | (go_at_call 27; (with_reducible refine (yR.calls k _ _ l0_1 true _ ?side1 ?side2 A4.out).mono ?_); (case side1 => repeat (first | exact (Kd.C_below HR0_1.out (bq1 GE101.out)) | (with_reducible refine Kd.C_alloc ?_ _) | (with_reducible refine Kd.C_drewN ?_ _) | (with_reducible refine Kd.C_drew ?_))); (case side2 => exact HC0_1.out); rintro e w10 ⟨rfl, hb⟩; replace BK101 := ak (ze (blq BK101.out) hb); replace HB := ak (zb (bq1 GE101.out) hb); (try clear hb); obtain ⟨hcz11_0, hcz11_1, hcz11_2, hfz11_0, hfz11_1, hfz11_2⟩ := blk3 BK101.out))
     go_ret
     exact ⟨rv, bq1 GE101.out⟩
    ·replace H := se H
     rcases H with ⟨c12b0, c12b1, H⟩ | ⟨c12, c12b0, c12b1, H⟩
     ·obtain rfl := oi1 H
      go_enter Tryz.func14, Tryz.ntmps14
      go_wp2_with (first | ((with_reducible refine zl (N := 1) rfl ?_); (try (refine yd (by rfl) ?_; dsimp only)); refine bx 1 #[.int .i64 a0_0, .slice A0_1 l0_1.length c0_1, .string a0_2] 35 ?_; intro gb101 hg w13 hbox hb; have BK101 := ak (hbox); have GW101 := ak ((by rw [hg]; exact (zd bq) : w.heap.size ≤ gb101)); have GE101 := GW101; replace HB := ak (zb bq hb); clear hb hbox hg; obtain ⟨hcz14_0, hcz14_1, hcz14_2, hfz14_0, hfz14_1, hfz14_2⟩ := blk3 BK101.out) | ((with_reducible refine za (f := 34) rfl ?_); refine cl 5 rfl Tryz.func34 #[.int .i64 a0_0, .int .i64 200, .int .i64 599] (yZ.calls a0_0 200 599 true _ A2.out) ?_; rintro e w' ⟨rfl, ⟨nd, rfl⟩⟩; refine ⟨_, rfl, ?_⟩) | (go_at_call 27; (with_reducible refine (yR.calls k _ _ l0_1 true _ ?side1 ?side2 A4.out).mono ?_); (case side1 => repeat (first | exact (Kd.C_below HR0_1.out (bq1 GE101.out)) | (with_reducible refine Kd.C_alloc ?_ _) | (with_reducible refine Kd.C_drewN ?_ _) | (with_reducible refine Kd.C_drew ?_))); (case side2 => exact HC0_1.out); rintro e w15 ⟨rfl, hb⟩; replace BK101 := ak (ze (blq BK101.out) hb); replace HB := ak (zb (bq1 GE101.out) hb); (try clear hb); obtain ⟨hcz16_0, hcz16_1, hcz16_2, hfz16_0, hfz16_1, hfz16_2⟩ := blk3 BK101.out))
      go_ret
      exact ⟨rv, bq1 GE101.out⟩
     ·obtain rfl := oi1 H
      go_enter Tryz.func14, Tryz.ntmps14
      go_wp2_with (first | ((with_reducible refine zl (N := 1) rfl ?_); (try (refine yd (by rfl) ?_; dsimp only)); refine bx 1 #[.int .i64 a0_0, .slice A0_1 l0_1.length c0_1, .string a0_2] 35 ?_; intro gb101 hg w17 hbox hb; have BK101 := ak (hbox); have GW101 := ak ((by rw [hg]; exact (zd bq) : w.heap.size ≤ gb101)); have GE101 := GW101; replace HB := ak (zb bq hb); clear hb hbox hg; obtain ⟨hcz18_0, hcz18_1, hcz18_2, hfz18_0, hfz18_1, hfz18_2⟩ := blk3 BK101.out) | ((with_reducible refine za (f := 34) rfl ?_); refine cl 5 rfl Tryz.func34 #[.int .i64 a0_0, .int .i64 200, .int .i64 599] (yZ.calls a0_0 200 599 true _ A2.out) ?_; rintro e w' ⟨rfl, ⟨nd, rfl⟩⟩; refine ⟨_, rfl, ?_⟩) | (go_at_call 27; (with_reducible refine (yR.calls k _ _ l0_1 true _ ?side1 ?side2 A4.out).mono ?_); (case side1 => repeat (first | exact (Kd.C_below HR0_1.out (bq1 GE101.out)) | (with_reducible refine Kd.C_alloc ?_ _) | (with_reducible refine Kd.C_drewN ?_ _) | (with_reducible refine Kd.C_drew ?_))); (case side2 => exact HC0_1.out); rintro e w19 ⟨rfl, hb⟩; replace BK101 := ak (ze (blq BK101.out) hb); replace HB := ak (zb (bq1 GE101.out) hb); (try clear hb); obtain ⟨hcz20_0, hcz20_1, hcz20_2, hfz20_0, hfz20_1, hfz20_2⟩ := blk3 BK101.out))
      go_ret
      exact ⟨rv, bq1 GE101.out⟩
   ·have c6b0 := decide_eq_false c6
    have c6b1 : decide (a0_2.size ≤ 60) = false := decide_eq_false (by omega)
    clear c6
    obtain rfl := oi1 H
    go_enter Tryz.func14, Tryz.ntmps14
    go_wp2_with (first | ((with_reducible refine zl (N := 1) rfl ?_); (try (refine yd (by rfl) ?_; dsimp only)); refine bx 1 #[.int .i64 a0_0, .slice A0_1 l0_1.length c0_1, .string a0_2] 35 ?_; intro gb101 hg w21 hbox hb; have BK101 := ak (hbox); have GW101 := ak ((by rw [hg]; exact (zd bq) : w.heap.size ≤ gb101)); have GE101 := GW101; replace HB := ak (zb bq hb); clear hb hbox hg; obtain ⟨hcz22_0, hcz22_1, hcz22_2, hfz22_0, hfz22_1, hfz22_2⟩ := blk3 BK101.out) | ((with_reducible refine za (f := 34) rfl ?_); refine cl 5 rfl Tryz.func34 #[.int .i64 a0_0, .int .i64 200, .int .i64 599] (yZ.calls a0_0 200 599 true _ A2.out) ?_; rintro e w' ⟨rfl, ⟨nd, rfl⟩⟩; refine ⟨_, rfl, ?_⟩) | (go_at_call 27; (with_reducible refine (yR.calls k _ _ l0_1 true _ ?side1 ?side2 A4.out).mono ?_); (case side1 => repeat (first | exact (Kd.C_below HR0_1.out (bq1 GE101.out)) | (with_reducible refine Kd.C_alloc ?_ _) | (with_reducible refine Kd.C_drewN ?_ _) | (with_reducible refine Kd.C_drew ?_))); (case side2 => exact HC0_1.out); rintro e w23 ⟨rfl, hb⟩; replace BK101 := ak (ze (blq BK101.out) hb); replace HB := ak (zb (bq1 GE101.out) hb); (try clear hb); obtain ⟨hcz24_0, hcz24_1, hcz24_2, hfz24_0, hfz24_1, hfz24_2⟩ := blk3 BK101.out))
    go_ret
    exact ⟨rv, bq1 GE101.out⟩
  ·obtain rfl := oi1 H
   go_enter Tryz.func14, Tryz.ntmps14
   go_wp2_with (first | ((with_reducible refine zl (N := 1) rfl ?_); (try (refine yd (by rfl) ?_; dsimp only)); refine bx 1 #[.int .i64 a0_0, .slice A0_1 l0_1.length c0_1, .string a0_2] 35 ?_; intro gb101 hg w25 hbox hb; have BK101 := ak (hbox); have GW101 := ak ((by rw [hg]; exact (zd bq) : w.heap.size ≤ gb101)); have GE101 := GW101; replace HB := ak (zb bq hb); clear hb hbox hg; obtain ⟨hcz26_0, hcz26_1, hcz26_2, hfz26_0, hfz26_1, hfz26_2⟩ := blk3 BK101.out) | ((with_reducible refine za (f := 34) rfl ?_); refine cl 5 rfl Tryz.func34 #[.int .i64 a0_0, .int .i64 200, .int .i64 599] (yZ.calls a0_0 200 599 true _ A2.out) ?_; rintro e w' ⟨rfl, ⟨nd, rfl⟩⟩; refine ⟨_, rfl, ?_⟩) | (go_at_call 27; (with_reducible refine (yR.calls k _ _ l0_1 false _ ?side1 ?side2 A4.out).mono ?_); (case side1 => repeat (first | exact (Kd.C_below HR0_1.out (bq1 GE101.out)) | (with_reducible refine Kd.C_alloc ?_ _) | (with_reducible refine Kd.C_drewN ?_ _) | (with_reducible refine Kd.C_drew ?_))); (case side2 => exact HC0_1.out); rintro e w27 ⟨rfl, hb⟩; replace BK101 := ak (ze (blq BK101.out) hb); replace HB := ak (zb (bq1 GE101.out) hb); (try clear hb)))
   go_ret
   exact ⟨rv, bq1 GE101.out⟩
 ·obtain rfl := oi1 H
  go_enter Tryz.func14, Tryz.ntmps14
  go_wp2_with (first | ((with_reducible refine zl (N := 1) rfl ?_); (try (refine yd (by rfl) ?_; dsimp only)); refine bx 1 #[.int .i64 a0_0, .slice A0_1 l0_1.length c0_1, .string a0_2] 35 ?_; intro gb101 hg w28 hbox hb; have BK101 := ak (hbox); have GW101 := ak ((by rw [hg]; exact (zd bq) : w.heap.size ≤ gb101)); have GE101 := GW101; replace HB := ak (zb bq hb); clear hb hbox hg; obtain ⟨hcz29_0, hcz29_1, hcz29_2, hfz29_0, hfz29_1, hfz29_2⟩ := blk3 BK101.out) | ((with_reducible refine za (f := 34) rfl ?_); refine cl 5 rfl Tryz.func34 #[.int .i64 a0_0, .int .i64 200, .int .i64 599] (yZ.calls a0_0 200 599 false _ A2.out) ?_; rintro e w' ⟨rfl, ⟨nd, rfl⟩⟩; refine ⟨_, rfl, ?_⟩))
  go_ret
  exact ⟨rv, bq1 GE101.out⟩
def ya.l0 : Nat → List (S55) → ByteArray → Int → Option (ByteArray)
 | 0, _, _, _ => none
 | k + 1, x0, x3, x4 => if x4 < (x0.length : Int) then (if 0 ≤ x4 then (if x3.size + ((zV x0 x4).f0).size ≤ 9223372036854775807 then (if (x3 ++ ((zV x0 x4).f0)).size + 2 ≤ 9223372036854775807 then (if ((x3 ++ ((zV x0 x4).f0)) ++ (⟨#[58, 32]⟩ : ByteArray)).size + ((zV x0 x4).f1).size ≤ 9223372036854775807 then (if (((x3 ++ ((zV x0 x4).f0)) ++ (⟨#[58, 32]⟩ : ByteArray)) ++ ((zV x0 x4).f1)).size + 2 ≤ 9223372036854775807 then (ya.l0 k x0 ((((x3 ++ ((zV x0 x4).f0)) ++ (⟨#[58, 32]⟩ : ByteArray)) ++ ((zV x0 x4).f1)) ++ (⟨#[13, 10]⟩ : ByteArray)) (wrap64 (x4 + 1))) else (none)) else (none)) else (none)) else (none)) else (none)) else (if x3.size + 2 ≤ 9223372036854775807 then (some (x3 ++ (⟨#[13, 10]⟩ : ByteArray))) else (none))
def ya.f (k : Nat) (l0 : List (S55)) : Option (ByteArray) := (zQ.f k l0).bind fun t101 => (if t101 = true then (ya.l0 k l0 (⟨#[]⟩ : ByteArray) 0) else (some (⟨#[]⟩ : ByteArray)))
theorem ya.mono_l : ∀ k, (∀ y0 y1 y2, LeO (ya.l0 k y0 y1 y2) (ya.l0 (k + 1) y0 y1 y2))
 | 0 => fun _ _ _ r h => by simp [ya.l0] at h
 | k + 1 => by
  have ih0 := ya.mono_l k
  ·intro y0 y1 y2
   unfold ya.l0
   exact mq2 ih0 zQ.mono
theorem ya.mono : ∀ a0 k, LeO (ya.f k a0) (ya.f (k + 1) a0) := by
 intro a0 k
 have ih0 := ya.mono_l k
 unfold ya.f
 exact mq2 ih0 zQ.mono
theorem ya.calls (k : Nat) (A0 : Option Addr) (c0 : Nat) (l0 : List (S55)) (r : ByteArray) (w : World) (hr0 : Kd.C k55 w A0 l0.length l0) (hc0 : l0.length ≤ c0) (h : ya.f k l0 = some r) :
  Calls Tryz.prog 68 #[.slice A0 l0.length c0] w fun e w' => e = .returned (.string r) ∧ Below w.heap.size w w' := by
 have HR0 := ak hr0
 have HC0 := ak hc0
 clear hr0 hc0
 have HB := ak (Below.refl w.heap.size w)
 have H := h
 unfold ya.f at H
 clear h
 replace H := ob H
 obtain ⟨t101, A2, H⟩ := H
 replace H := sb H
 rcases H with ⟨rfl, H⟩ | ⟨rfl, H⟩
 ·have H' := ak H
  clear H
  go_enter Tryz.func68, Tryz.ntmps68
  go_wp2_with (first | (go_at_call 59; (with_reducible refine (zQ.calls k _ _ l0 true _ ?side1 ?side2 A2.out).mono ?_); (case side1 => repeat (first | exact HR0.out | (with_reducible refine Kd.C_alloc ?_ _) | (with_reducible refine Kd.C_drewN ?_ _) | (with_reducible refine Kd.C_drew ?_))); (case side2 => exact HC0.out); rintro e w4 ⟨rfl, hb⟩; replace HB := ak (zb bq hb); (try clear hb)))
  repeat (go_quiet (first | (go_at_call 59; (with_reducible refine (zQ.calls k _ _ l0 true _ ?side1 ?side2 A2.out).mono ?_); (case side1 => repeat (first | exact HR0.out | (with_reducible refine Kd.C_alloc ?_ _) | (with_reducible refine Kd.C_drewN ?_ _) | (with_reducible refine Kd.C_drew ?_))); (case side2 => exact HC0.out); rintro e w4 ⟨rfl, hb⟩; replace HB := ak (zb bq hb); (try clear hb))); try go_wp2_with (first | (go_at_call 59; (with_reducible refine (zQ.calls k _ _ l0 true _ ?side1 ?side2 A2.out).mono ?_); (case side1 => repeat (first | exact HR0.out | (with_reducible refine Kd.C_alloc ?_ _) | (with_reducible refine Kd.C_drewN ?_ _) | (with_reducible refine Kd.C_drew ?_))); (case side2 => exact HC0.out); rintro e w4 ⟨rfl, hb⟩; replace HB := ak (zb bq hb); (try clear hb))))
  go_loopg [3, 4] k (fun kq v3 v4 w' => ∃ (x3_1 : ByteArray) (x4_1 : Int), v3 = .string x3_1 ∧ v4 = .int .i64 x4_1 ∧ Aside0 (ya.l0 kq l0 x3_1 x4_1 = some r) ∧ Aside0 (kq ≤ k) ∧ Aside0 (Below w.heap.size w w'))
  case atStart => exact ⟨((⟨#[]⟩ : ByteArray)), (0), rs, rs, H', ⟨Nat.le_refl _⟩, ⟨bq⟩⟩
  case round =>
   clear H'
   obtain ⟨x3_1, x4_1, rfl, rfl, HA, HK1, HB⟩ := hrel
   cases gk with
   | zero => exact absurd HA.out (by simp [ya.l0])
   | succ k1 =>
    have H := HA.out
    clear HA
    simp only [ya.l0] at H
    replace H := sd H
    rcases H with ⟨c5b0, H⟩ | ⟨c5b0, H⟩
    ·replace H := sT H
     obtain ⟨c6, H⟩ := H
     have c6b0 := decide_eq_true c6
     clear c6
     replace H := sK H
     obtain ⟨c7, c7b0, c7b1, H⟩ := H
     have c7b2 := sz c7
     replace H := sK H
     obtain ⟨c8, c8b0, c8b1, H⟩ := H
     have c8b2 := sz c8
     try have c8b3 : (9223372036854775807 < (x3_1).size + ((zV l0 x4_1).f0).size + 2) = False := sz3 c8
     replace H := sK H
     obtain ⟨c9, c9b0, c9b1, H⟩ := H
     have c9b2 := sz c9
     try have c9b3 : (9223372036854775807 < (x3_1).size + ((zV l0 x4_1).f0).size + 2 + ((zV l0 x4_1).f1).size) = False := sz3 c9
     replace H := sK H
     obtain ⟨c10, c10b0, c10b1, H⟩ := H
     have c10b2 := sz c10
     try have c10b3 : (9223372036854775807 < (x3_1).size + ((zV l0 x4_1).f0).size + 2 + ((zV l0 x4_1).f1).size + 2) = False := sz3 c10
     have H' := ak H
     clear H
     have p102 : 0 ≤ (x4_1 : Int) := of_decide_eq_true asm
     have q102 : x4_1 < (l0.length : Int) := of_decide_eq_true asm
     obtain ⟨ad102, e102, hx102_0, hx102_1⟩ := qO HR0.out x4_1 p102 q102
     cases e102
     replace hx102_0 := (HB.out.cell (World.block_lt_of_cell? w _ hx102_0)).trans hx102_0
     replace hx102_1 := (HB.out.cell (World.block_lt_of_cell? w _ hx102_1)).trans hx102_1
     replace p102 := eq_true p102
     replace q102 := eq_true q102
     have p103 : 0 ≤ (x4_1 : Int) := of_decide_eq_true asm
     have q103 : x4_1 < (l0.length : Int) := of_decide_eq_true asm
     obtain ⟨ad103, e103, hx103_0, hx103_1⟩ := qO HR0.out x4_1 p103 q103
     obtain rfl : ad102 = ad103 := (by injection e103)
     replace hx103_0 := (HB.out.cell (World.block_lt_of_cell? w _ hx103_0)).trans hx103_0
     replace hx103_1 := (HB.out.cell (World.block_lt_of_cell? w _ hx103_1)).trans hx103_1
     replace p103 := eq_true p103
     replace q103 := eq_true q103
     go_wp2
     repeat (go_quiet (fail); try go_wp2)
     go_roundg k1
     case measure => have := HK1.out; omega
     case rel => exact ⟨((((x3_1 ++ ((zV l0 x4_1).f0)) ++ (⟨#[58, 32]⟩ : ByteArray)) ++ ((zV l0 x4_1).f1)) ++ (⟨#[13, 10]⟩ : ByteArray)), (wrap64 (x4_1 + 1)), rs, rs, H', ⟨by have := HK1.out; omega⟩, ⟨bq⟩⟩
    ·replace H := sK H
     obtain ⟨c11, c11b0, c11b1, H⟩ := H
     have c11b2 := sz c11
     obtain rfl := oi1 H
     go_wp2
     repeat (go_quiet (fail); try go_wp2)
     go_ret
     exact ⟨rv, bq⟩
 ·obtain rfl := oi1 H
  go_enter Tryz.func68, Tryz.ntmps68
  go_wp2_with (first | (go_at_call 59; (with_reducible refine (zQ.calls k _ _ l0 false _ ?side1 ?side2 A2.out).mono ?_); (case side1 => repeat (first | exact HR0.out | (with_reducible refine Kd.C_alloc ?_ _) | (with_reducible refine Kd.C_drewN ?_ _) | (with_reducible refine Kd.C_drew ?_))); (case side2 => exact HC0.out); rintro e w12 ⟨rfl, hb⟩; replace HB := ak (zb bq hb); (try clear hb)))
  repeat (go_quiet (first | (go_at_call 59; (with_reducible refine (zQ.calls k _ _ l0 false _ ?side1 ?side2 A2.out).mono ?_); (case side1 => repeat (first | exact HR0.out | (with_reducible refine Kd.C_alloc ?_ _) | (with_reducible refine Kd.C_drewN ?_ _) | (with_reducible refine Kd.C_drew ?_))); (case side2 => exact HC0.out); rintro e w12 ⟨rfl, hb⟩; replace HB := ak (zb bq hb); (try clear hb))); try go_wp2_with (first | (go_at_call 59; (with_reducible refine (zQ.calls k _ _ l0 false _ ?side1 ?side2 A2.out).mono ?_); (case side1 => repeat (first | exact HR0.out | (with_reducible refine Kd.C_alloc ?_ _) | (with_reducible refine Kd.C_drewN ?_ _) | (with_reducible refine Kd.C_drew ?_))); (case side2 => exact HC0.out); rintro e w12 ⟨rfl, hb⟩; replace HB := ak (zb bq hb); (try clear hb))))
  go_ret
  exact ⟨rv, bq⟩
def zM.l0 : Nat → List (S55) → ByteArray → List (S55) → Int → Option ((List (S55)))
 | 0, _, _, _, _ => none
 | k + 1, x0, x1, x5, x6 => if x6 < (x0.length : Int) then (if 0 ≤ x6 then (if ((zV x0 x6).f0).toList = x1.toList then (zM.l0 k x0 x1 x5 (wrap64 (x6 + 1))) else (if x5.length < 4398046511104 then (zM.l0 k x0 x1 (x5 ++ [(⟨(zV x0 x6).f0, (zV x0 x6).f1⟩ : S55)]) (wrap64 (x6 + 1))) else (none))) else (none)) else (some x5)
def zM.f (k : Nat) (l0 : List (S55)) (a1 : ByteArray) : Option ((List (S55))) := zM.l0 k l0 a1 (([] : List (S55))) 0
theorem zM.mono_l : ∀ k, (∀ y0 y1 y2 y3, LeO (zM.l0 k y0 y1 y2 y3) (zM.l0 (k + 1) y0 y1 y2 y3))
 | 0 => fun _ _ _ _ r h => by simp [zM.l0] at h
 | k + 1 => by
  have ih0 := zM.mono_l k
  ·intro y0 y1 y2 y3
   unfold zM.l0
   exact mq1 ih0
theorem zM.mono : ∀ a0 a1 k, LeO (zM.f k a0 a1) (zM.f (k + 1) a0 a1) := by
 intro a0 a1 k
 have ih0 := zM.mono_l k
 unfold zM.f
 exact mq1 ih0
theorem zM.calls (k : Nat) (A0 : Option Addr) (c0 : Nat) (l0 : List (S55)) (a1 : ByteArray) (r : List (S55)) (w : World) (hr0 : Kd.C k55 w A0 l0.length l0) (hc0 : l0.length ≤ c0) (h : zM.f k l0 a1 = some r) :
  Calls Tryz.prog 96 #[.slice A0 l0.length c0, .string a1] w fun e w' => ∃ v0_ : Value, e = .returned (v0_) ∧ Kd.R k55 55 w' w.heap.size (fun _ => True) v0_ r ∧ Below w.heap.size w w' := by
 have hu55 := Tryz.underlying55
 have HR0 := ak hr0
 have HC0 := ak hc0
 clear hr0 hc0
 have HB := ak (Below.refl w.heap.size w)
 have H : (zM.l0 k l0 a1 (([] : List (S55))) 0) = some r := h
 clear h
 obtain ⟨y101, hy101⟩ : ∃ y_ : List (S55), y_ = (([] : List (S55))) := ⟨_, rfl⟩
 replace H : (zM.l0 k l0 a1 y101 0) = some r := rhq hy101
 have Ny101 := ak hy101
 clear hy101
 have H' := ak H
 clear H
 go_enter Tryz.func96, Tryz.ntmps96
 go_wp2_with (first | ((with_reducible refine zl (N := 7) rfl ?_); refine r0 k55 55 7 Ny101.out ?_; intro v102 w3 ho4 hb; have HO103 := ak (Kd.R_lower ho4 (zd bq)); replace HB := ak (zb bq hb); clear hb ho4))
 go_loopg [5, 6] k (fun kq v5 v6 w' => ∃ (x5_1 : List (S55)) (x6_1 : Int), v6 = .int .i64 x6_1 ∧ Aside0 (zM.l0 kq l0 a1 x5_1 x6_1 = some r) ∧ Aside0 (kq ≤ k) ∧ Aside0 (Kd.R k55 55 w' w.heap.size (fun _ => True) v5 x5_1) ∧ Aside0 (Below w.heap.size w w'))
 case atStart => exact ⟨(y101), (0), rs, H', ⟨Nat.le_refl _⟩, ⟨rdq HO103.out⟩, ⟨bq⟩⟩
 case round =>
  clear H'
  obtain ⟨x5_1, x6_1, rfl, HA, HK1, HO_5, HB⟩ := hrel
  cases gk with
  | zero => exact absurd HA.out (by simp [zM.l0])
  | succ k1 =>
   have H := HA.out
   clear HA
   simp only [zM.l0] at H
   replace H := sd H
   rcases H with ⟨c5b0, H⟩ | ⟨c5b0, H⟩
   ·replace H := sT H
    obtain ⟨c6, H⟩ := H
    have c6b0 := decide_eq_true c6
    clear c6
    replace H := se H
    rcases H with ⟨c7b0, c7b1, H⟩ | ⟨c7, c7b0, c7b1, H⟩
    ·have H' := ak H
     clear H
     have p104 : 0 ≤ (x6_1 : Int) := of_decide_eq_true asm
     have q104 : x6_1 < (l0.length : Int) := of_decide_eq_true asm
     obtain ⟨ad104, e104, hx104_0, hx104_1⟩ := qO HR0.out x6_1 p104 q104
     cases e104
     replace hx104_0 := (HB.out.cell (World.block_lt_of_cell? w _ hx104_0)).trans hx104_0
     replace hx104_1 := (HB.out.cell (World.block_lt_of_cell? w _ hx104_1)).trans hx104_1
     replace p104 := eq_true p104
     replace q104 := eq_true q104
     go_wp2
     go_roundg k1
     case measure => have := HK1.out; omega
     case rel => exact ⟨(x5_1), (wrap64 (x6_1 + 1)), rs, H', ⟨by have := HK1.out; omega⟩, ⟨rdq HO_5.out⟩, ⟨bq⟩⟩
    ·replace H := sT H
     obtain ⟨c8, H⟩ := H
     have LMc8 := ak c8
     clear c8
     obtain ⟨y106, hy106⟩ : ∃ y_ : List (S55), y_ = (x5_1 ++ [(⟨(zV l0 x6_1).f0, (zV l0 x6_1).f1⟩ : S55)]) := ⟨_, rfl⟩
     replace H : (zM.l0 k1 l0 a1 y106 (wrap64 (x6_1 + 1))) = some r := rhq hy106
     have Ny106 := ak hy106
     clear hy106
     have H' := ak H
     clear H
     have p104 : 0 ≤ (x6_1 : Int) := of_decide_eq_true asm
     have q104 : x6_1 < (l0.length : Int) := of_decide_eq_true asm
     obtain ⟨ad104, e104, hx104_0, hx104_1⟩ := qO HR0.out x6_1 p104 q104
     cases e104
     replace hx104_0 := (HB.out.cell (World.block_lt_of_cell? w _ hx104_0)).trans hx104_0
     replace hx104_1 := (HB.out.cell (World.block_lt_of_cell? w _ hx104_1)).trans hx104_1
     replace p104 := eq_true p104
     replace q104 := eq_true q104
     have p105 : 0 ≤ (x6_1 : Int) := of_decide_eq_true asm
     have q105 : x6_1 < (l0.length : Int) := of_decide_eq_true asm
     obtain ⟨ad105, e105, hx105_0, hx105_1⟩ := qO HR0.out x6_1 p105 q105
     obtain rfl : ad104 = ad105 := (by injection e105)
     replace hx105_0 := (HB.out.cell (World.block_lt_of_cell? w _ hx105_0)).trans hx105_0
     replace hx105_1 := (HB.out.cell (World.block_lt_of_cell? w _ hx105_1)).trans hx105_1
     replace p105 := eq_true p105
     replace q105 := eq_true q105
     go_wp2_with (first | ((with_reducible refine xi (b := .append) (xs := #[.tmp 21, .tmp 26]) rfl ?_); at_builtin; refine Kd.R_append k55 (w0 := w) w.heap.size rfl (.tmp 21) (.tmp 26) 24 55 (.agg #[(.string ⟨#[]⟩), (.string ⟨#[]⟩)]) 32 rfl Tryz.underlying24 vM rfl (by decide) (by omega) u5 x5_1 (⟨(zV l0 x6_1).f0, (zV l0 x6_1).f1⟩ : S55) [.string ((zV l0 x6_1).f0), .string ((zV l0 x6_1).f1)] (fun _ => True) (fun _ => False) rfl rfl ?aP (fun _ hk => hk.elim) ?aF ?aO ?aB ?aS ?aL ?_; (case aP => exact jA _ _ _ (⟨(zV l0 x6_1).f0, (zV l0 x6_1).f1⟩ : S55)); (case aB => exact bq); (case aF => exact (fun _ _ => trivial)); (case aO => exact (rdq HO_5.out)); (case aS => exact (zd bq)); (case aL => have := LMc8.out; omega); intro v107 w9 ho hb hg hat; rw [← Ny106.out] at ho; have HO108 := ak (ho); replace HB := ak (hb); clear HO_5; clear ho hb hg hat))
     go_roundg k1
     case measure => have := HK1.out; omega
     case rel => exact ⟨(y106), (wrap64 (x6_1 + 1)), rs, H', ⟨by have := HK1.out; omega⟩, ⟨rdq HO108.out⟩, ⟨bq⟩⟩
   ·obtain rfl := oi1 H
    go_wp2
    go_ret
    exact ⟨_, rv, by (with_reducible repeat (first | apply Kd.R_alloc | apply Kd.R_drewN | apply Kd.R_drew)); exact HO_5.out, bq⟩
def xB.f (k : Nat) (l0 : List (S55)) (a1 : ByteArray) : Option ((List (S55))) := (zM.f k l0 (⟨#[116, 114, 97, 110, 115, 102, 101, 114, 45, 101, 110, 99, 111, 100, 105, 110, 103]⟩ : ByteArray)).bind fun t101 => ((zM.f k t101 (⟨#[99, 111, 110, 116, 101, 110, 116, 45, 108, 101, 110, 103, 116, 104]⟩ : ByteArray)).bind fun t104 => ((yw.f k (a1.size : Int)).bind fun t107 => (if t104.length < 4398046511104 then (some (t104 ++ [(⟨(⟨#[99, 111, 110, 116, 101, 110, 116, 45, 108, 101, 110, 103, 116, 104]⟩ : ByteArray), t107⟩ : S55)])) else (none))))
theorem xB.mono : ∀ a0 a1 k, LeO (xB.f k a0 a1) (xB.f (k + 1) a0 a1) := by
 intro a0 a1 k
 unfold xB.f
 exact mq2 yw.mono zM.mono
theorem xB.calls (k : Nat) (A0 : Option Addr) (c0 : Nat) (l0 : List (S55)) (a1 : ByteArray) (r : List (S55)) (w : World) (hr0 : Kd.C k55 w A0 l0.length l0) (hc0 : l0.length ≤ c0) (h : xB.f k l0 a1 = some r) :
  Calls Tryz.prog 69 #[.slice A0 l0.length c0, .string a1] w fun e w' => ∃ v0_ : Value, e = .returned (v0_) ∧ Kd.R k55 55 w' w.heap.size (fun _ => True) v0_ r ∧ Below w.heap.size w w' := by
 have hu55 := Tryz.underlying55
 have HR0 := ak hr0
 have HC0 := ak hc0
 clear hr0 hc0
 have HB := ak (Below.refl w.heap.size w)
 have H := h
 unfold xB.f at H
 clear h
 replace H := ob H
 obtain ⟨t101, A3, H⟩ := H
 replace H := ob H
 obtain ⟨t104, A4, H⟩ := H
 replace H := ob H
 obtain ⟨t107, A5, H⟩ := H
 replace H := sT H
 obtain ⟨c6, H⟩ := H
 have LMc6 := ak c6
 clear c6
 obtain ⟨y108, hy108⟩ : ∃ y_ : List (S55), y_ = (t104 ++ [(⟨(⟨#[99, 111, 110, 116, 101, 110, 116, 45, 108, 101, 110, 103, 116, 104]⟩ : ByteArray), t107⟩ : S55)]) := ⟨_, rfl⟩
 replace H : (some y108) = some r := rhq hy108
 have Ny108 := ak hy108
 clear hy108
 obtain rfl := oi1 H
 go_enter Tryz.func69, Tryz.ntmps69
 go_wp2_with (first | ((with_reducible refine za (f := 96) rfl ?_); refine cl 6 rfl Tryz.func96 #[.slice A0 l0.length c0, .string ⟨#[116, 114, 97, 110, 115, 102, 101, 114, 45, 101, 110, 99, 111, 100, 105, 110, 103]⟩] (zM.calls k _ _ l0 (⟨#[116, 114, 97, 110, 115, 102, 101, 114, 45, 101, 110, 99, 111, 100, 105, 110, 103]⟩ : ByteArray) t101 _ ?side1 ?side2 A3.out) ?_; (case side1 => repeat (first | exact HR0.out | (with_reducible refine Kd.C_alloc ?_ _) | (with_reducible refine Kd.C_drewN ?_ _) | (with_reducible refine Kd.C_drew ?_))); (case side2 => exact HC0.out); rintro e w7 ⟨v102, rfl, ho0, hb⟩; refine ⟨_, rfl, ?_⟩; have HO103 := ak (Kd.R_lower ho0 (zd bq)); replace HB := ak (zb bq hb); (try clear hb ho0); obtain ⟨Ao8, co8, eo8⟩ := Kd.R_slice HO103.out; subst eo8) | ((with_reducible refine za (f := 96) rfl ?_); refine cl 7 rfl Tryz.func96 #[.slice Ao8 t101.length co8, .string ⟨#[99, 111, 110, 116, 101, 110, 116, 45, 108, 101, 110, 103, 116, 104]⟩] (zM.calls k _ _ t101 (⟨#[99, 111, 110, 116, 101, 110, 116, 45, 108, 101, 110, 103, 116, 104]⟩ : ByteArray) t104 _ ?side1 ?side2 A4.out) ?_; (case side1 => exact cq (Kd.R_reads' HO103.out).2.2); (case side2 => exact (Kd.R_reads' HO103.out).2.1); rintro e w9 ⟨v105, rfl, ho0, hb⟩; refine ⟨_, rfl, ?_⟩; have HO106 := ak (Kd.R_lower (Kd.R_new' ho0 (Kd.R_lt (rdq HO103.out))) (zd bq)); replace HO103 := ak (Kd.R_elder' (rdq HO103.out) (Kd.R_base ho0) hb); replace HB := ak (zb bq hb); (try clear hb ho0)) | ((with_reducible refine za (f := 97) rfl ?_); refine cl 10 rfl Tryz.func97 #[.int .i64 (a1.size : Int)] (yw.calls k (a1.size : Int) t107 _ A5.out) ?_; rintro e w10 ⟨rfl, hb⟩; refine ⟨_, rfl, ?_⟩; replace HO103 := ak (Kd.R_below (rdq HO103.out) hb); replace HO106 := ak (Kd.R_below (rdq HO106.out) hb); replace HB := ak (zb bq hb); (try clear hb)) | ((with_reducible refine xi (b := .append) (xs := #[.tmp 7, .tmp 12]) rfl ?_); at_builtin; refine Kd.R_append k55 (w0 := w) w.heap.size rfl (.tmp 7) (.tmp 12) 24 55 (.agg #[(.string ⟨#[]⟩), (.string ⟨#[]⟩)]) 32 rfl Tryz.underlying24 vM rfl (by decide) (by omega) v105 t104 (⟨(⟨#[99, 111, 110, 116, 101, 110, 116, 45, 108, 101, 110, 103, 116, 104]⟩ : ByteArray), t107⟩ : S55) [.string ⟨#[99, 111, 110, 116, 101, 110, 116, 45, 108, 101, 110, 103, 116, 104]⟩, .string t107] (fun k_ => some k_ ≠ (.slice Ao8 t101.length co8 : Value).ownBlock) (fun _ => False) rfl rfl ?aP (fun _ hk => hk.elim) ?aF ?aO ?aB ?aS ?aL ?_; (case aP => exact jA _ _ _ (⟨(⟨#[99, 111, 110, 116, 101, 110, 116, 45, 108, 101, 110, 103, 116, 104]⟩ : ByteArray), t107⟩ : S55)); (case aB => exact bq); (case aF => exact (fun k_ hk => Kd.fresh' (Kd.R_lt (rdq HO103.out)) k_ hk)); (case aO => exact (by (with_reducible repeat (first | apply Kd.R_alloc | apply Kd.R_drewN | apply Kd.R_drew)); exact Kd.R_mono HO106.out (fun _ hk => hk.2))); (case aS => exact (zd bq)); (case aL => have := LMc6.out; omega); intro v109 w11 ho hb hg hat; rw [← Ny108.out] at ho; have HO110 := ak (ho); replace HO103 := ak (Kd.R_after (ok := (fun _ => True)) (rdq HO103.out) hg hat); replace HB := ak (hb); clear HO106; clear ho hb hg hat))
 go_ret
 exact ⟨_, rv, by (with_reducible repeat (first | apply Kd.R_alloc | apply Kd.R_drewN | apply Kd.R_drew)); exact Kd.R_mono HO110.out (fun _ hk => trivial), bq⟩
def yb.f (k : Nat) (a0_0 : ByteArray) (a0_1 : ByteArray) (l0_2 : List (S55)) (a0_3 : ByteArray) : Option (ByteArray) := (yx.f k a0_0 a0_1 l0_2 a0_3).bind fun t102 => (if t102 = true then (if a0_0.size + 1 ≤ 9223372036854775807 then (if (a0_0 ++ (⟨#[32]⟩ : ByteArray)).size + a0_1.size ≤ 9223372036854775807 then (if ((a0_0 ++ (⟨#[32]⟩ : ByteArray)) ++ a0_1).size + 11 ≤ 9223372036854775807 then ((xB.f k l0_2 a0_3).bind fun t103 => ((ya.f k t103).bind fun t106 => (if (((a0_0 ++ (⟨#[32]⟩ : ByteArray)) ++ a0_1) ++ (⟨#[32, 72, 84, 84, 80, 47, 49, 46, 49, 13, 10]⟩ : ByteArray)).size + t106.size ≤ 9223372036854775807 then (if ((((a0_0 ++ (⟨#[32]⟩ : ByteArray)) ++ a0_1) ++ (⟨#[32, 72, 84, 84, 80, 47, 49, 46, 49, 13, 10]⟩ : ByteArray)) ++ t106).size + a0_3.size ≤ 9223372036854775807 then (some (((((a0_0 ++ (⟨#[32]⟩ : ByteArray)) ++ a0_1) ++ (⟨#[32, 72, 84, 84, 80, 47, 49, 46, 49, 13, 10]⟩ : ByteArray)) ++ t106) ++ a0_3)) else (none)) else (none)))) else (none)) else (none)) else (none)) else (some (⟨#[]⟩ : ByteArray)))
theorem yb.mono : ∀ a0 a1 a2 a3 k, LeO (yb.f k a0 a1 a2 a3) (yb.f (k + 1) a0 a1 a2 a3) := by
 intro a0 a1 a2 a3 k
 unfold yb.f
 exact mq3 yx.mono ya.mono xB.mono
def yb.T3 : Bool × List (List Nat × List Nat) := (true, [([], []), ([0], [0]), ([1], [1]), ([], []), ([3], [3]), ([2, 4], [2, 4]), ([5], [5]), ([], []), ([7], [7]), ([], []), ([9], [9]), ([8, 10], [8, 10]), ([11, 11], [11]), ([6, 12], [6, 12]), ([], []), ([14], [14]), ([13, 15], [13, 15]), ([16, 12, 0, 1, 2, 3, 4, 5, 6, 7, 8, 9, 10, 11, 12, 13, 14, 15, 16], [16])])
def yb.B3 : List Nat := [0, 1, 3, 0, 8, 31, 63, 0, 128, 0, 512, 1920, 3968, 8191, 0, 16384, 65535, 131071]
theorem yb.tab3 : rtab .any (opsOf Tryz.f37 3) = yb.T3 := by kernel_rfl
theorem yb.bits3 : qj yb.T3.2 yb.B3 = true := by kernel_rfl
theorem yb.calls (k : Nat) (a0_0 : ByteArray) (a0_1 : ByteArray) (A0_2 : Option Addr) (c0_2 : Nat) (l0_2 : List (S55)) (a0_3 : ByteArray) (r : ByteArray) (w : World) (hr0_2 : Kd.C k55 w A0_2 l0_2.length l0_2) (hc0_2 : l0_2.length ≤ c0_2) (h : yb.f k a0_0 a0_1 l0_2 a0_3 = some r) :
  Calls Tryz.prog 37 #[.agg #[.string a0_0, .string a0_1, .slice A0_2 l0_2.length c0_2, .string a0_3]] w fun e w' => e = .returned (.string r) ∧ Below w.heap.size w w' := by
 have hu26 := Tryz.underlying26
 have HR0_2 := ak hr0_2
 have HC0_2 := ak hc0_2
 clear hr0_2 hc0_2
 have HB := ak (Below.refl w.heap.size w)
 have H := h
 unfold yb.f at H
 clear h
 replace H := ob H
 obtain ⟨t102, A2, H⟩ := H
 replace H := sb H
 rcases H with ⟨rfl, H⟩ | ⟨rfl, H⟩
 ·replace H := sK H
  obtain ⟨c4, c4b0, c4b1, H⟩ := H
  have c4b2 := sz c4
  replace H := sK H
  obtain ⟨c5, c5b0, c5b1, H⟩ := H
  have c5b2 := sz c5
  try have c5b3 : (9223372036854775807 < (a0_0).size + 1 + (a0_1).size) = False := sz3 c5
  replace H := sK H
  obtain ⟨c6, c6b0, c6b1, H⟩ := H
  have c6b2 := sz c6
  try have c6b3 : (9223372036854775807 < (a0_0).size + 1 + (a0_1).size + 11) = False := sz3 c6
  replace H := ob H
  obtain ⟨t103, A7, H⟩ := H
  replace H := ob H
  obtain ⟨t106, A8, H⟩ := H
  replace H := sK H
  obtain ⟨c9, c9b0, c9b1, H⟩ := H
  have c9b2 := sz c9
  try have c9b3 : (9223372036854775807 < (a0_0).size + 1 + (a0_1).size + 11 + (t106).size) = False := sz3 c9
  replace H := sK H
  obtain ⟨c10, c10b0, c10b1, H⟩ := H
  have c10b2 := sz c10
  try have c10b3 : (9223372036854775807 < (a0_0).size + 1 + (a0_1).size + 11 + (t106).size + (a0_3).size) = False := sz3 c10
  obtain rfl := oi1 H
  go_enter Tryz.func37, Tryz.ntmps37
  try go_wp2_with (first | ((with_reducible refine zl (N := 1) rfl ?_); refine bx 1 #[.string a0_0, .string a0_1, .slice A0_2 l0_2.length c0_2, .string a0_3] 26 ?_; intro gb101 hg w11 hbox hb; have BK101 := ak (hbox); have GW101 := ak ((by rw [hg]; exact (zd bq) : w.heap.size ≤ gb101)); have GE101 := GW101; replace HB := ak (zb bq hb); clear hb hbox hg; obtain ⟨hcz12_0, hcz12_1, hcz12_2, hcz12_3, hfz12_0, hfz12_1, hfz12_2, hfz12_3⟩ := blk4 BK101.out) | ((with_reducible refine za (f := 8) rfl ?_); refine cl 4 rfl Tryz.func8 #[.agg #[.string a0_0, .string a0_1, .slice A0_2 l0_2.length c0_2, .string a0_3]] (yx.calls k a0_0 a0_1 _ _ l0_2 a0_3 true _ ?side1 ?side2 A2.out) ?_; (case side1 => repeat (first | exact (Kd.C_below HR0_2.out HB.out) | (with_reducible refine Kd.C_alloc ?_ _) | (with_reducible refine Kd.C_drewN ?_ _) | (with_reducible refine Kd.C_drew ?_))); (case side2 => exact HC0_2.out); rintro e w13 ⟨rfl, hb⟩; refine ⟨_, rfl, ?_⟩; replace BK101 := ak (ze (blq BK101.out) hb); replace HB := ak (zb (bq1 GE101.out) hb); (try clear hb)))
  have n0_ := ak (xe BK101.out)
  have n1_ := ak (ye HB.out)
  clear BK101
  clear HB
  have BK101 := n0_
  have HB := n1_
  clear n0_ n1_
  refine start_ (n := 18) (S := fun w' => w'.cell? ⟨gb101, 0, none⟩ = some (.string a0_0) ∧ w'.cell? ⟨gb101, 1, none⟩ = some (.string a0_1) ∧ w'.cell? ⟨gb101, 2, none⟩ = some (.slice A0_2 l0_2.length c0_2) ∧ w'.cell? ⟨gb101, 3, none⟩ = some (.string a0_3)) (ds := []) (Array.replicate 18 false) (by kernel_rfl) rfl rfl ⟨(zg BK101.out 0).trans rfl, (zg BK101.out 1).trans rfl, (zg BK101.out 2).trans rfl, (zg BK101.out 3).trans rfl⟩ (fun hHeld => ?_); refine xm yb.tab3 yb.bits3 (fun HT_ HW_ => ?_)
  generalize w13.drew = w14 at BK101 HB hHeld ⊢
  refine pu 0 6 HT_ ?_
  refine pu 3 9 HT_ ?_
  refine pu 7 13 HT_ ?_
  refine pu 9 15 HT_ ?_
  refine pu 14 20 HT_ ?_
  refine tk 1 7 HT_ HW_ hHeld ?_ (hy := by rintro w' ⟨s0, s1, s2, s3⟩; go_simp; with_reducible rfl)
  refine pu 2 8 HT_ ?_
  refine tk 4 10 HT_ HW_ hHeld ?_ (hy := by rintro w' ⟨s0, s1, s2, s3⟩; go_simp; with_reducible rfl)
  refine pu 5 11 HT_ ?_
  refine pu 6 12 HT_ ?_
  refine tk 8 14 HT_ HW_ hHeld ?_ (hy := by rintro w' ⟨s0, s1, s2, s3⟩; go_simp; with_reducible rfl)
  refine tk 10 16 HT_ HW_ hHeld ?_ (hy := by rintro w' ⟨s0, s1, s2, s3⟩; go_simp; with_reducible rfl)
  refine tk 15 21 HT_ HW_ hHeld ?_ (hy := by rintro w' ⟨s0, s1, s2, s3⟩; go_simp; with_reducible rfl)
  refine on1 11 17 HT_ (fun K hK => ?_)
  refine goes_ Tryz.func69 (by kernel_rfl) rfl #[.slice A0_2 l0_2.length c0_2, .string a0_3] (by rfl) rfl rfl am ?_
  with_reducible refine (xB.calls k _ _ l0_2 a0_3 t103 _ ?side1 ?side2 A7.out).mono ?_
  (case side1 => repeat (first | exact (Kd.C_below HR0_2.out HB.out) | (with_reducible refine Kd.C_alloc ?_ _) | (with_reducible refine Kd.C_drewN ?_ _) | (with_reducible refine Kd.C_drew ?_)))
  (case side2 => exact HC0_2.out)
  rintro e w15 ⟨v104, rfl, ho0, hb⟩
  refine ⟨_, rfl, ?_⟩
  have n0_ := ak (Kd.R_lower ho0 (zd (bq1 GE101.out)))
  have n1_ := ak (ze (blq BK101.out) hb)
  have n2_ := ak (zb (bq1 GE101.out) hb)
  clear BK101
  clear HB
  have HO105 := n0_
  have BK101 := n1_
  have HB := n2_
  clear n0_ n1_ n2_
  (try clear hb)
  (try clear hb2)
  (try clear hk)
  (try clear hi)
  (try clear ho0)
  obtain ⟨Ao16, co16, eo16⟩ := Kd.R_slice HO105.out
  (first | subst eo16 | (injection eo16 with f1_ f2_ f3_; have f4_ := f1_.symm; have f5_ := f3_.symm; clear f1_ f2_ f3_; subst f4_; subst f5_))
  refine hK.out _ _ ⟨(zg BK101.out 0).trans rfl, (zg BK101.out 1).trans rfl, (zg BK101.out 2).trans rfl, (zg BK101.out 3).trans rfl⟩ (fun hHeld => ?_)
  clear hK K
  refine nrm 17 ?_
  refine on1 12 18 HT_ (fun K hK => ?_)
  refine goes_ Tryz.func68 (by kernel_rfl) rfl #[.slice Ao16 t103.length co16] (by rfl) rfl rfl am ?_
  with_reducible refine (ya.calls k _ _ t103 t106 _ ?side1 ?side2 A8.out).mono ?_
  (case side1 => exact cq (Kd.R_reads' HO105.out).2.2)
  (case side2 => exact (Kd.R_reads' HO105.out).2.1)
  rintro e w17 ⟨rfl, hb⟩
  refine ⟨_, rfl, ?_⟩
  have n0_ := ak (Kd.R_below (rdq HO105.out) hb)
  have n1_ := ak (ze (blq BK101.out) hb)
  have n2_ := ak (zb (bq1 GE101.out) hb)
  clear HO105
  clear BK101
  clear HB
  have HO105 := n0_
  have BK101 := n1_
  have HB := n2_
  clear n0_ n1_ n2_
  (try clear hb)
  (try clear hb2)
  (try clear hk)
  (try clear hi)
  refine hK.out _ _ ⟨(zg BK101.out 0).trans rfl, (zg BK101.out 1).trans rfl, (zg BK101.out 2).trans rfl, (zg BK101.out 3).trans rfl⟩ (fun hHeld => ?_)
  clear hK K
  refine nrm 18 ?_
  refine pu 13 19 HT_ ?_
  refine pu 16 22 HT_ ?_
  refine pu 17 2 HT_ ?_
  refine done_ (xV HT_.out (by kernel_rfl)) ?_
  try go_wp2
  go_ret
  exact ⟨rv, bq1 GE101.out⟩
 ·obtain rfl := oi1 H
  go_enter Tryz.func37, Tryz.ntmps37
  go_wp2_with (first | ((with_reducible refine zl (N := 1) rfl ?_); refine bx 1 #[.string a0_0, .string a0_1, .slice A0_2 l0_2.length c0_2, .string a0_3] 26 ?_; intro gb101 hg w18 hbox hb; have BK101 := ak (hbox); have GW101 := ak ((by rw [hg]; exact (zd bq) : w.heap.size ≤ gb101)); have GE101 := GW101; replace HB := ak (zb bq hb); clear hb hbox hg; obtain ⟨hcz19_0, hcz19_1, hcz19_2, hcz19_3, hfz19_0, hfz19_1, hfz19_2, hfz19_3⟩ := blk4 BK101.out) | ((with_reducible refine za (f := 8) rfl ?_); refine cl 4 rfl Tryz.func8 #[.agg #[.string a0_0, .string a0_1, .slice A0_2 l0_2.length c0_2, .string a0_3]] (yx.calls k a0_0 a0_1 _ _ l0_2 a0_3 false _ ?side1 ?side2 A2.out) ?_; (case side1 => repeat (first | exact (Kd.C_below HR0_2.out HB.out) | (with_reducible refine Kd.C_alloc ?_ _) | (with_reducible refine Kd.C_drewN ?_ _) | (with_reducible refine Kd.C_drew ?_))); (case side2 => exact HC0_2.out); rintro e w20 ⟨rfl, hb⟩; refine ⟨_, rfl, ?_⟩; replace BK101 := ak (ze (blq BK101.out) hb); replace HB := ak (zb (bq1 GE101.out) hb); (try clear hb)))
  go_ret
  exact ⟨rv, bq1 GE101.out⟩
def zN.f (k : Nat) (s0_0 : List Int) (s0_1 : Int) (s0_2 : Int) (a1 : ByteArray) : Option (ByteArray × Int × Int) := if (a1.size : Int) = 0 then ((zP.f k s0_0 s0_1 s0_2 3).bind fun bt101 => (some (bt101.1, bt101.2.1, bt101.2.2))) else ((zp.f s0_0 s0_1 s0_2 (a1.size : Int)).bind fun bt104 => ((zp.f s0_0 bt104.2.1 bt104.2.2 4).bind fun bt107 => (if bt107.1 = 0 then (if 0 ≤ bt104.1 then (if bt104.1 ≤ (a1.size : Int) then (if 0 ≤ (wrap64 (bt104.1 + 1)) then (if (wrap64 (bt104.1 + 1)) ≤ (a1.size : Int) then (if (a1.extract 0 (bt104.1 : Int).toNat).size + (a1.extract ((wrap64 (bt104.1 + 1)) : Int).toNat a1.size).size ≤ 9223372036854775807 then (some ((a1.extract 0 (bt104.1 : Int).toNat) ++ (a1.extract ((wrap64 (bt104.1 + 1)) : Int).toNat a1.size), bt107.2.1, bt107.2.2)) else (none)) else (none)) else (none)) else (none)) else (none)) else (if bt107.1 = 1 then (if 0 ≤ bt104.1 then (if bt104.1 ≤ (a1.size : Int) then ((yT.f s0_0 bt107.2.1 bt107.2.2).bind fun bt110 => ((some (([(bt110.1) % 256] : List Int) : List Int)).bind fun y113 => (if (a1.extract 0 (bt104.1 : Int).toNat).size + (strOfNums y113).size ≤ 9223372036854775807 then (if ((a1.extract 0 (bt104.1 : Int).toNat) ++ (strOfNums y113)).size + (a1.extract (bt104.1 : Int).toNat a1.size).size ≤ 9223372036854775807 then (some (((a1.extract 0 (bt104.1 : Int).toNat) ++ (strOfNums y113)) ++ (a1.extract (bt104.1 : Int).toNat a1.size), bt110.2.1, bt110.2.2)) else (none)) else (none)))) else (none)) else (none)) else (if bt107.1 = 2 then (if 0 ≤ bt104.1 then (if bt104.1 ≤ (a1.size : Int) then (some (a1.extract 0 (bt104.1 : Int).toNat, bt107.2.1, bt107.2.2)) else (none)) else (none)) else (if 0 ≤ bt104.1 then (if bt104.1 ≤ (a1.size : Int) then (if bt104.1 < (a1.size : Int) then ((zp.f s0_0 bt107.2.1 bt107.2.2 255).bind fun bt116 => ((some (([(Go.bits .xor .i64 (wrap64 (bt a1 bt104.1)) (wrap64 (1 + bt116.1))) % 256] : List Int) : List Int)).bind fun y119 => (if (a1.extract 0 (bt104.1 : Int).toNat).size + (strOfNums y119).size ≤ 9223372036854775807 then (if 0 ≤ (wrap64 (bt104.1 + 1)) then (if (wrap64 (bt104.1 + 1)) ≤ (a1.size : Int) then (if ((a1.extract 0 (bt104.1 : Int).toNat) ++ (strOfNums y119)).size + (a1.extract ((wrap64 (bt104.1 + 1)) : Int).toNat a1.size).size ≤ 9223372036854775807 then (some (((a1.extract 0 (bt104.1 : Int).toNat) ++ (strOfNums y119)) ++ (a1.extract ((wrap64 (bt104.1 + 1)) : Int).toNat a1.size), bt116.2.1, bt116.2.2)) else (none)) else (none)) else (none)) else (none)))) else (none)) else (none)) else (none)))))))
theorem zN.mono : ∀ a0 a1 a2 a3 k, LeO (zN.f k a0 a1 a2 a3) (zN.f (k + 1) a0 a1 a2 a3) := by
 intro a0 a1 a2 a3 k
 unfold zN.f
 exact mq1 zP.mono
def zN.T6 : Bool × List (List Nat × List Nat) := (true, [([], []), ([], []), ([0, 1], [0, 1]), ([], []), ([], []), ([4], [4]), ([3, 5], [3, 5]), ([2, 6], [2, 6]), ([7, 0, 1, 2, 3, 4, 5, 6, 7], [7])])
def zN.B6 : List Nat := [0, 0, 3, 0, 0, 16, 56, 127, 255]
theorem zN.tab6 : rtab .any (opsOf Tryz.f39 6) = zN.T6 := by kernel_rfl
theorem zN.bits6 : qj zN.T6.2 zN.B6 = true := by kernel_rfl
def zN.T8 : Bool × List (List Nat × List Nat) := (true, [([], []), ([], []), ([0, 1], [0, 1]), ([], []), ([3], [3]), ([4], [4]), ([5], [5]), ([6], [6]), ([2, 7], [2, 7]), ([], []), ([], []), ([9, 10], [9, 10]), ([8, 11], [8, 11]), ([12, 4, 0, 1, 2, 3, 4, 5, 6, 7, 8, 9, 10, 11, 12], [12])])
def zN.B8 : List Nat := [0, 0, 3, 0, 8, 24, 56, 120, 255, 0, 0, 1536, 4095, 8191]
theorem zN.tab8 : rtab .any (opsOf Tryz.f39 8) = zN.T8 := by kernel_rfl
theorem zN.bits8 : qj zN.T8.2 zN.B8 = true := by kernel_rfl
def zN.T11 : Bool × List (List Nat × List Nat) := (true, [([], []), ([], []), ([0, 1], [0, 1]), ([], []), ([], []), ([3, 4], [3, 4]), ([5], [5]), ([], []), ([7], [7]), ([8], [8]), ([6, 9], [6, 9]), ([10], [10]), ([11], [11]), ([12], [12]), ([2, 13], [2, 13]), ([], []), ([], []), ([16], [16]), ([15, 17], [15, 17]), ([14, 18], [14, 18]), ([19, 8, 0, 1, 2, 3, 4, 5, 6, 7, 8, 9, 10, 11, 12, 13, 14, 15, 16, 17, 18, 19], [19])])
def zN.B11 : List Nat := [0, 0, 3, 0, 0, 24, 56, 0, 128, 384, 1016, 2040, 4088, 8184, 16383, 0, 0, 65536, 229376, 524287, 1048575]
theorem zN.tab11 : rtab .any (opsOf Tryz.f39 11) = zN.T11 := by kernel_rfl
theorem zN.bits11 : qj zN.T11.2 zN.B11 = true := by kernel_rfl
theorem zN.calls (k : Nat) (g : Nat) (s0_0 : List Int) (s0_1 : Int) (s0_2 : Int) (a1 : ByteArray) (r1 : ByteArray) (r2 : Int) (r3 : Int) (w0 w : World) (hI : IsS88 w0 w g s0_0 s0_1 s0_2) (hB : Below w0.heap.size w0 w) (h : zN.f k s0_0 s0_1 s0_2 a1 = some (r1, r2, r3)) :
  Calls Tryz.prog 39 #[.pointer (some ⟨g, 0, none⟩), .string a1] w fun e w' => e = .returned (.string r1) ∧ IsS88 w0 w' g s0_0 r2 r3 ∧ Below w0.heap.size w0 w' ∧ KeepBut w w' g none := by
 have HI0 := ak hI
 have HK := ak (KeepBut.refl w g none)
 have HL := ak hB.size
 clear hI
 have HW0 := ak hB.size
 have HB := ak hB
 clear hB
 have H := h
 unfold zN.f at H
 clear h
 replace H := se H
 rcases H with ⟨c3b0, c3b1, H⟩ | ⟨c3, c3b0, c3b1, H⟩
 ·replace H := ob H
  obtain ⟨⟨t101, t102, t103⟩, A4, H⟩ := H
  try dsimp only at H
  obtain ⟨rfl, rfl, rfl⟩ := oi3 H
  go_enter Tryz.func39, Tryz.ntmps39
  go_wp2_with (first | ((with_reducible refine za (f := 67) rfl ?_); refine cl 10 rfl Tryz.func67 #[.pointer (some ⟨g, 0, none⟩), .int .i64 3] (zP.calls k g s0_0 s0_1 s0_2 3 t101 t102 t103 w0 _ ?side1 ?side2 A4.out) ?_; (case side1 => exact zU HI0.out); (case side2 => exact bq1 (zc HI0.out)); rintro e w5 ⟨rfl, hi, hb, hk⟩; refine ⟨_, rfl, ?_⟩; replace HK := ak (KeepBut.trans kq hk (.inl rfl)); replace HB := ak (hb); replace HI0 := ak (hi); (try clear hb hk hi)))
  go_ret
  exact ⟨rv, zU HI0.out, bq1 (zc HI0.out), kq⟩
 ·replace H := ob H
  obtain ⟨⟨t104, t105, t106⟩, A6, H⟩ := H
  try dsimp only at H
  replace H := ob H
  obtain ⟨⟨t107, t108, t109⟩, A7, H⟩ := H
  try dsimp only at H
  replace H := se H
  rcases H with ⟨c8b0, c8b1, H⟩ | ⟨c8, c8b0, c8b1, H⟩
  ·replace H := sG H
   obtain ⟨c9b0, c9b1, H⟩ := H
   replace H := sG H
   obtain ⟨c10b0, c10b1, H⟩ := H
   obtain ⟨ji11, hji11⟩ : ∃ j_ : Int, (wrap64 (t104 + 1)) = j_ := ⟨_, rfl⟩
   replace H : (if 0 ≤ (ji11) then (if (ji11) ≤ (a1.size : Int) then (if (a1.extract 0 (t104 : Int).toNat).size + (a1.extract ((ji11) : Int).toNat a1.size).size ≤ 9223372036854775807 then (some ((a1.extract 0 (t104 : Int).toNat) ++ (a1.extract ((ji11) : Int).toNat a1.size), t108, t109)) else (none)) else (none)) else (none)) = some (r1, r2, r3) := by first | (rw [hji11] at H; exact H) | (simp only [hji11] at H ⊢; exact H)
   (try rw [hji11] at A6)
   (try rw [hji11] at A7)
   have hji11w : (IntKind.i64.wrap (t104 + 1)) = ji11 := (i64_w _).trans hji11
   replace H := sG H
   obtain ⟨c12b0, c12b1, H⟩ := H
   replace H := sG H
   obtain ⟨c13b0, c13b1, H⟩ := H
   replace H := sK H
   obtain ⟨c14, c14b0, c14b1, H⟩ := H
   have c14b2 := sz c14
   try have c14b5 : (9223372036854775807 < t104.toNat + (a1.size - ji11.toNat)) = False := eq_false (Nat.not_lt.2 (by have q_ : t104 ≤ (a1.size : Int) := of_decide_eq_true asm; have g_ := c14; simp only [ByteArray.size_append, ByteArray.size_extract, strOfNums_size] at g_ ⊢; omega))
   obtain ⟨rfl, rfl, rfl⟩ := oi3 H
   go_enter Tryz.func39, Tryz.ntmps39
   try go_wp2_with (first | ((with_reducible refine za (f := 38) rfl ?_); refine cl 14 rfl Tryz.func38 #[.pointer (some ⟨g, 0, none⟩), .int .i64 (a1.size : Int)] (zp.calls g s0_0 s0_1 s0_2 (a1.size : Int) t104 t105 t106 w0 _ ?side1 ?side2 A6.out) ?_; (case side1 => exact zU HI0.out); (case side2 => exact bq1 (zc HI0.out)); rintro e w15 ⟨rfl, hi, hb, hk⟩; refine ⟨_, rfl, ?_⟩; replace HK := ak (KeepBut.trans kq hk (.inl rfl)); replace HB := ak (hb); replace HI0 := ak (hi); (try clear hb hk hi)) | ((with_reducible refine za (f := 38) rfl ?_); refine cl 16 rfl Tryz.func38 #[.pointer (some ⟨g, 0, none⟩), .int .i64 4] (zp.calls g s0_0 t105 t106 4 t107 t108 t109 w0 _ ?side1 ?side2 A7.out) ?_; (case side1 => exact zU HI0.out); (case side2 => exact bq1 (zc HI0.out)); rintro e w16 ⟨rfl, hi, hb, hk⟩; refine ⟨_, rfl, ?_⟩; replace HK := ak (KeepBut.trans kq hk (.inl rfl)); replace HB := ak (hb); replace HI0 := ak (hi); (try clear hb hk hi)))
   have n0_ := ak (IsS88.drew HI0.out)
   have n1_ := ak (jz HK.out)
   have n2_ := ak (ye HB.out)
   clear HI0
   clear HK
   clear HB
   have HI0 := n0_
   have HK := n1_
   have HB := n2_
   clear n0_ n1_ n2_
   refine start_ (n := 9) (S := fun w' => True) (ds := []) (Array.replicate 9 false) (by kernel_rfl) rfl rfl trivial (fun hHeld => ?_); refine xm zN.tab6 zN.bits6 (fun HT_ HW_ => ?_)
   generalize w16.drew = w17 at HI0 HK HB hHeld ⊢
   refine pu 0 19 HT_ ?_
   refine pu 1 20 HT_ ?_
   refine pu 2 21 HT_ ?_
   refine pu 3 22 HT_ ?_
   refine pu 4 23 HT_ ?_
   refine pu 5 24 HT_ ?_
   refine pu 6 25 HT_ ?_
   refine pu 7 26 HT_ ?_
   refine pu 8 4 HT_ ?_
   refine done_ (xV HT_.out (by kernel_rfl)) ?_
   try go_wp2
   go_ret
   exact ⟨by first | rfl | (simp [xy, xx] <;> rfl) | (simp only [← hji11]; first | rfl | (simp [xy, xx] <;> rfl)) | (simp [*, xy, xx] <;> rfl), zU HI0.out, bq1 (zc HI0.out), kq⟩
  ·replace H := se H
   rcases H with ⟨c18b0, c18b1, H⟩ | ⟨c18, c18b0, c18b1, H⟩
   ·replace H := sG H
    obtain ⟨c19b0, c19b1, H⟩ := H
    replace H := sG H
    obtain ⟨c20b0, c20b1, H⟩ := H
    replace H := ob H
    obtain ⟨⟨t110, t111, t112⟩, A21, H⟩ := H
    try dsimp only at H
    obtain ⟨y113, hy113⟩ : ∃ y_ : List Int, y_ = (([(t110) % 256] : List Int)) := ⟨_, rfl⟩
    replace H : (if (a1.extract 0 (t104 : Int).toNat).size + (strOfNums y113).size ≤ 9223372036854775807 then (if ((a1.extract 0 (t104 : Int).toNat) ++ (strOfNums y113)).size + (a1.extract (t104 : Int).toNat a1.size).size ≤ 9223372036854775807 then (some (((a1.extract 0 (t104 : Int).toNat) ++ (strOfNums y113)) ++ (a1.extract (t104 : Int).toNat a1.size), t111, t112)) else (none)) else (none)) = some (r1, r2, r3) := rhq hy113
    have Ny113 := ak hy113
    clear hy113
    replace H := sK H
    obtain ⟨c22, c22b0, c22b1, H⟩ := H
    have c22b2 := sz c22
    try have c22b5 : (9223372036854775807 < t104.toNat + (strOfNums y113).size) = False := eq_false (Nat.not_lt.2 (by have q_ : t104 ≤ (a1.size : Int) := of_decide_eq_true asm; have g_ := c22; simp only [ByteArray.size_append, ByteArray.size_extract, strOfNums_size] at g_ ⊢; omega))
    try have c22b6 : (9223372036854775807 < t104.toNat + y113.length) = False := eq_false (Nat.not_lt.2 (by have q_ : t104 ≤ (a1.size : Int) := of_decide_eq_true asm; have g_ := c22; simp only [ByteArray.size_append, ByteArray.size_extract, strOfNums_size] at g_ ⊢; omega))
    have c23b0 := eq_true (of_decide_eq_true asm : 0 ≤ t104)
    have c24b0 := eq_true (of_decide_eq_true asm : t104 ≤ (a1.size : Int))
    replace H := sK H
    obtain ⟨c25, c25b0, c25b1, H⟩ := H
    have c25b2 := sz c25
    try have c25b5 : (9223372036854775807 < t104.toNat + (strOfNums y113).size + (a1.size - t104.toNat)) = False := eq_false (Nat.not_lt.2 (by have q_ : t104 ≤ (a1.size : Int) := of_decide_eq_true asm; have g_ := c25; simp only [ByteArray.size_append, ByteArray.size_extract, strOfNums_size] at g_ ⊢; omega))
    try have c25b6 : (9223372036854775807 < t104.toNat + y113.length + (a1.size - t104.toNat)) = False := eq_false (Nat.not_lt.2 (by have q_ : t104 ≤ (a1.size : Int) := of_decide_eq_true asm; have g_ := c25; simp only [ByteArray.size_append, ByteArray.size_extract, strOfNums_size] at g_ ⊢; omega))
    try have c25b3 : (9223372036854775807 < (a1.extract 0 (t104 : Int).toNat).size + (strOfNums y113).size + (a1.extract (t104 : Int).toNat a1.size).size) = False := sz3 c25
    obtain ⟨rfl, rfl, rfl⟩ := oi3 H
    go_enter Tryz.func39, Tryz.ntmps39
    try go_wp2_with (first | ((with_reducible refine za (f := 38) rfl ?_); refine cl 14 rfl Tryz.func38 #[.pointer (some ⟨g, 0, none⟩), .int .i64 (a1.size : Int)] (zp.calls g s0_0 s0_1 s0_2 (a1.size : Int) t104 t105 t106 w0 _ ?side1 ?side2 A6.out) ?_; (case side1 => exact zU HI0.out); (case side2 => exact bq1 (zc HI0.out)); rintro e w26 ⟨rfl, hi, hb, hk⟩; refine ⟨_, rfl, ?_⟩; replace HK := ak (KeepBut.trans kq hk (.inl rfl)); replace HB := ak (hb); replace HI0 := ak (hi); (try clear hb hk hi)) | ((with_reducible refine za (f := 38) rfl ?_); refine cl 16 rfl Tryz.func38 #[.pointer (some ⟨g, 0, none⟩), .int .i64 4] (zp.calls g s0_0 t105 t106 4 t107 t108 t109 w0 _ ?side1 ?side2 A7.out) ?_; (case side1 => exact zU HI0.out); (case side2 => exact bq1 (zc HI0.out)); rintro e w27 ⟨rfl, hi, hb, hk⟩; refine ⟨_, rfl, ?_⟩; replace HK := ak (KeepBut.trans kq hk (.inl rfl)); replace HB := ak (hb); replace HI0 := ak (hi); (try clear hb hk hi)))
    have n0_ := ak (IsS88.drew HI0.out)
    have n1_ := ak (jz HK.out)
    have n2_ := ak (ye HB.out)
    clear HI0
    clear HK
    clear HB
    have HI0 := n0_
    have HK := n1_
    have HB := n2_
    clear n0_ n1_ n2_
    refine start_ (n := 14) (S := fun w' => True) (ds := []) (Array.replicate 14 false) (by kernel_rfl) rfl rfl trivial (fun hHeld => ?_); refine xm zN.tab8 zN.bits8 (fun HT_ HW_ => ?_)
    generalize w27.drew = w28 at HI0 HK HB hHeld ⊢
    refine pu 0 29 HT_ ?_
    refine pu 1 30 HT_ ?_
    refine pu 2 31 HT_ ?_
    refine pu 3 32 HT_ ?_
    refine pu 9 38 HT_ ?_
    refine pu 10 39 HT_ ?_
    refine pu 11 40 HT_ ?_
    refine on1 4 33 HT_ (fun K hK => ?_)
    refine goes_ Tryz.func70 (by kernel_rfl) rfl #[.pointer (some ⟨g, 0, none⟩)] (by rfl) rfl rfl am ?_
    with_reducible refine (yT.calls g s0_0 t108 t109 t110 t111 t112 w0 _ ?side1 ?side2 A21.out).mono ?_
    (case side1 => exact zU HI0.out)
    (case side2 => exact bq1 (zc HI0.out))
    rintro e w29 ⟨rfl, hi, hb, hk⟩
    refine ⟨_, rfl, ?_⟩
    have n0_ := ak (KeepBut.trans kq hk (.inl rfl))
    have n1_ := ak (hb)
    have n2_ := ak (hi)
    clear HK
    clear HB
    clear HI0
    have HK := n0_
    have HB := n1_
    have HI0 := n2_
    clear n0_ n1_ n2_
    (try clear hb)
    (try clear hb2)
    (try clear hk)
    (try clear hi)
    refine hK.out _ _ trivial (fun hHeld => ?_)
    clear hK K
    refine nrm 33 ?_
    refine pu 5 34 HT_ ?_
    refine on1 6 35 HT_ (fun K hK => ?_)
    refine Kd.R_lit_step (Kd.int .u8) _ 5 ?hg (N := 35) ?hd (xs := ([(t110) % 256] : List Int)) (inner := [.int .u8 ((t110) % 256)]) (ok := fun _ => True) (okp := fun _ => True) ?hr ?hp (fun _ hk => hk) trivial (Below.refl _ _) (Nat.le_refl _) (by simp) ?_; (case hd => rfl); (case hg => rfl); (case hr => first | (go_simp; done) | (go_simp; rfl)); (case hp => exact (yl0 (show Kd.M (Kd.int .u8) _ _ _ ((t110) % 256) [.int .u8 ((t110) % 256)] from rfl) (Reps.none _ _)))
    intro v114 w30 ho31 hb hg_ hnew_
    clear hg_ hnew_
    (first | rw [← Ny113.out] at ho31 | (simp only [Int.reduceToNat] at ho31; rw [← Ny113.out] at ho31))
    have n0_ := ak (Kd.R_lower ho31 (yi (w := w) (g := g) (row := none) kq))
    have n1_ := ak (IsS88.below (zU HI0.out) hb)
    have n2_ := ak (KeepBut.trans kq (zF hb g none) (.inl rfl))
    have n3_ := ak (zb (bq1 (zc HI0.out)) hb)
    clear HI0
    clear HK
    clear HB
    have HO115 := n0_
    have HI0 := n1_
    have HK := n2_
    have HB := n3_
    clear n0_ n1_ n2_ n3_
    clear hb ho31
    refine hK.out _ _ trivial (fun hHeld => ?_)
    clear hK K
    refine nrm 35 ?_
    refine on1 7 36 HT_ (fun K hK => ?_)
    have hcv32 := qG (P := Tryz.prog) Tryz.underlying22 Tryz.underlying5 Tryz.underlying9 (Kd.own_of_R HO115.out)
    refine jl0 (w1 := ?_) (v := ?_) (by rfl) rfl ?_ ?_
    rotate_left 2
    ·go_simp
     constructor
     ·rfl
     ·rfl
    clear hcv32
    refine hK.out _ _ trivial (fun hHeld => ?_)
    clear hK K
    refine nrm 36 ?_
    refine pu 8 37 HT_ ?_
    refine pu 12 41 HT_ ?_
    refine pu 13 4 HT_ ?_
    refine done_ (xV HT_.out (by kernel_rfl)) ?_
    try go_wp2
    go_ret
    exact ⟨rv, zU HI0.out, bq1 (zc HI0.out), kq⟩
   ·replace H := se H
    rcases H with ⟨c33b0, c33b1, H⟩ | ⟨c33, c33b0, c33b1, H⟩
    ·replace H := sG H
     obtain ⟨c34b0, c34b1, H⟩ := H
     replace H := sG H
     obtain ⟨c35b0, c35b1, H⟩ := H
     obtain ⟨rfl, rfl, rfl⟩ := oi3 H
     go_enter Tryz.func39, Tryz.ntmps39
     go_wp2_with (first | ((with_reducible refine za (f := 38) rfl ?_); refine cl 14 rfl Tryz.func38 #[.pointer (some ⟨g, 0, none⟩), .int .i64 (a1.size : Int)] (zp.calls g s0_0 s0_1 s0_2 (a1.size : Int) t104 t105 t106 w0 _ ?side1 ?side2 A6.out) ?_; (case side1 => exact zU HI0.out); (case side2 => exact bq1 (zc HI0.out)); rintro e w36 ⟨rfl, hi, hb, hk⟩; refine ⟨_, rfl, ?_⟩; replace HK := ak (KeepBut.trans kq hk (.inl rfl)); replace HB := ak (hb); replace HI0 := ak (hi); (try clear hb hk hi)) | ((with_reducible refine za (f := 38) rfl ?_); refine cl 16 rfl Tryz.func38 #[.pointer (some ⟨g, 0, none⟩), .int .i64 4] (zp.calls g s0_0 t105 t106 4 t107 t108 t109 w0 _ ?side1 ?side2 A7.out) ?_; (case side1 => exact zU HI0.out); (case side2 => exact bq1 (zc HI0.out)); rintro e w37 ⟨rfl, hi, hb, hk⟩; refine ⟨_, rfl, ?_⟩; replace HK := ak (KeepBut.trans kq hk (.inl rfl)); replace HB := ak (hb); replace HI0 := ak (hi); (try clear hb hk hi)))
     go_ret
     exact ⟨rv, zU HI0.out, bq1 (zc HI0.out), kq⟩
    ·replace H := sG H
     obtain ⟨c38b0, c38b1, H⟩ := H
     replace H := sG H
     obtain ⟨c39b0, c39b1, H⟩ := H
     replace H := sT H
     obtain ⟨c40, H⟩ := H
     have c40b0 := decide_eq_true c40
     clear c40
     replace H := ob H
     obtain ⟨⟨t116, t117, t118⟩, A42, H⟩ := H
     try dsimp only at H
     obtain ⟨y119, hy119⟩ : ∃ y_ : List Int, y_ = (([(Go.bits .xor .i64 (wrap64 (bt a1 t104)) (wrap64 (1 + t116))) % 256] : List Int)) := ⟨_, rfl⟩
     replace H : (if (a1.extract 0 (t104 : Int).toNat).size + (strOfNums y119).size ≤ 9223372036854775807 then (if 0 ≤ (wrap64 (t104 + 1)) then (if (wrap64 (t104 + 1)) ≤ (a1.size : Int) then (if ((a1.extract 0 (t104 : Int).toNat) ++ (strOfNums y119)).size + (a1.extract ((wrap64 (t104 + 1)) : Int).toNat a1.size).size ≤ 9223372036854775807 then (some (((a1.extract 0 (t104 : Int).toNat) ++ (strOfNums y119)) ++ (a1.extract ((wrap64 (t104 + 1)) : Int).toNat a1.size), t117, t118)) else (none)) else (none)) else (none)) else (none)) = some (r1, r2, r3) := rhq hy119
     have Ny119 := ak hy119
     clear hy119
     replace H := sK H
     obtain ⟨c43, c43b0, c43b1, H⟩ := H
     have c43b2 := sz c43
     try have c43b5 : (9223372036854775807 < t104.toNat + (strOfNums y119).size) = False := eq_false (Nat.not_lt.2 (by have q_ : t104 ≤ (a1.size : Int) := of_decide_eq_true asm; have g_ := c43; simp only [ByteArray.size_append, ByteArray.size_extract, strOfNums_size] at g_ ⊢; omega))
     try have c43b6 : (9223372036854775807 < t104.toNat + y119.length) = False := eq_false (Nat.not_lt.2 (by have q_ : t104 ≤ (a1.size : Int) := of_decide_eq_true asm; have g_ := c43; simp only [ByteArray.size_append, ByteArray.size_extract, strOfNums_size] at g_ ⊢; omega))
     obtain ⟨ji44, hji44⟩ : ∃ j_ : Int, (wrap64 (t104 + 1)) = j_ := ⟨_, rfl⟩
     replace H : (if 0 ≤ (ji44) then (if (ji44) ≤ (a1.size : Int) then (if ((a1.extract 0 (t104 : Int).toNat) ++ (strOfNums y119)).size + (a1.extract ((ji44) : Int).toNat a1.size).size ≤ 9223372036854775807 then (some (((a1.extract 0 (t104 : Int).toNat) ++ (strOfNums y119)) ++ (a1.extract ((ji44) : Int).toNat a1.size), t117, t118)) else (none)) else (none)) else (none)) = some (r1, r2, r3) := by first | (rw [hji44] at H; exact H) | (simp only [hji44] at H ⊢; exact H)
     (try rw [hji44] at A6)
     (try rw [hji44] at A7)
     (try rw [hji44] at A42)
     have hji44w : (IntKind.i64.wrap (t104 + 1)) = ji44 := (i64_w _).trans hji44
     replace H := sG H
     obtain ⟨c45b0, c45b1, H⟩ := H
     replace H := sG H
     obtain ⟨c46b0, c46b1, H⟩ := H
     replace H := sK H
     obtain ⟨c47, c47b0, c47b1, H⟩ := H
     have c47b2 := sz c47
     try have c47b5 : (9223372036854775807 < t104.toNat + (strOfNums y119).size + (a1.size - ji44.toNat)) = False := eq_false (Nat.not_lt.2 (by have q_ : t104 ≤ (a1.size : Int) := of_decide_eq_true asm; have g_ := c47; simp only [ByteArray.size_append, ByteArray.size_extract, strOfNums_size] at g_ ⊢; omega))
     try have c47b6 : (9223372036854775807 < t104.toNat + y119.length + (a1.size - ji44.toNat)) = False := eq_false (Nat.not_lt.2 (by have q_ : t104 ≤ (a1.size : Int) := of_decide_eq_true asm; have g_ := c47; simp only [ByteArray.size_append, ByteArray.size_extract, strOfNums_size] at g_ ⊢; omega))
     try have c47b3 : (9223372036854775807 < (a1.extract 0 (t104 : Int).toNat).size + (strOfNums y119).size + (a1.extract ((ji44) : Int).toNat a1.size).size) = False := sz3 c47
     obtain ⟨rfl, rfl, rfl⟩ := oi3 H
     go_enter Tryz.func39, Tryz.ntmps39
     try go_wp2_with (first | ((with_reducible refine za (f := 38) rfl ?_); refine cl 14 rfl Tryz.func38 #[.pointer (some ⟨g, 0, none⟩), .int .i64 (a1.size : Int)] (zp.calls g s0_0 s0_1 s0_2 (a1.size : Int) t104 t105 t106 w0 _ ?side1 ?side2 A6.out) ?_; (case side1 => exact zU HI0.out); (case side2 => exact bq1 (zc HI0.out)); rintro e w48 ⟨rfl, hi, hb, hk⟩; refine ⟨_, rfl, ?_⟩; replace HK := ak (KeepBut.trans kq hk (.inl rfl)); replace HB := ak (hb); replace HI0 := ak (hi); (try clear hb hk hi)) | ((with_reducible refine za (f := 38) rfl ?_); refine cl 16 rfl Tryz.func38 #[.pointer (some ⟨g, 0, none⟩), .int .i64 4] (zp.calls g s0_0 t105 t106 4 t107 t108 t109 w0 _ ?side1 ?side2 A7.out) ?_; (case side1 => exact zU HI0.out); (case side2 => exact bq1 (zc HI0.out)); rintro e w49 ⟨rfl, hi, hb, hk⟩; refine ⟨_, rfl, ?_⟩; replace HK := ak (KeepBut.trans kq hk (.inl rfl)); replace HB := ak (hb); replace HI0 := ak (hi); (try clear hb hk hi)))
     have n0_ := ak (IsS88.drew HI0.out)
     have n1_ := ak (jz HK.out)
     have n2_ := ak (ye HB.out)
     clear HI0
     clear HK
     clear HB
     have HI0 := n0_
     have HK := n1_
     have HB := n2_
     clear n0_ n1_ n2_
     have p41 : 0 ≤ (t104 : Int) := of_decide_eq_true asm
     have q41 : t104 < (a1.size : Int) := of_decide_eq_true asm
     have hx41 := bt_at a1 t104
     replace p41 := eq_true p41
     replace q41 := eq_true q41
     refine start_ (n := 21) (S := fun w' => True) (ds := []) (Array.replicate 21 false) (by kernel_rfl) rfl rfl trivial (fun hHeld => ?_); refine xm zN.tab11 zN.bits11 (fun HT_ HW_ => ?_)
     generalize w49.drew = w50 at HI0 HK HB hHeld ⊢
     refine pu 0 47 HT_ ?_
     refine pu 1 48 HT_ ?_
     refine pu 2 49 HT_ ?_
     refine pu 3 50 HT_ ?_
     refine pu 4 51 HT_ ?_
     refine pu 7 54 HT_ ?_
     refine pu 15 62 HT_ ?_
     refine pu 16 63 HT_ ?_
     refine pu 17 64 HT_ ?_
     refine pu 18 65 HT_ ?_
     refine tk 5 52 HT_ HW_ hHeld ?_ (hy := by intro w' _; go_simp; with_reducible rfl)
     refine pu 6 53 HT_ ?_
     refine on1 8 55 HT_ (fun K hK => ?_)
     refine goes_ Tryz.func38 (by kernel_rfl) rfl #[.pointer (some ⟨g, 0, none⟩), .int .i64 255] (by rfl) rfl rfl am ?_
     with_reducible refine (zp.calls g s0_0 t108 t109 255 t116 t117 t118 w0 _ ?side1 ?side2 A42.out).mono ?_
     (case side1 => exact zU HI0.out)
     (case side2 => exact bq1 (zc HI0.out))
     rintro e w51 ⟨rfl, hi, hb, hk⟩
     refine ⟨_, rfl, ?_⟩
     have n0_ := ak (KeepBut.trans kq hk (.inl rfl))
     have n1_ := ak (hb)
     have n2_ := ak (hi)
     clear HK
     clear HB
     clear HI0
     have HK := n0_
     have HB := n1_
     have HI0 := n2_
     clear n0_ n1_ n2_
     (try clear hb)
     (try clear hb2)
     (try clear hk)
     (try clear hi)
     refine hK.out _ _ trivial (fun hHeld => ?_)
     clear hK K
     refine nrm 55 ?_
     refine pu 9 56 HT_ ?_
     refine pu 10 57 HT_ ?_
     refine pu 11 58 HT_ ?_
     refine on1 12 59 HT_ (fun K hK => ?_)
     refine Kd.R_lit_step (Kd.int .u8) _ 5 ?hg (N := 59) ?hd (xs := ([(Go.bits .xor .i64 (wrap64 (bt a1 t104)) (wrap64 (1 + t116))) % 256] : List Int)) (inner := [.int .u8 ((Go.bits .xor .i64 (wrap64 (bt a1 t104)) (wrap64 (1 + t116))) % 256)]) (ok := fun _ => True) (okp := fun _ => True) ?hr ?hp (fun _ hk => hk) trivial (Below.refl _ _) (Nat.le_refl _) (by simp) ?_; (case hd => rfl); (case hg => rfl); (case hr => first | (go_simp; done) | (go_simp; rfl)); (case hp => exact (yl0 (show Kd.M (Kd.int .u8) _ _ _ ((Go.bits .xor .i64 (wrap64 (bt a1 t104)) (wrap64 (1 + t116))) % 256) [.int .u8 ((Go.bits .xor .i64 (wrap64 (bt a1 t104)) (wrap64 (1 + t116))) % 256)] from rfl) (Reps.none _ _)))
     intro v120 w52 ho53 hb hg_ hnew_
     clear hg_ hnew_
     (first | rw [← Ny119.out] at ho53 | (simp only [Int.reduceToNat] at ho53; rw [← Ny119.out] at ho53))
     have n0_ := ak (Kd.R_lower ho53 (yi (w := w) (g := g) (row := none) kq))
     have n1_ := ak (IsS88.below (zU HI0.out) hb)
     have n2_ := ak (KeepBut.trans kq (zF hb g none) (.inl rfl))
     have n3_ := ak (zb (bq1 (zc HI0.out)) hb)
     clear HI0
     clear HK
     clear HB
     have HO121 := n0_
     have HI0 := n1_
     have HK := n2_
     have HB := n3_
     clear n0_ n1_ n2_ n3_
     clear hb ho53
     refine hK.out _ _ trivial (fun hHeld => ?_)
     clear hK K
     refine nrm 59 ?_
     refine on1 13 60 HT_ (fun K hK => ?_)
     have hcv54 := qG (P := Tryz.prog) Tryz.underlying22 Tryz.underlying5 Tryz.underlying9 (Kd.own_of_R HO121.out)
     refine jl0 (w1 := ?_) (v := ?_) (by rfl) rfl ?_ ?_
     rotate_left 2
     ·go_simp
      constructor
      ·rfl
      ·rfl
     clear hcv54
     refine hK.out _ _ trivial (fun hHeld => ?_)
     clear hK K
     refine nrm 60 ?_
     refine pu 14 61 HT_ ?_
     refine pu 19 66 HT_ ?_
     refine pu 20 4 HT_ ?_
     refine done_ (xV HT_.out (by kernel_rfl)) ?_
     try go_wp2
     go_ret
     exact ⟨by first | rfl | (simp [xy, xx] <;> rfl) | (simp only [← hji44]; first | rfl | (simp [xy, xx] <;> rfl)) | (simp [*, xy, xx] <;> rfl), zU HI0.out, bq1 (zc HI0.out), kq⟩
def yj.l0 : Nat → Int → ByteArray → Option (ByteArray)
 | 0, _, _ => none
 | k + 1, x0, x3 => if x0 > 0 then (if 0 ≤ (Int.tmod x0 16) then (if (Int.tmod x0 16) < 16 then ((some (([bt (⟨#[48, 49, 50, 51, 52, 53, 54, 55, 56, 57, 97, 98, 99, 100, 101, 102]⟩ : ByteArray) (Int.tmod x0 16)] : List Int) : List Int)).bind fun y101 => (if (strOfNums y101).size + x3.size ≤ 9223372036854775807 then (yj.l0 k (wrap64 (Int.tdiv x0 16)) ((strOfNums y101) ++ x3)) else (none))) else (none)) else (none)) else (if x3.toList = ([] : List UInt8) then (if 0 ≤ (Int.tmod x0 16) then (if (Int.tmod x0 16) < 16 then ((some (([bt (⟨#[48, 49, 50, 51, 52, 53, 54, 55, 56, 57, 97, 98, 99, 100, 101, 102]⟩ : ByteArray) (Int.tmod x0 16)] : List Int) : List Int)).bind fun y104 => (if (strOfNums y104).size + x3.size ≤ 9223372036854775807 then (yj.l0 k (wrap64 (Int.tdiv x0 16)) ((strOfNums y104) ++ x3)) else (none))) else (none)) else (none)) else (some x3))
def yj.f (k : Nat) (a0 : Int) : Option (ByteArray) := if a0 < 0 then (some (⟨#[]⟩ : ByteArray)) else (yj.l0 k a0 (⟨#[]⟩ : ByteArray))
theorem yj.mono_l : ∀ k, (∀ y0 y1, LeO (yj.l0 k y0 y1) (yj.l0 (k + 1) y0 y1))
 | 0 => fun _ _ r h => by simp [yj.l0] at h
 | k + 1 => by
  have ih0 := yj.mono_l k
  ·intro y0 y1
   unfold yj.l0
   exact mq1 ih0
theorem yj.mono : ∀ a0 k, LeO (yj.f k a0) (yj.f (k + 1) a0) := by
 intro a0 k
 have ih0 := yj.mono_l k
 unfold yj.f
 exact mq1 ih0
theorem yj.calls (k : Nat) (a0 : Int) (r : ByteArray) (w : World) (h : yj.f k a0 = some r) :
  Calls Tryz.prog 71 #[.int .i64 a0] w fun e w' => e = .returned (.string r) ∧ Below w.heap.size w w' := by
 have HB := ak (Below.refl w.heap.size w)
 have H : (if a0 < 0 then (some (⟨#[]⟩ : ByteArray)) else (yj.l0 k a0 (⟨#[]⟩ : ByteArray))) = some r := h
 clear h
 replace H := sd H
 rcases H with ⟨c2b0, H⟩ | ⟨c2b0, H⟩
 ·obtain rfl := oi1 H
  go_enter Tryz.func71, Tryz.ntmps71
  go_wp2
  go_ret
  exact ⟨rv, bq⟩
 ·have H' := ak H
  clear H
  go_enter Tryz.func71, Tryz.ntmps71
  go_wp2
  go_loopg [0, 3] k (fun kq v0 v3 w' => ∃ (x0_1 : Int) (x3_1 : ByteArray), v0 = .int .i64 x0_1 ∧ v3 = .string x3_1 ∧ Aside0 (yj.l0 kq x0_1 x3_1 = some r) ∧ Aside0 (kq ≤ k) ∧ Aside0 (Below w.heap.size w w'))
  case atStart => exact ⟨(a0), ((⟨#[]⟩ : ByteArray)), rs, rs, H', ⟨Nat.le_refl _⟩, ⟨bq⟩⟩
  case round =>
   clear H'
   obtain ⟨x0_1, x3_1, rfl, rfl, HA, HK1, HB⟩ := hrel
   cases gk with
   | zero => exact absurd HA.out (by simp [yj.l0])
   | succ k1 =>
    have H := HA.out
    clear HA
    simp only [yj.l0] at H
    replace H := sd H
    rcases H with ⟨c3b0, H⟩ | ⟨c3b0, H⟩
    ·obtain ⟨ji4, hji4⟩ : ∃ j_ : Int, (Int.tmod x0_1 16) = j_ := ⟨_, rfl⟩
     replace H : (if 0 ≤ (ji4) then (if (ji4) < 16 then ((some (([bt (⟨#[48, 49, 50, 51, 52, 53, 54, 55, 56, 57, 97, 98, 99, 100, 101, 102]⟩ : ByteArray) (ji4)] : List Int) : List Int)).bind fun y101 => (if (strOfNums y101).size + x3_1.size ≤ 9223372036854775807 then (yj.l0 k1 (wrap64 (Int.tdiv x0_1 16)) ((strOfNums y101) ++ x3_1)) else (none))) else (none)) else (none)) = some r := by first | (rw [hji4] at H; exact H) | (simp only [hji4] at H ⊢; exact H)
     replace H := sT H
     obtain ⟨c5, H⟩ := H
     have c5b0 := decide_eq_true c5
     clear c5
     replace H := sT H
     obtain ⟨c6, H⟩ := H
     have c6b0 := decide_eq_true c6
     clear c6
     obtain ⟨y101, hy101⟩ : ∃ y_ : List Int, y_ = (([bt (⟨#[48, 49, 50, 51, 52, 53, 54, 55, 56, 57, 97, 98, 99, 100, 101, 102]⟩ : ByteArray) (ji4)] : List Int)) := ⟨_, rfl⟩
     replace H : (if (strOfNums y101).size + x3_1.size ≤ 9223372036854775807 then (yj.l0 k1 (wrap64 (Int.tdiv x0_1 16)) ((strOfNums y101) ++ x3_1)) else (none)) = some r := rhq hy101
     have Ny101 := ak hy101
     clear hy101
     replace H := sK H
     obtain ⟨c8, c8b0, c8b1, H⟩ := H
     have H' := ak H
     clear H
     have p7 : 0 ≤ ((ji4) : Int) := of_decide_eq_true asm
     have q7 : (ji4) < (16 : Int) := of_decide_eq_true asm
     have hx7 := bt_at (⟨#[48, 49, 50, 51, 52, 53, 54, 55, 56, 57, 97, 98, 99, 100, 101, 102]⟩ : ByteArray) (ji4)
     replace p7 := eq_true p7
     replace q7 := eq_true q7
     go_wp2_with (first | ((with_reducible refine zl (N := 15) rfl ?_); refine rI .u8 5 15 Ny101.out ?_; intro v102 w9 ho10 hb; have HO103 := ak (Kd.R_lower ho10 (zd bq)); replace HB := ak (zb bq hb); clear hb ho10; have hcv11 := qG (P := Tryz.prog) Tryz.underlying22 Tryz.underlying5 Tryz.underlying9 (Kd.own_of_R HO103.out)))
     go_roundg k1
     case measure => have := HK1.out; omega
     case rel => exact ⟨(wrap64 (Int.tdiv x0_1 16)), ((strOfNums y101) ++ x3_1), rs, rs, H', ⟨by have := HK1.out; omega⟩, ⟨bq⟩⟩
    ·replace H := se H
     rcases H with ⟨c12b0, c12b1, H⟩ | ⟨c12, c12b0, c12b1, H⟩
     ·obtain ⟨ji13, hji13⟩ : ∃ j_ : Int, (Int.tmod x0_1 16) = j_ := ⟨_, rfl⟩
      replace H : (if 0 ≤ (ji13) then (if (ji13) < 16 then ((some (([bt (⟨#[48, 49, 50, 51, 52, 53, 54, 55, 56, 57, 97, 98, 99, 100, 101, 102]⟩ : ByteArray) (ji13)] : List Int) : List Int)).bind fun y104 => (if (strOfNums y104).size + x3_1.size ≤ 9223372036854775807 then (yj.l0 k1 (wrap64 (Int.tdiv x0_1 16)) ((strOfNums y104) ++ x3_1)) else (none))) else (none)) else (none)) = some r := by first | (rw [hji13] at H; exact H) | (simp only [hji13] at H ⊢; exact H)
      replace H := sT H
      obtain ⟨c14, H⟩ := H
      have c14b0 := decide_eq_true c14
      clear c14
      replace H := sT H
      obtain ⟨c15, H⟩ := H
      have c15b0 := decide_eq_true c15
      clear c15
      obtain ⟨y104, hy104⟩ : ∃ y_ : List Int, y_ = (([bt (⟨#[48, 49, 50, 51, 52, 53, 54, 55, 56, 57, 97, 98, 99, 100, 101, 102]⟩ : ByteArray) (ji13)] : List Int)) := ⟨_, rfl⟩
      replace H : (if (strOfNums y104).size + x3_1.size ≤ 9223372036854775807 then (yj.l0 k1 (wrap64 (Int.tdiv x0_1 16)) ((strOfNums y104) ++ x3_1)) else (none)) = some r := rhq hy104
      have Ny104 := ak hy104
      clear hy104
      replace H := sK H
      obtain ⟨c17, c17b0, c17b1, H⟩ := H
      have H' := ak H
      clear H
      have p16 : 0 ≤ ((ji13) : Int) := of_decide_eq_true asm
      have q16 : (ji13) < (16 : Int) := of_decide_eq_true asm
      have hx16 := bt_at (⟨#[48, 49, 50, 51, 52, 53, 54, 55, 56, 57, 97, 98, 99, 100, 101, 102]⟩ : ByteArray) (ji13)
      replace p16 := eq_true p16
      replace q16 := eq_true q16
      go_wp2_with (first | ((with_reducible refine zl (N := 15) rfl ?_); refine rI .u8 5 15 Ny104.out ?_; intro v105 w18 ho19 hb; have HO106 := ak (Kd.R_lower ho19 (zd bq)); replace HB := ak (zb bq hb); clear hb ho19; have hcv20 := qG (P := Tryz.prog) Tryz.underlying22 Tryz.underlying5 Tryz.underlying9 (Kd.own_of_R HO106.out)))
      go_roundg k1
      case measure => have := HK1.out; omega
      case rel => exact ⟨(wrap64 (Int.tdiv x0_1 16)), ((strOfNums y104) ++ x3_1), rs, rs, H', ⟨by have := HK1.out; omega⟩, ⟨bq⟩⟩
     ·obtain rfl := oi1 H
      go_wp2
      go_ret
      exact ⟨rv, bq⟩
def yq.l0 : Nat → ByteArray → Int → ByteArray → Option (ByteArray)
 | 0, _, _, _ => none
 | k + 1, x0, x1, x5 => if (x0.size : Int) > 0 then ((yj.f k (mn x1 (x0.size : Int))).bind fun t101 => (if x5.size + t101.size ≤ 9223372036854775807 then (if (x5 ++ t101).size + 2 ≤ 9223372036854775807 then (if 0 ≤ (mn x1 (x0.size : Int)) then (if (mn x1 (x0.size : Int)) ≤ (x0.size : Int) then (if ((x5 ++ t101) ++ (⟨#[13, 10]⟩ : ByteArray)).size + (x0.extract 0 ((mn x1 (x0.size : Int)) : Int).toNat).size ≤ 9223372036854775807 then (if (((x5 ++ t101) ++ (⟨#[13, 10]⟩ : ByteArray)) ++ (x0.extract 0 ((mn x1 (x0.size : Int)) : Int).toNat)).size + 2 ≤ 9223372036854775807 then (yq.l0 k (x0.extract ((mn x1 (x0.size : Int)) : Int).toNat x0.size) x1 ((((x5 ++ t101) ++ (⟨#[13, 10]⟩ : ByteArray)) ++ (x0.extract 0 ((mn x1 (x0.size : Int)) : Int).toNat)) ++ (⟨#[13, 10]⟩ : ByteArray))) else (none)) else (none)) else (none)) else (none)) else (none)) else (none))) else (if x5.size + 5 ≤ 9223372036854775807 then (some (x5 ++ (⟨#[48, 13, 10, 13, 10]⟩ : ByteArray))) else (none))
def yq.f (k : Nat) (a0 : ByteArray) (a1 : Int) : Option (ByteArray) := if a1 < 1 then (some (⟨#[]⟩ : ByteArray)) else (yq.l0 k a0 a1 (⟨#[]⟩ : ByteArray))
theorem yq.mono_l : ∀ k, (∀ y0 y1 y2, LeO (yq.l0 k y0 y1 y2) (yq.l0 (k + 1) y0 y1 y2))
 | 0 => fun _ _ _ r h => by simp [yq.l0] at h
 | k + 1 => by
  have ih0 := yq.mono_l k
  ·intro y0 y1 y2
   unfold yq.l0
   exact mq2 ih0 yj.mono
theorem yq.mono : ∀ a0 a1 k, LeO (yq.f k a0 a1) (yq.f (k + 1) a0 a1) := by
 intro a0 a1 k
 have ih0 := yq.mono_l k
 unfold yq.f
 exact mq2 ih0 yj.mono
def yq.T6 : Bool × List (List Nat × List Nat) := (true, [([], []), ([], []), ([1], [1]), ([0, 2], [0, 2]), ([3], [3]), ([], []), ([], []), ([5, 6], [5, 6]), ([4, 7], [4, 7]), ([8], [8]), ([9, 2, 0, 1, 2, 3, 4, 5, 6, 7, 8, 9], [0, 9])])
def yq.B6 : List Nat := [0, 0, 2, 7, 15, 0, 0, 96, 255, 511, 1023]
theorem yq.tab6 : rtab .any (opsOf Tryz.f40 6) = yq.T6 := by kernel_rfl
theorem yq.bits6 : qj yq.T6.2 yq.B6 = true := by kernel_rfl
theorem yq.calls (k : Nat) (a0 : ByteArray) (a1 : Int) (r : ByteArray) (w : World) (h : yq.f k a0 a1 = some r) :
  Calls Tryz.prog 40 #[.string a0, .int .i64 a1] w fun e w' => e = .returned (.string r) ∧ Below w.heap.size w w' := by
 have HB := ak (Below.refl w.heap.size w)
 have H : (if a1 < 1 then (some (⟨#[]⟩ : ByteArray)) else (yq.l0 k a0 a1 (⟨#[]⟩ : ByteArray))) = some r := h
 clear h
 replace H := sd H
 rcases H with ⟨c3b0, H⟩ | ⟨c3b0, H⟩
 ·obtain rfl := oi1 H
  go_enter Tryz.func40, Tryz.ntmps40
  go_wp2
  go_ret
  exact ⟨rv, bq⟩
 ·have H' := ak H
  clear H
  go_enter Tryz.func40, Tryz.ntmps40
  go_wp2
  go_loopg [0, 5] k (fun kq v0 v5 w' => ∃ (x0_1 : ByteArray) (x5_1 : ByteArray), v0 = .string x0_1 ∧ v5 = .string x5_1 ∧ Aside0 (yq.l0 kq x0_1 a1 x5_1 = some r) ∧ Aside0 (kq ≤ k) ∧ Aside0 (Below w.heap.size w w'))
  case atStart => exact ⟨(a0), ((⟨#[]⟩ : ByteArray)), rs, rs, H', ⟨Nat.le_refl _⟩, ⟨bq⟩⟩
  case round =>
   clear H'
   obtain ⟨x0_1, x5_1, rfl, rfl, HA, HK1, HB⟩ := hrel
   cases gk with
   | zero => exact absurd HA.out (by simp [yq.l0])
   | succ k1 =>
    have H := HA.out
    clear HA
    simp only [yq.l0] at H
    replace H := si H
    rcases H with ⟨c4, H⟩ | ⟨c4, H⟩
    ·have c4b0 := decide_eq_true c4
     have c4b1 : decide (0 < x0_1.size) = true := decide_eq_true (by omega)
     clear c4
     obtain ⟨ji5, hji5⟩ : ∃ j_ : Int, (mn a1 (x0_1.size : Int)) = j_ := ⟨_, rfl⟩
     replace H : ((yj.f k1 (ji5)).bind fun t101 => (if x5_1.size + t101.size ≤ 9223372036854775807 then (if (x5_1 ++ t101).size + 2 ≤ 9223372036854775807 then (if 0 ≤ (ji5) then (if (ji5) ≤ (x0_1.size : Int) then (if ((x5_1 ++ t101) ++ (⟨#[13, 10]⟩ : ByteArray)).size + (x0_1.extract 0 ((ji5) : Int).toNat).size ≤ 9223372036854775807 then (if (((x5_1 ++ t101) ++ (⟨#[13, 10]⟩ : ByteArray)) ++ (x0_1.extract 0 ((ji5) : Int).toNat)).size + 2 ≤ 9223372036854775807 then (yq.l0 k1 (x0_1.extract ((ji5) : Int).toNat x0_1.size) a1 ((((x5_1 ++ t101) ++ (⟨#[13, 10]⟩ : ByteArray)) ++ (x0_1.extract 0 ((ji5) : Int).toNat)) ++ (⟨#[13, 10]⟩ : ByteArray))) else (none)) else (none)) else (none)) else (none)) else (none)) else (none))) = some r := by first | (rw [hji5] at H; exact H) | (simp only [hji5] at H ⊢; exact H)
     have hji5_ : (if (x0_1.size : Int) < a1 then (x0_1.size : Int) else a1) = ji5 := hji5
     replace H := ob H
     obtain ⟨t101, A6, H⟩ := H
     replace H := sK H
     obtain ⟨c7, c7b0, c7b1, H⟩ := H
     have c7b2 := sz c7
     replace H := sK H
     obtain ⟨c8, c8b0, c8b1, H⟩ := H
     have c8b2 := sz c8
     try have c8b3 : (9223372036854775807 < (x5_1).size + (t101).size + 2) = False := sz3 c8
     replace H := sG H
     obtain ⟨c9b0, c9b1, H⟩ := H
     replace H := sG H
     obtain ⟨c10b0, c10b1, H⟩ := H
     replace H := sK H
     obtain ⟨c11, c11b0, c11b1, H⟩ := H
     have c11b2 := sz c11
     try have c11b4 : (9223372036854775807 < (x5_1).size + (t101).size + 2 + ji5.toNat) = False := eq_false (Nat.not_lt.2 (by have q0_ : (ji5) ≤ (x0_1.size : Int) := of_decide_eq_true asm; have h_ : (x5_1).size + (t101).size + 2 + (x0_1.extract 0 ((ji5) : Int).toNat).size ≤ 9223372036854775807 := (by have g_ := c11; simp only [ByteArray.size_append] at g_; exact g_); simp only [ByteArray.size_extract] at h_; omega))
     try have c11b3 : (9223372036854775807 < (x5_1).size + (t101).size + 2 + (x0_1.extract 0 ((ji5) : Int).toNat).size) = False := sz3 c11
     replace H := sK H
     obtain ⟨c12, c12b0, c12b1, H⟩ := H
     have c12b2 := sz c12
     try have c12b4 : (9223372036854775807 < (x5_1).size + (t101).size + 2 + ji5.toNat + 2) = False := eq_false (Nat.not_lt.2 (by have q0_ : (ji5) ≤ (x0_1.size : Int) := of_decide_eq_true asm; have h_ : (x5_1).size + (t101).size + 2 + (x0_1.extract 0 ((ji5) : Int).toNat).size + 2 ≤ 9223372036854775807 := (by have g_ := c12; simp only [ByteArray.size_append] at g_; exact g_); simp only [ByteArray.size_extract] at h_; omega))
     try have c12b3 : (9223372036854775807 < (x5_1).size + (t101).size + 2 + (x0_1.extract 0 ((ji5) : Int).toNat).size + 2) = False := sz3 c12
     have c13b0 := eq_true (of_decide_eq_true asm : 0 ≤ (ji5))
     have c14b0 := eq_true (of_decide_eq_true asm : (ji5) ≤ (x0_1.size : Int))
     have H' := ak H
     clear H
     try go_wp2
     have n0_ := ak (ye HB.out)
     clear HB
     have HB := n0_
     clear n0_
     refine start_ (n := 11) (S := fun w' => True) (ds := []) (Array.replicate 11 false) (by kernel_rfl) rfl rfl trivial (fun hHeld => ?_); refine xm yq.tab6 yq.bits6 (fun HT_ HW_ => ?_)
     generalize wr.drew = w15 at HB hHeld ⊢
     refine pu 0 16 HT_ ?_
     refine pu 1 17 HT_ ?_
     refine pu 5 21 HT_ ?_
     refine pu 6 22 HT_ ?_
     refine pu 7 23 HT_ ?_
     refine on1 2 18 HT_ (fun K hK => ?_)
     refine goes_ Tryz.func71 (by kernel_rfl) rfl #[.int .i64 ji5] (by rfl) rfl rfl (by (try simp only [List.map_toArray, List.map_cons, List.map_nil]); first | done | (simp only [hji5]; rfl) | rfl | (simp only [List.length_drop, List.length_take]; rfl)) ?_
     with_reducible refine (yj.calls k1 ji5 t101 _ A6.out).mono ?_
     rintro e w16 ⟨rfl, hb⟩
     refine ⟨_, rfl, ?_⟩
     have n0_ := ak (zb bq hb)
     clear HB
     have HB := n0_
     clear n0_
     (try clear hb)
     (try clear hb2)
     (try clear hk)
     (try clear hi)
     refine hK.out _ _ trivial (fun hHeld => ?_)
     clear hK K
     refine nrm 18 ?_
     refine pu 3 19 HT_ ?_
     refine pu 4 20 HT_ ?_
     refine pu 8 24 HT_ ?_
     refine pu 9 25 HT_ ?_
     refine pu 10 5 HT_ ?_
     refine done_ (xV HT_.out (by kernel_rfl)) ?_
     try go_wp2
     go_roundg k1
     case measure => have := HK1.out; omega
     case rel => exact ⟨(x0_1.extract ((ji5) : Int).toNat x0_1.size), ((((x5_1 ++ t101) ++ (⟨#[13, 10]⟩ : ByteArray)) ++ (x0_1.extract 0 ((ji5) : Int).toNat)) ++ (⟨#[13, 10]⟩ : ByteArray)), (by first | rfl | (simp; done) | (simp only [← hji5] <;> (first | rfl | simp)) | (simp [*]; done)), (by first | rfl | (simp; done) | (simp only [← hji5] <;> (first | rfl | simp)) | (simp [*]; done)), H', ⟨by have := HK1.out; omega⟩, ⟨bq⟩⟩
    ·have c4b0 := decide_eq_false c4
     have c4b1 : decide (0 < x0_1.size) = false := decide_eq_false (by omega)
     clear c4
     replace H := sK H
     obtain ⟨c17, c17b0, c17b1, H⟩ := H
     have c17b2 := sz c17
     obtain rfl := oi1 H
     go_wp2
     go_ret
     exact ⟨rv, bq⟩
def zz.f (k : Nat) (l0 : List Int) : Option (ByteArray) := (yc.f k l0).bind fun bt101 => ((zt.f k bt101.1 bt101.2.1 bt101.2.2).bind fun bt105 => ((yb.f k bt105.1 bt105.2.1 bt105.2.2.1 bt105.2.2.2.1).bind fun t114 => ((zp.f bt101.1 bt105.2.2.2.2.1 bt105.2.2.2.2.2 9).bind fun bt115 => (if bt115.1 = 0 then ((zN.f k bt101.1 bt115.2.1 bt115.2.2 t114).bind fun bt118 => (some bt118.1)) else (if bt115.1 = 1 then ((zp.f bt101.1 bt115.2.1 bt115.2.2 (wrap64 ((t114.size : Int) + 1))).bind fun bt121 => (if 0 ≤ bt121.1 then (if bt121.1 ≤ (t114.size : Int) then (some (t114.extract 0 (bt121.1 : Int).toNat)) else (none)) else (none))) else (if bt115.1 = 2 then (if bt105.1.size + 1 ≤ 9223372036854775807 then (if (bt105.1 ++ (⟨#[32]⟩ : ByteArray)).size + bt105.2.1.size ≤ 9223372036854775807 then (if ((bt105.1 ++ (⟨#[32]⟩ : ByteArray)) ++ bt105.2.1).size + 41 ≤ 9223372036854775807 then ((yq.f k bt105.2.2.2.1 3).bind fun t124 => (if (((bt105.1 ++ (⟨#[32]⟩ : ByteArray)) ++ bt105.2.1) ++ (⟨#[32, 72, 84, 84, 80, 47, 49, 46, 49, 13, 10, 84, 114, 97, 110, 115, 102, 101, 114, 45, 69, 110, 99, 111, 100, 105, 110, 103, 58, 32, 99, 104, 117, 110, 107, 101, 100, 13, 10, 13, 10]⟩ : ByteArray)).size + t124.size ≤ 9223372036854775807 then (some ((((bt105.1 ++ (⟨#[32]⟩ : ByteArray)) ++ bt105.2.1) ++ (⟨#[32, 72, 84, 84, 80, 47, 49, 46, 49, 13, 10, 84, 114, 97, 110, 115, 102, 101, 114, 45, 69, 110, 99, 111, 100, 105, 110, 103, 58, 32, 99, 104, 117, 110, 107, 101, 100, 13, 10, 13, 10]⟩ : ByteArray)) ++ t124)) else (none))) else (none)) else (none)) else (none)) else (if bt115.1 = 3 then ((zB.f bt101.1 bt115.2.1 bt115.2.2 (([(⟨#[71, 69, 84, 32, 47, 32, 72, 84, 84, 80, 47, 49, 46, 48, 13, 10, 13, 10]⟩ : ByteArray), (⟨#[71, 69, 84, 32, 47, 13, 10, 13, 10]⟩ : ByteArray), (⟨#[13, 10, 13, 10]⟩ : ByteArray), (⟨#[71, 69, 84, 32, 32, 47, 32, 72, 84, 84, 80, 47, 49, 46, 49, 13, 10, 13, 10]⟩ : ByteArray), (⟨#[71, 69, 84, 32, 47, 32, 72, 84, 84, 80, 47, 49, 46, 49, 13, 10, 65, 58, 32, 98, 13, 10, 13, 10]⟩ : ByteArray), (⟨#[71, 69, 84, 32, 47, 32, 72, 84, 84, 80, 47, 49, 46, 49, 13, 10, 67, 111, 110, 116, 101, 110, 116, 45, 76, 101, 110, 103, 116, 104, 58, 32, 57, 13, 10, 13, 10, 97, 98, 99]⟩ : ByteArray), (⟨#[71, 69, 84, 32, 47, 32, 72, 84, 84, 80, 47, 49, 46, 49, 13, 10, 67, 111, 110, 116, 101, 110, 116, 45, 76, 101, 110, 103, 116, 104, 58, 32, 120, 13, 10, 13, 10]⟩ : ByteArray)] : List ByteArray))).bind fun bt128 => (some bt128.1)) else ((zB.f bt101.1 bt115.2.1 bt115.2.2 (([(⟨#[]⟩ : ByteArray), (⟨#[]⟩ : ByteArray), (⟨#[71, 69, 84, 32, 47]⟩ : ByteArray), t114] : List ByteArray))).bind fun bt134 => (if t114.size + bt134.1.size ≤ 9223372036854775807 then (some (t114 ++ bt134.1)) else (none))))))))))
theorem zz.mono : ∀ a0 k, LeO (zz.f k a0) (zz.f (k + 1) a0) := by
 intro a0 k
 unfold zz.f
 exact mq5 yq.mono yb.mono yc.mono zN.mono zt.mono
def zz.T10 : Bool × List (List Nat × List Nat) := (true, [([], []), ([0], [0]), ([1], [1]), ([], []), ([3], [3]), ([2, 4], [2, 4]), ([5], [5]), ([], []), ([7], [7]), ([8], [8]), ([6, 9], [6, 9]), ([10, 9, 0, 1, 2, 3, 4, 5, 6, 7, 8, 9, 10], [10])])
def zz.B10 : List Nat := [0, 1, 3, 0, 8, 31, 63, 0, 128, 384, 1023, 2047]
theorem zz.tab10 : rtab .any (opsOf Tryz.f16 10) = zz.T10 := by kernel_rfl
theorem zz.bits10 : qj zz.T10.2 zz.B10 = true := by kernel_rfl
theorem zz.calls (k : Nat) (A0 : Option Addr) (c0 : Nat) (l0 : List Int) (r : ByteArray) (w : World) (hr0 : Kd.C (Kd.int .u8) w A0 l0.length l0) (hc0 : l0.length ≤ c0) (h : zz.f k l0 = some r) :
  Calls Tryz.prog 16 #[.slice A0 l0.length c0] w fun e w' => e = .returned (.string r) ∧ Below w.heap.size w w' := by
 have hu26 := Tryz.underlying26
 have HR0 := ak hr0
 have HC0 := ak hc0
 clear hr0 hc0
 have HB := ak (Below.refl w.heap.size w)
 have H := h
 unfold zz.f at H
 clear h
 replace H := ob H
 obtain ⟨⟨t101, t102, t103⟩, A2, H⟩ := H
 try dsimp only at H
 replace H := ob H
 obtain ⟨⟨t105, t106, t107, t110, t111, t112⟩, A3, H⟩ := H
 try dsimp only at H
 replace H := ob H
 obtain ⟨t114, A4, H⟩ := H
 replace H := ob H
 obtain ⟨⟨t115, t116, t117⟩, A5, H⟩ := H
 try dsimp only at H
 replace H := se H
 rcases H with ⟨c6b0, c6b1, H⟩ | ⟨c6, c6b0, c6b1, H⟩
 ·replace H := ob H
  obtain ⟨⟨t118, t119, t120⟩, A7, H⟩ := H
  try dsimp only at H
  obtain rfl := oi1 H
  go_enter Tryz.func16, Tryz.ntmps16
  go_wp2_with (first | ((with_reducible refine za (f := 35) rfl ?_); refine cl 7 rfl Tryz.func35 #[.slice A0 l0.length c0] (yc.calls k _ _ l0 t101 t102 t103 w _ ?side1 ?side2 ?side3 A2.out) ?_; (case side1 => exact bq); (case side2 => exact HR0.out); (case side3 => exact HC0.out); rintro e w8 ⟨g104, rfl, hi, hb, hb2⟩; refine ⟨_, rfl, ?_⟩; have HI104 := ak (hi); replace HB := ak (hb); (try clear hb hb2 hi)) | ((with_reducible refine za (f := 36) rfl ?_); refine cl 9 rfl Tryz.func36 #[.pointer (some ⟨g104, 0, none⟩)] (zt.calls k g104 t101 t102 t103 t105 t106 t107 t110 t111 t112 w _ ?side1 ?side2 A3.out) ?_; (case side1 => exact zU HI104.out); (case side2 => exact bq1 (zc HI104.out)); rintro e w9 ⟨v108, rfl, ho0, hi, hb, hk⟩; refine ⟨_, rfl, ?_⟩; have HO109 := ak (Kd.R_lower ho0 (zd (bq1 (zc HI104.out)))); replace HB := ak (hb); replace HI104 := ak (hi); (try clear hb hk hi ho0)) | ((with_reducible refine zl (N := 4) rfl ?_); refine bx 4 #[.string ⟨#[]⟩, .string ⟨#[]⟩, .slice none 0 0, .string ⟨#[]⟩] 26 ?_; intro gb113 hg w10 hbox hb; have BK113 := ak (hbox); have GW113 := ak ((by rw [hg]; exact (zd (bq1 (zc HI104.out))) : w.heap.size ≤ gb113)); have GE113 := GW113; have NB104_113 := ak ((by rw [hg]; exact Nat.ne_of_lt (xE (show IsS88 w _ g104 t101 t111 t112 from zU HI104.out)) : g104 ≠ gb113)); have NB113_104 := ak NB104_113.out.symm; replace HO109 := ak (Kd.R_below (rdq HO109.out) hb); replace HB := ak (zb (bq1 (zc HI104.out)) hb); replace HI104 := ak (IsS88.below (zU HI104.out) hb); clear hb hbox hg; have hnb11 := NB113_104.out; have hnc11 := NB104_113.out; obtain ⟨hcz12_0, hcz12_1, hcz12_2, hcz12_3, hfz12_0, hfz12_1, hfz12_2, hfz12_3⟩ := blk4 BK113.out; obtain ⟨Ao13, co13, eo13⟩ := Kd.R_slice HO109.out; subst eo13) | ((with_reducible refine za (f := 37) rfl ?_); refine cl 11 rfl Tryz.func37 #[.agg #[.string t105, .string t106, .slice Ao13 t107.length co13, .string t110]] (yb.calls k t105 t106 _ _ t107 t110 t114 _ ?side1 ?side2 A4.out) ?_; (case side1 => refine (Kd.R_reads' (e := 55) (base := w.heap.size) (ok := fun k_ => True) (n := t107.length) (c := co13) ?_).2.2; exact (rfd HO109.out BK113.out)); (case side2 => exact (Kd.R_reads' HO109.out).2.1); rintro e w14 ⟨rfl, hb⟩; refine ⟨_, rfl, ?_⟩; replace HO109 := ak (Kd.R_below (rfd HO109.out BK113.out) hb); replace BK113 := ak (ze (g := gb113) (o := .cells #[.string t105, .string t106, .slice Ao13 t107.length co13, .string t110] 26 (0, 0)) (blp0 BK113.out) hb); replace HB := ak (zb (bq2 (zc HI104.out) GE113.out) hb); replace HI104 := ak (IsS88.below (show IsS88 w ((((w10.setCell ⟨gb113, 0, none⟩ (.string t105)).setCell ⟨gb113, 1, none⟩ (.string t106)).setCell ⟨gb113, 2, none⟩ (.slice Ao13 t107.length co13)).setCell ⟨gb113, 3, none⟩ (.string t110)) g104 t101 t111 t112 from zS HI104.out NB104_113.out) hb); (try clear hb)) | ((with_reducible refine za (f := 38) rfl ?_); refine cl 13 rfl Tryz.func38 #[.pointer (some ⟨g104, 0, none⟩), .int .i64 9] (zp.calls g104 t101 t111 t112 9 t115 t116 t117 w _ ?side1 ?side2 A5.out) ?_; (case side1 => exact zS HI104.out NB104_113.out); (case side2 => exact bq2 (zc HI104.out) GE113.out); rintro e w15 ⟨rfl, hi, hb, hk⟩; refine ⟨_, rfl, ?_⟩; replace HO109 := ak (Kd.R_mono (Kd.R_keep (IsS88.apart (show IsS88 w _ g104 t101 t111 t112 from zS HI104.out NB104_113.out) (rdq HO109.out) (by decide)) hk (fun _ h => h.2)) (fun _ h => h.1)); replace BK113 := ak (KeepBut.blk hk (blq BK113.out) NB113_104.out (by simp)); replace HB := ak (hb); replace HI104 := ak (hi); (try clear hb hk hi)) | ((with_reducible refine za (f := 39) rfl ?_); refine cl 18 rfl Tryz.func39 #[.pointer (some ⟨g104, 0, none⟩), .string t114] (zN.calls k g104 t101 t116 t117 t114 t118 t119 t120 w _ ?side1 ?side2 A7.out) ?_; (case side1 => exact zS HI104.out NB104_113.out); (case side2 => exact bq2 (zc HI104.out) GE113.out); rintro e w16 ⟨rfl, hi, hb, hk⟩; refine ⟨_, rfl, ?_⟩; replace HO109 := ak (Kd.R_mono (Kd.R_keep (IsS88.apart (show IsS88 w _ g104 t101 t116 t117 from zS HI104.out NB104_113.out) (rdq HO109.out) (by decide)) hk (fun _ h => h.2)) (fun _ h => h.1)); replace BK113 := ak (KeepBut.blk hk (blq BK113.out) NB113_104.out (by simp)); replace HB := ak (hb); replace HI104 := ak (hi); (try clear hb hk hi)))
  go_ret
  exact ⟨rv, bq2 (zc HI104.out) GE113.out⟩
 ·replace H := se H
  rcases H with ⟨c17b0, c17b1, H⟩ | ⟨c17, c17b0, c17b1, H⟩
  ·replace H := ob H
   obtain ⟨⟨t121, t122, t123⟩, A18, H⟩ := H
   try dsimp only at H
   replace H := sG H
   obtain ⟨c19b0, c19b1, H⟩ := H
   replace H := sG H
   obtain ⟨c20b0, c20b1, H⟩ := H
   obtain rfl := oi1 H
   go_enter Tryz.func16, Tryz.ntmps16
   go_wp2_with (first | ((with_reducible refine za (f := 35) rfl ?_); refine cl 7 rfl Tryz.func35 #[.slice A0 l0.length c0] (yc.calls k _ _ l0 t101 t102 t103 w _ ?side1 ?side2 ?side3 A2.out) ?_; (case side1 => exact bq); (case side2 => exact HR0.out); (case side3 => exact HC0.out); rintro e w21 ⟨g104, rfl, hi, hb, hb2⟩; refine ⟨_, rfl, ?_⟩; have HI104 := ak (hi); replace HB := ak (hb); (try clear hb hb2 hi)) | ((with_reducible refine za (f := 36) rfl ?_); refine cl 9 rfl Tryz.func36 #[.pointer (some ⟨g104, 0, none⟩)] (zt.calls k g104 t101 t102 t103 t105 t106 t107 t110 t111 t112 w _ ?side1 ?side2 A3.out) ?_; (case side1 => exact zU HI104.out); (case side2 => exact bq1 (zc HI104.out)); rintro e w22 ⟨v108, rfl, ho0, hi, hb, hk⟩; refine ⟨_, rfl, ?_⟩; have HO109 := ak (Kd.R_lower ho0 (zd (bq1 (zc HI104.out)))); replace HB := ak (hb); replace HI104 := ak (hi); (try clear hb hk hi ho0)) | ((with_reducible refine zl (N := 4) rfl ?_); refine bx 4 #[.string ⟨#[]⟩, .string ⟨#[]⟩, .slice none 0 0, .string ⟨#[]⟩] 26 ?_; intro gb113 hg w23 hbox hb; have BK113 := ak (hbox); have GW113 := ak ((by rw [hg]; exact (zd (bq1 (zc HI104.out))) : w.heap.size ≤ gb113)); have GE113 := GW113; have NB104_113 := ak ((by rw [hg]; exact Nat.ne_of_lt (xE (show IsS88 w _ g104 t101 t111 t112 from zU HI104.out)) : g104 ≠ gb113)); have NB113_104 := ak NB104_113.out.symm; replace HO109 := ak (Kd.R_below (rdq HO109.out) hb); replace HB := ak (zb (bq1 (zc HI104.out)) hb); replace HI104 := ak (IsS88.below (zU HI104.out) hb); clear hb hbox hg; have hnb24 := NB113_104.out; have hnc24 := NB104_113.out; obtain ⟨hcz25_0, hcz25_1, hcz25_2, hcz25_3, hfz25_0, hfz25_1, hfz25_2, hfz25_3⟩ := blk4 BK113.out; obtain ⟨Ao26, co26, eo26⟩ := Kd.R_slice HO109.out; subst eo26) | ((with_reducible refine za (f := 37) rfl ?_); refine cl 11 rfl Tryz.func37 #[.agg #[.string t105, .string t106, .slice Ao26 t107.length co26, .string t110]] (yb.calls k t105 t106 _ _ t107 t110 t114 _ ?side1 ?side2 A4.out) ?_; (case side1 => refine (Kd.R_reads' (e := 55) (base := w.heap.size) (ok := fun k_ => True) (n := t107.length) (c := co26) ?_).2.2; exact (rfd HO109.out BK113.out)); (case side2 => exact (Kd.R_reads' HO109.out).2.1); rintro e w27 ⟨rfl, hb⟩; refine ⟨_, rfl, ?_⟩; replace HO109 := ak (Kd.R_below (rfd HO109.out BK113.out) hb); replace BK113 := ak (ze (g := gb113) (o := .cells #[.string t105, .string t106, .slice Ao26 t107.length co26, .string t110] 26 (0, 0)) (blp0 BK113.out) hb); replace HB := ak (zb (bq2 (zc HI104.out) GE113.out) hb); replace HI104 := ak (IsS88.below (show IsS88 w ((((w23.setCell ⟨gb113, 0, none⟩ (.string t105)).setCell ⟨gb113, 1, none⟩ (.string t106)).setCell ⟨gb113, 2, none⟩ (.slice Ao26 t107.length co26)).setCell ⟨gb113, 3, none⟩ (.string t110)) g104 t101 t111 t112 from zS HI104.out NB104_113.out) hb); (try clear hb)) | ((with_reducible refine za (f := 38) rfl ?_); refine cl 13 rfl Tryz.func38 #[.pointer (some ⟨g104, 0, none⟩), .int .i64 9] (zp.calls g104 t101 t111 t112 9 t115 t116 t117 w _ ?side1 ?side2 A5.out) ?_; (case side1 => exact zS HI104.out NB104_113.out); (case side2 => exact bq2 (zc HI104.out) GE113.out); rintro e w28 ⟨rfl, hi, hb, hk⟩; refine ⟨_, rfl, ?_⟩; replace HO109 := ak (Kd.R_mono (Kd.R_keep (IsS88.apart (show IsS88 w _ g104 t101 t111 t112 from zS HI104.out NB104_113.out) (rdq HO109.out) (by decide)) hk (fun _ h => h.2)) (fun _ h => h.1)); replace BK113 := ak (KeepBut.blk hk (blq BK113.out) NB113_104.out (by simp)); replace HB := ak (hb); replace HI104 := ak (hi); (try clear hb hk hi)) | ((with_reducible refine za (f := 38) rfl ?_); refine cl 26 rfl Tryz.func38 #[.pointer (some ⟨g104, 0, none⟩), .int .i64 (wrap64 ((t114.size : Int) + 1))] (zp.calls g104 t101 t116 t117 (wrap64 ((t114.size : Int) + 1)) t121 t122 t123 w _ ?side1 ?side2 A18.out) ?_; (case side1 => exact zS HI104.out NB104_113.out); (case side2 => exact bq2 (zc HI104.out) GE113.out); rintro e w29 ⟨rfl, hi, hb, hk⟩; refine ⟨_, rfl, ?_⟩; replace HO109 := ak (Kd.R_mono (Kd.R_keep (IsS88.apart (show IsS88 w _ g104 t101 t116 t117 from zS HI104.out NB104_113.out) (rdq HO109.out) (by decide)) hk (fun _ h => h.2)) (fun _ h => h.1)); replace BK113 := ak (KeepBut.blk hk (blq BK113.out) NB113_104.out (by simp)); replace HB := ak (hb); replace HI104 := ak (hi); (try clear hb hk hi)))
   go_ret
   exact ⟨rv, bq2 (zc HI104.out) GE113.out⟩
  ·replace H := se H
   rcases H with ⟨c30b0, c30b1, H⟩ | ⟨c30, c30b0, c30b1, H⟩
   ·replace H := sK H
    obtain ⟨c31, c31b0, c31b1, H⟩ := H
    have c31b2 := sz c31
    replace H := sK H
    obtain ⟨c32, c32b0, c32b1, H⟩ := H
    have c32b2 := sz c32
    try have c32b3 : (9223372036854775807 < (t105).size + 1 + (t106).size) = False := sz3 c32
    replace H := sK H
    obtain ⟨c33, c33b0, c33b1, H⟩ := H
    have c33b2 := sz c33
    try have c33b3 : (9223372036854775807 < (t105).size + 1 + (t106).size + 41) = False := sz3 c33
    replace H := ob H
    obtain ⟨t124, A34, H⟩ := H
    replace H := sK H
    obtain ⟨c35, c35b0, c35b1, H⟩ := H
    have c35b2 := sz c35
    try have c35b3 : (9223372036854775807 < (t105).size + 1 + (t106).size + 41 + (t124).size) = False := sz3 c35
    obtain rfl := oi1 H
    go_enter Tryz.func16, Tryz.ntmps16
    try go_wp2_with (first | ((with_reducible refine za (f := 35) rfl ?_); refine cl 7 rfl Tryz.func35 #[.slice A0 l0.length c0] (yc.calls k _ _ l0 t101 t102 t103 w _ ?side1 ?side2 ?side3 A2.out) ?_; (case side1 => exact bq); (case side2 => exact HR0.out); (case side3 => exact HC0.out); rintro e w36 ⟨g104, rfl, hi, hb, hb2⟩; refine ⟨_, rfl, ?_⟩; have HI104 := ak (hi); replace HB := ak (hb); (try clear hb hb2 hi)) | ((with_reducible refine za (f := 36) rfl ?_); refine cl 9 rfl Tryz.func36 #[.pointer (some ⟨g104, 0, none⟩)] (zt.calls k g104 t101 t102 t103 t105 t106 t107 t110 t111 t112 w _ ?side1 ?side2 A3.out) ?_; (case side1 => exact zU HI104.out); (case side2 => exact bq1 (zc HI104.out)); rintro e w37 ⟨v108, rfl, ho0, hi, hb, hk⟩; refine ⟨_, rfl, ?_⟩; have HO109 := ak (Kd.R_lower ho0 (zd (bq1 (zc HI104.out)))); replace HB := ak (hb); replace HI104 := ak (hi); (try clear hb hk hi ho0)) | ((with_reducible refine zl (N := 4) rfl ?_); refine bx 4 #[.string ⟨#[]⟩, .string ⟨#[]⟩, .slice none 0 0, .string ⟨#[]⟩] 26 ?_; intro gb113 hg w38 hbox hb; have BK113 := ak (hbox); have GW113 := ak ((by rw [hg]; exact (zd (bq1 (zc HI104.out))) : w.heap.size ≤ gb113)); have GE113 := GW113; have NB104_113 := ak ((by rw [hg]; exact Nat.ne_of_lt (xE (show IsS88 w _ g104 t101 t111 t112 from zU HI104.out)) : g104 ≠ gb113)); have NB113_104 := ak NB104_113.out.symm; replace HO109 := ak (Kd.R_below (rdq HO109.out) hb); replace HB := ak (zb (bq1 (zc HI104.out)) hb); replace HI104 := ak (IsS88.below (zU HI104.out) hb); clear hb hbox hg; have hnb39 := NB113_104.out; have hnc39 := NB104_113.out; obtain ⟨hcz40_0, hcz40_1, hcz40_2, hcz40_3, hfz40_0, hfz40_1, hfz40_2, hfz40_3⟩ := blk4 BK113.out; obtain ⟨Ao41, co41, eo41⟩ := Kd.R_slice HO109.out; subst eo41) | ((with_reducible refine za (f := 37) rfl ?_); refine cl 11 rfl Tryz.func37 #[.agg #[.string t105, .string t106, .slice Ao41 t107.length co41, .string t110]] (yb.calls k t105 t106 _ _ t107 t110 t114 _ ?side1 ?side2 A4.out) ?_; (case side1 => refine (Kd.R_reads' (e := 55) (base := w.heap.size) (ok := fun k_ => True) (n := t107.length) (c := co41) ?_).2.2; exact (rfd HO109.out BK113.out)); (case side2 => exact (Kd.R_reads' HO109.out).2.1); rintro e w42 ⟨rfl, hb⟩; refine ⟨_, rfl, ?_⟩; replace HO109 := ak (Kd.R_below (rfd HO109.out BK113.out) hb); replace BK113 := ak (ze (g := gb113) (o := .cells #[.string t105, .string t106, .slice Ao41 t107.length co41, .string t110] 26 (0, 0)) (blp0 BK113.out) hb); replace HB := ak (zb (bq2 (zc HI104.out) GE113.out) hb); replace HI104 := ak (IsS88.below (show IsS88 w ((((w38.setCell ⟨gb113, 0, none⟩ (.string t105)).setCell ⟨gb113, 1, none⟩ (.string t106)).setCell ⟨gb113, 2, none⟩ (.slice Ao41 t107.length co41)).setCell ⟨gb113, 3, none⟩ (.string t110)) g104 t101 t111 t112 from zS HI104.out NB104_113.out) hb); (try clear hb)) | ((with_reducible refine za (f := 38) rfl ?_); refine cl 13 rfl Tryz.func38 #[.pointer (some ⟨g104, 0, none⟩), .int .i64 9] (zp.calls g104 t101 t111 t112 9 t115 t116 t117 w _ ?side1 ?side2 A5.out) ?_; (case side1 => exact zS HI104.out NB104_113.out); (case side2 => exact bq2 (zc HI104.out) GE113.out); rintro e w43 ⟨rfl, hi, hb, hk⟩; refine ⟨_, rfl, ?_⟩; replace HO109 := ak (Kd.R_mono (Kd.R_keep (IsS88.apart (show IsS88 w _ g104 t101 t111 t112 from zS HI104.out NB104_113.out) (rdq HO109.out) (by decide)) hk (fun _ h => h.2)) (fun _ h => h.1)); replace BK113 := ak (KeepBut.blk hk (blq BK113.out) NB113_104.out (by simp)); replace HB := ak (hb); replace HI104 := ak (hi); (try clear hb hk hi)))
    have n0_ := ak (Kd.R_drew HO109.out)
    have n1_ := ak (xe BK113.out)
    have n2_ := ak (IsS88.drew HI104.out)
    have n3_ := ak (ye HB.out)
    clear HO109
    clear BK113
    clear HI104
    clear HB
    have HO109 := n0_
    have BK113 := n1_
    have HI104 := n2_
    have HB := n3_
    clear n0_ n1_ n2_ n3_
    refine start_ (n := 12) (S := fun w' => w'.cell? ⟨gb113, 0, none⟩ = some (.string t105) ∧ w'.cell? ⟨gb113, 1, none⟩ = some (.string t106) ∧ w'.cell? ⟨gb113, 2, none⟩ = some (.slice Ao41 t107.length co41) ∧ w'.cell? ⟨gb113, 3, none⟩ = some (.string t110)) (ds := []) (Array.replicate 12 false) (by kernel_rfl) rfl rfl ⟨(zg BK113.out 0).trans rfl, (zg BK113.out 1).trans rfl, (zg BK113.out 2).trans rfl, (zg BK113.out 3).trans rfl⟩ (fun hHeld => ?_); refine xm zz.tab10 zz.bits10 (fun HT_ HW_ => ?_)
    generalize w43.drew = w44 at HO109 BK113 HI104 HB hHeld ⊢
    refine pu 0 30 HT_ ?_
    refine pu 3 33 HT_ ?_
    refine pu 7 37 HT_ ?_
    refine tk 1 31 HT_ HW_ hHeld ?_ (hy := by rintro w' ⟨s0, s1, s2, s3⟩; go_simp; with_reducible rfl)
    refine pu 2 32 HT_ ?_
    refine tk 4 34 HT_ HW_ hHeld ?_ (hy := by rintro w' ⟨s0, s1, s2, s3⟩; go_simp; with_reducible rfl)
    refine pu 5 35 HT_ ?_
    refine pu 6 36 HT_ ?_
    refine tk 8 38 HT_ HW_ hHeld ?_ (hy := by rintro w' ⟨s0, s1, s2, s3⟩; go_simp; with_reducible rfl)
    refine on1 9 39 HT_ (fun K hK => ?_)
    refine goes_ Tryz.func40 (by kernel_rfl) rfl #[.string t110, .int .i64 3] (by rfl) rfl rfl am ?_
    with_reducible refine (yq.calls k t110 3 t124 _ A34.out).mono ?_
    rintro e w45 ⟨rfl, hb⟩
    refine ⟨_, rfl, ?_⟩
    have n0_ := ak (Kd.R_below (rdq HO109.out) hb)
    have n1_ := ak (IsS88.below (zS HI104.out NB104_113.out) hb)
    have n2_ := ak (ze (blq BK113.out) hb)
    have n3_ := ak (zb (bq2 (zc HI104.out) GE113.out) hb)
    clear HO109
    clear HI104
    clear BK113
    clear HB
    have HO109 := n0_
    have HI104 := n1_
    have BK113 := n2_
    have HB := n3_
    clear n0_ n1_ n2_ n3_
    (try clear hb)
    (try clear hb2)
    (try clear hk)
    (try clear hi)
    refine hK.out _ _ ⟨(zg BK113.out 0).trans rfl, (zg BK113.out 1).trans rfl, (zg BK113.out 2).trans rfl, (zg BK113.out 3).trans rfl⟩ (fun hHeld => ?_)
    clear hK K
    refine nrm 39 ?_
    refine pu 10 40 HT_ ?_
    refine pu 11 2 HT_ ?_
    refine done_ (xV HT_.out (by kernel_rfl)) ?_
    try go_wp2
    go_ret
    exact ⟨rv, bq2 (zc HI104.out) GE113.out⟩
   ·replace H := se H
    rcases H with ⟨c46b0, c46b1, H⟩ | ⟨c46, c46b0, c46b1, H⟩
    ·obtain ⟨y125, hy125⟩ : ∃ y_ : List ByteArray, y_ = (([(⟨#[71, 69, 84, 32, 47, 32, 72, 84, 84, 80, 47, 49, 46, 48, 13, 10, 13, 10]⟩ : ByteArray), (⟨#[71, 69, 84, 32, 47, 13, 10, 13, 10]⟩ : ByteArray), (⟨#[13, 10, 13, 10]⟩ : ByteArray), (⟨#[71, 69, 84, 32, 32, 47, 32, 72, 84, 84, 80, 47, 49, 46, 49, 13, 10, 13, 10]⟩ : ByteArray), (⟨#[71, 69, 84, 32, 47, 32, 72, 84, 84, 80, 47, 49, 46, 49, 13, 10, 65, 58, 32, 98, 13, 10, 13, 10]⟩ : ByteArray), (⟨#[71, 69, 84, 32, 47, 32, 72, 84, 84, 80, 47, 49, 46, 49, 13, 10, 67, 111, 110, 116, 101, 110, 116, 45, 76, 101, 110, 103, 116, 104, 58, 32, 57, 13, 10, 13, 10, 97, 98, 99]⟩ : ByteArray), (⟨#[71, 69, 84, 32, 47, 32, 72, 84, 84, 80, 47, 49, 46, 49, 13, 10, 67, 111, 110, 116, 101, 110, 116, 45, 76, 101, 110, 103, 116, 104, 58, 32, 120, 13, 10, 13, 10]⟩ : ByteArray)] : List ByteArray)) := ⟨_, rfl⟩
     replace H : ((zB.f t101 t116 t117 y125).bind fun bt128 => (some bt128.1)) = some r := rhq hy125
     have Ny125 := ak hy125
     clear hy125
     replace H := ob H
     obtain ⟨⟨t128, t129, t130⟩, A47, H⟩ := H
     try dsimp only at H
     obtain rfl := oi1 H
     go_enter Tryz.func16, Tryz.ntmps16
     go_wp2_with (first | ((with_reducible refine za (f := 35) rfl ?_); refine cl 7 rfl Tryz.func35 #[.slice A0 l0.length c0] (yc.calls k _ _ l0 t101 t102 t103 w _ ?side1 ?side2 ?side3 A2.out) ?_; (case side1 => exact bq); (case side2 => exact HR0.out); (case side3 => exact HC0.out); rintro e w48 ⟨g104, rfl, hi, hb, hb2⟩; refine ⟨_, rfl, ?_⟩; have HI104 := ak (hi); replace HB := ak (hb); (try clear hb hb2 hi)) | ((with_reducible refine za (f := 36) rfl ?_); refine cl 9 rfl Tryz.func36 #[.pointer (some ⟨g104, 0, none⟩)] (zt.calls k g104 t101 t102 t103 t105 t106 t107 t110 t111 t112 w _ ?side1 ?side2 A3.out) ?_; (case side1 => exact zU HI104.out); (case side2 => exact bq1 (zc HI104.out)); rintro e w49 ⟨v108, rfl, ho0, hi, hb, hk⟩; refine ⟨_, rfl, ?_⟩; have HO109 := ak (Kd.R_lower ho0 (zd (bq1 (zc HI104.out)))); replace HB := ak (hb); replace HI104 := ak (hi); (try clear hb hk hi ho0)) | ((with_reducible refine zl (N := 4) rfl ?_); refine bx 4 #[.string ⟨#[]⟩, .string ⟨#[]⟩, .slice none 0 0, .string ⟨#[]⟩] 26 ?_; intro gb113 hg w50 hbox hb; have BK113 := ak (hbox); have GW113 := ak ((by rw [hg]; exact (zd (bq1 (zc HI104.out))) : w.heap.size ≤ gb113)); have GE113 := GW113; have NB104_113 := ak ((by rw [hg]; exact Nat.ne_of_lt (xE (show IsS88 w _ g104 t101 t111 t112 from zU HI104.out)) : g104 ≠ gb113)); have NB113_104 := ak NB104_113.out.symm; replace HO109 := ak (Kd.R_below (rdq HO109.out) hb); replace HB := ak (zb (bq1 (zc HI104.out)) hb); replace HI104 := ak (IsS88.below (zU HI104.out) hb); clear hb hbox hg; have hnb51 := NB113_104.out; have hnc51 := NB104_113.out; obtain ⟨hcz52_0, hcz52_1, hcz52_2, hcz52_3, hfz52_0, hfz52_1, hfz52_2, hfz52_3⟩ := blk4 BK113.out; obtain ⟨Ao53, co53, eo53⟩ := Kd.R_slice HO109.out; subst eo53) | ((with_reducible refine za (f := 37) rfl ?_); refine cl 11 rfl Tryz.func37 #[.agg #[.string t105, .string t106, .slice Ao53 t107.length co53, .string t110]] (yb.calls k t105 t106 _ _ t107 t110 t114 _ ?side1 ?side2 A4.out) ?_; (case side1 => refine (Kd.R_reads' (e := 55) (base := w.heap.size) (ok := fun k_ => True) (n := t107.length) (c := co53) ?_).2.2; exact (rfd HO109.out BK113.out)); (case side2 => exact (Kd.R_reads' HO109.out).2.1); rintro e w54 ⟨rfl, hb⟩; refine ⟨_, rfl, ?_⟩; replace HO109 := ak (Kd.R_below (rfd HO109.out BK113.out) hb); replace BK113 := ak (ze (g := gb113) (o := .cells #[.string t105, .string t106, .slice Ao53 t107.length co53, .string t110] 26 (0, 0)) (blp0 BK113.out) hb); replace HB := ak (zb (bq2 (zc HI104.out) GE113.out) hb); replace HI104 := ak (IsS88.below (show IsS88 w ((((w50.setCell ⟨gb113, 0, none⟩ (.string t105)).setCell ⟨gb113, 1, none⟩ (.string t106)).setCell ⟨gb113, 2, none⟩ (.slice Ao53 t107.length co53)).setCell ⟨gb113, 3, none⟩ (.string t110)) g104 t101 t111 t112 from zS HI104.out NB104_113.out) hb); (try clear hb)) | ((with_reducible refine za (f := 38) rfl ?_); refine cl 13 rfl Tryz.func38 #[.pointer (some ⟨g104, 0, none⟩), .int .i64 9] (zp.calls g104 t101 t111 t112 9 t115 t116 t117 w _ ?side1 ?side2 A5.out) ?_; (case side1 => exact zS HI104.out NB104_113.out); (case side2 => exact bq2 (zc HI104.out) GE113.out); rintro e w55 ⟨rfl, hi, hb, hk⟩; refine ⟨_, rfl, ?_⟩; replace HO109 := ak (Kd.R_mono (Kd.R_keep (IsS88.apart (show IsS88 w _ g104 t101 t111 t112 from zS HI104.out NB104_113.out) (rdq HO109.out) (by decide)) hk (fun _ h => h.2)) (fun _ h => h.1)); replace BK113 := ak (KeepBut.blk hk (blq BK113.out) NB113_104.out (by simp)); replace HB := ak (hb); replace HI104 := ak (hi); (try clear hb hk hi)) | ((with_reducible refine zl (N := 44) rfl ?_); refine rS 9 44 Ny125.out ?_; intro v126 w56 ho57 hb; have HO127 := ak (Kd.R_lower ho57 (zd (bq2 (zc HI104.out) GE113.out))); replace HO109 := ak (Kd.R_below (rdq HO109.out) hb); replace BK113 := ak (ze (blq BK113.out) hb); replace HB := ak (zb (bq2 (zc HI104.out) GE113.out) hb); replace HI104 := ak (IsS88.below (zS HI104.out NB104_113.out) hb); clear hb ho57; obtain ⟨Ao58, co58, eo58⟩ := Kd.R_slice HO127.out; subst eo58) | ((with_reducible refine za (f := 41) rfl ?_); refine cl 45 rfl Tryz.func41 #[.pointer (some ⟨g104, 0, none⟩), .slice Ao58 y125.length co58] (zB.calls g104 t101 t116 t117 _ _ y125 t128 t129 t130 w _ ?side1 ?side2 ?side3 ?side4 ?side5 A47.out) ?_; (case side1 => exact zS HI104.out NB104_113.out); (case side2 => exact bq2 (zc HI104.out) GE113.out); (case side3 => exact cq (Kd.R_reads' HO127.out).2.2); (case side4 => exact (Kd.R_reads' HO127.out).2.1); (case side5 => exact xD (yp HI104.out HO127.out (by decide))); rintro e w59 ⟨rfl, hi, hb, hk⟩; refine ⟨_, rfl, ?_⟩; replace HO109 := ak (Kd.R_mono (Kd.R_keep (IsS88.apart (show IsS88 w _ g104 t101 t116 t117 from zS HI104.out NB104_113.out) (rdq HO109.out) (by decide)) hk (fun _ h => h.2)) (fun _ h => h.1)); replace BK113 := ak (KeepBut.blk hk (blq BK113.out) NB113_104.out (by simp)); replace HO127 := ak (Kd.R_mono (Kd.R_keep (IsS88.apart (show IsS88 w _ g104 t101 t116 t117 from zS HI104.out NB104_113.out) (rdq HO127.out) (by decide)) hk (fun _ h => h.2)) (fun _ h => h.1)); replace HB := ak (hb); replace HI104 := ak (hi); (try clear hb hk hi)))
     go_ret
     exact ⟨rv, bq2 (zc HI104.out) GE113.out⟩
    ·obtain ⟨y131, hy131⟩ : ∃ y_ : List ByteArray, y_ = (([(⟨#[]⟩ : ByteArray), (⟨#[]⟩ : ByteArray), (⟨#[71, 69, 84, 32, 47]⟩ : ByteArray), t114] : List ByteArray)) := ⟨_, rfl⟩
     replace H : ((zB.f t101 t116 t117 y131).bind fun bt134 => (if t114.size + bt134.1.size ≤ 9223372036854775807 then (some (t114 ++ bt134.1)) else (none))) = some r := rhq hy131
     have Ny131 := ak hy131
     clear hy131
     replace H := ob H
     obtain ⟨⟨t134, t135, t136⟩, A60, H⟩ := H
     try dsimp only at H
     replace H := sK H
     obtain ⟨c61, c61b0, c61b1, H⟩ := H
     have c61b2 := sz c61
     obtain rfl := oi1 H
     go_enter Tryz.func16, Tryz.ntmps16
     go_wp2_with (first | ((with_reducible refine za (f := 35) rfl ?_); refine cl 7 rfl Tryz.func35 #[.slice A0 l0.length c0] (yc.calls k _ _ l0 t101 t102 t103 w _ ?side1 ?side2 ?side3 A2.out) ?_; (case side1 => exact bq); (case side2 => exact HR0.out); (case side3 => exact HC0.out); rintro e w62 ⟨g104, rfl, hi, hb, hb2⟩; refine ⟨_, rfl, ?_⟩; have HI104 := ak (hi); replace HB := ak (hb); (try clear hb hb2 hi)) | ((with_reducible refine za (f := 36) rfl ?_); refine cl 9 rfl Tryz.func36 #[.pointer (some ⟨g104, 0, none⟩)] (zt.calls k g104 t101 t102 t103 t105 t106 t107 t110 t111 t112 w _ ?side1 ?side2 A3.out) ?_; (case side1 => exact zU HI104.out); (case side2 => exact bq1 (zc HI104.out)); rintro e w63 ⟨v108, rfl, ho0, hi, hb, hk⟩; refine ⟨_, rfl, ?_⟩; have HO109 := ak (Kd.R_lower ho0 (zd (bq1 (zc HI104.out)))); replace HB := ak (hb); replace HI104 := ak (hi); (try clear hb hk hi ho0)) | ((with_reducible refine zl (N := 4) rfl ?_); refine bx 4 #[.string ⟨#[]⟩, .string ⟨#[]⟩, .slice none 0 0, .string ⟨#[]⟩] 26 ?_; intro gb113 hg w64 hbox hb; have BK113 := ak (hbox); have GW113 := ak ((by rw [hg]; exact (zd (bq1 (zc HI104.out))) : w.heap.size ≤ gb113)); have GE113 := GW113; have NB104_113 := ak ((by rw [hg]; exact Nat.ne_of_lt (xE (show IsS88 w _ g104 t101 t111 t112 from zU HI104.out)) : g104 ≠ gb113)); have NB113_104 := ak NB104_113.out.symm; replace HO109 := ak (Kd.R_below (rdq HO109.out) hb); replace HB := ak (zb (bq1 (zc HI104.out)) hb); replace HI104 := ak (IsS88.below (zU HI104.out) hb); clear hb hbox hg; have hnb65 := NB113_104.out; have hnc65 := NB104_113.out; obtain ⟨hcz66_0, hcz66_1, hcz66_2, hcz66_3, hfz66_0, hfz66_1, hfz66_2, hfz66_3⟩ := blk4 BK113.out; obtain ⟨Ao67, co67, eo67⟩ := Kd.R_slice HO109.out; subst eo67) | ((with_reducible refine za (f := 37) rfl ?_); refine cl 11 rfl Tryz.func37 #[.agg #[.string t105, .string t106, .slice Ao67 t107.length co67, .string t110]] (yb.calls k t105 t106 _ _ t107 t110 t114 _ ?side1 ?side2 A4.out) ?_; (case side1 => refine (Kd.R_reads' (e := 55) (base := w.heap.size) (ok := fun k_ => True) (n := t107.length) (c := co67) ?_).2.2; exact (rfd HO109.out BK113.out)); (case side2 => exact (Kd.R_reads' HO109.out).2.1); rintro e w68 ⟨rfl, hb⟩; refine ⟨_, rfl, ?_⟩; replace HO109 := ak (Kd.R_below (rfd HO109.out BK113.out) hb); replace BK113 := ak (ze (g := gb113) (o := .cells #[.string t105, .string t106, .slice Ao67 t107.length co67, .string t110] 26 (0, 0)) (blp0 BK113.out) hb); replace HB := ak (zb (bq2 (zc HI104.out) GE113.out) hb); replace HI104 := ak (IsS88.below (show IsS88 w ((((w64.setCell ⟨gb113, 0, none⟩ (.string t105)).setCell ⟨gb113, 1, none⟩ (.string t106)).setCell ⟨gb113, 2, none⟩ (.slice Ao67 t107.length co67)).setCell ⟨gb113, 3, none⟩ (.string t110)) g104 t101 t111 t112 from zS HI104.out NB104_113.out) hb); (try clear hb)) | ((with_reducible refine za (f := 38) rfl ?_); refine cl 13 rfl Tryz.func38 #[.pointer (some ⟨g104, 0, none⟩), .int .i64 9] (zp.calls g104 t101 t111 t112 9 t115 t116 t117 w _ ?side1 ?side2 A5.out) ?_; (case side1 => exact zS HI104.out NB104_113.out); (case side2 => exact bq2 (zc HI104.out) GE113.out); rintro e w69 ⟨rfl, hi, hb, hk⟩; refine ⟨_, rfl, ?_⟩; replace HO109 := ak (Kd.R_mono (Kd.R_keep (IsS88.apart (show IsS88 w _ g104 t101 t111 t112 from zS HI104.out NB104_113.out) (rdq HO109.out) (by decide)) hk (fun _ h => h.2)) (fun _ h => h.1)); replace BK113 := ak (KeepBut.blk hk (blq BK113.out) NB113_104.out (by simp)); replace HB := ak (hb); replace HI104 := ak (hi); (try clear hb hk hi)) | ((with_reducible refine zl (N := 49) rfl ?_); refine rS 9 49 Ny131.out ?_; intro v132 w70 ho71 hb; have HO133 := ak (Kd.R_lower ho71 (zd (bq2 (zc HI104.out) GE113.out))); replace HO109 := ak (Kd.R_below (rdq HO109.out) hb); replace BK113 := ak (ze (blq BK113.out) hb); replace HB := ak (zb (bq2 (zc HI104.out) GE113.out) hb); replace HI104 := ak (IsS88.below (zS HI104.out NB104_113.out) hb); clear hb ho71; obtain ⟨Ao72, co72, eo72⟩ := Kd.R_slice HO133.out; subst eo72) | ((with_reducible refine za (f := 41) rfl ?_); refine cl 50 rfl Tryz.func41 #[.pointer (some ⟨g104, 0, none⟩), .slice Ao72 y131.length co72] (zB.calls g104 t101 t116 t117 _ _ y131 t134 t135 t136 w _ ?side1 ?side2 ?side3 ?side4 ?side5 A60.out) ?_; (case side1 => exact zS HI104.out NB104_113.out); (case side2 => exact bq2 (zc HI104.out) GE113.out); (case side3 => exact cq (Kd.R_reads' HO133.out).2.2); (case side4 => exact (Kd.R_reads' HO133.out).2.1); (case side5 => exact xD (yp HI104.out HO133.out (by decide))); rintro e w73 ⟨rfl, hi, hb, hk⟩; refine ⟨_, rfl, ?_⟩; replace HO109 := ak (Kd.R_mono (Kd.R_keep (IsS88.apart (show IsS88 w _ g104 t101 t116 t117 from zS HI104.out NB104_113.out) (rdq HO109.out) (by decide)) hk (fun _ h => h.2)) (fun _ h => h.1)); replace BK113 := ak (KeepBut.blk hk (blq BK113.out) NB113_104.out (by simp)); replace HO133 := ak (Kd.R_mono (Kd.R_keep (IsS88.apart (show IsS88 w _ g104 t101 t116 t117 from zS HI104.out NB104_113.out) (rdq HO133.out) (by decide)) hk (fun _ h => h.2)) (fun _ h => h.1)); replace HB := ak (hb); replace HI104 := ak (hi); (try clear hb hk hi)))
     go_ret
     exact ⟨rv, bq2 (zc HI104.out) GE113.out⟩
end Go.Proofs.YtbldejnlmpajeaaGreatDoor.QL
namespace Go.Proofs.YtbldejnlmpajeaaGreatDoor.QL
open Go.RowKit Go.Proofs.YtbldejnlmpajeaaGreatDoorW.PrintWords Go.Proofs.YtbldejnlmpajeaaGreatDoorW.PrintLast Go.Proofs.YtbldejnlmpajeaaGreatDoorW.PrintMore Go.Proofs.YtbldejnlmpajeaaGreatDoor.Aux Go.Proofs.YtbldejnlmpajeaaGreatDoor.Dom Go.Proofs.YtbldejnlmpajeaaGreatDoor.Ext Go.Proofs.YtbldejnlmpajeaaGreatDoor.Glob
attribute [local go_sem] max2_int min2_int max_two min_two max_three min_three max_four min_four
attribute [local go_sem high] eqA55
def zC.l0 : Nat → List (S55) → List (S55) → Int → Option (Bool)
 | 0, _, _, _ => none
 | k + 1, x0, x1, x5 => if x5 < (x0.length : Int) then (if 0 ≤ x5 then (if x5 < (x1.length : Int) then (if (!((((zV x0 x5).f0).toList) == (((zV x1 x5).f0).toList)) || (!((((zV x0 x5).f1).toList) == (((zV x1 x5).f1).toList)))) = true then (some false) else (zC.l0 k x0 x1 (wrap64 (x5 + 1)))) else (none)) else (none)) else (some true)
def zC.f (k : Nat) (l0 : List (S55)) (l1 : List (S55)) : Option (Bool) := if (l0.length : Int) = (l1.length : Int) then (zC.l0 k l0 l1 0) else (some false)
theorem zC.mono_l : ∀ k, (∀ y0 y1 y2, LeO (zC.l0 k y0 y1 y2) (zC.l0 (k + 1) y0 y1 y2))
 | 0 => fun _ _ _ r h => by simp [zC.l0] at h
 | k + 1 => by
  have ih0 := zC.mono_l k
  ·intro y0 y1 y2
   unfold zC.l0
   exact mq1 ih0
theorem zC.mono : ∀ a0 a1 k, LeO (zC.f k a0 a1) (zC.f (k + 1) a0 a1) := by
 intro a0 a1 k
 have ih0 := zC.mono_l k
 unfold zC.f
 exact mq1 ih0
theorem zC.calls (k : Nat) (A0 : Option Addr) (c0 : Nat) (l0 : List (S55)) (A1 : Option Addr) (c1 : Nat) (l1 : List (S55)) (r : Bool) (w : World) (hr0 : Kd.C k55 w A0 l0.length l0) (hc0 : l0.length ≤ c0) (hr1 : Kd.C k55 w A1 l1.length l1) (hc1 : l1.length ≤ c1) (h : zC.f k l0 l1 = some r) :
  Calls Tryz.prog 9 #[.slice A0 l0.length c0, .slice A1 l1.length c1] w fun e w' => e = .returned (.bool r) ∧ Drawn0 w w' := by
 have hu55 := Tryz.underlying55
 have HR0 := ak hr0
 have HC0 := ak hc0
 clear hr0 hc0
 have HR1 := ak hr1
 have HC1 := ak hc1
 clear hr1 hc1
 have H : (if (l0.length : Int) = (l1.length : Int) then (zC.l0 k l0 l1 0) else (some false)) = some r := h
 clear h
 replace H := si H
 rcases H with ⟨c3, H⟩ | ⟨c3, H⟩
 ·obtain ⟨c3b0, c3b1⟩ := eqT c3
  have c3b2 : (l0.length == l1.length) = true := by first | simpa using c3 | (simp at c3 ⊢; omega)
  clear c3
  have H' := ak H
  clear H
  go_enter Tryz.func9, Tryz.ntmps9
  go_wp2
  repeat (go_quiet (fail); try go_wp2)
  go_loopg [5] k (fun kq v5 w' => ∃ (x5_1 : Int), v5 = .int .i64 x5_1 ∧ Aside0 (zC.l0 kq l0 l1 x5_1 = some r) ∧ Aside0 (kq ≤ k) ∧ Drawn0 w w')
  case atStart => exact ⟨(0), rs, H', ⟨Nat.le_refl _⟩, by repeat (first | exact Drawn0.refl _ | apply yv)⟩
  case round =>
   clear H'
   obtain ⟨x5_1, rfl, HA, HK1, ⟨m1, rfl⟩⟩ := hrel
   cases gk with
   | zero => exact absurd HA.out (by simp [zC.l0])
   | succ k1 =>
    have H := HA.out
    clear HA
    simp only [zC.l0] at H
    replace H := sd H
    rcases H with ⟨c4b0, H⟩ | ⟨c4b0, H⟩
    ·replace H := sT H
     obtain ⟨c5, H⟩ := H
     have c5b0 := decide_eq_true c5
     clear c5
     replace H := sT H
     obtain ⟨c6, H⟩ := H
     have c6b0 := decide_eq_true c6
     clear c6
     replace H := si H
     rcases H with ⟨c7, H⟩ | ⟨c7, H⟩
     ·have c7b0 : (!((((zV l0 x5_1).f0).toList) == (((zV l1 x5_1).f0).toList)) || (!((((zV l0 x5_1).f1).toList) == (((zV l1 x5_1).f1).toList)))) = true := c7
      clear c7
      obtain rfl := oi1 H
      have p101 : 0 ≤ (x5_1 : Int) := of_decide_eq_true asm
      have q101 : x5_1 < (l0.length : Int) := of_decide_eq_true asm
      obtain ⟨ad101, e101, hx101_0, hx101_1⟩ := qO HR0.out x5_1 p101 q101
      cases e101
      replace p101 := eq_true p101
      replace q101 := eq_true q101
      have p102 : 0 ≤ (x5_1 : Int) := of_decide_eq_true asm
      have q102 : x5_1 < (l1.length : Int) := of_decide_eq_true asm
      obtain ⟨ad102, e102, hx102_0, hx102_1⟩ := qO HR1.out x5_1 p102 q102
      cases e102
      replace p102 := eq_true p102
      replace q102 := eq_true q102
      go_wp2
      repeat (go_quiet (fail); try go_wp2)
      go_ret
      exact ⟨rt, dr⟩
     ·have c7b0 : (!((((zV l0 x5_1).f0).toList) == (((zV l1 x5_1).f0).toList)) || (!((((zV l0 x5_1).f1).toList) == (((zV l1 x5_1).f1).toList)))) = false := by simpa using c7
      clear c7
      have H' := ak H
      clear H
      have p101 : 0 ≤ (x5_1 : Int) := of_decide_eq_true asm
      have q101 : x5_1 < (l0.length : Int) := of_decide_eq_true asm
      obtain ⟨ad101, e101, hx101_0, hx101_1⟩ := qO HR0.out x5_1 p101 q101
      cases e101
      replace p101 := eq_true p101
      replace q101 := eq_true q101
      have p102 : 0 ≤ (x5_1 : Int) := of_decide_eq_true asm
      have q102 : x5_1 < (l1.length : Int) := of_decide_eq_true asm
      obtain ⟨ad102, e102, hx102_0, hx102_1⟩ := qO HR1.out x5_1 p102 q102
      cases e102
      replace p102 := eq_true p102
      replace q102 := eq_true q102
      go_wp2
      repeat (go_quiet (fail); try go_wp2)
      go_roundg k1
      case measure => have := HK1.out; omega
      case rel => exact ⟨(wrap64 (x5_1 + 1)), rs, H', ⟨by have := HK1.out; omega⟩, by repeat (first | exact Drawn0.refl _ | apply yv)⟩
    ·obtain rfl := oi1 H
     go_wp2
     repeat (go_quiet (fail); try go_wp2)
     go_ret
     exact ⟨rt, dr⟩
 ·obtain ⟨c3b0, c3b1⟩ := neT c3
  have c3b2 : (l0.length == l1.length) = false := by first | simpa using c3 | (simp at c3 ⊢; omega)
  obtain rfl := oi1 H
  go_enter Tryz.func9, Tryz.ntmps9
  go_wp2
  repeat (go_quiet (fail); try go_wp2)
  go_ret
  exact ⟨rt, dr⟩
end Go.Proofs.YtbldejnlmpajeaaGreatDoor.QL
namespace Go.Proofs.YtbldejnlmpajeaaGreatDoor.QL
open Go.RowKit Go.Proofs.YtbldejnlmpajeaaGreatDoorW.PrintWords Go.Proofs.YtbldejnlmpajeaaGreatDoorW.PrintLast Go.Proofs.YtbldejnlmpajeaaGreatDoorW.PrintMore Go.Proofs.YtbldejnlmpajeaaGreatDoor.Aux Go.Proofs.YtbldejnlmpajeaaGreatDoor.Dom Go.Proofs.YtbldejnlmpajeaaGreatDoor.Ext Go.Proofs.YtbldejnlmpajeaaGreatDoor.Glob
attribute [local go_sem] max2_int min2_int max_two min_two max_three min_three max_four min_four
def yF.f (k : Nat) (a0_0 : Int) (l0_1 : List (S55)) (a0_2 : ByteArray) (a1_0 : Int) (l1_1 : List (S55)) (a1_2 : ByteArray) : Option (Bool) := if a0_0 = a1_0 then (if a0_2.toList = a1_2.toList then ((zC.f k l0_1 l1_1).bind fun t103 => (some t103)) else (some false)) else (some false)
theorem yF.mono : ∀ a0 a1 a2 a3 a4 a5 k, LeO (yF.f k a0 a1 a2 a3 a4 a5) (yF.f (k + 1) a0 a1 a2 a3 a4 a5) := by
 intro a0 a1 a2 a3 a4 a5 k
 unfold yF.f
 exact mq1 zC.mono
theorem yF.calls (k : Nat) (a0_0 : Int) (A0_1 : Option Addr) (c0_1 : Nat) (l0_1 : List (S55)) (a0_2 : ByteArray) (a1_0 : Int) (A1_1 : Option Addr) (c1_1 : Nat) (l1_1 : List (S55)) (a1_2 : ByteArray) (r : Bool) (w : World) (hr0_1 : Kd.C k55 w A0_1 l0_1.length l0_1) (hc0_1 : l0_1.length ≤ c0_1) (hr1_1 : Kd.C k55 w A1_1 l1_1.length l1_1) (hc1_1 : l1_1.length ≤ c1_1) (h : yF.f k a0_0 l0_1 a0_2 a1_0 l1_1 a1_2 = some r) :
  Calls Tryz.prog 15 #[.agg #[.int .i64 a0_0, .slice A0_1 l0_1.length c0_1, .string a0_2], .agg #[.int .i64 a1_0, .slice A1_1 l1_1.length c1_1, .string a1_2]] w fun e w' => e = .returned (.bool r) ∧ Below w.heap.size w w' := by
 have hu35 := Tryz.underlying35
 have HR0_1 := ak hr0_1
 have HC0_1 := ak hc0_1
 clear hr0_1 hc0_1
 have HR1_1 := ak hr1_1
 have HC1_1 := ak hc1_1
 clear hr1_1 hc1_1
 have HB := ak (Below.refl w.heap.size w)
 have H := h
 unfold yF.f at H
 clear h
 replace H := se H
 rcases H with ⟨c3b0, c3b1, H⟩ | ⟨c3, c3b0, c3b1, H⟩
 ·replace H := se H
  rcases H with ⟨c4b0, c4b1, H⟩ | ⟨c4, c4b0, c4b1, H⟩
  ·replace H := ob H
   obtain ⟨t103, A5, H⟩ := H
   obtain rfl := oi1 H
   go_enter Tryz.func15, Tryz.ntmps15
   go_wp2_with (first | ((with_reducible refine zl (N := 2) rfl ?_); refine bx 2 #[.int .i64 a0_0, .slice A0_1 l0_1.length c0_1, .string a0_2] 35 ?_; intro gb101 hg w6 hbox hb; have BK101 := ak (hbox); have GW101 := ak ((by rw [hg]; exact (zd bq) : w.heap.size ≤ gb101)); have GE101 := GW101; replace HB := ak (zb bq hb); clear hb hbox hg) | ((with_reducible refine zl (N := 3) rfl ?_); refine bx 3 #[.int .i64 a1_0, .slice A1_1 l1_1.length c1_1, .string a1_2] 35 ?_; intro gb102 hg w7 hbox hb; have BK102 := ak (hbox); have GW102 := ak ((by rw [hg]; exact (zd (bq1 GE101.out)) : w.heap.size ≤ gb102)); have GE102 := GW102; have NB101_102 := ak ((by rw [hg]; exact Nat.ne_of_lt (xn (blq BK101.out)) : gb101 ≠ gb102)); have NB102_101 := ak NB101_102.out.symm; replace BK101 := ak (ze (blq BK101.out) hb); replace HB := ak (zb (bq1 GE101.out) hb); clear hb hbox hg; have hnb8 := NB101_102.out; have hnc8 := NB102_101.out; obtain ⟨hcz9_0, hcz9_1, hcz9_2, hfz9_0, hfz9_1, hfz9_2⟩ := blk3 BK101.out; obtain ⟨hcz10_0, hcz10_1, hcz10_2, hfz10_0, hfz10_1, hfz10_2⟩ := blk3 BK102.out) | (go_at_call 9; (with_reducible refine (zC.calls k _ _ l0_1 _ _ l1_1 t103 _ ?side1 ?side2 ?side3 ?side4 A5.out).mono ?_); (case side1 => repeat (first | exact (Kd.C_below HR0_1.out HB.out) | (with_reducible refine Kd.C_alloc ?_ _) | (with_reducible refine Kd.C_drewN ?_ _) | (with_reducible refine Kd.C_drew ?_))); (case side2 => exact HC0_1.out); (case side3 => repeat (first | exact (Kd.C_below HR1_1.out HB.out) | (with_reducible refine Kd.C_alloc ?_ _) | (with_reducible refine Kd.C_drewN ?_ _) | (with_reducible refine Kd.C_drew ?_))); (case side4 => exact HC1_1.out); rintro e w' ⟨rfl, ⟨nd, rfl⟩⟩))
   go_ret
   exact ⟨rv, bq2 GE101.out GE102.out⟩
  ·obtain rfl := oi1 H
   go_enter Tryz.func15, Tryz.ntmps15
   go_wp2_with (first | ((with_reducible refine zl (N := 2) rfl ?_); refine bx 2 #[.int .i64 a0_0, .slice A0_1 l0_1.length c0_1, .string a0_2] 35 ?_; intro gb101 hg w11 hbox hb; have BK101 := ak (hbox); have GW101 := ak ((by rw [hg]; exact (zd bq) : w.heap.size ≤ gb101)); have GE101 := GW101; replace HB := ak (zb bq hb); clear hb hbox hg) | ((with_reducible refine zl (N := 3) rfl ?_); refine bx 3 #[.int .i64 a1_0, .slice A1_1 l1_1.length c1_1, .string a1_2] 35 ?_; intro gb102 hg w12 hbox hb; have BK102 := ak (hbox); have GW102 := ak ((by rw [hg]; exact (zd (bq1 GE101.out)) : w.heap.size ≤ gb102)); have GE102 := GW102; have NB101_102 := ak ((by rw [hg]; exact Nat.ne_of_lt (xn (blq BK101.out)) : gb101 ≠ gb102)); have NB102_101 := ak NB101_102.out.symm; replace BK101 := ak (ze (blq BK101.out) hb); replace HB := ak (zb (bq1 GE101.out) hb); clear hb hbox hg; have hnb13 := NB101_102.out; have hnc13 := NB102_101.out; obtain ⟨hcz14_0, hcz14_1, hcz14_2, hfz14_0, hfz14_1, hfz14_2⟩ := blk3 BK101.out; obtain ⟨hcz15_0, hcz15_1, hcz15_2, hfz15_0, hfz15_1, hfz15_2⟩ := blk3 BK102.out))
   go_ret
   exact ⟨rv, bq2 GE101.out GE102.out⟩
 ·obtain rfl := oi1 H
  go_enter Tryz.func15, Tryz.ntmps15
  go_wp2_with (first | ((with_reducible refine zl (N := 2) rfl ?_); refine bx 2 #[.int .i64 a0_0, .slice A0_1 l0_1.length c0_1, .string a0_2] 35 ?_; intro gb101 hg w16 hbox hb; have BK101 := ak (hbox); have GW101 := ak ((by rw [hg]; exact (zd bq) : w.heap.size ≤ gb101)); have GE101 := GW101; replace HB := ak (zb bq hb); clear hb hbox hg) | ((with_reducible refine zl (N := 3) rfl ?_); refine bx 3 #[.int .i64 a1_0, .slice A1_1 l1_1.length c1_1, .string a1_2] 35 ?_; intro gb102 hg w17 hbox hb; have BK102 := ak (hbox); have GW102 := ak ((by rw [hg]; exact (zd (bq1 GE101.out)) : w.heap.size ≤ gb102)); have GE102 := GW102; have NB101_102 := ak ((by rw [hg]; exact Nat.ne_of_lt (xn (blq BK101.out)) : gb101 ≠ gb102)); have NB102_101 := ak NB101_102.out.symm; replace BK101 := ak (ze (blq BK101.out) hb); replace HB := ak (zb (bq1 GE101.out) hb); clear hb hbox hg; have hnb18 := NB101_102.out; have hnc18 := NB102_101.out; obtain ⟨hcz19_0, hcz19_1, hcz19_2, hfz19_0, hfz19_1, hfz19_2⟩ := blk3 BK101.out; obtain ⟨hcz20_0, hcz20_1, hcz20_2, hfz20_0, hfz20_1, hfz20_2⟩ := blk3 BK102.out))
  go_ret
  exact ⟨rv, bq2 GE101.out GE102.out⟩
end Go.Proofs.YtbldejnlmpajeaaGreatDoor.QL
