/- Requests and answers are read from their texts, whatever stands behind, and of a beginning more is wanted: for all codes that are drawn from (codes of more than 2^20 bytes are let by). -/
import Derived.Test.YtbldejnlmpajeaaGreatDoorCFnMessagesb
set_option linter.unusedVariables false
set_option linter.unusedSimpArgs false
set_option maxHeartbeats 8000000
set_option maxRecDepth 100000
namespace Go.Proofs.YtbldejnlmpajeaaGreatDoor.QL
open Go.RowKit Go.Proofs.YtbldejnlmpajeaaGreatDoorW.PrintWords Go.Proofs.YtbldejnlmpajeaaGreatDoorW.PrintLast Go.Proofs.YtbldejnlmpajeaaGreatDoorW.PrintMore Go.Proofs.YtbldejnlmpajeaaGreatDoor.Aux Go.Proofs.YtbldejnlmpajeaaGreatDoor.Dom Go.Proofs.YtbldejnlmpajeaaGreatDoor.Ext Go.Proofs.YtbldejnlmpajeaaGreatDoor.Glob
attribute [local go_sem] max2_int min2_int max_two min_two max_three min_three max_four min_four
def zt.l0 : Nat → Int → List Int → Int → Int → ByteArray → ByteArray → List (S55) → ByteArray → Option (ByteArray × ByteArray × (List (S55)) × ByteArray × Int × Int)
 | 0, _, _, _, _, _, _, _, _ => none
 | k + 1, x4, x1000, x1001, x1002, x112000, x112001, x112002, x112003 => if x4 > 0 then ((zR.f k x1000 x1001 x1002).bind fun bt115 => (if x112002.length < 4398046511104 then (zt.l0 k (wrap64 (x4 - 1)) x1000 bt115.2.2.1 bt115.2.2.2 x112000 x112001 (x112002 ++ [(⟨bt115.1, bt115.2.1⟩ : S55)]) x112003) else (none))) else (if x112000.toList = ([71, 69, 84] : List UInt8) then (some (x112000, x112001, x112002, x112003, x1001, x1002)) else ((zP.f k x1000 x1001 x1002 6).bind fun bt122 => (some (x112000, x112001, x112002, bt122.1, bt122.2.1, bt122.2.2))))
def zt.f (k : Nat) (s0_0 : List Int) (s0_1 : Int) (s0_2 : Int) : Option (ByteArray × ByteArray × (List (S55)) × ByteArray × Int × Int) := (zB.f s0_0 s0_1 s0_2 (([(⟨#[71, 69, 84]⟩ : ByteArray), (⟨#[71, 69, 84]⟩ : ByteArray), (⟨#[71, 69, 84]⟩ : ByteArray), (⟨#[71, 69, 84]⟩ : ByteArray), (⟨#[80, 85, 84]⟩ : ByteArray), (⟨#[68, 69, 76, 69, 84, 69]⟩ : ByteArray), (⟨#[80, 79, 83, 84]⟩ : ByteArray)] : List ByteArray))).bind fun bt105 => ((qE.f s0_0 bt105.2.1 bt105.2.2).bind fun bt108 => ((zp.f s0_0 bt108.2.1 bt108.2.2 3).bind fun bt112 => (zt.l0 k bt112.1 s0_0 bt112.2.1 bt112.2.2 bt105.1 bt108.1 ([] : List (S55)) (⟨#[]⟩ : ByteArray))))
theorem zt.mono_l : ∀ k, (∀ y0 y1 y2 y3 y4 y5 y6 y7, LeO (zt.l0 k y0 y1 y2 y3 y4 y5 y6 y7) (zt.l0 (k + 1) y0 y1 y2 y3 y4 y5 y6 y7))
 | 0 => fun _ _ _ _ _ _ _ _ r h => by simp [zt.l0] at h
 | k + 1 => by
  have ih0 := zt.mono_l k
  ·intro y0 y1 y2 y3 y4 y5 y6 y7
   unfold zt.l0
   exact mq3 ih0 zP.mono zR.mono
theorem zt.mono : ∀ a0 a1 a2 k, LeO (zt.f k a0 a1 a2) (zt.f (k + 1) a0 a1 a2) := by
 intro a0 a1 a2 k
 have ih0 := zt.mono_l k
 unfold zt.f
 exact mq3 ih0 zP.mono zR.mono
def zt.T5 : Bool × List (List Nat × List Nat) := (true, [([], []), ([0], [0]), ([], []), ([2], [2]), ([3], [3]), ([1, 4, 3], [1, 4]), ([0, 1, 2, 3, 4, 5], []), ([6, 5, 5, 0, 1, 2, 3, 4, 5], [5, 6])])
def zt.B5 : List Nat := [0, 1, 0, 4, 12, 31, 63, 127]
theorem zt.tab5 : rtab .any (opsOf Tryz.f36 5) = zt.T5 := by kernel_rfl
theorem zt.bits5 : qj zt.T5.2 zt.B5 = true := by kernel_rfl
theorem zt.calls (k : Nat) (g : Nat) (s0_0 : List Int) (s0_1 : Int) (s0_2 : Int) (r1 : ByteArray) (r2 : ByteArray) (r3 : List (S55)) (r4 : ByteArray) (r5 : Int) (r6 : Int) (w0 w : World) (hI : IsS88 w0 w g s0_0 s0_1 s0_2) (hB : Below w0.heap.size w0 w) (h : zt.f k s0_0 s0_1 s0_2 = some (r1, r2, r3, r4, r5, r6)) :
  Calls Tryz.prog 36 #[.pointer (some ⟨g, 0, none⟩)] w fun e w' => ∃ v2_ : Value, e = .returned (.agg #[.string r1, .string r2, v2_, .string r4]) ∧ Kd.R k55 55 w' w.heap.size (fun _ => True) v2_ r3 ∧ IsS88 w0 w' g s0_0 r5 r6 ∧ Below w0.heap.size w0 w' ∧ KeepBut w w' g none := by
 have hu26 := Tryz.underlying26
 have HI0 := ak hI
 have HK := ak (KeepBut.refl w g none)
 have HL := ak hB.size
 clear hI
 have HW0 := ak hB.size
 have HB := ak hB
 clear hB
 have H := h
 unfold zt.f at H
 clear h
 obtain ⟨y102, hy102⟩ : ∃ y_ : List ByteArray, y_ = (([(⟨#[71, 69, 84]⟩ : ByteArray), (⟨#[71, 69, 84]⟩ : ByteArray), (⟨#[71, 69, 84]⟩ : ByteArray), (⟨#[71, 69, 84]⟩ : ByteArray), (⟨#[80, 85, 84]⟩ : ByteArray), (⟨#[68, 69, 76, 69, 84, 69]⟩ : ByteArray), (⟨#[80, 79, 83, 84]⟩ : ByteArray)] : List ByteArray)) := ⟨_, rfl⟩
 replace H : ((zB.f s0_0 s0_1 s0_2 y102).bind fun bt105 => ((qE.f s0_0 bt105.2.1 bt105.2.2).bind fun bt108 => ((zp.f s0_0 bt108.2.1 bt108.2.2 3).bind fun bt112 => (zt.l0 k bt112.1 s0_0 bt112.2.1 bt112.2.2 bt105.1 bt108.1 ([] : List (S55)) (⟨#[]⟩ : ByteArray))))) = some (r1, r2, r3, r4, r5, r6) := rhq hy102
 have Ny102 := ak hy102
 clear hy102
 replace H := ob H
 obtain ⟨⟨t105, t106, t107⟩, A2, H⟩ := H
 try dsimp only at H
 replace H := ob H
 obtain ⟨⟨t108, t109, t110⟩, A3, H⟩ := H
 try dsimp only at H
 replace H := ob H
 obtain ⟨⟨t112, t113, t114⟩, A4, H⟩ := H
 try dsimp only at H
 have H' := ak H
 clear H
 go_enter Tryz.func36, Tryz.ntmps36
 go_wp2_with (first | ((with_reducible refine zl (N := 2) rfl ?_); refine bx 2 #[.string ⟨#[]⟩, .string ⟨#[]⟩, .slice none 0 0, .string ⟨#[]⟩] 26 ?_; intro gb101 hg w5 hbox hb; have BK101 := ak (hbox); have GW101 := ak ((by rw [hg]; exact (yi (w := w) (g := g) (row := none) kq) : w.heap.size ≤ gb101)); have GE101 := ak ((Nat.le_trans HW0.out (by rw [hg]; exact (yi (w := w) (g := g) (row := none) kq) : w.heap.size ≤ gb101) : w0.heap.size ≤ gb101)); have NB0_101 := ak ((by rw [hg]; exact Nat.ne_of_lt (xE (show IsS88 w0 _ g s0_0 s0_1 s0_2 from zU HI0.out)) : g ≠ gb101)); have NB101_0 := ak NB0_101.out.symm; replace HK := ak (KeepBut.trans kq (zF hb g none) (.inl rfl)); replace HB := ak (zb (bq1 (zc HI0.out)) hb); replace HI0 := ak (IsS88.below (zU HI0.out) hb); clear hb hbox hg) | ((with_reducible refine zl (N := 6) rfl ?_); refine rS 9 6 Ny102.out ?_; intro v103 w6 ho7 hb; have HO104 := ak (Kd.R_lower ho7 (yi (w := w) (g := g) (row := none) (kq1 GW101.out))); replace BK101 := ak (ze (blq BK101.out) hb); replace HK := ak (KeepBut.trans (kq1 GW101.out) (zF hb g none) (.inl rfl)); replace HB := ak (zb (bq2 (zc HI0.out) GE101.out) hb); replace HI0 := ak (IsS88.below (zS HI0.out NB0_101.out) hb); clear hb ho7; obtain ⟨Ao8, co8, eo8⟩ := Kd.R_slice HO104.out; subst eo8) | ((with_reducible refine za (f := 41) rfl ?_); refine cl 7 rfl Tryz.func41 #[.pointer (some ⟨g, 0, none⟩), .slice Ao8 y102.length co8] (zB.calls g s0_0 s0_1 s0_2 _ _ y102 t105 t106 t107 w0 _ ?side1 ?side2 ?side3 ?side4 ?side5 A2.out) ?_; (case side1 => exact zS HI0.out NB0_101.out); (case side2 => exact bq2 (zc HI0.out) GE101.out); (case side3 => exact cq (Kd.R_reads' HO104.out).2.2); (case side4 => exact (Kd.R_reads' HO104.out).2.1); (case side5 => exact xD (yp HI0.out HO104.out (by decide))); rintro e w9 ⟨rfl, hi, hb, hk⟩; refine ⟨_, rfl, ?_⟩; replace BK101 := ak (KeepBut.blk hk (blq BK101.out) NB101_0.out (by simp)); replace HO104 := ak (Kd.R_mono (Kd.R_keep (IsS88.apart (show IsS88 w0 _ g s0_0 s0_1 s0_2 from zS HI0.out NB0_101.out) (rdq HO104.out) (by decide)) hk (fun _ h => h.2)) (fun _ h => h.1)); replace HK := ak (KeepBut.trans (kq1 GW101.out) hk (.inl rfl)); replace HB := ak (hb); replace HI0 := ak (hi); (try clear hb hk hi)) | ((with_reducible refine za (f := 65) rfl ?_); refine cl 9 rfl Tryz.func65 #[.pointer (some ⟨g, 0, none⟩)] (qE.calls g s0_0 t106 t107 t108 t109 t110 w0 _ ?side1 ?side2 A3.out) ?_; (case side1 => exact zS HI0.out NB0_101.out); (case side2 => exact bq2 (zc HI0.out) GE101.out); rintro e w10 ⟨rfl, hi, hb, hk⟩; refine ⟨_, rfl, ?_⟩; replace BK101 := ak (KeepBut.blk hk (blq BK101.out) NB101_0.out (by simp)); replace HO104 := ak (Kd.R_mono (Kd.R_keep (IsS88.apart (show IsS88 w0 _ g s0_0 t106 t107 from zS HI0.out NB0_101.out) (rdq HO104.out) (by decide)) hk (fun _ h => h.2)) (fun _ h => h.1)); replace HK := ak (KeepBut.trans (kq1 GW101.out) hk (.inl rfl)); replace HB := ak (hb); replace HI0 := ak (hi); (try clear hb hk hi)) | ((with_reducible refine zl (N := 3) rfl ?_); refine bx 3 #[.string ⟨#[]⟩, .string ⟨#[]⟩, .slice none 0 0, .string ⟨#[]⟩] 26 ?_; intro gb111 hg w11 hbox hb; have BK111 := ak (hbox); have GW111 := ak ((by rw [hg]; exact (yi (w := w) (g := g) (row := none) (kq1 GW101.out)) : w.heap.size ≤ gb111)); have GE111 := ak ((Nat.le_trans HW0.out (by rw [hg]; exact (yi (w := w) (g := g) (row := none) (kq1 GW101.out)) : w.heap.size ≤ gb111) : w0.heap.size ≤ gb111)); have NB101_111 := ak ((by rw [hg]; exact Nat.ne_of_lt (xn (blq BK101.out)) : gb101 ≠ gb111)); have NB111_101 := ak NB101_111.out.symm; have NB0_111 := ak ((by rw [hg]; exact Nat.ne_of_lt (xE (show IsS88 w0 _ g s0_0 t109 t110 from zS HI0.out NB0_101.out)) : g ≠ gb111)); have NB111_0 := ak NB0_111.out.symm; replace HO104 := ak (Kd.R_below (rdq HO104.out) hb); replace BK101 := ak (ze (blq BK101.out) hb); replace HK := ak (KeepBut.trans (kq1 GW101.out) (zF hb g none) (.inl rfl)); replace HB := ak (zb (bq2 (zc HI0.out) GE101.out) hb); replace HI0 := ak (IsS88.below (zS HI0.out NB0_101.out) hb); clear hb hbox hg; have hnb12 := NB111_101.out; have hnc12 := NB101_111.out; have hnb13 := NB111_0.out; have hnc13 := NB0_111.out; obtain ⟨hcz14_0, hcz14_1, hcz14_2, hcz14_3, hfz14_0, hfz14_1, hfz14_2, hfz14_3⟩ := blk4 BK111.out) | ((with_reducible refine za (f := 38) rfl ?_); refine cl 12 rfl Tryz.func38 #[.pointer (some ⟨g, 0, none⟩), .int .i64 3] (zp.calls g s0_0 t109 t110 3 t112 t113 t114 w0 _ ?side1 ?side2 A4.out) ?_; (case side1 => exact yU HI0.out NB0_101.out NB0_111.out); (case side2 => exact bq3 (zc HI0.out) GE101.out GE111.out); rintro e w15 ⟨rfl, hi, hb, hk⟩; refine ⟨_, rfl, ?_⟩; replace BK101 := ak (KeepBut.blk hk (g' := gb101) (o := .cells #[.string ⟨#[]⟩, .string ⟨#[]⟩, .slice none 0 0, .string ⟨#[]⟩] 26 (0, 0)) (blf1 BK101.out NB101_111.out) NB101_0.out (by simp)); replace HO104 := ak (Kd.R_mono (Kd.R_keep (IsS88.apart (show IsS88 w0 _ g s0_0 t109 t110 from yU HI0.out NB0_101.out NB0_111.out) (rfd HO104.out BK111.out) (by decide)) hk (fun _ h => h.2)) (fun _ h => h.1)); replace BK111 := ak (KeepBut.blk hk (g' := gb111) (o := .cells #[.string t105, .string t108, .slice none 0 0, .string ⟨#[]⟩] 26 (0, 0)) (blp0 BK111.out) NB111_0.out (by simp)); replace HK := ak (KeepBut.trans (kq2 GW101.out GW111.out) hk (.inl rfl)); replace HB := ak (hb); replace HI0 := ak (hi); (try clear hb hk hi)))
 go_loopg [4] k (fun kq v4 w' => ∃ (x4_1 : Int) (x1001_1 : Int) (x1002_1 : Int) (x112002_1 : List (S55)) (u112002 : Value), v4 = .int .i64 x4_1 ∧ Aside0 (zt.l0 kq x4_1 s0_0 x1001_1 x1002_1 t105 t108 x112002_1 (⟨#[]⟩ : ByteArray) = some (r1, r2, r3, r4, r5, r6)) ∧ Aside0 (kq ≤ k) ∧ Aside0 (Kd.R k55 55 w' w.heap.size (fun _ => True) u112002 x112002_1) ∧ Aside0 (w'.heap[gb101]? = some (.cells #[.string ⟨#[]⟩, .string ⟨#[]⟩, (.slice none 0 0), .string ⟨#[]⟩] 26 (0, 0))) ∧ Aside0 (w'.heap[gb111]? = some (.cells #[.string t105, .string t108, u112002, .string ⟨#[]⟩] 26 (0, 0))) ∧ Aside0 (IsS88 w0 w' g s0_0 x1001_1 x1002_1) ∧ Aside0 (KeepBut w w' g none) ∧ Aside0 (Below w0.heap.size w0 w'))
 case atStart => exact ⟨(t112), (t113), (t114), (([] : List (S55))), (.slice none 0 0), rs, H', ⟨Nat.le_refl _⟩, ⟨Kd.R_nil _ _ _ _ _⟩, ⟨blq BK101.out⟩, ⟨blq BK111.out⟩, ⟨yU HI0.out NB0_101.out NB0_111.out⟩, ⟨kq2 GW101.out GW111.out⟩, ⟨bq3 (zc HI0.out) GE101.out GE111.out⟩⟩
 case round =>
  clear H'
  try clear hcz14_0 hcz14_1 hcz14_2 hcz14_3 hfz14_0 hfz14_1 hfz14_2 hfz14_3
  obtain ⟨x4_1, x1001_1, x1002_1, x112002_1, u112002, rfl, HA, HK1, HO_112002, BK101, BK111, HI0, HK, HB⟩ := hrel
  cases gk with
  | zero => exact absurd HA.out (by simp [zt.l0])
  | succ k1 =>
   have H := HA.out
   clear HA
   simp only [zt.l0] at H
   replace H := sd H
   rcases H with ⟨c16b0, H⟩ | ⟨c16b0, H⟩
   ·replace H := ob H
    obtain ⟨⟨t115, t116, t117, t118⟩, A17, H⟩ := H
    try dsimp only at H
    replace H := sT H
    obtain ⟨c18, H⟩ := H
    have LMc18 := ak c18
    clear c18
    obtain ⟨y119, hy119⟩ : ∃ y_ : List (S55), y_ = (x112002_1 ++ [(⟨t115, t116⟩ : S55)]) := ⟨_, rfl⟩
    replace H : (zt.l0 k1 (wrap64 (x4_1 - 1)) s0_0 t117 t118 t105 t108 y119 (⟨#[]⟩ : ByteArray)) = some (r1, r2, r3, r4, r5, r6) := rhq hy119
    have Ny119 := ak hy119
    clear hy119
    have H' := ak H
    clear H
    try go_wp2
    have n0_ := ak (Kd.R_drew HO_112002.out)
    have n1_ := ak (xe BK101.out)
    have n2_ := ak (xe BK111.out)
    have n3_ := ak (IsS88.drew HI0.out)
    have n4_ := ak (jz HK.out)
    have n5_ := ak (ye HB.out)
    clear HO_112002
    clear BK101
    clear BK111
    clear HI0
    clear HK
    clear HB
    have HO_112002 := n0_
    have BK101 := n1_
    have BK111 := n2_
    have HI0 := n3_
    have HK := n4_
    have HB := n5_
    clear n0_ n1_ n2_ n3_ n4_ n5_
    refine start_ (n := 8) (S := fun w' => w'.cell? ⟨gb111, 0, none⟩ = some (.string t105) ∧ w'.cell? ⟨gb111, 1, none⟩ = some (.string t108) ∧ w'.cell? ⟨gb111, 2, none⟩ = some (u112002) ∧ w'.cell? ⟨gb111, 3, none⟩ = some (.string ⟨#[]⟩)) (ds := [7]) (Array.replicate 8 false) (by kernel_rfl) rfl rfl ⟨(zg BK111.out 0).trans rfl, (zg BK111.out 1).trans rfl, (zg BK111.out 2).trans rfl, (zg BK111.out 3).trans rfl⟩ (fun hHeld => ?_); refine xm zt.tab5 zt.bits5 (fun HT_ HW_ => ?_)
    generalize wr.drew = w19 at HO_112002 BK101 BK111 HI0 HK HB hHeld ⊢
    refine pu 0 17 HT_ ?_
    refine pu 2 19 HT_ ?_
    refine tk 1 18 HT_ HW_ hHeld ?_ (hy := by rintro w' ⟨s0, s1, s2, s3⟩; go_simp; with_reducible rfl)
    refine on1 3 20 HT_ (fun K hK => ?_)
    refine goes_ Tryz.func66 (by kernel_rfl) rfl #[.pointer (some ⟨g, 0, none⟩)] (by rfl) rfl rfl am ?_
    with_reducible refine (zR.calls k1 g s0_0 x1001_1 x1002_1 t115 t116 t117 t118 w0 _ ?side1 ?side2 A17.out).mono ?_
    (case side1 => exact yU HI0.out NB0_101.out NB0_111.out)
    (case side2 => exact bq3 (zc HI0.out) GE101.out GE111.out)
    rintro e w20 ⟨rfl, hi, hb, hk⟩
    refine ⟨_, rfl, ?_⟩
    have n0_ := ak (Kd.R_mono (Kd.R_keep (IsS88.apart (show IsS88 w0 _ g s0_0 x1001_1 x1002_1 from yU HI0.out NB0_101.out NB0_111.out) (rdq HO_112002.out) (by decide)) hk (fun _ h => h.2)) (fun _ h => h.1))
    have n1_ := ak (KeepBut.blk hk (blq BK101.out) NB101_0.out (by simp))
    have n2_ := ak (KeepBut.blk hk (blq BK111.out) NB111_0.out (by simp))
    have n3_ := ak (KeepBut.trans (kq2 GW101.out GW111.out) hk (.inl rfl))
    have n4_ := ak (hb)
    have n5_ := ak (hi)
    clear HO_112002
    clear BK101
    clear BK111
    clear HK
    clear HB
    clear HI0
    have HO_112002 := n0_
    have BK101 := n1_
    have BK111 := n2_
    have HK := n3_
    have HB := n4_
    have HI0 := n5_
    clear n0_ n1_ n2_ n3_ n4_ n5_
    (try clear hb)
    (try clear hb2)
    (try clear hk)
    (try clear hi)
    refine hK.out _ _ ⟨(zg BK111.out 0).trans rfl, (zg BK111.out 1).trans rfl, (zg BK111.out 2).trans rfl, (zg BK111.out 3).trans rfl⟩ (fun hHeld => ?_)
    clear hK K
    refine nrm 20 ?_
    refine on1 4 21 HT_ (fun K hK => ?_)
    refine jl0 (w1 := ?_) (v := ?_) (by rfl) rfl ?_ ?_
    rotate_left 2
    ·go_simp
     constructor
     ·rfl
     ·rfl
    refine hK.out _ _ ⟨(zg (xY BK111.out _) 0).trans rfl, (zg (xY BK111.out _) 1).trans rfl, (zg (xY BK111.out _) 2).trans rfl, (zg (xY BK111.out _) 3).trans rfl⟩ (fun hHeld => ?_)
    clear hK K
    refine nrm 21 ?_
    refine on1 5 22 HT_ (fun K hK => ?_)
    refine Kd.R_append_step k55 w.heap.size (by rfl) (.tmp 18) (.tmp 21) 24 55 (.agg #[(.string ⟨#[]⟩), (.string ⟨#[]⟩)]) 32 rfl Tryz.underlying24 vM rfl (by decide) (by omega) u112002 x112002_1 (⟨t115, t116⟩ : S55) [.string t115, .string t116] (fun _ => True) (fun _ => False) rfl rfl ?aP (fun _ hk => hk.elim) ?aF ?aO (Below.refl _ _) ?aS ?aL ?_
    (case aP => exact jA _ _ _ (⟨t115, t116⟩ : S55))
    (case aF => exact (fun _ _ => trivial))
    (case aO => exact (rdq HO_112002.out))
    (case aS => exact (yi (w := w) (g := g) (row := none) (kq2 GW101.out GW111.out)))
    (case aL => have := LMc18.out; omega)
    intro v120 w21 ho hb hg hat
    rw [← Ny119.out] at ho
    have n0_ := ak (jG (blq BK101.out) hg (Kd.R_ne HO_112002.out BK101.out (by decide)))
    have n1_ := ak (jG (blq BK111.out) hg (Kd.R_ne HO_112002.out BK111.out (by decide)))
    have n2_ := ak (IsS88.grown (yU HI0.out NB0_101.out NB0_111.out) hg (yp HI0.out HO_112002.out (by decide)))
    have n3_ := ak (xZ (bq3 (zc HI0.out) GE101.out GE111.out) HL.out hb)
    have n4_ := ak (KeepBut.trans (kq2 GW101.out GW111.out) (xr hg g) (Kd.R_base2 HO_112002.out))
    have n5_ := ak (ho)
    clear BK101
    clear BK111
    clear HI0
    clear HB
    clear HK
    clear HO_112002
    have BK101 := n0_
    have BK111 := n1_
    have HI0 := n2_
    have HB := n3_
    have HK := n4_
    have HO121 := n5_
    clear n0_ n1_ n2_ n3_ n4_ n5_
    clear ho hb hg hat
    obtain ⟨Ao22, co22, eo22⟩ := Kd.R_slice HO121.out
    (first | subst eo22 | (injection eo22 with f1_ f2_ f3_; have f4_ := f1_.symm; have f5_ := f3_.symm; clear f1_ f2_ f3_; subst f4_; subst f5_))
    refine hK.out _ _ ⟨(zg BK111.out 0).trans rfl, (zg BK111.out 1).trans rfl, (zg BK111.out 2).trans rfl, (zg BK111.out 3).trans rfl⟩ (fun hHeld => ?_)
    clear hK K
    refine nrm 22 ?_
    refine pu 6 23 HT_ ?_
    refine last_ (i := 7) (N := none) #[true, true, true, true, true, true, true, true] rfl rfl (vz0 HT_.out (by kernel_rfl)) (by decide) (fun K hK => ?_)
    have hs23 : w21.cell? ⟨gb111, 2, none⟩ = some (u112002) := (zg BK111.out 2).trans rfl
    have hfs23 := yS BK111.out 2
    have hns23_0 := NB101_111.out
    have hms23_0 := NB111_101.out
    refine skip_ (w1 := ?_) (by rfl) rfl ?_ ?_
    rotate_left
    ·go_simp
     rfl
    refine hK.out _ _ ?_
    clear hK K
    refine done_ (xV HT_.out (by kernel_rfl)) ?_
    try go_wp2
    go_roundg k1
    case measure => have := HK1.out; omega
    case rel => exact ⟨(wrap64 (x4_1 - 1)), (t117), (t118), (y119), (.slice Ao22 y119.length co22), rs, H', ⟨by have := HK1.out; omega⟩, ⟨by (with_reducible repeat (first | apply Kd.R_alloc | apply Kd.R_drewN | apply Kd.R_drew)); exact Kd.R_mono (Kd.R_far (p := ⟨gb111, 2, none⟩) (Kd.R_types HO121.out BK111.out (by decide)) (fun _ hk => hk.2) (.slice Ao22 y119.length co22)) (fun _ hk => trivial)⟩, ⟨blf1 BK101.out NB101_111.out⟩, ⟨blp0 BK111.out⟩, ⟨yU HI0.out NB0_101.out NB0_111.out⟩, ⟨kq2 GW101.out GW111.out⟩, ⟨bq3 (zc HI0.out) GE101.out GE111.out⟩⟩
   ·replace H := se H
    rcases H with ⟨c24b0, c24b1, H⟩ | ⟨c24, c24b0, c24b1, H⟩
    ·obtain ⟨rfl, rfl, rfl, rfl, rfl, rfl⟩ := oi6 H
     have hnb25 := NB111_101.out
     have hnc25 := NB101_111.out
     have hnb26 := NB111_0.out
     have hnc26 := NB0_111.out
     obtain ⟨hcz27_0, hcz27_1, hcz27_2, hcz27_3, hfz27_0, hfz27_1, hfz27_2, hfz27_3⟩ := blk4 BK111.out
     have hnb28 := NB101_0.out
     have hnc28 := NB0_101.out
     obtain ⟨hcz29_0, hcz29_1, hcz29_2, hcz29_3, hfz29_0, hfz29_1, hfz29_2, hfz29_3⟩ := blk4 BK101.out
     obtain ⟨Ao30, co30, eo30⟩ := Kd.R_slice HO_112002.out
     subst eo30
     go_wp2
     refine bodyPost_ret (results_cell_row rfl _ _ gb101 26 #[.string t105, .string t108, .slice Ao30 x112002_1.length co30, .string ⟨#[]⟩] (0, 0) _ rfl (blp0 BK101.out) Tryz.underlying26 rfl (by kernel_rfl)) rfl ?_
     exact ⟨_, rv, by (with_reducible repeat (first | apply Kd.R_alloc | apply Kd.R_drewN | apply Kd.R_drew)); exact Kd.R_mono (Kd.R_far (p := ⟨gb101, 3, none⟩) (Kd.R_far (p := ⟨gb101, 2, none⟩) (Kd.R_far (p := ⟨gb101, 1, none⟩) (Kd.R_far (p := ⟨gb101, 0, none⟩) (Kd.R_types HO_112002.out BK101.out (by decide)) (fun _ hk => hk.2) (.string t105)) (fun _ hk => hk.2) (.string t108)) (fun _ hk => hk.2) (.slice Ao30 x112002_1.length co30)) (fun _ hk => hk.2) (.string ⟨#[]⟩)) (fun _ hk => trivial), yU HI0.out NB0_101.out NB0_111.out, bq3 (zc HI0.out) GE101.out GE111.out, kq2 GW101.out GW111.out⟩
    ·replace H := ob H
     obtain ⟨⟨t122, t123, t124⟩, A31, H⟩ := H
     try dsimp only at H
     obtain ⟨rfl, rfl, rfl, rfl, rfl, rfl⟩ := oi6 H
     have hnb32 := NB111_101.out
     have hnc32 := NB101_111.out
     have hnb33 := NB111_0.out
     have hnc33 := NB0_111.out
     obtain ⟨hcz34_0, hcz34_1, hcz34_2, hcz34_3, hfz34_0, hfz34_1, hfz34_2, hfz34_3⟩ := blk4 BK111.out
     go_wp2_with (first | ((with_reducible refine za (f := 67) rfl ?_); refine cl 28 rfl Tryz.func67 #[.pointer (some ⟨g, 0, none⟩), .int .i64 6] (zP.calls k1 g s0_0 x1001_1 x1002_1 6 t122 t123 t124 w0 _ ?side1 ?side2 A31.out) ?_; (case side1 => exact yU HI0.out NB0_101.out NB0_111.out); (case side2 => exact bq3 (zc HI0.out) GE101.out GE111.out); rintro e w35 ⟨rfl, hi, hb, hk⟩; refine ⟨_, rfl, ?_⟩; replace HO_112002 := ak (Kd.R_mono (Kd.R_keep (IsS88.apart (show IsS88 w0 _ g s0_0 x1001_1 x1002_1 from yU HI0.out NB0_101.out NB0_111.out) (rdq HO_112002.out) (by decide)) hk (fun _ h => h.2)) (fun _ h => h.1)); replace BK101 := ak (KeepBut.blk hk (blq BK101.out) NB101_0.out (by simp)); replace BK111 := ak (KeepBut.blk hk (blq BK111.out) NB111_0.out (by simp)); replace HK := ak (KeepBut.trans (kq2 GW101.out GW111.out) hk (.inl rfl)); replace HB := ak (hb); replace HI0 := ak (hi); (try clear hb hk hi); obtain ⟨hcz36_0, hcz36_1, hcz36_2, hcz36_3, hfz36_0, hfz36_1, hfz36_2, hfz36_3⟩ := blk4 BK111.out; have hnb37 := NB101_0.out; have hnc37 := NB0_101.out; obtain ⟨hcz38_0, hcz38_1, hcz38_2, hcz38_3, hfz38_0, hfz38_1, hfz38_2, hfz38_3⟩ := blk4 BK101.out; obtain ⟨Ao39, co39, eo39⟩ := Kd.R_slice HO_112002.out; subst eo39))
     refine bodyPost_ret (results_cell_row rfl _ _ gb101 26 #[.string t105, .string t108, .slice Ao39 x112002_1.length co39, .string t122] (0, 0) _ rfl (blp1 BK101.out NB101_111.out) Tryz.underlying26 rfl (by kernel_rfl)) rfl ?_
     exact ⟨_, rv, by (with_reducible repeat (first | apply Kd.R_alloc | apply Kd.R_drewN | apply Kd.R_drew)); exact Kd.R_mono (Kd.R_far (p := ⟨gb101, 3, none⟩) (Kd.R_far (p := ⟨gb101, 2, none⟩) (Kd.R_far (p := ⟨gb101, 1, none⟩) (Kd.R_far (p := ⟨gb101, 0, none⟩) (Kd.R_far (p := ⟨gb111, 3, none⟩) (Kd.R_types (Kd.R_types HO_112002.out BK111.out (by decide)) BK101.out (by decide)) (fun _ hk => hk.1.2) (.string t122)) (fun _ hk => hk.2) (.string t105)) (fun _ hk => hk.2) (.string t108)) (fun _ hk => hk.2) (.slice Ao39 x112002_1.length co39)) (fun _ hk => hk.2) (.string t122)) (fun _ hk => trivial), yU HI0.out NB0_101.out NB0_111.out, bq3 (zc HI0.out) GE101.out GE111.out, kq2 GW101.out GW111.out⟩
def zK.l0 : Nat → List (S55) → Int → List Int → Int → Int → Option ((List (S55)) × Int × Int)
 | 0, _, _, _, _, _ => none
 | k + 1, x3, x4, x1000, x1001, x1002 => if x4 > 0 then ((zR.f k x1000 x1001 x1002).bind fun bt107 => (if x3.length < 4398046511104 then (zK.l0 k (x3 ++ [(⟨bt107.1, bt107.2.1⟩ : S55)]) (wrap64 (x4 - 1)) x1000 bt107.2.2.1 bt107.2.2.2) else (none))) else (some (x3, x1001, x1002))
def zK.f (k : Nat) (s0_0 : List Int) (s0_1 : Int) (s0_2 : Int) : Option ((List (S55)) × Int × Int) := (zp.f s0_0 s0_1 s0_2 5).bind fun bt104 => (zK.l0 k (([] : List (S55))) bt104.1 s0_0 bt104.2.1 bt104.2.2)
theorem zK.mono_l : ∀ k, (∀ y0 y1 y2 y3 y4, LeO (zK.l0 k y0 y1 y2 y3 y4) (zK.l0 (k + 1) y0 y1 y2 y3 y4))
 | 0 => fun _ _ _ _ _ r h => by simp [zK.l0] at h
 | k + 1 => by
  have ih0 := zK.mono_l k
  ·intro y0 y1 y2 y3 y4
   unfold zK.l0
   exact mq2 ih0 zR.mono
theorem zK.mono : ∀ a0 a1 a2 k, LeO (zK.f k a0 a1 a2) (zK.f (k + 1) a0 a1 a2) := by
 intro a0 a1 a2 k
 have ih0 := zK.mono_l k
 unfold zK.f
 exact mq2 ih0 zR.mono
theorem zK.calls (k : Nat) (g : Nat) (s0_0 : List Int) (s0_1 : Int) (s0_2 : Int) (r1 : List (S55)) (r2 : Int) (r3 : Int) (w0 w : World) (hI : IsS88 w0 w g s0_0 s0_1 s0_2) (hB : Below w0.heap.size w0 w) (h : zK.f k s0_0 s0_1 s0_2 = some (r1, r2, r3)) :
  Calls Tryz.prog 72 #[.pointer (some ⟨g, 0, none⟩)] w fun e w' => ∃ v0_ : Value, e = .returned (v0_) ∧ Kd.R k55 55 w' w.heap.size (fun _ => True) v0_ r1 ∧ IsS88 w0 w' g s0_0 r2 r3 ∧ Below w0.heap.size w0 w' ∧ KeepBut w w' g none := by
 have HI0 := ak hI
 have HK := ak (KeepBut.refl w g none)
 have HL := ak hB.size
 clear hI
 have HW0 := ak hB.size
 have HB := ak hB
 clear hB
 have H := h
 unfold zK.f at H
 clear h
 obtain ⟨y101, hy101⟩ : ∃ y_ : List (S55), y_ = (([] : List (S55))) := ⟨_, rfl⟩
 replace H : ((zp.f s0_0 s0_1 s0_2 5).bind fun bt104 => (zK.l0 k y101 bt104.1 s0_0 bt104.2.1 bt104.2.2)) = some (r1, r2, r3) := rhq hy101
 have Ny101 := ak hy101
 clear hy101
 replace H := ob H
 obtain ⟨⟨t104, t105, t106⟩, A2, H⟩ := H
 try dsimp only at H
 have H' := ak H
 clear H
 go_enter Tryz.func72, Tryz.ntmps72
 go_wp2_with (first | ((with_reducible refine zl (N := 5) rfl ?_); refine r0 k55 55 5 Ny101.out ?_; intro v102 w3 ho4 hb; have HO103 := ak (Kd.R_lower ho4 (yi (w := w) (g := g) (row := none) kq)); replace HK := ak (KeepBut.trans kq (zF hb g none) (.inl rfl)); replace HB := ak (zb (bq1 (zc HI0.out)) hb); replace HI0 := ak (IsS88.below (zU HI0.out) hb); clear hb ho4) | ((with_reducible refine za (f := 38) rfl ?_); refine cl 7 rfl Tryz.func38 #[.pointer (some ⟨g, 0, none⟩), .int .i64 5] (zp.calls g s0_0 s0_1 s0_2 5 t104 t105 t106 w0 _ ?side1 ?side2 A2.out) ?_; (case side1 => exact zU HI0.out); (case side2 => exact bq1 (zc HI0.out)); rintro e w5 ⟨rfl, hi, hb, hk⟩; refine ⟨_, rfl, ?_⟩; replace HO103 := ak (Kd.R_mono (Kd.R_keep (IsS88.apart (show IsS88 w0 _ g s0_0 s0_1 s0_2 from zU HI0.out) (rdq HO103.out) (by decide)) hk (fun _ h => h.2)) (fun _ h => h.1)); replace HK := ak (KeepBut.trans kq hk (.inl rfl)); replace HB := ak (hb); replace HI0 := ak (hi); (try clear hb hk hi)))
 go_loopg [3, 4] k (fun kq v3 v4 w' => ∃ (x3_1 : List (S55)) (x4_1 : Int) (x1001_1 : Int) (x1002_1 : Int), v4 = .int .i64 x4_1 ∧ Aside0 (zK.l0 kq x3_1 x4_1 s0_0 x1001_1 x1002_1 = some (r1, r2, r3)) ∧ Aside0 (kq ≤ k) ∧ Aside0 (Kd.R k55 55 w' w.heap.size (fun _ => True) v3 x3_1) ∧ Aside0 (IsS88 w0 w' g s0_0 x1001_1 x1002_1) ∧ Aside0 (KeepBut w w' g none) ∧ Aside0 (Below w0.heap.size w0 w'))
 case atStart => exact ⟨(y101), (t104), (t105), (t106), rs, H', ⟨Nat.le_refl _⟩, ⟨rdq HO103.out⟩, ⟨zU HI0.out⟩, ⟨kq⟩, ⟨bq1 (zc HI0.out)⟩⟩
 case round =>
  clear H'
  obtain ⟨x3_1, x4_1, x1001_1, x1002_1, rfl, HA, HK1, HO_3, HI0, HK, HB⟩ := hrel
  cases gk with
  | zero => exact absurd HA.out (by simp [zK.l0])
  | succ k1 =>
   have H := HA.out
   clear HA
   simp only [zK.l0] at H
   replace H := sd H
   rcases H with ⟨c6b0, H⟩ | ⟨c6b0, H⟩
   ·replace H := ob H
    obtain ⟨⟨t107, t108, t109, t110⟩, A7, H⟩ := H
    try dsimp only at H
    replace H := sT H
    obtain ⟨c8, H⟩ := H
    have LMc8 := ak c8
    clear c8
    obtain ⟨y111, hy111⟩ : ∃ y_ : List (S55), y_ = (x3_1 ++ [(⟨t107, t108⟩ : S55)]) := ⟨_, rfl⟩
    replace H : (zK.l0 k1 y111 (wrap64 (x4_1 - 1)) s0_0 t109 t110) = some (r1, r2, r3) := rhq hy111
    have Ny111 := ak hy111
    clear hy111
    have H' := ak H
    clear H
    go_wp2_with (first | ((with_reducible refine za (f := 66) rfl ?_); refine cl 14 rfl Tryz.func66 #[.pointer (some ⟨g, 0, none⟩)] (zR.calls k1 g s0_0 x1001_1 x1002_1 t107 t108 t109 t110 w0 _ ?side1 ?side2 A7.out) ?_; (case side1 => exact zU HI0.out); (case side2 => exact bq1 (zc HI0.out)); rintro e w9 ⟨rfl, hi, hb, hk⟩; refine ⟨_, rfl, ?_⟩; replace HO_3 := ak (Kd.R_mono (Kd.R_keep (IsS88.apart (show IsS88 w0 _ g s0_0 x1001_1 x1002_1 from zU HI0.out) (rdq HO_3.out) (by decide)) hk (fun _ h => h.2)) (fun _ h => h.1)); replace HK := ak (KeepBut.trans kq hk (.inl rfl)); replace HB := ak (hb); replace HI0 := ak (hi); (try clear hb hk hi)) | ((with_reducible refine xi (b := .append) (xs := #[.tmp 12, .tmp 15]) rfl ?_); at_builtin; refine Kd.R_append k55 w.heap.size rfl (.tmp 12) (.tmp 15) 24 55 (.agg #[(.string ⟨#[]⟩), (.string ⟨#[]⟩)]) 32 rfl Tryz.underlying24 vM rfl (by decide) (by omega) u3 x3_1 (⟨t107, t108⟩ : S55) [.string t107, .string t108] (fun _ => True) (fun _ => False) rfl rfl ?aP (fun _ hk => hk.elim) ?aF ?aO (Below.refl _ _) ?aS ?aL ?_; (case aP => exact jA _ _ _ (⟨t107, t108⟩ : S55)); (case aF => exact (fun _ _ => trivial)); (case aO => exact (rdq HO_3.out)); (case aS => exact (yi (w := w) (g := g) (row := none) kq)); (case aL => have := LMc8.out; omega); intro v112 w10 ho hb hg hat; rw [← Ny111.out] at ho; have HO113 := ak (ho); replace HB := ak (xZ (bq1 (zc HI0.out)) HL.out hb); replace HI0 := ak (IsS88.grown (zU HI0.out) hg (yp HI0.out HO_3.out (by decide))); replace HK := ak (KeepBut.trans kq (xr hg g) (Kd.R_base2 HO_3.out)); clear HO_3; clear ho hb hg hat))
    go_roundg k1
    case measure => have := HK1.out; omega
    case rel => exact ⟨(y111), (wrap64 (x4_1 - 1)), (t109), (t110), rs, H', ⟨by have := HK1.out; omega⟩, ⟨rdq HO113.out⟩, ⟨zU HI0.out⟩, ⟨kq⟩, ⟨bq1 (zc HI0.out)⟩⟩
   ·obtain ⟨rfl, rfl, rfl⟩ := oi3 H
    go_wp2
    go_ret
    exact ⟨_, rv, by (with_reducible repeat (first | apply Kd.R_alloc | apply Kd.R_drewN | apply Kd.R_drew)); exact HO_3.out, zU HI0.out, bq1 (zc HI0.out), kq⟩
def yt.l0 : Nat → List (S55) → List Int → Int → Int → Option ((List (S55)) × Int × Int)
 | 0, _, _, _, _ => none
 | k + 1, x3, x1000, x1001, x1002 => (zp.f x1000 x1001 x1002 2).bind fun bt127 => (if (x3.length : Int) < (wrap64 (12 + bt127.1)) then (if x3.length < 4398046511104 then (yt.l0 k (x3 ++ [(⟨(⟨#[97]⟩ : ByteArray), (⟨#[]⟩ : ByteArray)⟩ : S55)]) x1000 bt127.2.1 bt127.2.2) else (none)) else (some (x3, bt127.2.1, bt127.2.2)))
def yt.f (k : Nat) (s0_0 : List Int) (s0_1 : Int) (s0_2 : Int) : Option ((List (S55)) × Int × Int) := (zK.f k s0_0 s0_1 s0_2).bind fun bt101 => ((zp.f s0_0 bt101.2.1 bt101.2.2 12).bind fun bt106 => (if bt106.1 = 0 then ((zB.f s0_0 bt106.2.1 bt106.2.2 (([(⟨#[]⟩ : ByteArray), (⟨#[65]⟩ : ByteArray), (⟨#[97, 32, 98]⟩ : ByteArray), (⟨#[97, 98, 99, 100, 101, 102, 103, 104, 105, 106, 107, 108, 109, 110, 111, 112, 113, 114, 115, 116, 117, 118, 119, 120, 121]⟩ : ByteArray)] : List ByteArray))).bind fun bt112 => (if bt101.1.length < 4398046511104 then (some ((bt101.1 ++ [(⟨bt112.1, (⟨#[]⟩ : ByteArray)⟩ : S55)]), bt112.2.1, bt112.2.2)) else (none))) else (if bt106.1 = 1 then ((zB.f s0_0 bt106.2.1 bt106.2.2 (([(⟨#[32, 120]⟩ : ByteArray), (⟨#[97, 13, 10, 98]⟩ : ByteArray), (⟨#[195, 169]⟩ : ByteArray)] : List ByteArray))).bind fun bt121 => (if bt101.1.length < 4398046511104 then (some ((bt101.1 ++ [(⟨(⟨#[97]⟩ : ByteArray), bt121.1⟩ : S55)]), bt121.2.1, bt121.2.2)) else (none))) else (if bt106.1 = 2 then (yt.l0 k bt101.1 s0_0 bt106.2.1 bt106.2.2) else (some (bt101.1, bt106.2.1, bt106.2.2))))))
theorem yt.mono_l : ∀ k, (∀ y0 y1 y2 y3, LeO (yt.l0 k y0 y1 y2 y3) (yt.l0 (k + 1) y0 y1 y2 y3))
 | 0 => fun _ _ _ _ r h => by simp [yt.l0] at h
 | k + 1 => by
  have ih0 := yt.mono_l k
  ·intro y0 y1 y2 y3
   unfold yt.l0
   exact mq2 ih0 zK.mono
theorem yt.mono : ∀ a0 a1 a2 k, LeO (yt.f k a0 a1 a2) (yt.f (k + 1) a0 a1 a2) := by
 intro a0 a1 a2 k
 have ih0 := yt.mono_l k
 unfold yt.f
 exact mq2 ih0 zK.mono
theorem yt.calls (k : Nat) (g : Nat) (s0_0 : List Int) (s0_1 : Int) (s0_2 : Int) (r1 : List (S55)) (r2 : Int) (r3 : Int) (w0 w : World) (hI : IsS88 w0 w g s0_0 s0_1 s0_2) (hB : Below w0.heap.size w0 w) (h : yt.f k s0_0 s0_1 s0_2 = some (r1, r2, r3)) :
  Calls Tryz.prog 42 #[.pointer (some ⟨g, 0, none⟩)] w fun e w' => ∃ v0_ : Value, e = .returned (v0_) ∧ Kd.R k55 55 w' w.heap.size (fun _ => True) v0_ r1 ∧ IsS88 w0 w' g s0_0 r2 r3 ∧ Below w0.heap.size w0 w' ∧ KeepBut w w' g none := by
 have hu55 := Tryz.underlying55
 have HI0 := ak hI
 have HK := ak (KeepBut.refl w g none)
 have HL := ak hB.size
 clear hI
 have HW0 := ak hB.size
 have HB := ak hB
 clear hB
 have H := h
 unfold yt.f at H
 clear h
 replace H := ob H
 obtain ⟨⟨t101, t104, t105⟩, A2, H⟩ := H
 try dsimp only at H
 replace H := ob H
 obtain ⟨⟨t106, t107, t108⟩, A3, H⟩ := H
 try dsimp only at H
 replace H := se H
 rcases H with ⟨c4b0, c4b1, H⟩ | ⟨c4, c4b0, c4b1, H⟩
 ·obtain ⟨y109, hy109⟩ : ∃ y_ : List ByteArray, y_ = (([(⟨#[]⟩ : ByteArray), (⟨#[65]⟩ : ByteArray), (⟨#[97, 32, 98]⟩ : ByteArray), (⟨#[97, 98, 99, 100, 101, 102, 103, 104, 105, 106, 107, 108, 109, 110, 111, 112, 113, 114, 115, 116, 117, 118, 119, 120, 121]⟩ : ByteArray)] : List ByteArray)) := ⟨_, rfl⟩
  replace H : ((zB.f s0_0 t107 t108 y109).bind fun bt112 => (if t101.length < 4398046511104 then (some ((t101 ++ [(⟨bt112.1, (⟨#[]⟩ : ByteArray)⟩ : S55)]), bt112.2.1, bt112.2.2)) else (none))) = some (r1, r2, r3) := rhq hy109
  have Ny109 := ak hy109
  clear hy109
  replace H := ob H
  obtain ⟨⟨t112, t113, t114⟩, A5, H⟩ := H
  try dsimp only at H
  replace H := sT H
  obtain ⟨c6, H⟩ := H
  have LMc6 := ak c6
  clear c6
  obtain ⟨y115, hy115⟩ : ∃ y_ : List (S55), y_ = (t101 ++ [(⟨t112, (⟨#[]⟩ : ByteArray)⟩ : S55)]) := ⟨_, rfl⟩
  replace H : (some (y115, t113, t114)) = some (r1, r2, r3) := rhq hy115
  have Ny115 := ak hy115
  clear hy115
  obtain ⟨rfl, rfl, rfl⟩ := oi3 H
  go_enter Tryz.func42, Tryz.ntmps42
  go_wp2_with (first | ((with_reducible refine za (f := 72) rfl ?_); refine cl 5 rfl Tryz.func72 #[.pointer (some ⟨g, 0, none⟩)] (zK.calls k g s0_0 s0_1 s0_2 t101 t104 t105 w0 _ ?side1 ?side2 A2.out) ?_; (case side1 => exact zU HI0.out); (case side2 => exact bq1 (zc HI0.out)); rintro e w7 ⟨v102, rfl, ho0, hi, hb, hk⟩; refine ⟨_, rfl, ?_⟩; have HO103 := ak (Kd.R_lower ho0 (yi (w := w) (g := g) (row := none) kq)); replace HK := ak (KeepBut.trans kq hk (.inl rfl)); replace HB := ak (hb); replace HI0 := ak (hi); (try clear hb hk hi ho0)) | ((with_reducible refine za (f := 38) rfl ?_); refine cl 7 rfl Tryz.func38 #[.pointer (some ⟨g, 0, none⟩), .int .i64 12] (zp.calls g s0_0 t104 t105 12 t106 t107 t108 w0 _ ?side1 ?side2 A3.out) ?_; (case side1 => exact zU HI0.out); (case side2 => exact bq1 (zc HI0.out)); rintro e w8 ⟨rfl, hi, hb, hk⟩; refine ⟨_, rfl, ?_⟩; replace HO103 := ak (Kd.R_mono (Kd.R_keep (IsS88.apart (show IsS88 w0 _ g s0_0 t104 t105 from zU HI0.out) (rdq HO103.out) (by decide)) hk (fun _ h => h.2)) (fun _ h => h.1)); replace HK := ak (KeepBut.trans kq hk (.inl rfl)); replace HB := ak (hb); replace HI0 := ak (hi); (try clear hb hk hi)) | ((with_reducible refine zl (N := 12) rfl ?_); refine rS 9 12 Ny109.out ?_; intro v110 w9 ho10 hb; have HO111 := ak (Kd.R_lower ho10 (yi (w := w) (g := g) (row := none) kq)); replace HO103 := ak (Kd.R_below (rdq HO103.out) hb); replace HK := ak (KeepBut.trans kq (zF hb g none) (.inl rfl)); replace HB := ak (zb (bq1 (zc HI0.out)) hb); replace HI0 := ak (IsS88.below (zU HI0.out) hb); clear hb ho10; obtain ⟨Ao11, co11, eo11⟩ := Kd.R_slice HO111.out; subst eo11) | ((with_reducible refine za (f := 41) rfl ?_); refine cl 13 rfl Tryz.func41 #[.pointer (some ⟨g, 0, none⟩), .slice Ao11 y109.length co11] (zB.calls g s0_0 t107 t108 _ _ y109 t112 t113 t114 w0 _ ?side1 ?side2 ?side3 ?side4 ?side5 A5.out) ?_; (case side1 => exact zU HI0.out); (case side2 => exact bq1 (zc HI0.out)); (case side3 => exact cq (Kd.R_reads' HO111.out).2.2); (case side4 => exact (Kd.R_reads' HO111.out).2.1); (case side5 => exact xD (yp HI0.out HO111.out (by decide))); rintro e w12 ⟨rfl, hi, hb, hk⟩; refine ⟨_, rfl, ?_⟩; replace HO103 := ak (Kd.R_mono (Kd.R_keep (IsS88.apart (show IsS88 w0 _ g s0_0 t107 t108 from zU HI0.out) (rdq HO103.out) (by decide)) hk (fun _ h => h.2)) (fun _ h => h.1)); replace HO111 := ak (Kd.R_mono (Kd.R_keep (IsS88.apart (show IsS88 w0 _ g s0_0 t107 t108 from zU HI0.out) (rdq HO111.out) (by decide)) hk (fun _ h => h.2)) (fun _ h => h.1)); replace HK := ak (KeepBut.trans kq hk (.inl rfl)); replace HB := ak (hb); replace HI0 := ak (hi); (try clear hb hk hi)) | ((with_reducible refine xi (b := .append) (xs := #[.tmp 10, .tmp 15]) rfl ?_); at_builtin; refine Kd.R_append k55 w.heap.size rfl (.tmp 10) (.tmp 15) 24 55 (.agg #[(.string ⟨#[]⟩), (.string ⟨#[]⟩)]) 32 rfl Tryz.underlying24 vM rfl (by decide) (by omega) v102 t101 (⟨t112, (⟨#[]⟩ : ByteArray)⟩ : S55) [.string t112, .string ⟨#[]⟩] (fun _ => True) (fun _ => False) rfl rfl ?aP (fun _ hk => hk.elim) ?aF ?aO (Below.refl _ _) ?aS ?aL ?_; (case aP => exact jA _ _ _ (⟨t112, (⟨#[]⟩ : ByteArray)⟩ : S55)); (case aF => exact (fun _ _ => trivial)); (case aO => exact (rdq HO103.out)); (case aS => exact (yi (w := w) (g := g) (row := none) kq)); (case aL => have := LMc6.out; omega); intro v116 w13 ho hb hg hat; rw [← Ny115.out] at ho; have HO117 := ak (ho); replace HO111 := ak (Kd.R_over' (rdq HO111.out) (Kd.R_typed (rdq HO103.out)) (by decide) hg); replace HB := ak (xZ (bq1 (zc HI0.out)) HL.out hb); replace HI0 := ak (IsS88.grown (zU HI0.out) hg (yp HI0.out HO103.out (by decide))); replace HK := ak (KeepBut.trans kq (xr hg g) (Kd.R_base2 HO103.out)); clear HO103; clear ho hb hg hat))
  go_ret
  exact ⟨_, rv, by (with_reducible repeat (first | apply Kd.R_alloc | apply Kd.R_drewN | apply Kd.R_drew)); exact HO117.out, zU HI0.out, bq1 (zc HI0.out), kq⟩
 ·replace H := se H
  rcases H with ⟨c14b0, c14b1, H⟩ | ⟨c14, c14b0, c14b1, H⟩
  ·obtain ⟨y118, hy118⟩ : ∃ y_ : List ByteArray, y_ = (([(⟨#[32, 120]⟩ : ByteArray), (⟨#[97, 13, 10, 98]⟩ : ByteArray), (⟨#[195, 169]⟩ : ByteArray)] : List ByteArray)) := ⟨_, rfl⟩
   replace H : ((zB.f s0_0 t107 t108 y118).bind fun bt121 => (if t101.length < 4398046511104 then (some ((t101 ++ [(⟨(⟨#[97]⟩ : ByteArray), bt121.1⟩ : S55)]), bt121.2.1, bt121.2.2)) else (none))) = some (r1, r2, r3) := rhq hy118
   have Ny118 := ak hy118
   clear hy118
   replace H := ob H
   obtain ⟨⟨t121, t122, t123⟩, A15, H⟩ := H
   try dsimp only at H
   replace H := sT H
   obtain ⟨c16, H⟩ := H
   have LMc16 := ak c16
   clear c16
   obtain ⟨y124, hy124⟩ : ∃ y_ : List (S55), y_ = (t101 ++ [(⟨(⟨#[97]⟩ : ByteArray), t121⟩ : S55)]) := ⟨_, rfl⟩
   replace H : (some (y124, t122, t123)) = some (r1, r2, r3) := rhq hy124
   have Ny124 := ak hy124
   clear hy124
   obtain ⟨rfl, rfl, rfl⟩ := oi3 H
   go_enter Tryz.func42, Tryz.ntmps42
   go_wp2_with (first | ((with_reducible refine za (f := 72) rfl ?_); refine cl 5 rfl Tryz.func72 #[.pointer (some ⟨g, 0, none⟩)] (zK.calls k g s0_0 s0_1 s0_2 t101 t104 t105 w0 _ ?side1 ?side2 A2.out) ?_; (case side1 => exact zU HI0.out); (case side2 => exact bq1 (zc HI0.out)); rintro e w17 ⟨v102, rfl, ho0, hi, hb, hk⟩; refine ⟨_, rfl, ?_⟩; have HO103 := ak (Kd.R_lower ho0 (yi (w := w) (g := g) (row := none) kq)); replace HK := ak (KeepBut.trans kq hk (.inl rfl)); replace HB := ak (hb); replace HI0 := ak (hi); (try clear hb hk hi ho0)) | ((with_reducible refine za (f := 38) rfl ?_); refine cl 7 rfl Tryz.func38 #[.pointer (some ⟨g, 0, none⟩), .int .i64 12] (zp.calls g s0_0 t104 t105 12 t106 t107 t108 w0 _ ?side1 ?side2 A3.out) ?_; (case side1 => exact zU HI0.out); (case side2 => exact bq1 (zc HI0.out)); rintro e w18 ⟨rfl, hi, hb, hk⟩; refine ⟨_, rfl, ?_⟩; replace HO103 := ak (Kd.R_mono (Kd.R_keep (IsS88.apart (show IsS88 w0 _ g s0_0 t104 t105 from zU HI0.out) (rdq HO103.out) (by decide)) hk (fun _ h => h.2)) (fun _ h => h.1)); replace HK := ak (KeepBut.trans kq hk (.inl rfl)); replace HB := ak (hb); replace HI0 := ak (hi); (try clear hb hk hi)) | ((with_reducible refine zl (N := 21) rfl ?_); refine rS 9 21 Ny118.out ?_; intro v119 w19 ho20 hb; have HO120 := ak (Kd.R_lower ho20 (yi (w := w) (g := g) (row := none) kq)); replace HO103 := ak (Kd.R_below (rdq HO103.out) hb); replace HK := ak (KeepBut.trans kq (zF hb g none) (.inl rfl)); replace HB := ak (zb (bq1 (zc HI0.out)) hb); replace HI0 := ak (IsS88.below (zU HI0.out) hb); clear hb ho20; obtain ⟨Ao21, co21, eo21⟩ := Kd.R_slice HO120.out; subst eo21) | ((with_reducible refine za (f := 41) rfl ?_); refine cl 22 rfl Tryz.func41 #[.pointer (some ⟨g, 0, none⟩), .slice Ao21 y118.length co21] (zB.calls g s0_0 t107 t108 _ _ y118 t121 t122 t123 w0 _ ?side1 ?side2 ?side3 ?side4 ?side5 A15.out) ?_; (case side1 => exact zU HI0.out); (case side2 => exact bq1 (zc HI0.out)); (case side3 => exact cq (Kd.R_reads' HO120.out).2.2); (case side4 => exact (Kd.R_reads' HO120.out).2.1); (case side5 => exact xD (yp HI0.out HO120.out (by decide))); rintro e w22 ⟨rfl, hi, hb, hk⟩; refine ⟨_, rfl, ?_⟩; replace HO103 := ak (Kd.R_mono (Kd.R_keep (IsS88.apart (show IsS88 w0 _ g s0_0 t107 t108 from zU HI0.out) (rdq HO103.out) (by decide)) hk (fun _ h => h.2)) (fun _ h => h.1)); replace HO120 := ak (Kd.R_mono (Kd.R_keep (IsS88.apart (show IsS88 w0 _ g s0_0 t107 t108 from zU HI0.out) (rdq HO120.out) (by decide)) hk (fun _ h => h.2)) (fun _ h => h.1)); replace HK := ak (KeepBut.trans kq hk (.inl rfl)); replace HB := ak (hb); replace HI0 := ak (hi); (try clear hb hk hi)) | ((with_reducible refine xi (b := .append) (xs := #[.tmp 19, .tmp 24]) rfl ?_); at_builtin; refine Kd.R_append k55 w.heap.size rfl (.tmp 19) (.tmp 24) 24 55 (.agg #[(.string ⟨#[]⟩), (.string ⟨#[]⟩)]) 32 rfl Tryz.underlying24 vM rfl (by decide) (by omega) v102 t101 (⟨(⟨#[97]⟩ : ByteArray), t121⟩ : S55) [.string ⟨#[97]⟩, .string t121] (fun _ => True) (fun _ => False) rfl rfl ?aP (fun _ hk => hk.elim) ?aF ?aO (Below.refl _ _) ?aS ?aL ?_; (case aP => exact jA _ _ _ (⟨(⟨#[97]⟩ : ByteArray), t121⟩ : S55)); (case aF => exact (fun _ _ => trivial)); (case aO => exact (rdq HO103.out)); (case aS => exact (yi (w := w) (g := g) (row := none) kq)); (case aL => have := LMc16.out; omega); intro v125 w23 ho hb hg hat; rw [← Ny124.out] at ho; have HO126 := ak (ho); replace HO120 := ak (Kd.R_over' (rdq HO120.out) (Kd.R_typed (rdq HO103.out)) (by decide) hg); replace HB := ak (xZ (bq1 (zc HI0.out)) HL.out hb); replace HI0 := ak (IsS88.grown (zU HI0.out) hg (yp HI0.out HO103.out (by decide))); replace HK := ak (KeepBut.trans kq (xr hg g) (Kd.R_base2 HO103.out)); clear HO103; clear ho hb hg hat))
   go_ret
   exact ⟨_, rv, by (with_reducible repeat (first | apply Kd.R_alloc | apply Kd.R_drewN | apply Kd.R_drew)); exact HO126.out, zU HI0.out, bq1 (zc HI0.out), kq⟩
  ·replace H := se H
   rcases H with ⟨c24b0, c24b1, H⟩ | ⟨c24, c24b0, c24b1, H⟩
   ·have H' := ak H
    clear H
    go_enter Tryz.func42, Tryz.ntmps42
    go_wp2_with (first | ((with_reducible refine za (f := 72) rfl ?_); refine cl 5 rfl Tryz.func72 #[.pointer (some ⟨g, 0, none⟩)] (zK.calls k g s0_0 s0_1 s0_2 t101 t104 t105 w0 _ ?side1 ?side2 A2.out) ?_; (case side1 => exact zU HI0.out); (case side2 => exact bq1 (zc HI0.out)); rintro e w25 ⟨v102, rfl, ho0, hi, hb, hk⟩; refine ⟨_, rfl, ?_⟩; have HO103 := ak (Kd.R_lower ho0 (yi (w := w) (g := g) (row := none) kq)); replace HK := ak (KeepBut.trans kq hk (.inl rfl)); replace HB := ak (hb); replace HI0 := ak (hi); (try clear hb hk hi ho0)) | ((with_reducible refine za (f := 38) rfl ?_); refine cl 7 rfl Tryz.func38 #[.pointer (some ⟨g, 0, none⟩), .int .i64 12] (zp.calls g s0_0 t104 t105 12 t106 t107 t108 w0 _ ?side1 ?side2 A3.out) ?_; (case side1 => exact zU HI0.out); (case side2 => exact bq1 (zc HI0.out)); rintro e w26 ⟨rfl, hi, hb, hk⟩; refine ⟨_, rfl, ?_⟩; replace HO103 := ak (Kd.R_mono (Kd.R_keep (IsS88.apart (show IsS88 w0 _ g s0_0 t104 t105 from zU HI0.out) (rdq HO103.out) (by decide)) hk (fun _ h => h.2)) (fun _ h => h.1)); replace HK := ak (KeepBut.trans kq hk (.inl rfl)); replace HB := ak (hb); replace HI0 := ak (hi); (try clear hb hk hi)))
    go_loopg [3] k (fun kq v3 w' => ∃ (x3_1 : List (S55)) (x1001_1 : Int) (x1002_1 : Int), Aside0 (yt.l0 kq x3_1 s0_0 x1001_1 x1002_1 = some (r1, r2, r3)) ∧ Aside0 (kq ≤ k) ∧ Aside0 (Kd.R k55 55 w' w.heap.size (fun _ => True) v3 x3_1) ∧ Aside0 (IsS88 w0 w' g s0_0 x1001_1 x1002_1) ∧ Aside0 (KeepBut w w' g none) ∧ Aside0 (Below w0.heap.size w0 w'))
    case atStart => exact ⟨(t101), (t107), (t108), H', ⟨Nat.le_refl _⟩, ⟨rdq HO103.out⟩, ⟨zU HI0.out⟩, ⟨kq⟩, ⟨bq1 (zc HI0.out)⟩⟩
    case round =>
     clear H'
     obtain ⟨x3_1, x1001_1, x1002_1, HA, HK1, HO_3, HI0, HK, HB⟩ := hrel
     cases gk with
     | zero => exact absurd HA.out (by simp [yt.l0])
     | succ k1 =>
      have H := HA.out
      clear HA
      simp only [yt.l0] at H
      replace H := ob H
      obtain ⟨⟨t127, t128, t129⟩, A27, H⟩ := H
      try dsimp only at H
      replace H := sd H
      rcases H with ⟨c28b0, H⟩ | ⟨c28b0, H⟩
      ·replace H := sT H
       obtain ⟨c29, H⟩ := H
       have LMc29 := ak c29
       clear c29
       obtain ⟨y130, hy130⟩ : ∃ y_ : List (S55), y_ = (x3_1 ++ [(⟨(⟨#[97]⟩ : ByteArray), (⟨#[]⟩ : ByteArray)⟩ : S55)]) := ⟨_, rfl⟩
       replace H : (yt.l0 k1 y130 s0_0 t128 t129) = some (r1, r2, r3) := rhq hy130
       have Ny130 := ak hy130
       clear hy130
       have H' := ak H
       clear H
       obtain ⟨Ao30, co30, eo30⟩ := Kd.R_slice HO_3.out
       subst eo30
       go_wp2_with (first | ((with_reducible refine za (f := 38) rfl ?_); refine cl 31 rfl Tryz.func38 #[.pointer (some ⟨g, 0, none⟩), .int .i64 2] (zp.calls g s0_0 x1001_1 x1002_1 2 t127 t128 t129 w0 _ ?side1 ?side2 A27.out) ?_; (case side1 => exact zU HI0.out); (case side2 => exact bq1 (zc HI0.out)); rintro e w31 ⟨rfl, hi, hb, hk⟩; refine ⟨_, rfl, ?_⟩; replace HO_3 := ak (Kd.R_mono (Kd.R_keep (IsS88.apart (show IsS88 w0 _ g s0_0 x1001_1 x1002_1 from zU HI0.out) (rdq HO_3.out) (by decide)) hk (fun _ h => h.2)) (fun _ h => h.1)); replace HK := ak (KeepBut.trans kq hk (.inl rfl)); replace HB := ak (hb); replace HI0 := ak (hi); (try clear hb hk hi)) | ((with_reducible refine xi (b := .append) (xs := #[.tmp 34, .tmp 36]) rfl ?_); at_builtin; refine Kd.R_append k55 w.heap.size rfl (.tmp 34) (.tmp 36) 24 55 (.agg #[(.string ⟨#[]⟩), (.string ⟨#[]⟩)]) 32 rfl Tryz.underlying24 vM rfl (by decide) (by omega) (.slice Ao30 x3_1.length co30) x3_1 (⟨(⟨#[97]⟩ : ByteArray), (⟨#[]⟩ : ByteArray)⟩ : S55) [.string ⟨#[97]⟩, .string ⟨#[]⟩] (fun _ => True) (fun _ => False) rfl rfl ?aP (fun _ hk => hk.elim) ?aF ?aO (Below.refl _ _) ?aS ?aL ?_; (case aP => exact jA _ _ _ (⟨(⟨#[97]⟩ : ByteArray), (⟨#[]⟩ : ByteArray)⟩ : S55)); (case aF => exact (fun _ _ => trivial)); (case aO => exact (rdq HO_3.out)); (case aS => exact (yi (w := w) (g := g) (row := none) kq)); (case aL => have := LMc29.out; omega); intro v131 w32 ho hb hg hat; rw [← Ny130.out] at ho; have HO132 := ak (ho); replace HB := ak (xZ (bq1 (zc HI0.out)) HL.out hb); replace HI0 := ak (IsS88.grown (zU HI0.out) hg (yp HI0.out HO_3.out (by decide))); replace HK := ak (KeepBut.trans kq (xr hg g) (Kd.R_base2 HO_3.out)); clear HO_3; clear ho hb hg hat))
       go_roundg k1
       case measure => have := HK1.out; omega
       case rel => exact ⟨(y130), (t128), (t129), H', ⟨by have := HK1.out; omega⟩, ⟨rdq HO132.out⟩, ⟨zU HI0.out⟩, ⟨kq⟩, ⟨bq1 (zc HI0.out)⟩⟩
      ·obtain ⟨rfl, rfl, rfl⟩ := oi3 H
       obtain ⟨Ao33, co33, eo33⟩ := Kd.R_slice HO_3.out
       subst eo33
       go_wp2_with (first | ((with_reducible refine za (f := 38) rfl ?_); refine cl 31 rfl Tryz.func38 #[.pointer (some ⟨g, 0, none⟩), .int .i64 2] (zp.calls g s0_0 x1001_1 x1002_1 2 t127 t128 t129 w0 _ ?side1 ?side2 A27.out) ?_; (case side1 => exact zU HI0.out); (case side2 => exact bq1 (zc HI0.out)); rintro e w34 ⟨rfl, hi, hb, hk⟩; refine ⟨_, rfl, ?_⟩; replace HO_3 := ak (Kd.R_mono (Kd.R_keep (IsS88.apart (show IsS88 w0 _ g s0_0 x1001_1 x1002_1 from zU HI0.out) (rdq HO_3.out) (by decide)) hk (fun _ h => h.2)) (fun _ h => h.1)); replace HK := ak (KeepBut.trans kq hk (.inl rfl)); replace HB := ak (hb); replace HI0 := ak (hi); (try clear hb hk hi)))
       go_ret
       exact ⟨_, rv, by (with_reducible repeat (first | apply Kd.R_alloc | apply Kd.R_drewN | apply Kd.R_drew)); exact HO_3.out, zU HI0.out, bq1 (zc HI0.out), kq⟩
   ·obtain ⟨rfl, rfl, rfl⟩ := oi3 H
    go_enter Tryz.func42, Tryz.ntmps42
    go_wp2_with (first | ((with_reducible refine za (f := 72) rfl ?_); refine cl 5 rfl Tryz.func72 #[.pointer (some ⟨g, 0, none⟩)] (zK.calls k g s0_0 s0_1 s0_2 t101 t104 t105 w0 _ ?side1 ?side2 A2.out) ?_; (case side1 => exact zU HI0.out); (case side2 => exact bq1 (zc HI0.out)); rintro e w35 ⟨v102, rfl, ho0, hi, hb, hk⟩; refine ⟨_, rfl, ?_⟩; have HO103 := ak (Kd.R_lower ho0 (yi (w := w) (g := g) (row := none) kq)); replace HK := ak (KeepBut.trans kq hk (.inl rfl)); replace HB := ak (hb); replace HI0 := ak (hi); (try clear hb hk hi ho0)) | ((with_reducible refine za (f := 38) rfl ?_); refine cl 7 rfl Tryz.func38 #[.pointer (some ⟨g, 0, none⟩), .int .i64 12] (zp.calls g s0_0 t104 t105 12 t106 t107 t108 w0 _ ?side1 ?side2 A3.out) ?_; (case side1 => exact zU HI0.out); (case side2 => exact bq1 (zc HI0.out)); rintro e w36 ⟨rfl, hi, hb, hk⟩; refine ⟨_, rfl, ?_⟩; replace HO103 := ak (Kd.R_mono (Kd.R_keep (IsS88.apart (show IsS88 w0 _ g s0_0 t104 t105 from zU HI0.out) (rdq HO103.out) (by decide)) hk (fun _ h => h.2)) (fun _ h => h.1)); replace HK := ak (KeepBut.trans kq hk (.inl rfl)); replace HB := ak (hb); replace HI0 := ak (hi); (try clear hb hk hi)))
    go_ret
    exact ⟨_, rv, by (with_reducible repeat (first | apply Kd.R_alloc | apply Kd.R_drewN | apply Kd.R_drew)); exact HO103.out, zU HI0.out, bq1 (zc HI0.out), kq⟩
def zo.l0 : Nat → List Int → Int → Int → ByteArray → ByteArray → List (S55) → ByteArray → Option (ByteArray × ByteArray × (List (S55)) × ByteArray)
 | 0, _, _, _, _, _, _, _ => none
 | k + 1, x106000, x106001, x106002, x115000, x115001, x115002, x115003 => (zp.f x106000 x106001 x106002 2).bind fun bt138 => (if (x115003.size : Int) < (wrap64 (60 + bt138.1)) then (if x115003.size + 1 ≤ 9223372036854775807 then (zo.l0 k x106000 bt138.2.1 bt138.2.2 x115000 x115001 x115002 (x115003 ++ (⟨#[120]⟩ : ByteArray))) else (none)) else (some (x115000, x115001, x115002, x115003)))
def zo.f (k : Nat) (l0 : List Int) : Option (ByteArray × ByteArray × (List (S55)) × ByteArray) := (yc.f k l0).bind fun bt102 => ((zt.f k bt102.1 bt102.2.1 bt102.2.2).bind fun bt106 => ((zp.f bt102.1 bt106.2.2.2.2.1 bt106.2.2.2.2.2 10).bind fun bt115 => (if bt115.1 = 0 then ((zB.f bt102.1 bt115.2.1 bt115.2.2 (([(⟨#[]⟩ : ByteArray), (⟨#[71, 32, 84]⟩ : ByteArray), (⟨#[80, 82, 79, 80, 80, 65, 84, 67, 72, 69, 83]⟩ : ByteArray)] : List ByteArray))).bind fun bt121 => (some (bt121.1, bt106.2.1, bt106.2.2.1, bt106.2.2.2.1))) else (if bt115.1 = 1 then (some (bt106.1, (⟨#[120]⟩ : ByteArray), bt106.2.2.1, bt106.2.2.2.1)) else (if bt115.1 = 2 then ((yt.f k bt102.1 bt115.2.1 bt115.2.2).bind fun bt124 => (some (bt106.1, bt106.2.1, bt124.1, bt106.2.2.2.1))) else (if bt115.1 = 3 then ((zB.f bt102.1 bt115.2.1 bt115.2.2 (([(⟨#[99, 111, 110, 116, 101, 110, 116, 45, 108, 101, 110, 103, 116, 104]⟩ : ByteArray), (⟨#[116, 114, 97, 110, 115, 102, 101, 114, 45, 101, 110, 99, 111, 100, 105, 110, 103]⟩ : ByteArray)] : List ByteArray))).bind fun bt132 => (if bt106.2.2.1.length < 4398046511104 then (some (bt106.1, bt106.2.1, (bt106.2.2.1 ++ [(⟨bt132.1, (⟨#[53]⟩ : ByteArray)⟩ : S55)]), bt106.2.2.2.1)) else (none))) else (if bt115.1 = 4 then (zo.l0 k bt102.1 bt115.2.1 bt115.2.2 bt106.1 bt106.2.1 bt106.2.2.1 bt106.2.2.2.1) else (some (bt106.1, bt106.2.1, bt106.2.2.1, bt106.2.2.2.1)))))))))
theorem zo.mono_l : ∀ k, (∀ y0 y1 y2 y3 y4 y5 y6, LeO (zo.l0 k y0 y1 y2 y3 y4 y5 y6) (zo.l0 (k + 1) y0 y1 y2 y3 y4 y5 y6))
 | 0 => fun _ _ _ _ _ _ _ r h => by simp [zo.l0] at h
 | k + 1 => by
  have ih0 := zo.mono_l k
  ·intro y0 y1 y2 y3 y4 y5 y6
   unfold zo.l0
   exact mq4 ih0 yc.mono yt.mono zt.mono
theorem zo.mono : ∀ a0 k, LeO (zo.f k a0) (zo.f (k + 1) a0) := by
 intro a0 k
 have ih0 := zo.mono_l k
 unfold zo.f
 exact mq4 ih0 yc.mono yt.mono zt.mono
def zo.T11 : Bool × List (List Nat × List Nat) := (true, [([], []), ([0], [0]), ([], []), ([], []), ([2, 3], [2, 3]), ([4], [4]), ([5], [5]), ([1, 6, 4], [1, 6]), ([0, 1, 2, 3, 4, 5, 6, 7], []), ([8, 7, 7, 0, 1, 2, 3, 4, 5, 6, 7], [7, 8])])
def zo.B11 : List Nat := [0, 1, 0, 0, 12, 28, 60, 127, 255, 511]
theorem zo.tab11 : rtab .any (opsOf Tryz.f17 11) = zo.T11 := by kernel_rfl
theorem zo.bits11 : qj zo.T11.2 zo.B11 = true := by kernel_rfl
theorem zo.calls (k : Nat) (A0 : Option Addr) (c0 : Nat) (l0 : List Int) (r1 : ByteArray) (r2 : ByteArray) (r3 : List (S55)) (r4 : ByteArray) (w : World) (hr0 : Kd.C (Kd.int .u8) w A0 l0.length l0) (hc0 : l0.length ≤ c0) (h : zo.f k l0 = some (r1, r2, r3, r4)) :
  Calls Tryz.prog 17 #[.slice A0 l0.length c0] w fun e w' => ∃ v2_ : Value, e = .returned (.agg #[.string r1, .string r2, v2_, .string r4]) ∧ Kd.R k55 55 w' w.heap.size (fun _ => True) v2_ r3 ∧ Below w.heap.size w w' := by
 have hu26 := Tryz.underlying26
 have hu55 := Tryz.underlying55
 have HR0 := ak hr0
 have HC0 := ak hc0
 clear hr0 hc0
 have HB := ak (Below.refl w.heap.size w)
 have H := h
 unfold zo.f at H
 clear h
 replace H := ob H
 obtain ⟨⟨t102, t103, t104⟩, A2, H⟩ := H
 try dsimp only at H
 replace H := ob H
 obtain ⟨⟨t106, t107, t108, t111, t112, t113⟩, A3, H⟩ := H
 try dsimp only at H
 replace H := ob H
 obtain ⟨⟨t115, t116, t117⟩, A4, H⟩ := H
 try dsimp only at H
 replace H := se H
 rcases H with ⟨c5b0, c5b1, H⟩ | ⟨c5, c5b0, c5b1, H⟩
 ·obtain ⟨y118, hy118⟩ : ∃ y_ : List ByteArray, y_ = (([(⟨#[]⟩ : ByteArray), (⟨#[71, 32, 84]⟩ : ByteArray), (⟨#[80, 82, 79, 80, 80, 65, 84, 67, 72, 69, 83]⟩ : ByteArray)] : List ByteArray)) := ⟨_, rfl⟩
  replace H : ((zB.f t102 t116 t117 y118).bind fun bt121 => (some (bt121.1, t107, t108, t111))) = some (r1, r2, r3, r4) := rhq hy118
  have Ny118 := ak hy118
  clear hy118
  replace H := ob H
  obtain ⟨⟨t121, t122, t123⟩, A6, H⟩ := H
  try dsimp only at H
  obtain ⟨rfl, rfl, rfl, rfl⟩ := oi4 H
  go_enter Tryz.func17, Tryz.ntmps17
  go_wp2_with (first | ((with_reducible refine zl (N := 2) rfl ?_); refine bx 2 #[.string ⟨#[]⟩, .string ⟨#[]⟩, .slice none 0 0, .string ⟨#[]⟩] 26 ?_; intro gb101 hg w7 hbox hb; have BK101 := ak (hbox); have GW101 := ak ((by rw [hg]; exact (zd bq) : w.heap.size ≤ gb101)); have GE101 := GW101; replace HB := ak (zb bq hb); clear hb hbox hg) | ((with_reducible refine za (f := 35) rfl ?_); refine cl 6 rfl Tryz.func35 #[.slice A0 l0.length c0] (yc.calls k _ _ l0 t102 t103 t104 w _ ?side1 ?side2 ?side3 A2.out) ?_; (case side1 => exact bq1 GE101.out); (case side2 => exact HR0.out); (case side3 => exact HC0.out); rintro e w8 ⟨g105, rfl, hi, hb, hb2⟩; refine ⟨_, rfl, ?_⟩; have HI105 := ak (hi); have NB105_101 := ak (xR hi (ze (blq BK101.out) hb2) (by decide)); have NB101_105 := ak NB105_101.out.symm; replace BK101 := ak (ze (blq BK101.out) hb2); replace HB := ak (hb); (try clear hb hb2 hi)) | ((with_reducible refine za (f := 36) rfl ?_); refine cl 8 rfl Tryz.func36 #[.pointer (some ⟨g105, 0, none⟩)] (zt.calls k g105 t102 t103 t104 t106 t107 t108 t111 t112 t113 w _ ?side1 ?side2 A3.out) ?_; (case side1 => exact zS HI105.out NB105_101.out); (case side2 => exact bq2 (zc HI105.out) GE101.out); rintro e w9 ⟨v109, rfl, ho0, hi, hb, hk⟩; refine ⟨_, rfl, ?_⟩; have HO110 := ak (Kd.R_lower ho0 (zd (bq2 (zc HI105.out) GE101.out))); replace BK101 := ak (KeepBut.blk hk (blq BK101.out) NB101_105.out (by simp)); replace HB := ak (hb); replace HI105 := ak (hi); (try clear hb hk hi ho0)) | ((with_reducible refine zl (N := 4) rfl ?_); refine bx 4 #[.string ⟨#[]⟩, .string ⟨#[]⟩, .slice none 0 0, .string ⟨#[]⟩] 26 ?_; intro gb114 hg w10 hbox hb; have BK114 := ak (hbox); have GW114 := ak ((by rw [hg]; exact (zd (bq2 (zc HI105.out) GE101.out)) : w.heap.size ≤ gb114)); have GE114 := GW114; have NB101_114 := ak ((by rw [hg]; exact Nat.ne_of_lt (xn (blq BK101.out)) : gb101 ≠ gb114)); have NB114_101 := ak NB101_114.out.symm; have NB105_114 := ak ((by rw [hg]; exact Nat.ne_of_lt (xE (show IsS88 w _ g105 t102 t112 t113 from zS HI105.out NB105_101.out)) : g105 ≠ gb114)); have NB114_105 := ak NB105_114.out.symm; replace HO110 := ak (Kd.R_below (rdq HO110.out) hb); replace BK101 := ak (ze (blq BK101.out) hb); replace HB := ak (zb (bq2 (zc HI105.out) GE101.out) hb); replace HI105 := ak (IsS88.below (zS HI105.out NB105_101.out) hb); clear hb hbox hg; have hnb11 := NB114_101.out; have hnc11 := NB101_114.out; have hnb12 := NB114_105.out; have hnc12 := NB105_114.out; obtain ⟨hcz13_0, hcz13_1, hcz13_2, hcz13_3, hfz13_0, hfz13_1, hfz13_2, hfz13_3⟩ := blk4 BK114.out; obtain ⟨Ao14, co14, eo14⟩ := Kd.R_slice HO110.out; subst eo14) | ((with_reducible refine za (f := 38) rfl ?_); refine cl 10 rfl Tryz.func38 #[.pointer (some ⟨g105, 0, none⟩), .int .i64 10] (zp.calls g105 t102 t112 t113 10 t115 t116 t117 w _ ?side1 ?side2 A4.out) ?_; (case side1 => exact yU HI105.out NB105_101.out NB105_114.out); (case side2 => exact bq3 (zc HI105.out) GE101.out GE114.out); rintro e w15 ⟨rfl, hi, hb, hk⟩; refine ⟨_, rfl, ?_⟩; replace BK101 := ak (KeepBut.blk hk (g' := gb101) (o := .cells #[.string ⟨#[]⟩, .string ⟨#[]⟩, .slice none 0 0, .string ⟨#[]⟩] 26 (0, 0)) (blf1 BK101.out NB101_114.out) NB101_105.out (by simp)); replace HO110 := ak (Kd.R_mono (Kd.R_keep (IsS88.apart (show IsS88 w _ g105 t102 t112 t113 from yU HI105.out NB105_101.out NB105_114.out) (rfd HO110.out BK114.out) (by decide)) hk (fun _ h => h.2)) (fun _ h => h.1)); replace BK114 := ak (KeepBut.blk hk (g' := gb114) (o := .cells #[.string t106, .string t107, .slice Ao14 t108.length co14, .string t111] 26 (0, 0)) (blp0 BK114.out) NB114_105.out (by simp)); replace HB := ak (hb); replace HI105 := ak (hi); (try clear hb hk hi)) | ((with_reducible refine zl (N := 14) rfl ?_); refine rS 9 14 Ny118.out ?_; intro v119 w16 ho17 hb; have HO120 := ak (Kd.R_lower ho17 (zd (bq3 (zc HI105.out) GE101.out GE114.out))); replace HO110 := ak (Kd.R_below (rdq HO110.out) hb); replace BK101 := ak (ze (blq BK101.out) hb); replace BK114 := ak (ze (blq BK114.out) hb); replace HB := ak (zb (bq3 (zc HI105.out) GE101.out GE114.out) hb); replace HI105 := ak (IsS88.below (yU HI105.out NB105_101.out NB105_114.out) hb); clear hb ho17; obtain ⟨Ao18, co18, eo18⟩ := Kd.R_slice HO120.out; subst eo18) | ((with_reducible refine za (f := 41) rfl ?_); refine cl 15 rfl Tryz.func41 #[.pointer (some ⟨g105, 0, none⟩), .slice Ao18 y118.length co18] (zB.calls g105 t102 t116 t117 _ _ y118 t121 t122 t123 w _ ?side1 ?side2 ?side3 ?side4 ?side5 A6.out) ?_; (case side1 => exact yU HI105.out NB105_101.out NB105_114.out); (case side2 => exact bq3 (zc HI105.out) GE101.out GE114.out); (case side3 => exact cq (Kd.R_reads' HO120.out).2.2); (case side4 => exact (Kd.R_reads' HO120.out).2.1); (case side5 => exact xD (yp HI105.out HO120.out (by decide))); rintro e w19 ⟨rfl, hi, hb, hk⟩; refine ⟨_, rfl, ?_⟩; replace BK101 := ak (KeepBut.blk hk (blq BK101.out) NB101_105.out (by simp)); replace HO110 := ak (Kd.R_mono (Kd.R_keep (IsS88.apart (show IsS88 w _ g105 t102 t116 t117 from yU HI105.out NB105_101.out NB105_114.out) (rdq HO110.out) (by decide)) hk (fun _ h => h.2)) (fun _ h => h.1)); replace BK114 := ak (KeepBut.blk hk (blq BK114.out) NB114_105.out (by simp)); replace HO120 := ak (Kd.R_mono (Kd.R_keep (IsS88.apart (show IsS88 w _ g105 t102 t116 t117 from yU HI105.out NB105_101.out NB105_114.out) (rdq HO120.out) (by decide)) hk (fun _ h => h.2)) (fun _ h => h.1)); replace HB := ak (hb); replace HI105 := ak (hi); (try clear hb hk hi); obtain ⟨hcz20_0, hcz20_1, hcz20_2, hcz20_3, hfz20_0, hfz20_1, hfz20_2, hfz20_3⟩ := blk4 BK114.out; have hnb21 := NB101_105.out; have hnc21 := NB105_101.out; obtain ⟨hcz22_0, hcz22_1, hcz22_2, hcz22_3, hfz22_0, hfz22_1, hfz22_2, hfz22_3⟩ := blk4 BK101.out))
  refine bodyPost_ret (results_cell_row rfl _ _ gb101 26 #[.string t121, .string t107, .slice Ao14 t108.length co14, .string t111] (0, 0) _ rfl (blp1 BK101.out NB101_114.out) Tryz.underlying26 rfl (by kernel_rfl)) rfl ?_
  exact ⟨_, rv, by (with_reducible repeat (first | apply Kd.R_alloc | apply Kd.R_drewN | apply Kd.R_drew)); exact Kd.R_mono (Kd.R_far (p := ⟨gb101, 3, none⟩) (Kd.R_far (p := ⟨gb101, 2, none⟩) (Kd.R_far (p := ⟨gb101, 1, none⟩) (Kd.R_far (p := ⟨gb101, 0, none⟩) (Kd.R_far (p := ⟨gb114, 0, none⟩) (Kd.R_types (Kd.R_types HO110.out BK114.out (by decide)) BK101.out (by decide)) (fun _ hk => hk.1.2) (.string t121)) (fun _ hk => hk.2) (.string t121)) (fun _ hk => hk.2) (.string t107)) (fun _ hk => hk.2) (.slice Ao14 t108.length co14)) (fun _ hk => hk.2) (.string t111)) (fun _ hk => trivial), bq3 (zc HI105.out) GE101.out GE114.out⟩
 ·replace H := se H
  rcases H with ⟨c23b0, c23b1, H⟩ | ⟨c23, c23b0, c23b1, H⟩
  ·obtain ⟨rfl, rfl, rfl, rfl⟩ := oi4 H
   go_enter Tryz.func17, Tryz.ntmps17
   go_wp2_with (first | ((with_reducible refine zl (N := 2) rfl ?_); refine bx 2 #[.string ⟨#[]⟩, .string ⟨#[]⟩, .slice none 0 0, .string ⟨#[]⟩] 26 ?_; intro gb101 hg w24 hbox hb; have BK101 := ak (hbox); have GW101 := ak ((by rw [hg]; exact (zd bq) : w.heap.size ≤ gb101)); have GE101 := GW101; replace HB := ak (zb bq hb); clear hb hbox hg) | ((with_reducible refine za (f := 35) rfl ?_); refine cl 6 rfl Tryz.func35 #[.slice A0 l0.length c0] (yc.calls k _ _ l0 t102 t103 t104 w _ ?side1 ?side2 ?side3 A2.out) ?_; (case side1 => exact bq1 GE101.out); (case side2 => exact HR0.out); (case side3 => exact HC0.out); rintro e w25 ⟨g105, rfl, hi, hb, hb2⟩; refine ⟨_, rfl, ?_⟩; have HI105 := ak (hi); have NB105_101 := ak (xR hi (ze (blq BK101.out) hb2) (by decide)); have NB101_105 := ak NB105_101.out.symm; replace BK101 := ak (ze (blq BK101.out) hb2); replace HB := ak (hb); (try clear hb hb2 hi)) | ((with_reducible refine za (f := 36) rfl ?_); refine cl 8 rfl Tryz.func36 #[.pointer (some ⟨g105, 0, none⟩)] (zt.calls k g105 t102 t103 t104 t106 t107 t108 t111 t112 t113 w _ ?side1 ?side2 A3.out) ?_; (case side1 => exact zS HI105.out NB105_101.out); (case side2 => exact bq2 (zc HI105.out) GE101.out); rintro e w26 ⟨v109, rfl, ho0, hi, hb, hk⟩; refine ⟨_, rfl, ?_⟩; have HO110 := ak (Kd.R_lower ho0 (zd (bq2 (zc HI105.out) GE101.out))); replace BK101 := ak (KeepBut.blk hk (blq BK101.out) NB101_105.out (by simp)); replace HB := ak (hb); replace HI105 := ak (hi); (try clear hb hk hi ho0)) | ((with_reducible refine zl (N := 4) rfl ?_); refine bx 4 #[.string ⟨#[]⟩, .string ⟨#[]⟩, .slice none 0 0, .string ⟨#[]⟩] 26 ?_; intro gb114 hg w27 hbox hb; have BK114 := ak (hbox); have GW114 := ak ((by rw [hg]; exact (zd (bq2 (zc HI105.out) GE101.out)) : w.heap.size ≤ gb114)); have GE114 := GW114; have NB101_114 := ak ((by rw [hg]; exact Nat.ne_of_lt (xn (blq BK101.out)) : gb101 ≠ gb114)); have NB114_101 := ak NB101_114.out.symm; have NB105_114 := ak ((by rw [hg]; exact Nat.ne_of_lt (xE (show IsS88 w _ g105 t102 t112 t113 from zS HI105.out NB105_101.out)) : g105 ≠ gb114)); have NB114_105 := ak NB105_114.out.symm; replace HO110 := ak (Kd.R_below (rdq HO110.out) hb); replace BK101 := ak (ze (blq BK101.out) hb); replace HB := ak (zb (bq2 (zc HI105.out) GE101.out) hb); replace HI105 := ak (IsS88.below (zS HI105.out NB105_101.out) hb); clear hb hbox hg; have hnb28 := NB114_101.out; have hnc28 := NB101_114.out; have hnb29 := NB114_105.out; have hnc29 := NB105_114.out; obtain ⟨hcz30_0, hcz30_1, hcz30_2, hcz30_3, hfz30_0, hfz30_1, hfz30_2, hfz30_3⟩ := blk4 BK114.out; obtain ⟨Ao31, co31, eo31⟩ := Kd.R_slice HO110.out; subst eo31) | ((with_reducible refine za (f := 38) rfl ?_); refine cl 10 rfl Tryz.func38 #[.pointer (some ⟨g105, 0, none⟩), .int .i64 10] (zp.calls g105 t102 t112 t113 10 t115 t116 t117 w _ ?side1 ?side2 A4.out) ?_; (case side1 => exact yU HI105.out NB105_101.out NB105_114.out); (case side2 => exact bq3 (zc HI105.out) GE101.out GE114.out); rintro e w32 ⟨rfl, hi, hb, hk⟩; refine ⟨_, rfl, ?_⟩; replace BK101 := ak (KeepBut.blk hk (g' := gb101) (o := .cells #[.string ⟨#[]⟩, .string ⟨#[]⟩, .slice none 0 0, .string ⟨#[]⟩] 26 (0, 0)) (blf1 BK101.out NB101_114.out) NB101_105.out (by simp)); replace HO110 := ak (Kd.R_mono (Kd.R_keep (IsS88.apart (show IsS88 w _ g105 t102 t112 t113 from yU HI105.out NB105_101.out NB105_114.out) (rfd HO110.out BK114.out) (by decide)) hk (fun _ h => h.2)) (fun _ h => h.1)); replace BK114 := ak (KeepBut.blk hk (g' := gb114) (o := .cells #[.string t106, .string t107, .slice Ao31 t108.length co31, .string t111] 26 (0, 0)) (blp0 BK114.out) NB114_105.out (by simp)); replace HB := ak (hb); replace HI105 := ak (hi); (try clear hb hk hi); obtain ⟨hcz33_0, hcz33_1, hcz33_2, hcz33_3, hfz33_0, hfz33_1, hfz33_2, hfz33_3⟩ := blk4 BK114.out; have hnb34 := NB101_105.out; have hnc34 := NB105_101.out; obtain ⟨hcz35_0, hcz35_1, hcz35_2, hcz35_3, hfz35_0, hfz35_1, hfz35_2, hfz35_3⟩ := blk4 BK101.out))
   refine bodyPost_ret (results_cell_row rfl _ _ gb101 26 #[.string t106, .string ⟨#[120]⟩, .slice Ao31 t108.length co31, .string t111] (0, 0) _ rfl (blp1 BK101.out NB101_114.out) Tryz.underlying26 rfl (by kernel_rfl)) rfl ?_
   exact ⟨_, rv, by (with_reducible repeat (first | apply Kd.R_alloc | apply Kd.R_drewN | apply Kd.R_drew)); exact Kd.R_mono (Kd.R_far (p := ⟨gb101, 3, none⟩) (Kd.R_far (p := ⟨gb101, 2, none⟩) (Kd.R_far (p := ⟨gb101, 1, none⟩) (Kd.R_far (p := ⟨gb101, 0, none⟩) (Kd.R_far (p := ⟨gb114, 1, none⟩) (Kd.R_types (Kd.R_types HO110.out BK114.out (by decide)) BK101.out (by decide)) (fun _ hk => hk.1.2) (.string ⟨#[120]⟩)) (fun _ hk => hk.2) (.string t106)) (fun _ hk => hk.2) (.string ⟨#[120]⟩)) (fun _ hk => hk.2) (.slice Ao31 t108.length co31)) (fun _ hk => hk.2) (.string t111)) (fun _ hk => trivial), bq3 (zc HI105.out) GE101.out GE114.out⟩
  ·replace H := se H
   rcases H with ⟨c36b0, c36b1, H⟩ | ⟨c36, c36b0, c36b1, H⟩
   ·replace H := ob H
    obtain ⟨⟨t124, t127, t128⟩, A37, H⟩ := H
    try dsimp only at H
    obtain ⟨rfl, rfl, rfl, rfl⟩ := oi4 H
    go_enter Tryz.func17, Tryz.ntmps17
    go_wp2_with (first | ((with_reducible refine zl (N := 2) rfl ?_); refine bx 2 #[.string ⟨#[]⟩, .string ⟨#[]⟩, .slice none 0 0, .string ⟨#[]⟩] 26 ?_; intro gb101 hg w38 hbox hb; have BK101 := ak (hbox); have GW101 := ak ((by rw [hg]; exact (zd bq) : w.heap.size ≤ gb101)); have GE101 := GW101; replace HB := ak (zb bq hb); clear hb hbox hg) | ((with_reducible refine za (f := 35) rfl ?_); refine cl 6 rfl Tryz.func35 #[.slice A0 l0.length c0] (yc.calls k _ _ l0 t102 t103 t104 w _ ?side1 ?side2 ?side3 A2.out) ?_; (case side1 => exact bq1 GE101.out); (case side2 => exact HR0.out); (case side3 => exact HC0.out); rintro e w39 ⟨g105, rfl, hi, hb, hb2⟩; refine ⟨_, rfl, ?_⟩; have HI105 := ak (hi); have NB105_101 := ak (xR hi (ze (blq BK101.out) hb2) (by decide)); have NB101_105 := ak NB105_101.out.symm; replace BK101 := ak (ze (blq BK101.out) hb2); replace HB := ak (hb); (try clear hb hb2 hi)) | ((with_reducible refine za (f := 36) rfl ?_); refine cl 8 rfl Tryz.func36 #[.pointer (some ⟨g105, 0, none⟩)] (zt.calls k g105 t102 t103 t104 t106 t107 t108 t111 t112 t113 w _ ?side1 ?side2 A3.out) ?_; (case side1 => exact zS HI105.out NB105_101.out); (case side2 => exact bq2 (zc HI105.out) GE101.out); rintro e w40 ⟨v109, rfl, ho0, hi, hb, hk⟩; refine ⟨_, rfl, ?_⟩; have HO110 := ak (Kd.R_lower ho0 (zd (bq2 (zc HI105.out) GE101.out))); replace BK101 := ak (KeepBut.blk hk (blq BK101.out) NB101_105.out (by simp)); replace HB := ak (hb); replace HI105 := ak (hi); (try clear hb hk hi ho0)) | ((with_reducible refine zl (N := 4) rfl ?_); refine bx 4 #[.string ⟨#[]⟩, .string ⟨#[]⟩, .slice none 0 0, .string ⟨#[]⟩] 26 ?_; intro gb114 hg w41 hbox hb; have BK114 := ak (hbox); have GW114 := ak ((by rw [hg]; exact (zd (bq2 (zc HI105.out) GE101.out)) : w.heap.size ≤ gb114)); have GE114 := GW114; have NB101_114 := ak ((by rw [hg]; exact Nat.ne_of_lt (xn (blq BK101.out)) : gb101 ≠ gb114)); have NB114_101 := ak NB101_114.out.symm; have NB105_114 := ak ((by rw [hg]; exact Nat.ne_of_lt (xE (show IsS88 w _ g105 t102 t112 t113 from zS HI105.out NB105_101.out)) : g105 ≠ gb114)); have NB114_105 := ak NB105_114.out.symm; replace HO110 := ak (Kd.R_below (rdq HO110.out) hb); replace BK101 := ak (ze (blq BK101.out) hb); replace HB := ak (zb (bq2 (zc HI105.out) GE101.out) hb); replace HI105 := ak (IsS88.below (zS HI105.out NB105_101.out) hb); clear hb hbox hg; have hnb42 := NB114_101.out; have hnc42 := NB101_114.out; have hnb43 := NB114_105.out; have hnc43 := NB105_114.out; obtain ⟨hcz44_0, hcz44_1, hcz44_2, hcz44_3, hfz44_0, hfz44_1, hfz44_2, hfz44_3⟩ := blk4 BK114.out; obtain ⟨Ao45, co45, eo45⟩ := Kd.R_slice HO110.out; subst eo45) | ((with_reducible refine za (f := 38) rfl ?_); refine cl 10 rfl Tryz.func38 #[.pointer (some ⟨g105, 0, none⟩), .int .i64 10] (zp.calls g105 t102 t112 t113 10 t115 t116 t117 w _ ?side1 ?side2 A4.out) ?_; (case side1 => exact yU HI105.out NB105_101.out NB105_114.out); (case side2 => exact bq3 (zc HI105.out) GE101.out GE114.out); rintro e w46 ⟨rfl, hi, hb, hk⟩; refine ⟨_, rfl, ?_⟩; replace BK101 := ak (KeepBut.blk hk (g' := gb101) (o := .cells #[.string ⟨#[]⟩, .string ⟨#[]⟩, .slice none 0 0, .string ⟨#[]⟩] 26 (0, 0)) (blf1 BK101.out NB101_114.out) NB101_105.out (by simp)); replace HO110 := ak (Kd.R_mono (Kd.R_keep (IsS88.apart (show IsS88 w _ g105 t102 t112 t113 from yU HI105.out NB105_101.out NB105_114.out) (rfd HO110.out BK114.out) (by decide)) hk (fun _ h => h.2)) (fun _ h => h.1)); replace BK114 := ak (KeepBut.blk hk (g' := gb114) (o := .cells #[.string t106, .string t107, .slice Ao45 t108.length co45, .string t111] 26 (0, 0)) (blp0 BK114.out) NB114_105.out (by simp)); replace HB := ak (hb); replace HI105 := ak (hi); (try clear hb hk hi)) | ((with_reducible refine za (f := 42) rfl ?_); refine cl 23 rfl Tryz.func42 #[.pointer (some ⟨g105, 0, none⟩)] (yt.calls k g105 t102 t116 t117 t124 t127 t128 w _ ?side1 ?side2 A37.out) ?_; (case side1 => exact yU HI105.out NB105_101.out NB105_114.out); (case side2 => exact bq3 (zc HI105.out) GE101.out GE114.out); rintro e w47 ⟨v125, rfl, ho0, hi, hb, hk⟩; refine ⟨_, rfl, ?_⟩; have HO126 := ak (Kd.R_lower (Kd.R_new' ho0 (Kd.R_lt (rdq HO110.out))) (zd (bq3 (zc HI105.out) GE101.out GE114.out))); replace BK101 := ak (KeepBut.blk hk (blq BK101.out) NB101_105.out (by simp)); replace HO110 := ak (Kd.R_mono (Kd.R_told (Kd.R_oldK (IsS88.apart (show IsS88 w _ g105 t102 t116 t117 from yU HI105.out NB105_101.out NB105_114.out) (rdq HO110.out) (by decide)) hk) (Kd.R_base ho0)) (fun _ h_ => h_.1)); replace BK114 := ak (KeepBut.blk hk (blq BK114.out) NB114_105.out (by simp)); replace HB := ak (hb); replace HI105 := ak (hi); (try clear hb hk hi ho0); obtain ⟨Ao48, co48, eo48⟩ := Kd.R_slice HO126.out; subst eo48; obtain ⟨hcz49_0, hcz49_1, hcz49_2, hcz49_3, hfz49_0, hfz49_1, hfz49_2, hfz49_3⟩ := blk4 BK114.out; have hnb50 := NB101_105.out; have hnc50 := NB105_101.out; obtain ⟨hcz51_0, hcz51_1, hcz51_2, hcz51_3, hfz51_0, hfz51_1, hfz51_2, hfz51_3⟩ := blk4 BK101.out))
    refine bodyPost_ret (results_cell_row rfl _ _ gb101 26 #[.string t106, .string t107, .slice Ao48 t124.length co48, .string t111] (0, 0) _ rfl (blp1 BK101.out NB101_114.out) Tryz.underlying26 rfl (by kernel_rfl)) rfl ?_
    exact ⟨_, rv, by (with_reducible repeat (first | apply Kd.R_alloc | apply Kd.R_drewN | apply Kd.R_drew)); exact Kd.R_mono (Kd.R_far (p := ⟨gb101, 3, none⟩) (Kd.R_far (p := ⟨gb101, 2, none⟩) (Kd.R_far (p := ⟨gb101, 1, none⟩) (Kd.R_far (p := ⟨gb101, 0, none⟩) (Kd.R_far (p := ⟨gb114, 2, none⟩) (Kd.R_types (Kd.R_types HO126.out BK114.out (by decide)) BK101.out (by decide)) (fun _ hk => hk.1.2) (.slice Ao48 t124.length co48)) (fun _ hk => hk.2) (.string t106)) (fun _ hk => hk.2) (.string t107)) (fun _ hk => hk.2) (.slice Ao48 t124.length co48)) (fun _ hk => hk.2) (.string t111)) (fun _ hk => trivial), bq3 (zc HI105.out) GE101.out GE114.out⟩
   ·replace H := se H
    rcases H with ⟨c52b0, c52b1, H⟩ | ⟨c52, c52b0, c52b1, H⟩
    ·obtain ⟨y129, hy129⟩ : ∃ y_ : List ByteArray, y_ = (([(⟨#[99, 111, 110, 116, 101, 110, 116, 45, 108, 101, 110, 103, 116, 104]⟩ : ByteArray), (⟨#[116, 114, 97, 110, 115, 102, 101, 114, 45, 101, 110, 99, 111, 100, 105, 110, 103]⟩ : ByteArray)] : List ByteArray)) := ⟨_, rfl⟩
     replace H : ((zB.f t102 t116 t117 y129).bind fun bt132 => (if t108.length < 4398046511104 then (some (t106, t107, (t108 ++ [(⟨bt132.1, (⟨#[53]⟩ : ByteArray)⟩ : S55)]), t111)) else (none))) = some (r1, r2, r3, r4) := rhq hy129
     have Ny129 := ak hy129
     clear hy129
     replace H := ob H
     obtain ⟨⟨t132, t133, t134⟩, A53, H⟩ := H
     try dsimp only at H
     replace H := sT H
     obtain ⟨c54, H⟩ := H
     have LMc54 := ak c54
     clear c54
     obtain ⟨y135, hy135⟩ : ∃ y_ : List (S55), y_ = (t108 ++ [(⟨t132, (⟨#[53]⟩ : ByteArray)⟩ : S55)]) := ⟨_, rfl⟩
     replace H : (some (t106, t107, y135, t111)) = some (r1, r2, r3, r4) := rhq hy135
     have Ny135 := ak hy135
     clear hy135
     obtain ⟨rfl, rfl, rfl, rfl⟩ := oi4 H
     go_enter Tryz.func17, Tryz.ntmps17
     try go_wp2_with (first | ((with_reducible refine zl (N := 2) rfl ?_); refine bx 2 #[.string ⟨#[]⟩, .string ⟨#[]⟩, .slice none 0 0, .string ⟨#[]⟩] 26 ?_; intro gb101 hg w55 hbox hb; have BK101 := ak (hbox); have GW101 := ak ((by rw [hg]; exact (zd bq) : w.heap.size ≤ gb101)); have GE101 := GW101; replace HB := ak (zb bq hb); clear hb hbox hg) | ((with_reducible refine za (f := 35) rfl ?_); refine cl 6 rfl Tryz.func35 #[.slice A0 l0.length c0] (yc.calls k _ _ l0 t102 t103 t104 w _ ?side1 ?side2 ?side3 A2.out) ?_; (case side1 => exact bq1 GE101.out); (case side2 => exact HR0.out); (case side3 => exact HC0.out); rintro e w56 ⟨g105, rfl, hi, hb, hb2⟩; refine ⟨_, rfl, ?_⟩; have HI105 := ak (hi); have NB105_101 := ak (xR hi (ze (blq BK101.out) hb2) (by decide)); have NB101_105 := ak NB105_101.out.symm; replace BK101 := ak (ze (blq BK101.out) hb2); replace HB := ak (hb); (try clear hb hb2 hi)) | ((with_reducible refine za (f := 36) rfl ?_); refine cl 8 rfl Tryz.func36 #[.pointer (some ⟨g105, 0, none⟩)] (zt.calls k g105 t102 t103 t104 t106 t107 t108 t111 t112 t113 w _ ?side1 ?side2 A3.out) ?_; (case side1 => exact zS HI105.out NB105_101.out); (case side2 => exact bq2 (zc HI105.out) GE101.out); rintro e w57 ⟨v109, rfl, ho0, hi, hb, hk⟩; refine ⟨_, rfl, ?_⟩; have HO110 := ak (Kd.R_lower ho0 (zd (bq2 (zc HI105.out) GE101.out))); replace BK101 := ak (KeepBut.blk hk (blq BK101.out) NB101_105.out (by simp)); replace HB := ak (hb); replace HI105 := ak (hi); (try clear hb hk hi ho0)) | ((with_reducible refine zl (N := 4) rfl ?_); refine bx 4 #[.string ⟨#[]⟩, .string ⟨#[]⟩, .slice none 0 0, .string ⟨#[]⟩] 26 ?_; intro gb114 hg w58 hbox hb; have BK114 := ak (hbox); have GW114 := ak ((by rw [hg]; exact (zd (bq2 (zc HI105.out) GE101.out)) : w.heap.size ≤ gb114)); have GE114 := GW114; have NB101_114 := ak ((by rw [hg]; exact Nat.ne_of_lt (xn (blq BK101.out)) : gb101 ≠ gb114)); have NB114_101 := ak NB101_114.out.symm; have NB105_114 := ak ((by rw [hg]; exact Nat.ne_of_lt (xE (show IsS88 w _ g105 t102 t112 t113 from zS HI105.out NB105_101.out)) : g105 ≠ gb114)); have NB114_105 := ak NB105_114.out.symm; replace HO110 := ak (Kd.R_below (rdq HO110.out) hb); replace BK101 := ak (ze (blq BK101.out) hb); replace HB := ak (zb (bq2 (zc HI105.out) GE101.out) hb); replace HI105 := ak (IsS88.below (zS HI105.out NB105_101.out) hb); clear hb hbox hg; have hnb59 := NB114_101.out; have hnc59 := NB101_114.out; have hnb60 := NB114_105.out; have hnc60 := NB105_114.out; obtain ⟨hcz61_0, hcz61_1, hcz61_2, hcz61_3, hfz61_0, hfz61_1, hfz61_2, hfz61_3⟩ := blk4 BK114.out; obtain ⟨Ao62, co62, eo62⟩ := Kd.R_slice HO110.out; subst eo62) | ((with_reducible refine za (f := 38) rfl ?_); refine cl 10 rfl Tryz.func38 #[.pointer (some ⟨g105, 0, none⟩), .int .i64 10] (zp.calls g105 t102 t112 t113 10 t115 t116 t117 w _ ?side1 ?side2 A4.out) ?_; (case side1 => exact yU HI105.out NB105_101.out NB105_114.out); (case side2 => exact bq3 (zc HI105.out) GE101.out GE114.out); rintro e w63 ⟨rfl, hi, hb, hk⟩; refine ⟨_, rfl, ?_⟩; replace BK101 := ak (KeepBut.blk hk (g' := gb101) (o := .cells #[.string ⟨#[]⟩, .string ⟨#[]⟩, .slice none 0 0, .string ⟨#[]⟩] 26 (0, 0)) (blf1 BK101.out NB101_114.out) NB101_105.out (by simp)); replace HO110 := ak (Kd.R_mono (Kd.R_keep (IsS88.apart (show IsS88 w _ g105 t102 t112 t113 from yU HI105.out NB105_101.out NB105_114.out) (rfd HO110.out BK114.out) (by decide)) hk (fun _ h => h.2)) (fun _ h => h.1)); replace BK114 := ak (KeepBut.blk hk (g' := gb114) (o := .cells #[.string t106, .string t107, .slice Ao62 t108.length co62, .string t111] 26 (0, 0)) (blp0 BK114.out) NB114_105.out (by simp)); replace HB := ak (hb); replace HI105 := ak (hi); (try clear hb hk hi)))
     have n0_ := ak (Kd.R_drew HO110.out)
     have n1_ := ak (xe BK101.out)
     have n2_ := ak (xe BK114.out)
     have n3_ := ak (IsS88.drew HI105.out)
     have n4_ := ak (ye HB.out)
     clear HO110
     clear BK101
     clear BK114
     clear HI105
     clear HB
     have HO110 := n0_
     have BK101 := n1_
     have BK114 := n2_
     have HI105 := n3_
     have HB := n4_
     clear n0_ n1_ n2_ n3_ n4_
     refine start_ (n := 10) (S := fun w' => w'.cell? ⟨gb114, 0, none⟩ = some (.string t106) ∧ w'.cell? ⟨gb114, 1, none⟩ = some (.string t107) ∧ w'.cell? ⟨gb114, 2, none⟩ = some (.slice Ao62 t108.length co62) ∧ w'.cell? ⟨gb114, 3, none⟩ = some (.string t111)) (ds := [9]) (Array.replicate 10 false) (by kernel_rfl) rfl rfl ⟨(zg BK114.out 0).trans rfl, (zg BK114.out 1).trans rfl, (zg BK114.out 2).trans rfl, (zg BK114.out 3).trans rfl⟩ (fun hHeld => ?_); refine xm zo.tab11 zo.bits11 (fun HT_ HW_ => ?_)
     generalize w63.drew = w64 at HO110 BK101 BK114 HI105 HB hHeld ⊢
     refine pu 0 27 HT_ ?_
     refine pu 2 29 HT_ ?_
     refine tk 1 28 HT_ HW_ hHeld ?_ (hy := by rintro w' ⟨s0, s1, s2, s3⟩; go_simp; with_reducible rfl)
     refine on1 3 30 HT_ (fun K hK => ?_)
     refine Kd.R_lit_step Kd.string _ 9 ?hg (N := 30) ?hd (xs := ([(⟨#[99, 111, 110, 116, 101, 110, 116, 45, 108, 101, 110, 103, 116, 104]⟩ : ByteArray), (⟨#[116, 114, 97, 110, 115, 102, 101, 114, 45, 101, 110, 99, 111, 100, 105, 110, 103]⟩ : ByteArray)] : List ByteArray)) (inner := [.string ⟨#[99, 111, 110, 116, 101, 110, 116, 45, 108, 101, 110, 103, 116, 104]⟩, .string ⟨#[116, 114, 97, 110, 115, 102, 101, 114, 45, 101, 110, 99, 111, 100, 105, 110, 103]⟩]) (ok := fun _ => True) (okp := fun _ => True) ?hr ?hp (fun _ hk => hk) trivial (Below.refl _ _) (Nat.le_refl _) (by simp) ?_; (case hd => rfl); (case hg => rfl); (case hr => first | (go_simp; done) | (go_simp; rfl)); (case hp => exact (yl0 (show Kd.M Kd.string _ _ _ (⟨#[99, 111, 110, 116, 101, 110, 116, 45, 108, 101, 110, 103, 116, 104]⟩ : ByteArray) [.string ⟨#[99, 111, 110, 116, 101, 110, 116, 45, 108, 101, 110, 103, 116, 104]⟩] from rfl) (yl0 (show Kd.M Kd.string _ _ _ (⟨#[116, 114, 97, 110, 115, 102, 101, 114, 45, 101, 110, 99, 111, 100, 105, 110, 103]⟩ : ByteArray) [.string ⟨#[116, 114, 97, 110, 115, 102, 101, 114, 45, 101, 110, 99, 111, 100, 105, 110, 103]⟩] from rfl) (Reps.none _ _))))
     intro v130 w65 ho66 hb hg_ hnew_
     clear hg_ hnew_
     (first | rw [← Ny129.out] at ho66 | (simp only [Int.reduceToNat] at ho66; rw [← Ny129.out] at ho66))
     have n0_ := ak (Kd.R_below (rdq HO110.out) hb)
     have n1_ := ak (Kd.R_lower ho66 (zd (bq3 (zc HI105.out) GE101.out GE114.out)))
     have n2_ := ak (ze (blq BK101.out) hb)
     have n3_ := ak (IsS88.below (yU HI105.out NB105_101.out NB105_114.out) hb)
     have n4_ := ak (ze (blq BK114.out) hb)
     have n5_ := ak (zb (bq3 (zc HI105.out) GE101.out GE114.out) hb)
     clear HO110
     clear BK101
     clear HI105
     clear BK114
     clear HB
     have HO110 := n0_
     have HO131 := n1_
     have BK101 := n2_
     have HI105 := n3_
     have BK114 := n4_
     have HB := n5_
     clear n0_ n1_ n2_ n3_ n4_ n5_
     clear hb ho66
     obtain ⟨Ao67, co67, eo67⟩ := Kd.R_slice HO131.out
     (first | subst eo67 | (injection eo67 with f1_ f2_ f3_; have f4_ := f1_.symm; have f5_ := f3_.symm; clear f1_ f2_ f3_; subst f4_; subst f5_))
     refine hK.out _ _ ⟨(zg BK114.out 0).trans rfl, (zg BK114.out 1).trans rfl, (zg BK114.out 2).trans rfl, (zg BK114.out 3).trans rfl⟩ (fun hHeld => ?_)
     clear hK K
     refine nrm 30 ?_
     refine on1 4 31 HT_ (fun K hK => ?_)
     refine goes_ Tryz.func41 (by kernel_rfl) rfl #[.pointer (some ⟨g105, 0, none⟩), .slice Ao67 y129.length co67] (by rfl) rfl rfl am ?_
     with_reducible refine (zB.calls g105 t102 t116 t117 _ _ y129 t132 t133 t134 w _ ?side1 ?side2 ?side3 ?side4 ?side5 A53.out).mono ?_
     (case side1 => exact yU HI105.out NB105_101.out NB105_114.out)
     (case side2 => exact bq3 (zc HI105.out) GE101.out GE114.out)
     (case side3 => exact cq (Kd.R_reads' HO131.out).2.2)
     (case side4 => exact (Kd.R_reads' HO131.out).2.1)
     (case side5 => exact xD (yp HI105.out HO131.out (by decide)))
     rintro e w68 ⟨rfl, hi, hb, hk⟩
     refine ⟨_, rfl, ?_⟩
     have n0_ := ak (KeepBut.blk hk (blq BK101.out) NB101_105.out (by simp))
     have n1_ := ak (Kd.R_mono (Kd.R_keep (IsS88.apart (show IsS88 w _ g105 t102 t116 t117 from yU HI105.out NB105_101.out NB105_114.out) (rdq HO110.out) (by decide)) hk (fun _ h => h.2)) (fun _ h => h.1))
     have n2_ := ak (KeepBut.blk hk (blq BK114.out) NB114_105.out (by simp))
     have n3_ := ak (Kd.R_mono (Kd.R_keep (IsS88.apart (show IsS88 w _ g105 t102 t116 t117 from yU HI105.out NB105_101.out NB105_114.out) (rdq HO131.out) (by decide)) hk (fun _ h => h.2)) (fun _ h => h.1))
     have n4_ := ak (hb)
     have n5_ := ak (hi)
     clear BK101
     clear HO110
     clear BK114
     clear HO131
     clear HB
     clear HI105
     have BK101 := n0_
     have HO110 := n1_
     have BK114 := n2_
     have HO131 := n3_
     have HB := n4_
     have HI105 := n5_
     clear n0_ n1_ n2_ n3_ n4_ n5_
     (try clear hb)
     (try clear hb2)
     (try clear hk)
     (try clear hi)
     refine hK.out _ _ ⟨(zg BK114.out 0).trans rfl, (zg BK114.out 1).trans rfl, (zg BK114.out 2).trans rfl, (zg BK114.out 3).trans rfl⟩ (fun hHeld => ?_)
     clear hK K
     refine nrm 31 ?_
     refine pu 5 32 HT_ ?_
     refine on1 6 33 HT_ (fun K hK => ?_)
     refine jl0 (w1 := ?_) (v := ?_) (by rfl) rfl ?_ ?_
     rotate_left 2
     ·go_simp
      constructor
      ·rfl
      ·rfl
     refine hK.out _ _ ⟨(zg (xY BK114.out _) 0).trans rfl, (zg (xY BK114.out _) 1).trans rfl, (zg (xY BK114.out _) 2).trans rfl, (zg (xY BK114.out _) 3).trans rfl⟩ (fun hHeld => ?_)
     clear hK K
     refine nrm 33 ?_
     refine on1 7 34 HT_ (fun K hK => ?_)
     refine Kd.R_append_step k55 (w0 := w) w.heap.size (by rfl) (.tmp 28) (.tmp 33) 24 55 (.agg #[(.string ⟨#[]⟩), (.string ⟨#[]⟩)]) 32 rfl Tryz.underlying24 vM rfl (by decide) (by omega) (.slice Ao62 t108.length co62) t108 (⟨t132, (⟨#[53]⟩ : ByteArray)⟩ : S55) [.string t132, .string ⟨#[53]⟩] (fun _ => True) (fun _ => False) rfl rfl ?aP (fun _ hk => hk.elim) ?aF ?aO ?aB ?aS ?aL ?_
     (case aP => exact jA _ _ _ (⟨t132, (⟨#[53]⟩ : ByteArray)⟩ : S55))
     (case aB => exact (bq3 (zc HI105.out) GE101.out GE114.out))
     (case aF => exact (fun _ _ => trivial))
     (case aO => exact (rdq HO110.out))
     (case aS => exact (zd (bq3 (zc HI105.out) GE101.out GE114.out)))
     (case aL => have := LMc54.out; omega)
     intro v136 w69 ho hb hg hat
     rw [← Ny135.out] at ho
     have n0_ := ak (jG (blq BK101.out) hg (Kd.R_ne HO110.out BK101.out (by decide)))
     have n1_ := ak (IsS88.grown (yU HI105.out NB105_101.out NB105_114.out) hg (yp HI105.out HO110.out (by decide)))
     have n2_ := ak (jG (blq BK114.out) hg (Kd.R_ne HO110.out BK114.out (by decide)))
     have n3_ := ak (Kd.R_over' (rdq HO131.out) (Kd.R_typed (rdq HO110.out)) (by decide) hg)
     have n4_ := ak (hb)
     have n5_ := ak (ho)
     clear BK101
     clear HI105
     clear BK114
     clear HO131
     clear HB
     clear HO110
     have BK101 := n0_
     have HI105 := n1_
     have BK114 := n2_
     have HO131 := n3_
     have HB := n4_
     have HO137 := n5_
     clear n0_ n1_ n2_ n3_ n4_ n5_
     clear ho hb hg hat
     obtain ⟨Ao70, co70, eo70⟩ := Kd.R_slice HO137.out
     (first | subst eo70 | (injection eo70 with f1_ f2_ f3_; have f4_ := f1_.symm; have f5_ := f3_.symm; clear f1_ f2_ f3_; subst f4_; subst f5_))
     refine hK.out _ _ ⟨(zg BK114.out 0).trans rfl, (zg BK114.out 1).trans rfl, (zg BK114.out 2).trans rfl, (zg BK114.out 3).trans rfl⟩ (fun hHeld => ?_)
     clear hK K
     refine nrm 34 ?_
     refine pu 8 35 HT_ ?_
     refine last_ (i := 9) (N := none) #[true, true, true, true, true, true, true, true, true, true] rfl rfl (vz0 HT_.out (by kernel_rfl)) (by decide) (fun K hK => ?_)
     have hs71 : w69.cell? ⟨gb114, 2, none⟩ = some (.slice Ao62 t108.length co62) := (zg BK114.out 2).trans rfl
     have hfs71 := yS BK114.out 2
     have hns71_0 := NB101_114.out
     have hms71_0 := NB114_101.out
     refine skip_ (w1 := ?_) (by rfl) rfl ?_ ?_
     rotate_left
     ·go_simp
      rfl
     refine hK.out _ _ ?_
     clear hK K
     refine done_ (xV HT_.out (by kernel_rfl)) ?_
     obtain ⟨hcz72_0, hcz72_1, hcz72_2, hcz72_3, hfz72_0, hfz72_1, hfz72_2, hfz72_3⟩ := blk4 BK114.out
     have hnb73 := NB101_105.out
     have hnc73 := NB105_101.out
     obtain ⟨hcz74_0, hcz74_1, hcz74_2, hcz74_3, hfz74_0, hfz74_1, hfz74_2, hfz74_3⟩ := blk4 BK101.out
     try go_wp2
     refine bodyPost_ret (results_cell_row rfl _ _ gb101 26 #[.string t106, .string t107, .slice Ao70 y135.length co70, .string t111] (0, 0) _ rfl (blp1 BK101.out NB101_114.out) Tryz.underlying26 rfl (by kernel_rfl)) rfl ?_
     exact ⟨_, rv, by (with_reducible repeat (first | apply Kd.R_alloc | apply Kd.R_drewN | apply Kd.R_drew)); exact Kd.R_mono (Kd.R_far (p := ⟨gb101, 3, none⟩) (Kd.R_far (p := ⟨gb101, 2, none⟩) (Kd.R_far (p := ⟨gb101, 1, none⟩) (Kd.R_far (p := ⟨gb101, 0, none⟩) (Kd.R_far (p := ⟨gb114, 2, none⟩) (Kd.R_types (Kd.R_types HO137.out BK114.out (by decide)) BK101.out (by decide)) (fun _ hk => hk.1.2) (.slice Ao70 y135.length co70)) (fun _ hk => hk.2) (.string t106)) (fun _ hk => hk.2) (.string t107)) (fun _ hk => hk.2) (.slice Ao70 y135.length co70)) (fun _ hk => hk.2) (.string t111)) (fun _ hk => trivial), bq3 (zc HI105.out) GE101.out GE114.out⟩
    ·replace H := se H
     rcases H with ⟨c75b0, c75b1, H⟩ | ⟨c75, c75b0, c75b1, H⟩
     ·have H' := ak H
      clear H
      go_enter Tryz.func17, Tryz.ntmps17
      go_wp2_with (first | ((with_reducible refine zl (N := 2) rfl ?_); refine bx 2 #[.string ⟨#[]⟩, .string ⟨#[]⟩, .slice none 0 0, .string ⟨#[]⟩] 26 ?_; intro gb101 hg w76 hbox hb; have BK101 := ak (hbox); have GW101 := ak ((by rw [hg]; exact (zd bq) : w.heap.size ≤ gb101)); have GE101 := GW101; replace HB := ak (zb bq hb); clear hb hbox hg) | ((with_reducible refine za (f := 35) rfl ?_); refine cl 6 rfl Tryz.func35 #[.slice A0 l0.length c0] (yc.calls k _ _ l0 t102 t103 t104 w _ ?side1 ?side2 ?side3 A2.out) ?_; (case side1 => exact bq1 GE101.out); (case side2 => exact HR0.out); (case side3 => exact HC0.out); rintro e w77 ⟨g105, rfl, hi, hb, hb2⟩; refine ⟨_, rfl, ?_⟩; have HI105 := ak (hi); have NB105_101 := ak (xR hi (ze (blq BK101.out) hb2) (by decide)); have NB101_105 := ak NB105_101.out.symm; replace BK101 := ak (ze (blq BK101.out) hb2); replace HB := ak (hb); (try clear hb hb2 hi)) | ((with_reducible refine za (f := 36) rfl ?_); refine cl 8 rfl Tryz.func36 #[.pointer (some ⟨g105, 0, none⟩)] (zt.calls k g105 t102 t103 t104 t106 t107 t108 t111 t112 t113 w _ ?side1 ?side2 A3.out) ?_; (case side1 => exact zS HI105.out NB105_101.out); (case side2 => exact bq2 (zc HI105.out) GE101.out); rintro e w78 ⟨v109, rfl, ho0, hi, hb, hk⟩; refine ⟨_, rfl, ?_⟩; have HO110 := ak (Kd.R_lower ho0 (zd (bq2 (zc HI105.out) GE101.out))); replace BK101 := ak (KeepBut.blk hk (blq BK101.out) NB101_105.out (by simp)); replace HB := ak (hb); replace HI105 := ak (hi); (try clear hb hk hi ho0)) | ((with_reducible refine zl (N := 4) rfl ?_); refine bx 4 #[.string ⟨#[]⟩, .string ⟨#[]⟩, .slice none 0 0, .string ⟨#[]⟩] 26 ?_; intro gb114 hg w79 hbox hb; have BK114 := ak (hbox); have GW114 := ak ((by rw [hg]; exact (zd (bq2 (zc HI105.out) GE101.out)) : w.heap.size ≤ gb114)); have GE114 := GW114; have NB101_114 := ak ((by rw [hg]; exact Nat.ne_of_lt (xn (blq BK101.out)) : gb101 ≠ gb114)); have NB114_101 := ak NB101_114.out.symm; have NB105_114 := ak ((by rw [hg]; exact Nat.ne_of_lt (xE (show IsS88 w _ g105 t102 t112 t113 from zS HI105.out NB105_101.out)) : g105 ≠ gb114)); have NB114_105 := ak NB105_114.out.symm; replace HO110 := ak (Kd.R_below (rdq HO110.out) hb); replace BK101 := ak (ze (blq BK101.out) hb); replace HB := ak (zb (bq2 (zc HI105.out) GE101.out) hb); replace HI105 := ak (IsS88.below (zS HI105.out NB105_101.out) hb); clear hb hbox hg; have hnb80 := NB114_101.out; have hnc80 := NB101_114.out; have hnb81 := NB114_105.out; have hnc81 := NB105_114.out; obtain ⟨hcz82_0, hcz82_1, hcz82_2, hcz82_3, hfz82_0, hfz82_1, hfz82_2, hfz82_3⟩ := blk4 BK114.out; obtain ⟨Ao83, co83, eo83⟩ := Kd.R_slice HO110.out; subst eo83) | ((with_reducible refine za (f := 38) rfl ?_); refine cl 10 rfl Tryz.func38 #[.pointer (some ⟨g105, 0, none⟩), .int .i64 10] (zp.calls g105 t102 t112 t113 10 t115 t116 t117 w _ ?side1 ?side2 A4.out) ?_; (case side1 => exact yU HI105.out NB105_101.out NB105_114.out); (case side2 => exact bq3 (zc HI105.out) GE101.out GE114.out); rintro e w84 ⟨rfl, hi, hb, hk⟩; refine ⟨_, rfl, ?_⟩; replace BK101 := ak (KeepBut.blk hk (g' := gb101) (o := .cells #[.string ⟨#[]⟩, .string ⟨#[]⟩, .slice none 0 0, .string ⟨#[]⟩] 26 (0, 0)) (blf1 BK101.out NB101_114.out) NB101_105.out (by simp)); replace HO110 := ak (Kd.R_mono (Kd.R_keep (IsS88.apart (show IsS88 w _ g105 t102 t112 t113 from yU HI105.out NB105_101.out NB105_114.out) (rfd HO110.out BK114.out) (by decide)) hk (fun _ h => h.2)) (fun _ h => h.1)); replace BK114 := ak (KeepBut.blk hk (g' := gb114) (o := .cells #[.string t106, .string t107, .slice Ao83 t108.length co83, .string t111] 26 (0, 0)) (blp0 BK114.out) NB114_105.out (by simp)); replace HB := ak (hb); replace HI105 := ak (hi); (try clear hb hk hi)))
      go_loopg [] k (fun kq w' => ∃ (x106001_1 : Int) (x106002_1 : Int) (x115003_1 : ByteArray), Aside0 (zo.l0 kq t102 x106001_1 x106002_1 t106 t107 t108 x115003_1 = some (r1, r2, r3, r4)) ∧ Aside0 (kq ≤ k) ∧ Aside0 (Kd.R k55 55 w' w.heap.size (fun _ => True) (.slice Ao83 t108.length co83) t108) ∧ Aside0 (w'.heap[gb101]? = some (.cells #[.string ⟨#[]⟩, .string ⟨#[]⟩, (.slice none 0 0), .string ⟨#[]⟩] 26 (0, 0))) ∧ Aside0 (w'.heap[gb114]? = some (.cells #[.string t106, .string t107, (.slice Ao83 t108.length co83), .string x115003_1] 26 (0, 0))) ∧ Aside0 (IsS88 w w' g105 t102 x106001_1 x106002_1) ∧ Aside0 (Below w.heap.size w w'))
      case atStart => exact ⟨(t116), (t117), (t111), H', ⟨Nat.le_refl _⟩, ⟨rdq HO110.out⟩, ⟨blq BK101.out⟩, ⟨blq BK114.out⟩, ⟨yU HI105.out NB105_101.out NB105_114.out⟩, ⟨bq3 (zc HI105.out) GE101.out GE114.out⟩⟩
      case round =>
       clear H'
       try clear hcz13_0 hcz13_1 hcz13_2 hcz13_3 hfz13_0 hfz13_1 hfz13_2 hfz13_3
       try clear hcz20_0 hcz20_1 hcz20_2 hcz20_3 hfz20_0 hfz20_1 hfz20_2 hfz20_3
       try clear hcz22_0 hcz22_1 hcz22_2 hcz22_3 hfz22_0 hfz22_1 hfz22_2 hfz22_3
       try clear hcz30_0 hcz30_1 hcz30_2 hcz30_3 hfz30_0 hfz30_1 hfz30_2 hfz30_3
       try clear hcz33_0 hcz33_1 hcz33_2 hcz33_3 hfz33_0 hfz33_1 hfz33_2 hfz33_3
       try clear hcz35_0 hcz35_1 hcz35_2 hcz35_3 hfz35_0 hfz35_1 hfz35_2 hfz35_3
       try clear hcz44_0 hcz44_1 hcz44_2 hcz44_3 hfz44_0 hfz44_1 hfz44_2 hfz44_3
       try clear hcz49_0 hcz49_1 hcz49_2 hcz49_3 hfz49_0 hfz49_1 hfz49_2 hfz49_3
       try clear hcz51_0 hcz51_1 hcz51_2 hcz51_3 hfz51_0 hfz51_1 hfz51_2 hfz51_3
       try clear hcz61_0 hcz61_1 hcz61_2 hcz61_3 hfz61_0 hfz61_1 hfz61_2 hfz61_3
       try clear hcz72_0 hcz72_1 hcz72_2 hcz72_3 hfz72_0 hfz72_1 hfz72_2 hfz72_3
       try clear hcz74_0 hcz74_1 hcz74_2 hcz74_3 hfz74_0 hfz74_1 hfz74_2 hfz74_3
       try clear hcz82_0 hcz82_1 hcz82_2 hcz82_3 hfz82_0 hfz82_1 hfz82_2 hfz82_3
       obtain ⟨x106001_1, x106002_1, x115003_1, HA, HK1, HO_115002, BK101, BK114, HI105, HB⟩ := hrel
       cases gk with
       | zero => exact absurd HA.out (by simp [zo.l0])
       | succ k1 =>
        have H := HA.out
        clear HA
        simp only [zo.l0] at H
        replace H := ob H
        obtain ⟨⟨t138, t139, t140⟩, A85, H⟩ := H
        try dsimp only at H
        replace H := sd H
        rcases H with ⟨c86b0, H⟩ | ⟨c86b0, H⟩
        ·replace H := sK H
         obtain ⟨c87, c87b0, c87b1, H⟩ := H
         have H' := ak H
         clear H
         try go_wp2
         have n0_ := ak (Kd.R_drew HO_115002.out)
         have n1_ := ak (xe BK101.out)
         have n2_ := ak (xe BK114.out)
         have n3_ := ak (IsS88.drew HI105.out)
         have n4_ := ak (ye HB.out)
         clear HO_115002
         clear BK101
         clear BK114
         clear HI105
         clear HB
         have HO_115002 := n0_
         have BK101 := n1_
         have BK114 := n2_
         have HI105 := n3_
         have HB := n4_
         clear n0_ n1_ n2_ n3_ n4_
         refine start_ (n := 7) (S := fun w' => w'.cell? ⟨gb114, 0, none⟩ = some (.string t106) ∧ w'.cell? ⟨gb114, 1, none⟩ = some (.string t107) ∧ w'.cell? ⟨gb114, 2, none⟩ = some (.slice Ao83 t108.length co83) ∧ w'.cell? ⟨gb114, 3, none⟩ = some (.string x115003_1)) (ds := []) (Array.replicate 7 false) (by kernel_rfl) rfl rfl ⟨(zg BK114.out 0).trans rfl, (zg BK114.out 1).trans rfl, (zg BK114.out 2).trans rfl, (zg BK114.out 3).trans rfl⟩ (fun hHeld => ?_)
         generalize wr.drew = w88 at HO_115002 BK101 BK114 HI105 HB hHeld ⊢
         refine pure_ (i := 0) (N := some 38) (v := ?_) (a' := ?_) #[true, false, false, false, false, false, false] rfl rfl (by kernel_rfl) (fun _ _ _ h => h) (Or.inl ⟨by rfl, ?_⟩) ?_ ?_
         rotate_left
         ·intro w'
          go_simp
          with_reducible rfl
         rotate_left
         ·simp only [Act.put, List.setIfInBounds_toArray, List.set_cons_zero, List.set_cons_succ, i64_w, i32_w]
          rfl
         refine pure_ (i := 3) (N := some 41) (v := ?_) (a' := ?_) #[true, false, false, true, false, false, false] rfl rfl (by kernel_rfl) (fun _ _ _ h => h) (Or.inl ⟨by rfl, ?_⟩) ?_ ?_
         rotate_left
         ·intro w'
          go_simp
          with_reducible rfl
         rotate_left
         ·simp only [Act.put, List.setIfInBounds_toArray, List.set_cons_zero, List.set_cons_succ, i64_w, i32_w]
          rfl
         refine take_ (i := 1) (N := some 39) (v := ?_) (a' := ?_) #[true, true, false, true, false, false, false] rfl rfl (by kernel_rfl) (fun _ _ _ h => h) (Or.inl ⟨by rfl, ?_⟩) hHeld ?_ ?_
         rotate_left
         ·rintro w' ⟨s0, s1, s2, s3⟩
          go_simp
          with_reducible rfl
         rotate_left
         ·simp only [Act.put, List.setIfInBounds_toArray, List.set_cons_zero, List.set_cons_succ, i64_w, i32_w]
          rfl
         refine pure_ (i := 2) (N := some 40) (v := ?_) (a' := ?_) #[true, true, true, true, false, false, false] rfl rfl (by kernel_rfl) (fun _ _ _ h => h) (Or.inl ⟨by rfl, ?_⟩) ?_ ?_
         rotate_left
         ·intro w'
          go_simp
          with_reducible rfl
         rotate_left
         ·simp only [Act.put, List.setIfInBounds_toArray, List.set_cons_zero, List.set_cons_succ, i64_w, i32_w]
          rfl
         refine one_ (i := 4) (N := some 42) #[true, true, true, true, true, false, false] rfl rfl (by kernel_rfl) (by decide) (fun K hK => ?_)
         refine goes_ Tryz.func38 (by kernel_rfl) rfl #[.pointer (some ⟨g105, 0, none⟩), .int .i64 2] (by rfl) rfl rfl am ?_
         with_reducible refine (zp.calls g105 t102 x106001_1 x106002_1 2 t138 t139 t140 w _ ?side1 ?side2 A85.out).mono ?_
         (case side1 => exact yU HI105.out NB105_101.out NB105_114.out)
         (case side2 => exact bq3 (zc HI105.out) GE101.out GE114.out)
         rintro e w89 ⟨rfl, hi, hb, hk⟩
         refine ⟨_, rfl, ?_⟩
         have n0_ := ak (Kd.R_mono (Kd.R_keep (IsS88.apart (show IsS88 w _ g105 t102 x106001_1 x106002_1 from yU HI105.out NB105_101.out NB105_114.out) (rdq HO_115002.out) (by decide)) hk (fun _ h => h.2)) (fun _ h => h.1))
         have n1_ := ak (KeepBut.blk hk (blq BK101.out) NB101_105.out (by simp))
         have n2_ := ak (KeepBut.blk hk (blq BK114.out) NB114_105.out (by simp))
         have n3_ := ak (hb)
         have n4_ := ak (hi)
         clear HO_115002
         clear BK101
         clear BK114
         clear HB
         clear HI105
         have HO_115002 := n0_
         have BK101 := n1_
         have BK114 := n2_
         have HB := n3_
         have HI105 := n4_
         clear n0_ n1_ n2_ n3_ n4_
         (try clear hb)
         (try clear hb2)
         (try clear hk)
         (try clear hi)
         refine hK.out _ _ ⟨(zg BK114.out 0).trans rfl, (zg BK114.out 1).trans rfl, (zg BK114.out 2).trans rfl, (zg BK114.out 3).trans rfl⟩ (fun hHeld => ?_)
         clear hK K
         refine nrm 42 ?_
         refine pure_ (i := 5) (N := some 43) (v := ?_) (a' := ?_) #[true, true, true, true, true, true, false] rfl rfl (by kernel_rfl) (fun _ _ _ h => h) (Or.inl ⟨by rfl, ?_⟩) ?_ ?_
         rotate_left
         ·intro w'
          go_simp
          with_reducible rfl
         rotate_left
         ·simp only [Act.put, List.setIfInBounds_toArray, List.set_cons_zero, List.set_cons_succ, i64_w, i32_w]
          rfl
         refine pure_ (i := 6) (N := some 44) (v := ?_) (a' := ?_) #[true, true, true, true, true, true, true] rfl rfl (by kernel_rfl) (fun _ _ _ h => h) (Or.inl ⟨by rfl, ?_⟩) ?_ ?_
         rotate_left
         ·intro w'
          go_simp
          with_reducible rfl
         rotate_left
         ·simp only [Act.put, List.setIfInBounds_toArray, List.set_cons_zero, List.set_cons_succ, i64_w, i32_w]
          rfl
         refine done_ (by kernel_rfl) ?_
         have hnb90 := NB114_101.out
         have hnc90 := NB101_114.out
         have hnb91 := NB114_105.out
         have hnc91 := NB105_114.out
         obtain ⟨hcz92_0, hcz92_1, hcz92_2, hcz92_3, hfz92_0, hfz92_1, hfz92_2, hfz92_3⟩ := blk4 BK114.out
         try go_wp2
         go_roundg k1
         case measure => have := HK1.out; omega
         case rel => exact ⟨(t139), (t140), (x115003_1 ++ (⟨#[120]⟩ : ByteArray)), H', ⟨by have := HK1.out; omega⟩, ⟨by (with_reducible repeat (first | apply Kd.R_alloc | apply Kd.R_drewN | apply Kd.R_drew)); exact Kd.R_mono (Kd.R_far (p := ⟨gb114, 3, none⟩) (Kd.R_types HO_115002.out BK114.out (by decide)) (fun _ hk => hk.2) (.string (x115003_1 ++ (⟨#[120]⟩ : ByteArray)))) (fun _ hk => trivial)⟩, ⟨blf1 BK101.out NB101_114.out⟩, ⟨blp0 BK114.out⟩, ⟨yU HI105.out NB105_101.out NB105_114.out⟩, ⟨bq3 (zc HI105.out) GE101.out GE114.out⟩⟩
        ·obtain ⟨rfl, rfl, rfl, rfl⟩ := oi4 H
         try go_wp2
         have n0_ := ak (Kd.R_drew HO_115002.out)
         have n1_ := ak (xe BK101.out)
         have n2_ := ak (xe BK114.out)
         have n3_ := ak (IsS88.drew HI105.out)
         have n4_ := ak (ye HB.out)
         clear HO_115002
         clear BK101
         clear BK114
         clear HI105
         clear HB
         have HO_115002 := n0_
         have BK101 := n1_
         have BK114 := n2_
         have HI105 := n3_
         have HB := n4_
         clear n0_ n1_ n2_ n3_ n4_
         refine start_ (n := 7) (S := fun w' => w'.cell? ⟨gb114, 0, none⟩ = some (.string t106) ∧ w'.cell? ⟨gb114, 1, none⟩ = some (.string t107) ∧ w'.cell? ⟨gb114, 2, none⟩ = some (.slice Ao83 t108.length co83) ∧ w'.cell? ⟨gb114, 3, none⟩ = some (.string x115003_1)) (ds := []) (Array.replicate 7 false) (by kernel_rfl) rfl rfl ⟨(zg BK114.out 0).trans rfl, (zg BK114.out 1).trans rfl, (zg BK114.out 2).trans rfl, (zg BK114.out 3).trans rfl⟩ (fun hHeld => ?_)
         generalize wr.drew = w93 at HO_115002 BK101 BK114 HI105 HB hHeld ⊢
         refine pure_ (i := 0) (N := some 38) (v := ?_) (a' := ?_) #[true, false, false, false, false, false, false] rfl rfl (by kernel_rfl) (fun _ _ _ h => h) (Or.inl ⟨by rfl, ?_⟩) ?_ ?_
         rotate_left
         ·intro w'
          go_simp
          with_reducible rfl
         rotate_left
         ·simp only [Act.put, List.setIfInBounds_toArray, List.set_cons_zero, List.set_cons_succ, i64_w, i32_w]
          rfl
         refine pure_ (i := 3) (N := some 41) (v := ?_) (a' := ?_) #[true, false, false, true, false, false, false] rfl rfl (by kernel_rfl) (fun _ _ _ h => h) (Or.inl ⟨by rfl, ?_⟩) ?_ ?_
         rotate_left
         ·intro w'
          go_simp
          with_reducible rfl
         rotate_left
         ·simp only [Act.put, List.setIfInBounds_toArray, List.set_cons_zero, List.set_cons_succ, i64_w, i32_w]
          rfl
         refine take_ (i := 1) (N := some 39) (v := ?_) (a' := ?_) #[true, true, false, true, false, false, false] rfl rfl (by kernel_rfl) (fun _ _ _ h => h) (Or.inl ⟨by rfl, ?_⟩) hHeld ?_ ?_
         rotate_left
         ·rintro w' ⟨s0, s1, s2, s3⟩
          go_simp
          with_reducible rfl
         rotate_left
         ·simp only [Act.put, List.setIfInBounds_toArray, List.set_cons_zero, List.set_cons_succ, i64_w, i32_w]
          rfl
         refine pure_ (i := 2) (N := some 40) (v := ?_) (a' := ?_) #[true, true, true, true, false, false, false] rfl rfl (by kernel_rfl) (fun _ _ _ h => h) (Or.inl ⟨by rfl, ?_⟩) ?_ ?_
         rotate_left
         ·intro w'
          go_simp
          with_reducible rfl
         rotate_left
         ·simp only [Act.put, List.setIfInBounds_toArray, List.set_cons_zero, List.set_cons_succ, i64_w, i32_w]
          rfl
         refine one_ (i := 4) (N := some 42) #[true, true, true, true, true, false, false] rfl rfl (by kernel_rfl) (by decide) (fun K hK => ?_)
         refine goes_ Tryz.func38 (by kernel_rfl) rfl #[.pointer (some ⟨g105, 0, none⟩), .int .i64 2] (by rfl) rfl rfl am ?_
         with_reducible refine (zp.calls g105 t102 x106001_1 x106002_1 2 t138 t139 t140 w _ ?side1 ?side2 A85.out).mono ?_
         (case side1 => exact yU HI105.out NB105_101.out NB105_114.out)
         (case side2 => exact bq3 (zc HI105.out) GE101.out GE114.out)
         rintro e w94 ⟨rfl, hi, hb, hk⟩
         refine ⟨_, rfl, ?_⟩
         have n0_ := ak (Kd.R_mono (Kd.R_keep (IsS88.apart (show IsS88 w _ g105 t102 x106001_1 x106002_1 from yU HI105.out NB105_101.out NB105_114.out) (rdq HO_115002.out) (by decide)) hk (fun _ h => h.2)) (fun _ h => h.1))
         have n1_ := ak (KeepBut.blk hk (blq BK101.out) NB101_105.out (by simp))
         have n2_ := ak (KeepBut.blk hk (blq BK114.out) NB114_105.out (by simp))
         have n3_ := ak (hb)
         have n4_ := ak (hi)
         clear HO_115002
         clear BK101
         clear BK114
         clear HB
         clear HI105
         have HO_115002 := n0_
         have BK101 := n1_
         have BK114 := n2_
         have HB := n3_
         have HI105 := n4_
         clear n0_ n1_ n2_ n3_ n4_
         (try clear hb)
         (try clear hb2)
         (try clear hk)
         (try clear hi)
         refine hK.out _ _ ⟨(zg BK114.out 0).trans rfl, (zg BK114.out 1).trans rfl, (zg BK114.out 2).trans rfl, (zg BK114.out 3).trans rfl⟩ (fun hHeld => ?_)
         clear hK K
         refine nrm 42 ?_
         refine pure_ (i := 5) (N := some 43) (v := ?_) (a' := ?_) #[true, true, true, true, true, true, false] rfl rfl (by kernel_rfl) (fun _ _ _ h => h) (Or.inl ⟨by rfl, ?_⟩) ?_ ?_
         rotate_left
         ·intro w'
          go_simp
          with_reducible rfl
         rotate_left
         ·simp only [Act.put, List.setIfInBounds_toArray, List.set_cons_zero, List.set_cons_succ, i64_w, i32_w]
          rfl
         refine pure_ (i := 6) (N := some 44) (v := ?_) (a' := ?_) #[true, true, true, true, true, true, true] rfl rfl (by kernel_rfl) (fun _ _ _ h => h) (Or.inl ⟨by rfl, ?_⟩) ?_ ?_
         rotate_left
         ·intro w'
          go_simp
          with_reducible rfl
         rotate_left
         ·simp only [Act.put, List.setIfInBounds_toArray, List.set_cons_zero, List.set_cons_succ, i64_w, i32_w]
          rfl
         refine done_ (by kernel_rfl) ?_
         have hnb95 := NB114_101.out
         have hnc95 := NB101_114.out
         have hnb96 := NB114_105.out
         have hnc96 := NB105_114.out
         obtain ⟨hcz97_0, hcz97_1, hcz97_2, hcz97_3, hfz97_0, hfz97_1, hfz97_2, hfz97_3⟩ := blk4 BK114.out
         have hnb98 := NB101_105.out
         have hnc98 := NB105_101.out
         obtain ⟨hcz99_0, hcz99_1, hcz99_2, hcz99_3, hfz99_0, hfz99_1, hfz99_2, hfz99_3⟩ := blk4 BK101.out
         try go_wp2
         refine bodyPost_ret (results_cell_row rfl _ _ gb101 26 #[.string t106, .string t107, .slice Ao83 t108.length co83, .string x115003_1] (0, 0) _ rfl (blp0 BK101.out) Tryz.underlying26 rfl (by kernel_rfl)) rfl ?_
         exact ⟨_, rv, by (with_reducible repeat (first | apply Kd.R_alloc | apply Kd.R_drewN | apply Kd.R_drew)); exact Kd.R_mono (Kd.R_far (p := ⟨gb101, 3, none⟩) (Kd.R_far (p := ⟨gb101, 2, none⟩) (Kd.R_far (p := ⟨gb101, 1, none⟩) (Kd.R_far (p := ⟨gb101, 0, none⟩) (Kd.R_types HO_115002.out BK101.out (by decide)) (fun _ hk => hk.2) (.string t106)) (fun _ hk => hk.2) (.string t107)) (fun _ hk => hk.2) (.slice Ao83 t108.length co83)) (fun _ hk => hk.2) (.string x115003_1)) (fun _ hk => trivial), bq3 (zc HI105.out) GE101.out GE114.out⟩
     ·obtain ⟨rfl, rfl, rfl, rfl⟩ := oi4 H
      go_enter Tryz.func17, Tryz.ntmps17
      go_wp2_with (first | ((with_reducible refine zl (N := 2) rfl ?_); refine bx 2 #[.string ⟨#[]⟩, .string ⟨#[]⟩, .slice none 0 0, .string ⟨#[]⟩] 26 ?_; intro gb101 hg w100 hbox hb; have BK101 := ak (hbox); have GW101 := ak ((by rw [hg]; exact (zd bq) : w.heap.size ≤ gb101)); have GE101 := GW101; replace HB := ak (zb bq hb); clear hb hbox hg) | ((with_reducible refine za (f := 35) rfl ?_); refine cl 6 rfl Tryz.func35 #[.slice A0 l0.length c0] (yc.calls k _ _ l0 t102 t103 t104 w _ ?side1 ?side2 ?side3 A2.out) ?_; (case side1 => exact bq1 GE101.out); (case side2 => exact HR0.out); (case side3 => exact HC0.out); rintro e w101 ⟨g105, rfl, hi, hb, hb2⟩; refine ⟨_, rfl, ?_⟩; have HI105 := ak (hi); have NB105_101 := ak (xR hi (ze (blq BK101.out) hb2) (by decide)); have NB101_105 := ak NB105_101.out.symm; replace BK101 := ak (ze (blq BK101.out) hb2); replace HB := ak (hb); (try clear hb hb2 hi)) | ((with_reducible refine za (f := 36) rfl ?_); refine cl 8 rfl Tryz.func36 #[.pointer (some ⟨g105, 0, none⟩)] (zt.calls k g105 t102 t103 t104 t106 t107 t108 t111 t112 t113 w _ ?side1 ?side2 A3.out) ?_; (case side1 => exact zS HI105.out NB105_101.out); (case side2 => exact bq2 (zc HI105.out) GE101.out); rintro e w102 ⟨v109, rfl, ho0, hi, hb, hk⟩; refine ⟨_, rfl, ?_⟩; have HO110 := ak (Kd.R_lower ho0 (zd (bq2 (zc HI105.out) GE101.out))); replace BK101 := ak (KeepBut.blk hk (blq BK101.out) NB101_105.out (by simp)); replace HB := ak (hb); replace HI105 := ak (hi); (try clear hb hk hi ho0)) | ((with_reducible refine zl (N := 4) rfl ?_); refine bx 4 #[.string ⟨#[]⟩, .string ⟨#[]⟩, .slice none 0 0, .string ⟨#[]⟩] 26 ?_; intro gb114 hg w103 hbox hb; have BK114 := ak (hbox); have GW114 := ak ((by rw [hg]; exact (zd (bq2 (zc HI105.out) GE101.out)) : w.heap.size ≤ gb114)); have GE114 := GW114; have NB101_114 := ak ((by rw [hg]; exact Nat.ne_of_lt (xn (blq BK101.out)) : gb101 ≠ gb114)); have NB114_101 := ak NB101_114.out.symm; have NB105_114 := ak ((by rw [hg]; exact Nat.ne_of_lt (xE (show IsS88 w _ g105 t102 t112 t113 from zS HI105.out NB105_101.out)) : g105 ≠ gb114)); have NB114_105 := ak NB105_114.out.symm; replace HO110 := ak (Kd.R_below (rdq HO110.out) hb); replace BK101 := ak (ze (blq BK101.out) hb); replace HB := ak (zb (bq2 (zc HI105.out) GE101.out) hb); replace HI105 := ak (IsS88.below (zS HI105.out NB105_101.out) hb); clear hb hbox hg; have hnb104 := NB114_101.out; have hnc104 := NB101_114.out; have hnb105 := NB114_105.out; have hnc105 := NB105_114.out; obtain ⟨hcz106_0, hcz106_1, hcz106_2, hcz106_3, hfz106_0, hfz106_1, hfz106_2, hfz106_3⟩ := blk4 BK114.out; obtain ⟨Ao107, co107, eo107⟩ := Kd.R_slice HO110.out; subst eo107) | ((with_reducible refine za (f := 38) rfl ?_); refine cl 10 rfl Tryz.func38 #[.pointer (some ⟨g105, 0, none⟩), .int .i64 10] (zp.calls g105 t102 t112 t113 10 t115 t116 t117 w _ ?side1 ?side2 A4.out) ?_; (case side1 => exact yU HI105.out NB105_101.out NB105_114.out); (case side2 => exact bq3 (zc HI105.out) GE101.out GE114.out); rintro e w108 ⟨rfl, hi, hb, hk⟩; refine ⟨_, rfl, ?_⟩; replace BK101 := ak (KeepBut.blk hk (g' := gb101) (o := .cells #[.string ⟨#[]⟩, .string ⟨#[]⟩, .slice none 0 0, .string ⟨#[]⟩] 26 (0, 0)) (blf1 BK101.out NB101_114.out) NB101_105.out (by simp)); replace HO110 := ak (Kd.R_mono (Kd.R_keep (IsS88.apart (show IsS88 w _ g105 t102 t112 t113 from yU HI105.out NB105_101.out NB105_114.out) (rfd HO110.out BK114.out) (by decide)) hk (fun _ h => h.2)) (fun _ h => h.1)); replace BK114 := ak (KeepBut.blk hk (g' := gb114) (o := .cells #[.string t106, .string t107, .slice Ao107 t108.length co107, .string t111] 26 (0, 0)) (blp0 BK114.out) NB114_105.out (by simp)); replace HB := ak (hb); replace HI105 := ak (hi); (try clear hb hk hi); obtain ⟨hcz109_0, hcz109_1, hcz109_2, hcz109_3, hfz109_0, hfz109_1, hfz109_2, hfz109_3⟩ := blk4 BK114.out; have hnb110 := NB101_105.out; have hnc110 := NB105_101.out; obtain ⟨hcz111_0, hcz111_1, hcz111_2, hcz111_3, hfz111_0, hfz111_1, hfz111_2, hfz111_3⟩ := blk4 BK101.out))
      refine bodyPost_ret (results_cell_row rfl _ _ gb101 26 #[.string t106, .string t107, .slice Ao107 t108.length co107, .string t111] (0, 0) _ rfl (blp0 BK101.out) Tryz.underlying26 rfl (by kernel_rfl)) rfl ?_
      exact ⟨_, rv, by (with_reducible repeat (first | apply Kd.R_alloc | apply Kd.R_drewN | apply Kd.R_drew)); exact Kd.R_mono (Kd.R_far (p := ⟨gb101, 3, none⟩) (Kd.R_far (p := ⟨gb101, 2, none⟩) (Kd.R_far (p := ⟨gb101, 1, none⟩) (Kd.R_far (p := ⟨gb101, 0, none⟩) (Kd.R_types HO110.out BK101.out (by decide)) (fun _ hk => hk.2) (.string t106)) (fun _ hk => hk.2) (.string t107)) (fun _ hk => hk.2) (.slice Ao107 t108.length co107)) (fun _ hk => hk.2) (.string t111)) (fun _ hk => trivial), bq3 (zc HI105.out) GE101.out GE114.out⟩
def yr.f (k : Nat) (l0 : List Int) : Option (ByteArray × ByteArray × (List (S55)) × ByteArray) := (zo.f k l0).bind fun bt102 => (some (bt102.1, bt102.2.1, bt102.2.2.1, bt102.2.2.2))
theorem yr.mono : ∀ a0 k, LeO (yr.f k a0) (yr.f (k + 1) a0) := by
 intro a0 k
 unfold yr.f
 exact mq1 zo.mono
theorem yr.calls (k : Nat) (A0 : Option Addr) (c0 : Nat) (l0 : List Int) (r1 : ByteArray) (r2 : ByteArray) (r3 : List (S55)) (r4 : ByteArray) (w : World) (hr0 : Kd.C (Kd.int .u8) w A0 l0.length l0) (hc0 : l0.length ≤ c0) (h : yr.f k l0 = some (r1, r2, r3, r4)) :
  Calls Tryz.prog 5 #[.slice A0 l0.length c0] w fun e w' => ∃ v2_ : Value, e = .returned (.agg #[.string r1, .string r2, v2_, .string r4]) ∧ Kd.R k55 55 w' w.heap.size (fun _ => True) v2_ r3 ∧ Below w.heap.size w w' := by
 have hu26 := Tryz.underlying26
 have HR0 := ak hr0
 have HC0 := ak hc0
 clear hr0 hc0
 have HB := ak (Below.refl w.heap.size w)
 have H := h
 unfold yr.f at H
 clear h
 replace H := ob H
 obtain ⟨⟨t102, t103, t104, t107⟩, A2, H⟩ := H
 try dsimp only at H
 obtain ⟨rfl, rfl, rfl, rfl⟩ := oi4 H
 go_enter Tryz.func5, Tryz.ntmps5
 go_wp2_with (first | ((with_reducible refine zl (N := 2) rfl ?_); refine bx 2 #[.string ⟨#[]⟩, .string ⟨#[]⟩, .slice none 0 0, .string ⟨#[]⟩] 26 ?_; intro gb101 hg w3 hbox hb; have BK101 := ak (hbox); have GW101 := ak ((by rw [hg]; exact (zd bq) : w.heap.size ≤ gb101)); have GE101 := GW101; replace HB := ak (zb bq hb); clear hb hbox hg) | ((with_reducible refine za (f := 17) rfl ?_); refine cl 4 rfl Tryz.func17 #[.slice A0 l0.length c0] (zo.calls k _ _ l0 t102 t103 t104 t107 _ ?side1 ?side2 A2.out) ?_; (case side1 => repeat (first | exact (Kd.C_below HR0.out HB.out) | (with_reducible refine Kd.C_alloc ?_ _) | (with_reducible refine Kd.C_drewN ?_ _) | (with_reducible refine Kd.C_drew ?_))); (case side2 => exact HC0.out); rintro e w4 ⟨v105, rfl, ho0, hb⟩; refine ⟨_, rfl, ?_⟩; have HO106 := ak (Kd.R_lower ho0 (zd (bq1 GE101.out))); replace BK101 := ak (ze (blq BK101.out) hb); replace HB := ak (zb (bq1 GE101.out) hb); (try clear hb ho0); obtain ⟨hcz5_0, hcz5_1, hcz5_2, hcz5_3, hfz5_0, hfz5_1, hfz5_2, hfz5_3⟩ := blk4 BK101.out; obtain ⟨Ao6, co6, eo6⟩ := Kd.R_slice HO106.out; subst eo6))
 refine bodyPost_ret (results_cell_row rfl _ _ gb101 26 #[.string t102, .string t103, .slice Ao6 t104.length co6, .string t107] (0, 0) _ rfl (blp0 BK101.out) Tryz.underlying26 rfl (by kernel_rfl)) rfl ?_
 exact ⟨_, rv, by (with_reducible repeat (first | apply Kd.R_alloc | apply Kd.R_drewN | apply Kd.R_drew)); exact Kd.R_mono (Kd.R_far (p := ⟨gb101, 3, none⟩) (Kd.R_far (p := ⟨gb101, 2, none⟩) (Kd.R_far (p := ⟨gb101, 1, none⟩) (Kd.R_far (p := ⟨gb101, 0, none⟩) (Kd.R_types HO106.out BK101.out (by decide)) (fun _ hk => hk.2) (.string t102)) (fun _ hk => hk.2) (.string t103)) (fun _ hk => hk.2) (.slice Ao6 t104.length co6)) (fun _ hk => hk.2) (.string t107)) (fun _ hk => trivial), bq1 GE101.out⟩
def yX.f (a0 : Int) : Option (Bool) := if a0 ≥ 97 then (if a0 ≤ 122 then (some true) else (if a0 ≥ 65 then (if a0 ≤ 90 then (some true) else (if a0 ≥ 48 then (some (decide (a0 ≤ 57))) else (some false))) else (if a0 ≥ 48 then (some (decide (a0 ≤ 57))) else (some false)))) else (if a0 ≥ 65 then (if a0 ≤ 90 then (some true) else (if a0 ≥ 48 then (some (decide (a0 ≤ 57))) else (some false))) else (if a0 ≥ 48 then (some (decide (a0 ≤ 57))) else (some false)))
theorem yX.calls (a0 : Int) (r : Bool) (w : World) (h : yX.f a0 = some r) :
  Calls Tryz.prog 73 #[.int .u8 a0] w fun e w' => e = .returned (.bool r) ∧ Drawn0 w w' := by
 have H := h
 unfold yX.f at H
 clear h
 replace H := sd H
 rcases H with ⟨c2b0, H⟩ | ⟨c2b0, H⟩
 ·replace H := sd H
  rcases H with ⟨c3b0, H⟩ | ⟨c3b0, H⟩
  ·obtain rfl := oi1 H
   go_enter Tryz.func73, Tryz.ntmps73
   go_wp2
   go_ret
   exact ⟨rt, dr⟩
  ·replace H := sd H
   rcases H with ⟨c4b0, H⟩ | ⟨c4b0, H⟩
   ·replace H := sd H
    rcases H with ⟨c5b0, H⟩ | ⟨c5b0, H⟩
    ·obtain rfl := oi1 H
     go_enter Tryz.func73, Tryz.ntmps73
     go_wp2
     go_ret
     exact ⟨rt, dr⟩
    ·replace H := sd H
     rcases H with ⟨c6b0, H⟩ | ⟨c6b0, H⟩
     ·obtain rfl := oi1 H
      go_enter Tryz.func73, Tryz.ntmps73
      go_wp2
      go_ret
      exact ⟨rt, dr⟩
     ·obtain rfl := oi1 H
      go_enter Tryz.func73, Tryz.ntmps73
      go_wp2
      go_ret
      exact ⟨rt, dr⟩
   ·replace H := sd H
    rcases H with ⟨c7b0, H⟩ | ⟨c7b0, H⟩
    ·obtain rfl := oi1 H
     go_enter Tryz.func73, Tryz.ntmps73
     go_wp2
     go_ret
     exact ⟨rt, dr⟩
    ·obtain rfl := oi1 H
     go_enter Tryz.func73, Tryz.ntmps73
     go_wp2
     go_ret
     exact ⟨rt, dr⟩
 ·replace H := sd H
  rcases H with ⟨c8b0, H⟩ | ⟨c8b0, H⟩
  ·replace H := sd H
   rcases H with ⟨c9b0, H⟩ | ⟨c9b0, H⟩
   ·obtain rfl := oi1 H
    go_enter Tryz.func73, Tryz.ntmps73
    go_wp2
    go_ret
    exact ⟨rt, dr⟩
   ·replace H := sd H
    rcases H with ⟨c10b0, H⟩ | ⟨c10b0, H⟩
    ·obtain rfl := oi1 H
     go_enter Tryz.func73, Tryz.ntmps73
     go_wp2
     go_ret
     exact ⟨rt, dr⟩
    ·obtain rfl := oi1 H
     go_enter Tryz.func73, Tryz.ntmps73
     go_wp2
     go_ret
     exact ⟨rt, dr⟩
  ·replace H := sd H
   rcases H with ⟨c11b0, H⟩ | ⟨c11b0, H⟩
   ·obtain rfl := oi1 H
    go_enter Tryz.func73, Tryz.ntmps73
    go_wp2
    go_ret
    exact ⟨rt, dr⟩
   ·obtain rfl := oi1 H
    go_enter Tryz.func73, Tryz.ntmps73
    go_wp2
    go_ret
    exact ⟨rt, dr⟩
def zu.l0 : Nat → ByteArray → Int → Int → Option (Bool)
 | 0, _, _, _ => none
 | k + 1, x0, x5, x6 => if x6 < x5 then (if 0 ≤ x6 then (if x6 < (x0.size : Int) then ((yX.f (bt x0 x6)).bind fun t101 => (if t101 = true then (zu.l0 k x0 x5 (wrap64 (x6 + 1))) else ((yV.f (⟨#[33, 35, 36, 37, 38, 39, 42, 43, 45, 46, 94, 95, 124, 126, 96]⟩ : ByteArray) (bt x0 x6)).bind fun t102 => (if t102 < 0 then (some false) else (zu.l0 k x0 x5 (wrap64 (x6 + 1))))))) else (none)) else (none)) else (some (x0.toList != ([] : List UInt8)))
def zu.f (k : Nat) (a0 : ByteArray) : Option (Bool) := zu.l0 k a0 (a0.size : Int) 0
theorem zu.mono_l : ∀ k, (∀ y0 y1 y2, LeO (zu.l0 k y0 y1 y2) (zu.l0 (k + 1) y0 y1 y2))
 | 0 => fun _ _ _ r h => by simp [zu.l0] at h
 | k + 1 => by
  have ih0 := zu.mono_l k
  ·intro y0 y1 y2
   unfold zu.l0
   exact mq1 ih0
theorem zu.mono : ∀ a0 k, LeO (zu.f k a0) (zu.f (k + 1) a0) := by
 intro a0 k
 have ih0 := zu.mono_l k
 unfold zu.f
 exact mq1 ih0
theorem zu.calls (k : Nat) (a0 : ByteArray) (r : Bool) (w : World) (h : zu.f k a0 = some r) :
  Calls Tryz.prog 43 #[.string a0] w fun e w' => e = .returned (.bool r) ∧ Drawn0 w w' := by
 have H : (zu.l0 k a0 (a0.size : Int) 0) = some r := h
 clear h
 have H' := ak H
 clear H
 go_enter Tryz.func43, Tryz.ntmps43
 go_wp2
 go_loopg [6] k (fun kq v6 w' => ∃ (x6_1 : Int), v6 = .int .i64 x6_1 ∧ Aside0 (zu.l0 kq a0 (a0.size : Int) x6_1 = some r) ∧ Aside0 (kq ≤ k) ∧ Drawn0 w w')
 case atStart => exact ⟨(0), rs, H', ⟨Nat.le_refl _⟩, by repeat (first | exact Drawn0.refl _ | apply yv)⟩
 case round =>
  clear H'
  obtain ⟨x6_1, rfl, HA, HK1, ⟨m1, rfl⟩⟩ := hrel
  cases gk with
  | zero => exact absurd HA.out (by simp [zu.l0])
  | succ k1 =>
   have H := HA.out
   clear HA
   simp only [zu.l0] at H
   replace H := sd H
   rcases H with ⟨c2b0, H⟩ | ⟨c2b0, H⟩
   ·replace H := sT H
    obtain ⟨c3, H⟩ := H
    have c3b0 := decide_eq_true c3
    clear c3
    replace H := sT H
    obtain ⟨c4, H⟩ := H
    have c4b0 := decide_eq_true c4
    clear c4
    replace H := ob H
    obtain ⟨t101, A6, H⟩ := H
    replace H := sb H
    rcases H with ⟨rfl, H⟩ | ⟨rfl, H⟩
    ·have H' := ak H
     clear H
     have p5 : 0 ≤ (x6_1 : Int) := of_decide_eq_true asm
     have q5 : x6_1 < (a0.size : Int) := of_decide_eq_true asm
     have hx5 := bt_at a0 x6_1
     replace p5 := eq_true p5
     replace q5 := eq_true q5
     go_wp2_with (first | ((with_reducible refine za (f := 73) rfl ?_); refine cl 12 rfl Tryz.func73 #[.int .u8 (bt a0 x6_1)] (yX.calls (bt a0 x6_1) true _ A6.out) ?_; rintro e w' ⟨rfl, ⟨nd, rfl⟩⟩; refine ⟨_, rfl, ?_⟩))
     go_roundg k1
     case measure => have := HK1.out; omega
     case rel => exact ⟨(wrap64 (x6_1 + 1)), rs, H', ⟨by have := HK1.out; omega⟩, by repeat (first | exact Drawn0.refl _ | apply yv)⟩
    ·replace H := ob H
     obtain ⟨t102, A9, H⟩ := H
     try dsimp only at H
     replace H := sd H
     rcases H with ⟨c10b0, H⟩ | ⟨c10b0, H⟩
     ·obtain rfl := oi1 H
      have p5 : 0 ≤ (x6_1 : Int) := of_decide_eq_true asm
      have q5 : x6_1 < (a0.size : Int) := of_decide_eq_true asm
      have hx5 := bt_at a0 x6_1
      replace p5 := eq_true p5
      replace q5 := eq_true q5
      go_wp2_with (first | ((with_reducible refine za (f := 73) rfl ?_); refine cl 12 rfl Tryz.func73 #[.int .u8 (bt a0 x6_1)] (yX.calls (bt a0 x6_1) false _ A6.out) ?_; rintro e w' ⟨rfl, ⟨nd, rfl⟩⟩; refine ⟨_, rfl, ?_⟩; have p8 : 0 ≤ (x6_1 : Int) := of_decide_eq_true asm; have q8 : x6_1 < (a0.size : Int) := of_decide_eq_true asm; have hx8 := bt_at a0 x6_1; replace p8 := eq_true p8; replace q8 := eq_true q8) | (go_at_call 74; (with_reducible refine (yV.calls (⟨#[33, 35, 36, 37, 38, 39, 42, 43, 45, 46, 94, 95, 124, 126, 96]⟩ : ByteArray) (bt a0 x6_1) t102 _ A9.out).mono ?_); rintro e w' ⟨rfl, ⟨nd, rfl⟩⟩))
      go_ret
      exact ⟨rt, dr⟩
     ·have H' := ak H
      clear H
      have p5 : 0 ≤ (x6_1 : Int) := of_decide_eq_true asm
      have q5 : x6_1 < (a0.size : Int) := of_decide_eq_true asm
      have hx5 := bt_at a0 x6_1
      replace p5 := eq_true p5
      replace q5 := eq_true q5
      go_wp2_with (first | ((with_reducible refine za (f := 73) rfl ?_); refine cl 12 rfl Tryz.func73 #[.int .u8 (bt a0 x6_1)] (yX.calls (bt a0 x6_1) false _ A6.out) ?_; rintro e w' ⟨rfl, ⟨nd, rfl⟩⟩; refine ⟨_, rfl, ?_⟩; have p8 : 0 ≤ (x6_1 : Int) := of_decide_eq_true asm; have q8 : x6_1 < (a0.size : Int) := of_decide_eq_true asm; have hx8 := bt_at a0 x6_1; replace p8 := eq_true p8; replace q8 := eq_true q8) | (go_at_call 74; (with_reducible refine (yV.calls (⟨#[33, 35, 36, 37, 38, 39, 42, 43, 45, 46, 94, 95, 124, 126, 96]⟩ : ByteArray) (bt a0 x6_1) t102 _ A9.out).mono ?_); rintro e w' ⟨rfl, ⟨nd, rfl⟩⟩))
      go_roundg k1
      case measure => have := HK1.out; omega
      case rel => exact ⟨(wrap64 (x6_1 + 1)), rs, H', ⟨by have := HK1.out; omega⟩, by repeat (first | exact Drawn0.refl _ | apply yv)⟩
   ·obtain rfl := oi1 H
    go_wp2
    go_ret
    exact ⟨rt, dr⟩
def qf.f (a0 : Int) (a1 : Int) (a2 : Int) : Option (Bool) := if a0 ≥ a1 then (some (decide (a0 ≤ a2))) else (some false)
theorem qf.calls (a0 : Int) (a1 : Int) (a2 : Int) (r : Bool) (w : World) (h : qf.f a0 a1 a2 = some r) :
  Calls Tryz.prog 62 #[.int .i64 a0, .int .i64 a1, .int .i64 a2] w fun e w' => e = .returned (.bool r) ∧ Drawn0 w w' := by
 have H : (if a0 ≥ a1 then (some (decide (a0 ≤ a2))) else (some false)) = some r := h
 clear h
 replace H := sd H
 rcases H with ⟨c4b0, H⟩ | ⟨c4b0, H⟩
 ·obtain rfl := oi1 H
  go_enter Tryz.func62, Tryz.ntmps62
  go_wp2
  go_ret
  exact ⟨rt, dr⟩
 ·obtain rfl := oi1 H
  go_enter Tryz.func62, Tryz.ntmps62
  go_wp2
  go_ret
  exact ⟨rt, dr⟩
def yB.l0 : Nat → ByteArray → Int → Int → Option (Bool)
 | 0, _, _, _ => none
 | k + 1, x0, x5, x6 => if x6 < x5 then (if 0 ≤ x6 then (if x6 < (x0.size : Int) then (if (bt x0 x6) < 33 then (some false) else (if (bt x0 x6) > 126 then (some false) else (yB.l0 k x0 x5 (wrap64 (x6 + 1))))) else (none)) else (none)) else ((qf.f (x0.size : Int) 1 20).bind fun t101 => (if t101 = true then (if 0 < (x0.size : Int) then (some ((bt x0 0) == 47)) else (none)) else (some false)))
def yB.f (k : Nat) (a0 : ByteArray) : Option (Bool) := yB.l0 k a0 (a0.size : Int) 0
theorem yB.mono_l : ∀ k, (∀ y0 y1 y2, LeO (yB.l0 k y0 y1 y2) (yB.l0 (k + 1) y0 y1 y2))
 | 0 => fun _ _ _ r h => by simp [yB.l0] at h
 | k + 1 => by
  have ih0 := yB.mono_l k
  ·intro y0 y1 y2
   unfold yB.l0
   exact mq1 ih0
theorem yB.mono : ∀ a0 k, LeO (yB.f k a0) (yB.f (k + 1) a0) := by
 intro a0 k
 have ih0 := yB.mono_l k
 unfold yB.f
 exact mq1 ih0
theorem yB.calls (k : Nat) (a0 : ByteArray) (r : Bool) (w : World) (h : yB.f k a0 = some r) :
  Calls Tryz.prog 44 #[.string a0] w fun e w' => e = .returned (.bool r) ∧ Drawn0 w w' := by
 have H : (yB.l0 k a0 (a0.size : Int) 0) = some r := h
 clear h
 have H' := ak H
 clear H
 go_enter Tryz.func44, Tryz.ntmps44
 go_wp2
 go_loopg [6] k (fun kq v6 w' => ∃ (x6_1 : Int), v6 = .int .i64 x6_1 ∧ Aside0 (yB.l0 kq a0 (a0.size : Int) x6_1 = some r) ∧ Aside0 (kq ≤ k) ∧ Drawn0 w w')
 case atStart => exact ⟨(0), rs, H', ⟨Nat.le_refl _⟩, by repeat (first | exact Drawn0.refl _ | apply yv)⟩
 case round =>
  clear H'
  obtain ⟨x6_1, rfl, HA, HK1, ⟨m1, rfl⟩⟩ := hrel
  cases gk with
  | zero => exact absurd HA.out (by simp [yB.l0])
  | succ k1 =>
   have H := HA.out
   clear HA
   simp only [yB.l0] at H
   replace H := sd H
   rcases H with ⟨c2b0, H⟩ | ⟨c2b0, H⟩
   ·replace H := sT H
    obtain ⟨c3, H⟩ := H
    have c3b0 := decide_eq_true c3
    clear c3
    replace H := sT H
    obtain ⟨c4, H⟩ := H
    have c4b0 := decide_eq_true c4
    clear c4
    replace H := sd H
    rcases H with ⟨c6b0, H⟩ | ⟨c6b0, H⟩
    ·obtain rfl := oi1 H
     have p5 : 0 ≤ (x6_1 : Int) := of_decide_eq_true asm
     have q5 : x6_1 < (a0.size : Int) := of_decide_eq_true asm
     have hx5 := bt_at a0 x6_1
     replace p5 := eq_true p5
     replace q5 := eq_true q5
     go_wp2
     go_ret
     exact ⟨rt, dr⟩
    ·replace H := sd H
     rcases H with ⟨c8b0, H⟩ | ⟨c8b0, H⟩
     ·obtain rfl := oi1 H
      have p5 : 0 ≤ (x6_1 : Int) := of_decide_eq_true asm
      have q5 : x6_1 < (a0.size : Int) := of_decide_eq_true asm
      have hx5 := bt_at a0 x6_1
      replace p5 := eq_true p5
      replace q5 := eq_true q5
      have p7 : 0 ≤ (x6_1 : Int) := of_decide_eq_true asm
      have q7 : x6_1 < (a0.size : Int) := of_decide_eq_true asm
      have hx7 := bt_at a0 x6_1
      replace p7 := eq_true p7
      replace q7 := eq_true q7
      go_wp2
      go_ret
      exact ⟨rt, dr⟩
     ·have H' := ak H
      clear H
      have p5 : 0 ≤ (x6_1 : Int) := of_decide_eq_true asm
      have q5 : x6_1 < (a0.size : Int) := of_decide_eq_true asm
      have hx5 := bt_at a0 x6_1
      replace p5 := eq_true p5
      replace q5 := eq_true q5
      have p7 : 0 ≤ (x6_1 : Int) := of_decide_eq_true asm
      have q7 : x6_1 < (a0.size : Int) := of_decide_eq_true asm
      have hx7 := bt_at a0 x6_1
      replace p7 := eq_true p7
      replace q7 := eq_true q7
      go_wp2
      go_roundg k1
      case measure => have := HK1.out; omega
      case rel => exact ⟨(wrap64 (x6_1 + 1)), rs, H', ⟨by have := HK1.out; omega⟩, by repeat (first | exact Drawn0.refl _ | apply yv)⟩
   ·replace H := ob H
    obtain ⟨t101, A9, H⟩ := H
    replace H := sb H
    rcases H with ⟨rfl, H⟩ | ⟨rfl, H⟩
    ·replace H := sT H
     obtain ⟨c11, H⟩ := H
     have c11b0 := decide_eq_true c11
     have c11b1 : decide (0 < a0.size) = true := decide_eq_true (by omega)
     clear c11
     obtain rfl := oi1 H
     go_wp2_with (first | ((with_reducible refine za (f := 62) rfl ?_); refine cl 22 rfl Tryz.func62 #[.int .i64 (a0.size : Int), .int .i64 1, .int .i64 20] (qf.calls (a0.size : Int) 1 20 true _ A9.out) ?_; rintro e w' ⟨rfl, ⟨nd, rfl⟩⟩; refine ⟨_, rfl, ?_⟩; have p12 : 0 ≤ (0 : Int) := (by omega); have q12 : 0 < a0.size := (by have : (0 : Int) < (a0.size : Int) := of_decide_eq_true asm; omega); have hx12 : ∀ h : 0 < a0.size, ((a0[0]'h).toNat : Int) = bt a0 0 := bt_at a0 0; clear p12; have qi12 : (0 < (a0.size : Int)) = True := eq_true (of_decide_eq_true asm); replace q12 := eq_true q12))
     go_ret
     exact ⟨rt, dr⟩
    ·obtain rfl := oi1 H
     go_wp2_with (first | ((with_reducible refine za (f := 62) rfl ?_); refine cl 22 rfl Tryz.func62 #[.int .i64 (a0.size : Int), .int .i64 1, .int .i64 20] (qf.calls (a0.size : Int) 1 20 false _ A9.out) ?_; rintro e w' ⟨rfl, ⟨nd, rfl⟩⟩; refine ⟨_, rfl, ?_⟩))
     go_ret
     exact ⟨rt, dr⟩
def qq.f (a0 : ByteArray) : Option (ByteArray) := (qh.f a0 (⟨#[32, 9]⟩ : ByteArray)).bind fun t101 => (some t101)
theorem qq.calls (a0 : ByteArray) (r : ByteArray) (w : World) (h : qq.f a0 = some r) :
  Calls Tryz.prog 85 #[.string a0] w fun e w' => e = .returned (.string r) ∧ Below w.heap.size w w' := by
 have HB := ak (Below.refl w.heap.size w)
 have H : ((qh.f a0 (⟨#[32, 9]⟩ : ByteArray)).bind fun t101 => (some t101)) = some r := h
 clear h
 replace H := ob H
 obtain ⟨t101, A2, H⟩ := H
 obtain rfl := oi1 H
 go_enter Tryz.func85, Tryz.ntmps85
 go_wp2_with (first | ((with_reducible refine za (f := 106) rfl ?_); refine cl 4 rfl Tryz.func106 #[.string a0, .string ⟨#[32, 9]⟩] (qh.calls a0 (⟨#[32, 9]⟩ : ByteArray) t101 _ A2.out) ?_; rintro e w3 ⟨rfl, hb⟩; refine ⟨_, rfl, ?_⟩; replace HB := ak (zb bq hb); (try clear hb)))
 go_ret
 exact ⟨rv, bq⟩
def zE.l0 : Nat → ByteArray → Int → Int → Option (Bool)
 | 0, _, _, _ => none
 | k + 1, x0, x5, x6 => if x6 < x5 then (if 0 ≤ x6 then (if x6 < (x0.size : Int) then (if (bt x0 x6) < 32 then (if (bt x0 x6) = 9 then (if (bt x0 x6) = 127 then (some false) else (zE.l0 k x0 x5 (wrap64 (x6 + 1)))) else (some false)) else (if (bt x0 x6) = 127 then (some false) else (zE.l0 k x0 x5 (wrap64 (x6 + 1))))) else (none)) else (none)) else ((qq.f x0).bind fun t101 => (some (t101.toList == x0.toList)))
def zE.f (k : Nat) (a0 : ByteArray) : Option (Bool) := zE.l0 k a0 (a0.size : Int) 0
theorem zE.mono_l : ∀ k, (∀ y0 y1 y2, LeO (zE.l0 k y0 y1 y2) (zE.l0 (k + 1) y0 y1 y2))
 | 0 => fun _ _ _ r h => by simp [zE.l0] at h
 | k + 1 => by
  have ih0 := zE.mono_l k
  ·intro y0 y1 y2
   unfold zE.l0
   exact mq1 ih0
theorem zE.mono : ∀ a0 k, LeO (zE.f k a0) (zE.f (k + 1) a0) := by
 intro a0 k
 have ih0 := zE.mono_l k
 unfold zE.f
 exact mq1 ih0
theorem zE.calls (k : Nat) (a0 : ByteArray) (r : Bool) (w : World) (h : zE.f k a0 = some r) :
  Calls Tryz.prog 101 #[.string a0] w fun e w' => e = .returned (.bool r) ∧ Below w.heap.size w w' := by
 have HB := ak (Below.refl w.heap.size w)
 have H : (zE.l0 k a0 (a0.size : Int) 0) = some r := h
 clear h
 have H' := ak H
 clear H
 go_enter Tryz.func101, Tryz.ntmps101
 go_wp2
 go_loopg [6] k (fun kq v6 w' => ∃ (x6_1 : Int), v6 = .int .i64 x6_1 ∧ Aside0 (zE.l0 kq a0 (a0.size : Int) x6_1 = some r) ∧ Aside0 (kq ≤ k) ∧ Aside0 (Below w.heap.size w w'))
 case atStart => exact ⟨(0), rs, H', ⟨Nat.le_refl _⟩, ⟨bq⟩⟩
 case round =>
  clear H'
  obtain ⟨x6_1, rfl, HA, HK1, HB⟩ := hrel
  cases gk with
  | zero => exact absurd HA.out (by simp [zE.l0])
  | succ k1 =>
   have H := HA.out
   clear HA
   simp only [zE.l0] at H
   replace H := sd H
   rcases H with ⟨c2b0, H⟩ | ⟨c2b0, H⟩
   ·replace H := sT H
    obtain ⟨c3, H⟩ := H
    have c3b0 := decide_eq_true c3
    clear c3
    replace H := sT H
    obtain ⟨c4, H⟩ := H
    have c4b0 := decide_eq_true c4
    clear c4
    replace H := sd H
    rcases H with ⟨c6b0, H⟩ | ⟨c6b0, H⟩
    ·replace H := se H
     rcases H with ⟨c8b0, c8b1, H⟩ | ⟨c8, c8b0, c8b1, H⟩
     ·replace H := se H
      rcases H with ⟨c10b0, c10b1, H⟩ | ⟨c10, c10b0, c10b1, H⟩
      ·obtain rfl := oi1 H
       have p5 : 0 ≤ (x6_1 : Int) := of_decide_eq_true asm
       have q5 : x6_1 < (a0.size : Int) := of_decide_eq_true asm
       have hx5 := bt_at a0 x6_1
       replace p5 := eq_true p5
       replace q5 := eq_true q5
       have p7 : 0 ≤ (x6_1 : Int) := of_decide_eq_true asm
       have q7 : x6_1 < (a0.size : Int) := of_decide_eq_true asm
       have hx7 := bt_at a0 x6_1
       replace p7 := eq_true p7
       replace q7 := eq_true q7
       have p9 : 0 ≤ (x6_1 : Int) := of_decide_eq_true asm
       have q9 : x6_1 < (a0.size : Int) := of_decide_eq_true asm
       have hx9 := bt_at a0 x6_1
       replace p9 := eq_true p9
       replace q9 := eq_true q9
       go_wp2
       go_ret
       exact ⟨rv, bq⟩
      ·have H' := ak H
       clear H
       have p5 : 0 ≤ (x6_1 : Int) := of_decide_eq_true asm
       have q5 : x6_1 < (a0.size : Int) := of_decide_eq_true asm
       have hx5 := bt_at a0 x6_1
       replace p5 := eq_true p5
       replace q5 := eq_true q5
       have p7 : 0 ≤ (x6_1 : Int) := of_decide_eq_true asm
       have q7 : x6_1 < (a0.size : Int) := of_decide_eq_true asm
       have hx7 := bt_at a0 x6_1
       replace p7 := eq_true p7
       replace q7 := eq_true q7
       have p9 : 0 ≤ (x6_1 : Int) := of_decide_eq_true asm
       have q9 : x6_1 < (a0.size : Int) := of_decide_eq_true asm
       have hx9 := bt_at a0 x6_1
       replace p9 := eq_true p9
       replace q9 := eq_true q9
       go_wp2
       go_roundg k1
       case measure => have := HK1.out; omega
       case rel => exact ⟨(wrap64 (x6_1 + 1)), rs, H', ⟨by have := HK1.out; omega⟩, ⟨bq⟩⟩
     ·obtain rfl := oi1 H
      have p5 : 0 ≤ (x6_1 : Int) := of_decide_eq_true asm
      have q5 : x6_1 < (a0.size : Int) := of_decide_eq_true asm
      have hx5 := bt_at a0 x6_1
      replace p5 := eq_true p5
      replace q5 := eq_true q5
      have p7 : 0 ≤ (x6_1 : Int) := of_decide_eq_true asm
      have q7 : x6_1 < (a0.size : Int) := of_decide_eq_true asm
      have hx7 := bt_at a0 x6_1
      replace p7 := eq_true p7
      replace q7 := eq_true q7
      go_wp2
      go_ret
      exact ⟨rv, bq⟩
    ·replace H := se H
     rcases H with ⟨c12b0, c12b1, H⟩ | ⟨c12, c12b0, c12b1, H⟩
     ·obtain rfl := oi1 H
      have p5 : 0 ≤ (x6_1 : Int) := of_decide_eq_true asm
      have q5 : x6_1 < (a0.size : Int) := of_decide_eq_true asm
      have hx5 := bt_at a0 x6_1
      replace p5 := eq_true p5
      replace q5 := eq_true q5
      have p11 : 0 ≤ (x6_1 : Int) := of_decide_eq_true asm
      have q11 : x6_1 < (a0.size : Int) := of_decide_eq_true asm
      have hx11 := bt_at a0 x6_1
      replace p11 := eq_true p11
      replace q11 := eq_true q11
      go_wp2
      go_ret
      exact ⟨rv, bq⟩
     ·have H' := ak H
      clear H
      have p5 : 0 ≤ (x6_1 : Int) := of_decide_eq_true asm
      have q5 : x6_1 < (a0.size : Int) := of_decide_eq_true asm
      have hx5 := bt_at a0 x6_1
      replace p5 := eq_true p5
      replace q5 := eq_true q5
      have p11 : 0 ≤ (x6_1 : Int) := of_decide_eq_true asm
      have q11 : x6_1 < (a0.size : Int) := of_decide_eq_true asm
      have hx11 := bt_at a0 x6_1
      replace p11 := eq_true p11
      replace q11 := eq_true q11
      go_wp2
      go_roundg k1
      case measure => have := HK1.out; omega
      case rel => exact ⟨(wrap64 (x6_1 + 1)), rs, H', ⟨by have := HK1.out; omega⟩, ⟨bq⟩⟩
   ·replace H := ob H
    obtain ⟨t101, A13, H⟩ := H
    obtain rfl := oi1 H
    go_wp2_with (first | ((with_reducible refine za (f := 85) rfl ?_); refine cl 27 rfl Tryz.func85 #[.string a0] (qq.calls a0 t101 _ A13.out) ?_; rintro e w14 ⟨rfl, hb⟩; refine ⟨_, rfl, ?_⟩; replace HB := ak (zb bq hb); (try clear hb)))
    go_ret
    exact ⟨rv, bq⟩
def yf.f (k : Nat) (a0_0 : ByteArray) (a0_1 : ByteArray) : Option (Bool) := (zu.f k a0_0).bind fun t102 => (if t102 = true then (if (a0_0.size : Int) ≤ 24 then ((xl.f a0_0).bind fun t103 => (if t103.toList = a0_0.toList then ((zE.f k a0_1).bind fun t104 => (if t104 = true then (some (decide ((a0_1.size : Int) ≤ 60))) else (some false))) else (some false))) else (some false)) else (some false))
theorem yf.mono : ∀ a0 a1 k, LeO (yf.f k a0 a1) (yf.f (k + 1) a0 a1) := by
 intro a0 a1 k
 unfold yf.f
 exact mq2 zu.mono zE.mono
def yf.T1 : Bool × List (List Nat × List Nat) := (true, [([], []), ([0], [0]), ([1], [1]), ([2, 2], [2]), ([3], [3]), ([4, 3], [3, 4]), ([5, 3], [3, 5]), ([6, 3], [3, 6]), ([3, 7], [3, 7]), ([8, 3], [8]), ([9], [9]), ([10, 9], [9, 10]), ([11, 9, 9], [9, 11]), ([9], [9]), ([13, 9], [9, 13]), ([12, 14, 9], [9, 12, 14]), ([9, 15], [9, 15]), ([16, 12], [16]), ([17], [17]), ([18, 17], [17, 18]), ([19, 17, 17], [17, 19]), ([17, 20], [17, 20]), ([21, 20], [21]), ([22], [22]), ([23, 22], [22, 23]), ([24, 22], [22, 24]), ([25, 22], [22, 25]), ([22, 26], [22, 26]), ([27, 22, 0, 1, 2, 3, 4, 5, 6, 7, 8, 9, 10, 11, 12, 13, 14, 15, 16, 17, 18, 19, 20, 21, 22, 23, 24, 25, 26, 27], [27])])
def yf.B1 : List Nat := [0, 1, 3, 7, 15, 31, 63, 127, 255, 511, 1023, 2047, 4095, 1023, 9215, 32767, 65535, 131071, 262143, 524287, 1048575, 2097151, 4194303, 8388607, 16777215, 33554431, 67108863, 134217727, 268435455]
theorem yf.tab1 : rtab .any (opsOf Tryz.f78 1) = yf.T1 := by kernel_rfl
theorem yf.bits1 : qj yf.T1.2 yf.B1 = true := by kernel_rfl
theorem yf.calls (k : Nat) (a0_0 : ByteArray) (a0_1 : ByteArray) (r : Bool) (w : World) (h : yf.f k a0_0 a0_1 = some r) :
  Calls Tryz.prog 78 #[.agg #[.string a0_0, .string a0_1]] w fun e w' => e = .returned (.bool r) ∧ Below w.heap.size w w' := by
 have hu55 := Tryz.underlying55
 have HB := ak (Below.refl w.heap.size w)
 have H := h
 unfold yf.f at H
 clear h
 replace H := ob H
 obtain ⟨t102, A2, H⟩ := H
 replace H := sb H
 rcases H with ⟨rfl, H⟩ | ⟨rfl, H⟩
 ·replace H := si H
  rcases H with ⟨c4, H⟩ | ⟨c4, H⟩
  ·have c4b0 := decide_eq_true c4
   have c4b1 : decide (a0_0.size ≤ 24) = true := decide_eq_true (by omega)
   clear c4
   replace H := ob H
   obtain ⟨t103, A5, H⟩ := H
   replace H := se H
   rcases H with ⟨c6b0, c6b1, H⟩ | ⟨c6, c6b0, c6b1, H⟩
   ·replace H := ob H
    obtain ⟨t104, A7, H⟩ := H
    replace H := sb H
    rcases H with ⟨rfl, H⟩ | ⟨rfl, H⟩
    ·obtain rfl := oi1 H
     go_enter Tryz.func78, Tryz.ntmps78
     try go_wp2_with (first | ((with_reducible refine zl (N := 1) rfl ?_); (try (refine yd (by rfl) ?_; dsimp only)); refine bx 1 #[.string a0_0, .string a0_1] 55 ?_; intro gb101 hg w9 hbox hb; have BK101 := ak (hbox); have GW101 := ak ((by rw [hg]; exact (zd bq) : w.heap.size ≤ gb101)); have GE101 := GW101; replace HB := ak (zb bq hb); clear hb hbox hg))
     have n0_ := ak (xe BK101.out)
     have n1_ := ak (ye HB.out)
     clear BK101
     clear HB
     have BK101 := n0_
     have HB := n1_
     clear n0_ n1_
     refine start_ (n := 29) (S := fun w' => w'.cell? ⟨gb101, 0, none⟩ = some (.string a0_0) ∧ w'.cell? ⟨gb101, 1, none⟩ = some (.string a0_1)) (ds := []) (Array.replicate 29 false) (by kernel_rfl) rfl rfl ⟨(zg BK101.out 0).trans rfl, (zg BK101.out 1).trans rfl⟩ (fun hHeld => ?_); refine xm yf.tab1 yf.bits1 (fun HT_ HW_ => ?_)
     generalize w9.drew = w10 at BK101 HB hHeld ⊢
     refine pu 0 3 HT_ ?_
     refine tk 1 4 HT_ HW_ hHeld ?_ (hy := by rintro w' ⟨s0, s1⟩; go_simp; with_reducible rfl)
     refine on1 2 5 HT_ (fun K hK => ?_)
     refine goes_ Tryz.func43 (by kernel_rfl) rfl #[.string a0_0] (by rfl) rfl rfl am ?_
     with_reducible refine (zu.calls k a0_0 true _ A2.out).mono ?_
     rintro e w' ⟨rfl, ⟨nd, rfl⟩⟩
     refine ⟨_, rfl, ?_⟩
     refine hK.out _ _ ⟨(zg BK101.out 0).trans rfl, (zg BK101.out 1).trans rfl⟩ (fun hHeld => ?_)
     clear hK K
     refine nrm 5 ?_
     refine pu 3 6 HT_ ?_
     refine pu 4 7 HT_ ?_
     refine tk 5 8 HT_ HW_ hHeld ?_ (hy := by rintro w' ⟨s0, s1⟩; go_simp; with_reducible rfl)
     refine pu 6 9 HT_ ?_
     refine pu 7 10 HT_ ?_
     refine pu 8 11 HT_ ?_
     refine pu 9 12 HT_ ?_
     refine pu 10 13 HT_ ?_
     refine pu 13 16 HT_ ?_
     refine tk 11 14 HT_ HW_ hHeld ?_ (hy := by rintro w' ⟨s0, s1⟩; go_simp; with_reducible rfl)
     refine tk 14 17 HT_ HW_ hHeld ?_ (hy := by rintro w' ⟨s0, s1⟩; go_simp; with_reducible rfl)
     refine on1 12 15 HT_ (fun K hK => ?_)
     refine goes_ Tryz.func54 (by kernel_rfl) rfl #[.string a0_0] (by rfl) rfl rfl am ?_
     with_reducible refine (xl.calls a0_0 t103 _ A5.out).mono ?_
     rintro e w11 ⟨rfl, hb⟩
     refine ⟨_, rfl, ?_⟩
     have n0_ := ak (ze (blq BK101.out) hb)
     have n1_ := ak (zb (bq1 GE101.out) hb)
     clear BK101
     clear HB
     have BK101 := n0_
     have HB := n1_
     clear n0_ n1_
     (try clear hb)
     (try clear hb2)
     (try clear hk)
     (try clear hi)
     refine hK.out _ _ ⟨(zg BK101.out 0).trans rfl, (zg BK101.out 1).trans rfl⟩ (fun hHeld => ?_)
     clear hK K
     refine nrm 15 ?_
     refine pu 15 18 HT_ ?_
     refine pu 16 19 HT_ ?_
     refine pu 17 20 HT_ ?_
     refine pu 18 21 HT_ ?_
     refine tk 19 22 HT_ HW_ hHeld ?_ (hy := by rintro w' ⟨s0, s1⟩; go_simp; with_reducible rfl)
     refine on1 20 23 HT_ (fun K hK => ?_)
     refine goes_ Tryz.func101 (by kernel_rfl) rfl #[.string a0_1] (by rfl) rfl rfl am ?_
     with_reducible refine (zE.calls k a0_1 true _ A7.out).mono ?_
     rintro e w12 ⟨rfl, hb⟩
     refine ⟨_, rfl, ?_⟩
     have n0_ := ak (ze (blq BK101.out) hb)
     have n1_ := ak (zb (bq1 GE101.out) hb)
     clear BK101
     clear HB
     have BK101 := n0_
     have HB := n1_
     clear n0_ n1_
     (try clear hb)
     (try clear hb2)
     (try clear hk)
     (try clear hi)
     refine hK.out _ _ ⟨(zg BK101.out 0).trans rfl, (zg BK101.out 1).trans rfl⟩ (fun hHeld => ?_)
     clear hK K
     refine nrm 23 ?_
     refine pu 21 24 HT_ ?_
     refine pu 22 25 HT_ ?_
     refine pu 23 26 HT_ ?_
     refine tk 24 27 HT_ HW_ hHeld ?_ (hy := by rintro w' ⟨s0, s1⟩; go_simp; with_reducible rfl)
     refine pu 25 28 HT_ ?_
     refine pu 26 29 HT_ ?_
     refine pu 27 30 HT_ ?_
     refine pu 28 2 HT_ ?_
     refine done_ (xV HT_.out (by kernel_rfl)) ?_
     try go_wp2
     go_ret
     exact ⟨rv, bq1 GE101.out⟩
    ·obtain rfl := oi1 H
     go_enter Tryz.func78, Tryz.ntmps78
     try go_wp2_with (first | ((with_reducible refine zl (N := 1) rfl ?_); (try (refine yd (by rfl) ?_; dsimp only)); refine bx 1 #[.string a0_0, .string a0_1] 55 ?_; intro gb101 hg w13 hbox hb; have BK101 := ak (hbox); have GW101 := ak ((by rw [hg]; exact (zd bq) : w.heap.size ≤ gb101)); have GE101 := GW101; replace HB := ak (zb bq hb); clear hb hbox hg))
     have n0_ := ak (xe BK101.out)
     have n1_ := ak (ye HB.out)
     clear BK101
     clear HB
     have BK101 := n0_
     have HB := n1_
     clear n0_ n1_
     refine start_ (n := 29) (S := fun w' => w'.cell? ⟨gb101, 0, none⟩ = some (.string a0_0) ∧ w'.cell? ⟨gb101, 1, none⟩ = some (.string a0_1)) (ds := []) (Array.replicate 29 false) (by kernel_rfl) rfl rfl ⟨(zg BK101.out 0).trans rfl, (zg BK101.out 1).trans rfl⟩ (fun hHeld => ?_); refine xm yf.tab1 yf.bits1 (fun HT_ HW_ => ?_)
     generalize w13.drew = w14 at BK101 HB hHeld ⊢
     refine pu 0 3 HT_ ?_
     refine tk 1 4 HT_ HW_ hHeld ?_ (hy := by rintro w' ⟨s0, s1⟩; go_simp; with_reducible rfl)
     refine on1 2 5 HT_ (fun K hK => ?_)
     refine goes_ Tryz.func43 (by kernel_rfl) rfl #[.string a0_0] (by rfl) rfl rfl am ?_
     with_reducible refine (zu.calls k a0_0 true _ A2.out).mono ?_
     rintro e w' ⟨rfl, ⟨nd, rfl⟩⟩
     refine ⟨_, rfl, ?_⟩
     refine hK.out _ _ ⟨(zg BK101.out 0).trans rfl, (zg BK101.out 1).trans rfl⟩ (fun hHeld => ?_)
     clear hK K
     refine nrm 5 ?_
     refine pu 3 6 HT_ ?_
     refine pu 4 7 HT_ ?_
     refine tk 5 8 HT_ HW_ hHeld ?_ (hy := by rintro w' ⟨s0, s1⟩; go_simp; with_reducible rfl)
     refine pu 6 9 HT_ ?_
     refine pu 7 10 HT_ ?_
     refine pu 8 11 HT_ ?_
     refine pu 9 12 HT_ ?_
     refine pu 10 13 HT_ ?_
     refine pu 13 16 HT_ ?_
     refine tk 11 14 HT_ HW_ hHeld ?_ (hy := by rintro w' ⟨s0, s1⟩; go_simp; with_reducible rfl)
     refine tk 14 17 HT_ HW_ hHeld ?_ (hy := by rintro w' ⟨s0, s1⟩; go_simp; with_reducible rfl)
     refine on1 12 15 HT_ (fun K hK => ?_)
     refine goes_ Tryz.func54 (by kernel_rfl) rfl #[.string a0_0] (by rfl) rfl rfl am ?_
     with_reducible refine (xl.calls a0_0 t103 _ A5.out).mono ?_
     rintro e w15 ⟨rfl, hb⟩
     refine ⟨_, rfl, ?_⟩
     have n0_ := ak (ze (blq BK101.out) hb)
     have n1_ := ak (zb (bq1 GE101.out) hb)
     clear BK101
     clear HB
     have BK101 := n0_
     have HB := n1_
     clear n0_ n1_
     (try clear hb)
     (try clear hb2)
     (try clear hk)
     (try clear hi)
     refine hK.out _ _ ⟨(zg BK101.out 0).trans rfl, (zg BK101.out 1).trans rfl⟩ (fun hHeld => ?_)
     clear hK K
     refine nrm 15 ?_
     refine pu 15 18 HT_ ?_
     refine pu 16 19 HT_ ?_
     refine pu 17 20 HT_ ?_
     refine pu 18 21 HT_ ?_
     refine tk 19 22 HT_ HW_ hHeld ?_ (hy := by rintro w' ⟨s0, s1⟩; go_simp; with_reducible rfl)
     refine on1 20 23 HT_ (fun K hK => ?_)
     refine goes_ Tryz.func101 (by kernel_rfl) rfl #[.string a0_1] (by rfl) rfl rfl am ?_
     with_reducible refine (zE.calls k a0_1 false _ A7.out).mono ?_
     rintro e w16 ⟨rfl, hb⟩
     refine ⟨_, rfl, ?_⟩
     have n0_ := ak (ze (blq BK101.out) hb)
     have n1_ := ak (zb (bq1 GE101.out) hb)
     clear BK101
     clear HB
     have BK101 := n0_
     have HB := n1_
     clear n0_ n1_
     (try clear hb)
     (try clear hb2)
     (try clear hk)
     (try clear hi)
     refine hK.out _ _ ⟨(zg BK101.out 0).trans rfl, (zg BK101.out 1).trans rfl⟩ (fun hHeld => ?_)
     clear hK K
     refine nrm 23 ?_
     refine pu 21 24 HT_ ?_
     refine pu 22 25 HT_ ?_
     refine pf 23 26 (tf 24 5) HT_ ?_
     refine pf 24 27 (tf 25 4) HT_ ?_
     refine pf 25 28 (tf 26 3) HT_ ?_
     refine pf 26 29 (tf 27 2) HT_ ?_
     refine pu 27 30 HT_ ?_
     refine pu 28 2 HT_ ?_
     refine done_ (xV HT_.out (by kernel_rfl)) ?_
     try go_wp2
     go_ret
     exact ⟨rv, bq1 GE101.out⟩
   ·obtain rfl := oi1 H
    go_enter Tryz.func78, Tryz.ntmps78
    try go_wp2_with (first | ((with_reducible refine zl (N := 1) rfl ?_); (try (refine yd (by rfl) ?_; dsimp only)); refine bx 1 #[.string a0_0, .string a0_1] 55 ?_; intro gb101 hg w17 hbox hb; have BK101 := ak (hbox); have GW101 := ak ((by rw [hg]; exact (zd bq) : w.heap.size ≤ gb101)); have GE101 := GW101; replace HB := ak (zb bq hb); clear hb hbox hg))
    have n0_ := ak (xe BK101.out)
    have n1_ := ak (ye HB.out)
    clear BK101
    clear HB
    have BK101 := n0_
    have HB := n1_
    clear n0_ n1_
    refine start_ (n := 29) (S := fun w' => w'.cell? ⟨gb101, 0, none⟩ = some (.string a0_0) ∧ w'.cell? ⟨gb101, 1, none⟩ = some (.string a0_1)) (ds := []) (Array.replicate 29 false) (by kernel_rfl) rfl rfl ⟨(zg BK101.out 0).trans rfl, (zg BK101.out 1).trans rfl⟩ (fun hHeld => ?_); refine xm yf.tab1 yf.bits1 (fun HT_ HW_ => ?_)
    generalize w17.drew = w18 at BK101 HB hHeld ⊢
    refine pu 0 3 HT_ ?_
    refine tk 1 4 HT_ HW_ hHeld ?_ (hy := by rintro w' ⟨s0, s1⟩; go_simp; with_reducible rfl)
    refine on1 2 5 HT_ (fun K hK => ?_)
    refine goes_ Tryz.func43 (by kernel_rfl) rfl #[.string a0_0] (by rfl) rfl rfl am ?_
    with_reducible refine (zu.calls k a0_0 true _ A2.out).mono ?_
    rintro e w' ⟨rfl, ⟨nd, rfl⟩⟩
    refine ⟨_, rfl, ?_⟩
    refine hK.out _ _ ⟨(zg BK101.out 0).trans rfl, (zg BK101.out 1).trans rfl⟩ (fun hHeld => ?_)
    clear hK K
    refine nrm 5 ?_
    refine pu 3 6 HT_ ?_
    refine pu 4 7 HT_ ?_
    refine tk 5 8 HT_ HW_ hHeld ?_ (hy := by rintro w' ⟨s0, s1⟩; go_simp; with_reducible rfl)
    refine pu 6 9 HT_ ?_
    refine pu 7 10 HT_ ?_
    refine pu 8 11 HT_ ?_
    refine pu 9 12 HT_ ?_
    refine pu 10 13 HT_ ?_
    refine pu 13 16 HT_ ?_
    refine tk 11 14 HT_ HW_ hHeld ?_ (hy := by rintro w' ⟨s0, s1⟩; go_simp; with_reducible rfl)
    refine tk 14 17 HT_ HW_ hHeld ?_ (hy := by rintro w' ⟨s0, s1⟩; go_simp; with_reducible rfl)
    refine on1 12 15 HT_ (fun K hK => ?_)
    refine goes_ Tryz.func54 (by kernel_rfl) rfl #[.string a0_0] (by rfl) rfl rfl am ?_
    with_reducible refine (xl.calls a0_0 t103 _ A5.out).mono ?_
    rintro e w19 ⟨rfl, hb⟩
    refine ⟨_, rfl, ?_⟩
    have n0_ := ak (ze (blq BK101.out) hb)
    have n1_ := ak (zb (bq1 GE101.out) hb)
    clear BK101
    clear HB
    have BK101 := n0_
    have HB := n1_
    clear n0_ n1_
    (try clear hb)
    (try clear hb2)
    (try clear hk)
    (try clear hi)
    refine hK.out _ _ ⟨(zg BK101.out 0).trans rfl, (zg BK101.out 1).trans rfl⟩ (fun hHeld => ?_)
    clear hK K
    refine nrm 15 ?_
    refine pu 15 18 HT_ ?_
    refine pu 16 19 HT_ ?_
    refine pu 17 20 HT_ ?_
    refine pf 18 21 (tf 19 10) HT_ ?_
    refine pf 19 22 (tf 20 9) HT_ ?_
    refine pf 20 23 (tf 21 8) HT_ ?_
    refine pu 21 24 HT_ ?_
    refine pu 22 25 HT_ ?_
    refine pf 23 26 (tf 24 5) HT_ ?_
    refine pf 24 27 (tf 25 4) HT_ ?_
    refine pf 25 28 (tf 26 3) HT_ ?_
    refine pf 26 29 (tf 27 2) HT_ ?_
    refine pu 27 30 HT_ ?_
    refine pu 28 2 HT_ ?_
    refine done_ (xV HT_.out (by kernel_rfl)) ?_
    try go_wp2
    go_ret
    exact ⟨rv, bq1 GE101.out⟩
  ·have c4b0 := decide_eq_false c4
   have c4b1 : decide (a0_0.size ≤ 24) = false := decide_eq_false (by omega)
   clear c4
   obtain rfl := oi1 H
   go_enter Tryz.func78, Tryz.ntmps78
   try go_wp2_with (first | ((with_reducible refine zl (N := 1) rfl ?_); (try (refine yd (by rfl) ?_; dsimp only)); refine bx 1 #[.string a0_0, .string a0_1] 55 ?_; intro gb101 hg w20 hbox hb; have BK101 := ak (hbox); have GW101 := ak ((by rw [hg]; exact (zd bq) : w.heap.size ≤ gb101)); have GE101 := GW101; replace HB := ak (zb bq hb); clear hb hbox hg))
   have n0_ := ak (xe BK101.out)
   have n1_ := ak (ye HB.out)
   clear BK101
   clear HB
   have BK101 := n0_
   have HB := n1_
   clear n0_ n1_
   refine start_ (n := 29) (S := fun w' => w'.cell? ⟨gb101, 0, none⟩ = some (.string a0_0) ∧ w'.cell? ⟨gb101, 1, none⟩ = some (.string a0_1)) (ds := []) (Array.replicate 29 false) (by kernel_rfl) rfl rfl ⟨(zg BK101.out 0).trans rfl, (zg BK101.out 1).trans rfl⟩ (fun hHeld => ?_); refine xm yf.tab1 yf.bits1 (fun HT_ HW_ => ?_)
   generalize w20.drew = w21 at BK101 HB hHeld ⊢
   refine pu 0 3 HT_ ?_
   refine tk 1 4 HT_ HW_ hHeld ?_ (hy := by rintro w' ⟨s0, s1⟩; go_simp; with_reducible rfl)
   refine on1 2 5 HT_ (fun K hK => ?_)
   refine goes_ Tryz.func43 (by kernel_rfl) rfl #[.string a0_0] (by rfl) rfl rfl am ?_
   with_reducible refine (zu.calls k a0_0 true _ A2.out).mono ?_
   rintro e w' ⟨rfl, ⟨nd, rfl⟩⟩
   refine ⟨_, rfl, ?_⟩
   refine hK.out _ _ ⟨(zg BK101.out 0).trans rfl, (zg BK101.out 1).trans rfl⟩ (fun hHeld => ?_)
   clear hK K
   refine nrm 5 ?_
   refine pu 3 6 HT_ ?_
   refine pu 4 7 HT_ ?_
   refine tk 5 8 HT_ HW_ hHeld ?_ (hy := by rintro w' ⟨s0, s1⟩; go_simp; with_reducible rfl)
   refine pu 6 9 HT_ ?_
   refine pu 7 10 HT_ ?_
   refine pu 8 11 HT_ ?_
   refine pu 9 12 HT_ ?_
   refine pf 10 13 (tf 11 18) HT_ ?_
   refine pf 11 14 (tf 12 17) HT_ ?_
   refine pf 12 15 (tf 13 16) HT_ ?_
   refine pf 13 16 (tf 14 15) HT_ ?_
   refine pf 14 17 (tf 15 14) HT_ ?_
   refine pf 15 18 (tf 16 13) HT_ ?_
   refine pu 16 19 HT_ ?_
   refine pu 17 20 HT_ ?_
   refine pf 18 21 (tf 19 10) HT_ ?_
   refine pf 19 22 (tf 20 9) HT_ ?_
   refine pf 20 23 (tf 21 8) HT_ ?_
   refine pu 21 24 HT_ ?_
   refine pu 22 25 HT_ ?_
   refine pf 23 26 (tf 24 5) HT_ ?_
   refine pf 24 27 (tf 25 4) HT_ ?_
   refine pf 25 28 (tf 26 3) HT_ ?_
   refine pf 26 29 (tf 27 2) HT_ ?_
   refine pu 27 30 HT_ ?_
   refine pu 28 2 HT_ ?_
   refine done_ (xV HT_.out (by kernel_rfl)) ?_
   try go_wp2
   go_ret
   exact ⟨rv, bq1 GE101.out⟩
 ·obtain rfl := oi1 H
  go_enter Tryz.func78, Tryz.ntmps78
  try go_wp2_with (first | ((with_reducible refine zl (N := 1) rfl ?_); (try (refine yd (by rfl) ?_; dsimp only)); refine bx 1 #[.string a0_0, .string a0_1] 55 ?_; intro gb101 hg w22 hbox hb; have BK101 := ak (hbox); have GW101 := ak ((by rw [hg]; exact (zd bq) : w.heap.size ≤ gb101)); have GE101 := GW101; replace HB := ak (zb bq hb); clear hb hbox hg))
  have n0_ := ak (xe BK101.out)
  have n1_ := ak (ye HB.out)
  clear BK101
  clear HB
  have BK101 := n0_
  have HB := n1_
  clear n0_ n1_
  refine start_ (n := 29) (S := fun w' => w'.cell? ⟨gb101, 0, none⟩ = some (.string a0_0) ∧ w'.cell? ⟨gb101, 1, none⟩ = some (.string a0_1)) (ds := []) (Array.replicate 29 false) (by kernel_rfl) rfl rfl ⟨(zg BK101.out 0).trans rfl, (zg BK101.out 1).trans rfl⟩ (fun hHeld => ?_); refine xm yf.tab1 yf.bits1 (fun HT_ HW_ => ?_)
  generalize w22.drew = w23 at BK101 HB hHeld ⊢
  refine pu 0 3 HT_ ?_
  refine tk 1 4 HT_ HW_ hHeld ?_ (hy := by rintro w' ⟨s0, s1⟩; go_simp; with_reducible rfl)
  refine on1 2 5 HT_ (fun K hK => ?_)
  refine goes_ Tryz.func43 (by kernel_rfl) rfl #[.string a0_0] (by rfl) rfl rfl am ?_
  with_reducible refine (zu.calls k a0_0 false _ A2.out).mono ?_
  rintro e w' ⟨rfl, ⟨nd, rfl⟩⟩
  refine ⟨_, rfl, ?_⟩
  refine hK.out _ _ ⟨(zg BK101.out 0).trans rfl, (zg BK101.out 1).trans rfl⟩ (fun hHeld => ?_)
  clear hK K
  refine nrm 5 ?_
  refine pu 3 6 HT_ ?_
  refine pf 4 7 (tf 5 24) HT_ ?_
  refine pf 5 8 (tf 6 23) HT_ ?_
  refine pf 6 9 (tf 7 22) HT_ ?_
  refine pf 7 10 (tf 8 21) HT_ ?_
  refine pu 8 11 HT_ ?_
  refine pu 9 12 HT_ ?_
  refine pf 10 13 (tf 11 18) HT_ ?_
  refine pf 11 14 (tf 12 17) HT_ ?_
  refine pf 12 15 (tf 13 16) HT_ ?_
  refine pf 13 16 (tf 14 15) HT_ ?_
  refine pf 14 17 (tf 15 14) HT_ ?_
  refine pf 15 18 (tf 16 13) HT_ ?_
  refine pu 16 19 HT_ ?_
  refine pu 17 20 HT_ ?_
  refine pf 18 21 (tf 19 10) HT_ ?_
  refine pf 19 22 (tf 20 9) HT_ ?_
  refine pf 20 23 (tf 21 8) HT_ ?_
  refine pu 21 24 HT_ ?_
  refine pu 22 25 HT_ ?_
  refine pf 23 26 (tf 24 5) HT_ ?_
  refine pf 24 27 (tf 25 4) HT_ ?_
  refine pf 25 28 (tf 26 3) HT_ ?_
  refine pf 26 29 (tf 27 2) HT_ ?_
  refine pu 27 30 HT_ ?_
  refine pu 28 2 HT_ ?_
  refine done_ (xV HT_.out (by kernel_rfl)) ?_
  try go_wp2
  go_ret
  exact ⟨rv, bq1 GE101.out⟩
def xd.f (k : Nat) (a0_0 : ByteArray) (a0_1 : ByteArray) : Option (Bool) := (yf.f k a0_0 a0_1).bind fun t102 => (some (!t102))
theorem xd.mono : ∀ a0 a1 k, LeO (xd.f k a0 a1) (xd.f (k + 1) a0 a1) := by
 intro a0 a1 k
 unfold xd.f
 exact mq1 yf.mono
theorem xd.calls (k : Nat) (a0_0 : ByteArray) (a0_1 : ByteArray) (r : Bool) (w : World) (h : xd.f k a0_0 a0_1 = some r) :
  Calls Tryz.prog 77 #[.agg #[.string a0_0, .string a0_1]] w fun e w' => e = .returned (.bool r) ∧ Below w.heap.size w w' := by
 have hu55 := Tryz.underlying55
 have HB := ak (Below.refl w.heap.size w)
 have H : ((yf.f k a0_0 a0_1).bind fun t102 => (some (!t102))) = some r := h
 clear h
 replace H := ob H
 obtain ⟨t102, A2, H⟩ := H
 obtain rfl := oi1 H
 go_enter Tryz.func77, Tryz.ntmps77
 go_wp2_with (first | ((with_reducible refine zl (N := 1) rfl ?_); refine bx 1 #[.string a0_0, .string a0_1] 55 ?_; intro gb101 hg w3 hbox hb; have BK101 := ak (hbox); have GW101 := ak ((by rw [hg]; exact (zd bq) : w.heap.size ≤ gb101)); have GE101 := GW101; replace HB := ak (zb bq hb); clear hb hbox hg; obtain ⟨hcz4_0, hcz4_1, hfz4_0, hfz4_1⟩ := blk2 BK101.out) | ((with_reducible refine za (f := 78) rfl ?_); refine cl 4 rfl Tryz.func78 #[.agg #[.string a0_0, .string a0_1]] (yf.calls k a0_0 a0_1 t102 _ A2.out) ?_; rintro e w5 ⟨rfl, hb⟩; refine ⟨_, rfl, ?_⟩; replace BK101 := ak (ze (blq BK101.out) hb); replace HB := ak (zb (bq1 GE101.out) hb); (try clear hb)))
 go_ret
 exact ⟨rv, bq1 GE101.out⟩
def zI.each (k : Nat) : List (S55) → Option (List Bool)
 | [] => some []
 | x :: r => (xd.f k x.f0 x.f1).bind fun b => (zI.each k r).bind fun bs => some (b :: bs)
theorem zI.each_mono : ∀ l k, LeO (zI.each k l) (zI.each (k + 1) l)
 | [], k => LeO.refl _
 | x :: r, k => by
  have ih := zI.each_mono r k
  have hm := xd.mono x.f0 x.f1 k
  intro bs h
  simp only [zI.each, Option.bind_eq_some_iff] at h ⊢
  obtain ⟨b, hb, cs, hcs, e⟩ := h
  exact ⟨b, hm _ hb, cs, ih _ hcs, e⟩
theorem zI.each_at {k : Nat} : ∀ {l : List (S55)} {bs : List Bool}, zI.each k l = some bs → bs.length = l.length ∧ ∀ j x, l[j]? = some x → xd.f k x.f0 x.f1 = some (bs.getD j false)
 | [], bs, h => by
  simp only [zI.each, Option.some.injEq] at h
  subst h
  exact ⟨rfl, fun j x hx => by simp at hx⟩
 | y :: r, bs, h => by
  simp only [zI.each, Option.bind_eq_some_iff] at h
  obtain ⟨b, hb, cs, hcs, e⟩ := h
  simp only [Option.some.injEq] at e
  subst e
  obtain ⟨h1, h2⟩ := zI.each_at hcs
  refine ⟨by simp [h1], fun j x hx => ?_⟩
  cases j with
  | zero => simp only [List.getElem?_cons_zero, Option.some.injEq] at hx; subst hx; simpa using hb
  | succ j => simpa using h2 j x (by simpa using hx)
def zI.f (k : Nat) (l0 : List (S55)) : Option Bool := if (l0.length : Int) ≤ 12 then (zI.each k l0).bind fun bs => some (!bs.any id) else some false
theorem zI.mono : ∀ l0 k, LeO (zI.f k l0) (zI.f (k + 1) l0) := by
 intro l0 k
 unfold zI.f
 exact qD (LeO.bind (zI.each_mono l0 k) fun _ => LeO.refl _) (LeO.refl _)
theorem zI.row {w : World} {A : Option Addr} {l : List (S55)} (hC : Kd.C k55 w A l.length l) (hn : 0 < l.length) : ∃ b off, A = some ⟨b, off, none⟩ ∧ b < w.heap.size ∧ ∀ j x, l[j]? = some x → ∀ i v, ([.string x.f0, .string x.f1] : List Value)[i]? = some v → w.cell? ⟨b, off + j * 2 + i, none⟩ = some v := by
 obtain ⟨ad, rfl, hc⟩ := hC.2.2 hn
 obtain ⟨b, off, sp⟩ := ad
 have cell : ∀ j x, l[j]? = some x → ∀ i v, ([.string x.f0, .string x.f1] : List Value)[i]? = some v → w.cell? ((⟨b, off, sp⟩ : Addr).add (j * 2 + i)) = some v := by
  intro j x hx i v hv
  obtain ⟨c, _, hR, hcell⟩ := hc j x hx
  have e := vD0 hR
  subst e
  exact hcell i v hv
 have h00 : l[0]? = some l[0] := List.getElem?_eq_getElem hn
 have h0 := cell 0 l[0] h00 0 _ rfl
 have hsp : sp = none := by
  cases sp with
  | none => rfl
  | some s => simp [Addr.add, World.cell?] at h0; split at h0 <;> simp at h0
 subst hsp
 refine ⟨b, off, rfl, World.block_lt_of_cell? w _ h0, ?_⟩
 intro j x hx i v hv
 have h := cell j x hx i v hv
 rw [← h]
 unfold Addr.add
 split
 ·rename_i h1; rw [show off + j * 2 + i = off by omega]
 ·rw [show off + j * 2 + i = off + (j * 2 + i) by omega]
theorem zI.search (g : Nat) (eg : ∀ args w, (callFunc g args).run Tryz.prog w = .ok (.enter g args) w) (A : Option Addr) (c : Nat) (l : List (S55)) (p : List Bool) (w : World) (hC : Kd.C k55 w A l.length l)
  (hp : ∀ (W : World) j x, Below w.heap.size w W → l[j]? = some x → Calls Tryz.prog g #[.agg #[.string x.f0, .string x.f1]] W fun e w' => e = .returned (.bool (p.getD j false)) ∧ Below w.heap.size w w') :
  Calls Tryz.prog 100 #[.slice A l.length c, .func (.func g) #[] #[]] w fun e w' => (∃ v : Int, e = .returned (.int .i64 v) ∧ ((v = -1 ∧ ∀ j, j < l.length → p.getD j false = false) ∨ (0 ≤ v ∧ v.toNat < l.length ∧ p.getD v.toNat false = true ∧ ∀ j, j < v.toNat → p.getD j false = false))) ∧ Below w.heap.size w w' := by
 have hbig := hC.2.1
 have hrow : ∀ (W : World), Below w.heap.size w W → ∀ j x, l[j]? = some x → ∃ b off, A = some ⟨b, off, none⟩ ∧ W.cell? ⟨b, off + j * 2, none⟩ = some (.string x.f0) ∧ W.cell? ⟨b, off + j * 2 + 1, none⟩ = some (.string x.f1) := by
  intro W hW j x hx
  obtain ⟨b, off, e, hb, hc⟩ := zI.row hC (by have := (List.getElem?_eq_some_iff.1 hx).1; omega)
  refine ⟨b, off, e, ?_, ?_⟩
  ·rw [hW.cell (p := ⟨b, off + j * 2, none⟩) hb]
   exact hc j x hx 0 _ rfl
  ·rw [hW.cell (p := ⟨b, off + j * 2 + 1, none⟩) hb]
   exact hc j x hx 1 _ rfl
 clear hC
 go_enter Tryz.func100, Tryz.ntmps100
 go_wp2
 go_loopg [5, 8] l.length (fun gg _ s8 wr => ∃ kk : Nat, kk ≤ l.length ∧ l.length - kk ≤ gg ∧ s8 = .int .i64 kk ∧ Aside (Below w.heap.size w wr) ∧ Aside (∀ j, j < kk → p.getD j false = false))
 case atStart => exact ⟨0, Nat.zero_le _, by omega, rfl, Below.refl _ w, fun j hj => absurd hj (Nat.not_lt_zero _)⟩
 case round =>
  obtain ⟨kk, hkk, hg, rfl, BW, A1⟩ := hrel
  by_cases hlt : kk < l.length
  ·have hltz : (kk : Int) < (l.length : Int) := by omega
   obtain ⟨b, off, rfl, l2, l3⟩ := hrow wr BW.out kk l[kk] (List.getElem?_eq_getElem hlt)
   have hcall := hp wr kk l[kk] BW.out (List.getElem?_eq_getElem hlt)
   clear hrow hp
   generalize l[kk] = y at l2 l3 hcall
   cases hq : p.getD kk false with
   | true =>
    rw [hq] at hcall
    go_wp2_with (go_at_fn g; refine hcall.mono ?_; rintro e w' ⟨rfl, hb'⟩)
    go_ret
    exact ⟨⟨_, rfl, .inr ⟨by omega, by omega, by simpa using hq, by simpa using A1.out⟩⟩, hb'⟩
   | false =>
    rw [hq] at hcall
    go_wp2_with (go_at_fn g; refine hcall.mono ?_; rintro e w' ⟨rfl, hb'⟩)
    go_roundg (l.length - (kk + 1))
    case measure => omega
    case rel =>
     refine ⟨kk + 1, by omega, by omega, by go_num, hb', (show Aside _ from fun j hj => ?_)⟩
     by_cases e : j = kk
     ·subst e; exact hq
     ·exact A1.out j (by omega)
  ·have hltz : ¬ (kk : Int) < (l.length : Int) := by omega
   have hkn : kk = l.length := by omega
   subst hkn
   go_wp2
   go_ret
   exact ⟨⟨_, rfl, .inl ⟨rfl, A1.out⟩⟩, BW.out⟩
theorem zI.holds (g : Nat) (eg : ∀ args w, (callFunc g args).run Tryz.prog w = .ok (.enter g args) w) (A : Option Addr) (c : Nat) (l : List (S55)) (p : List Bool) (w : World) (hl : p.length = l.length) (hC : Kd.C k55 w A l.length l)
  (hp : ∀ (W : World) j x, Below w.heap.size w W → l[j]? = some x → Calls Tryz.prog g #[.agg #[.string x.f0, .string x.f1]] W fun e w' => e = .returned (.bool (p.getD j false)) ∧ Below w.heap.size w w') :
  Calls Tryz.prog 76 #[.slice A l.length c, .func (.func g) #[] #[]] w fun e w' => e = .returned (.bool (p.any id)) ∧ Below w.heap.size w w' := by
 have hs := zI.search g eg A c l p w hC hp
 clear hp hC
 go_enter Tryz.func76, Tryz.ntmps76
 go_wp2_with (go_at_call 100; refine hs.mono ?_; rintro e w' ⟨⟨v, rfl, hv⟩, hb'⟩)
 go_ret
 have ed : decide (0 ≤ v) = p.any id := by
  rcases hv with ⟨rfl, h⟩ | ⟨h0, h1, h2, _⟩
  ·have e : p.any id = false := by
    rw [List.any_eq_false]
    intro b hb
    obtain ⟨j, hj, rfl⟩ := List.mem_iff_getElem.1 hb
    have := h j (by omega)
    rw [List.getD_eq_getElem?_getD, List.getElem?_eq_getElem hj] at this
    simpa using this
   rw [e]; rfl
  ·have e : p.any id = true := by
    rw [List.any_eq_true]
    rw [List.getD_eq_getElem?_getD, List.getElem?_eq_getElem (by omega)] at h2
    exact ⟨p[v.toNat]'(by omega), List.getElem_mem _, by simpa using h2⟩
   rw [e, decide_eq_true h0]
 exact ⟨by rw [← ed]; rfl, hb'⟩
theorem zI.calls (k : Nat) (A0 : Option Addr) (c0 : Nat) (l0 : List (S55)) (r : Bool) (w : World) (hr0 : Kd.C k55 w A0 l0.length l0) (hc0 : l0.length ≤ c0) (h : zI.f k l0 = some r) :
  Calls Tryz.prog 46 #[.slice A0 l0.length c0] w fun e w' => e = .returned (.bool r) ∧ Below w.heap.size w w' := by
 unfold zI.f at h
 by_cases h12 : (l0.length : Int) ≤ 12
 ·rw [if_pos h12] at h
  obtain ⟨bs, he, hb⟩ := Option.bind_eq_some_iff.1 h
  obtain rfl := Option.some.inj hb
  obtain ⟨hl, hat⟩ := zI.each_at he
  have hs := fun (W : World) (hW : Below w.heap.size w W) => zI.holds 77 ((enters_of Tryz.func77 (by kernel_rfl) rfl)) A0 c0 l0 bs W hl (Kd.C_below hr0 hW) (fun W' j x hW' hx => (xd.calls k x.f0 x.f1 _ W' (hat j x hx)).mono fun e w' ⟨h1, h2⟩ => ⟨h1, zb hW' h2⟩)
  generalize bs.any id = q at hs ⊢
  clear h he hat hl hr0
  have d12 : decide ((l0.length : Int) ≤ 12) = true := decide_eq_true h12
  go_enter Tryz.func46, Tryz.ntmps46
  go_wp2_with (go_at_call 76; refine (hs _ (Below.refl _ _)).mono ?_; rintro e w' ⟨rfl, hb'⟩)
  go_ret
  exact ⟨by cases q <;> rfl, hb'⟩
 ·rw [if_neg h12] at h
  obtain rfl := Option.some.inj h
  have d12 : decide ((l0.length : Int) ≤ 12) = false := decide_eq_false h12
  clear hr0
  go_enter Tryz.func46, Tryz.ntmps46
  go_wp2
  go_ret
  exact ⟨rfl, Below.refl _ _⟩
def zy.l0 : Nat → ByteArray → List ByteArray → List (S55) → Int → Int → Option (ByteArray × Bool)
 | 0, _, _, _, _, _ => none
 | k + 1, x1, x6, x10, x11, x12 => if x12 < x11 then (if 0 ≤ x12 then (if x12 < (x10.length : Int) then (if ((zV x10 x12).f0).toList = x1.toList then (if x6.length < 8796093022208 then (zy.l0 k x1 (x6 ++ [(zV x10 x12).f1]) x10 x11 (wrap64 (x12 + 1))) else (none)) else (zy.l0 k x1 x6 x10 x11 (wrap64 (x12 + 1)))) else (none)) else (none)) else ((qp.f x6 (⟨#[44, 32]⟩ : ByteArray)).bind fun t109 => (some (t109, decide ((x6.length : Int) > 0))))
def zy.f (k : Nat) (l0 : List (S55)) (a1 : ByteArray) : Option (ByteArray × Bool) := zy.l0 k a1 (([] : List ByteArray)) l0 (l0.length : Int) 0
theorem zy.mono_l : ∀ k, (∀ y0 y1 y2 y3 y4, LeO (zy.l0 k y0 y1 y2 y3 y4) (zy.l0 (k + 1) y0 y1 y2 y3 y4))
 | 0 => fun _ _ _ _ _ r h => by simp [zy.l0] at h
 | k + 1 => by
  have ih0 := zy.mono_l k
  ·intro y0 y1 y2 y3 y4
   unfold zy.l0
   exact mq1 ih0
theorem zy.mono : ∀ a0 a1 k, LeO (zy.f k a0 a1) (zy.f (k + 1) a0 a1) := by
 intro a0 a1 k
 have ih0 := zy.mono_l k
 unfold zy.f
 exact mq1 ih0
theorem zy.calls (k : Nat) (A0 : Option Addr) (c0 : Nat) (l0 : List (S55)) (a1 : ByteArray) (r1 : ByteArray) (r2 : Bool) (w : World) (hr0 : Kd.C k55 w A0 l0.length l0) (hc0 : l0.length ≤ c0) (h : zy.f k l0 a1 = some (r1, r2)) :
  Calls Tryz.prog 53 #[.slice A0 l0.length c0, .string a1] w fun e w' => e = .returned (.tuple #[.string r1, .bool r2]) ∧ Below w.heap.size w w' := by
 have hu55 := Tryz.underlying55
 have HR0 := ak hr0
 have HC0 := ak hc0
 clear hr0 hc0
 have HB := ak (Below.refl w.heap.size w)
 have H : (zy.l0 k a1 (([] : List ByteArray)) l0 (l0.length : Int) 0) = some (r1, r2) := h
 clear h
 obtain ⟨y101, hy101⟩ : ∃ y_ : List ByteArray, y_ = (([] : List ByteArray)) := ⟨_, rfl⟩
 replace H : (zy.l0 k a1 y101 l0 (l0.length : Int) 0) = some (r1, r2) := rhq hy101
 have Ny101 := ak hy101
 clear hy101
 have H' := ak H
 clear H
 go_enter Tryz.func53, Tryz.ntmps53
 go_wp2_with (first | ((with_reducible refine zl (N := 9) rfl ?_); refine rS 9 9 Ny101.out ?_; intro v102 w3 ho4 hb; have HO103 := ak (Kd.R_lower ho4 (zd bq)); replace HB := ak (zb bq hb); clear hb ho4))
 go_loopg [6, 12] k (fun kq v6 v12 w' => ∃ (x6_1 : List ByteArray) (x12_1 : Int), v12 = .int .i64 x12_1 ∧ Aside0 (zy.l0 kq a1 x6_1 l0 (l0.length : Int) x12_1 = some (r1, r2)) ∧ Aside0 (kq ≤ k) ∧ Aside0 (Kd.R Kd.string 9 w' w.heap.size (fun _ => True) v6 x6_1) ∧ Aside0 (Below w.heap.size w w'))
 case atStart => exact ⟨(y101), (0), rs, H', ⟨Nat.le_refl _⟩, ⟨rdq HO103.out⟩, ⟨bq⟩⟩
 case round =>
  clear H'
  obtain ⟨x6_1, x12_1, rfl, HA, HK1, HO_6, HB⟩ := hrel
  cases gk with
  | zero => exact absurd HA.out (by simp [zy.l0])
  | succ k1 =>
   have H := HA.out
   clear HA
   simp only [zy.l0] at H
   replace H := sd H
   rcases H with ⟨c5b0, H⟩ | ⟨c5b0, H⟩
   ·replace H := sT H
    obtain ⟨c6, H⟩ := H
    have c6b0 := decide_eq_true c6
    clear c6
    replace H := sT H
    obtain ⟨c7, H⟩ := H
    have c7b0 := decide_eq_true c7
    clear c7
    replace H := se H
    rcases H with ⟨c8b0, c8b1, H⟩ | ⟨c8, c8b0, c8b1, H⟩
    ·replace H := sT H
     obtain ⟨c9, H⟩ := H
     have LMc9 := ak c9
     clear c9
     obtain ⟨y106, hy106⟩ : ∃ y_ : List ByteArray, y_ = (x6_1 ++ [(zV l0 x12_1).f1]) := ⟨_, rfl⟩
     replace H : (zy.l0 k1 a1 y106 l0 (l0.length : Int) (wrap64 (x12_1 + 1))) = some (r1, r2) := rhq hy106
     have Ny106 := ak hy106
     clear hy106
     have H' := ak H
     clear H
     have p104 : 0 ≤ (x12_1 : Int) := of_decide_eq_true asm
     have q104 : x12_1 < (l0.length : Int) := of_decide_eq_true asm
     obtain ⟨ad104, e104, hx104_0, hx104_1⟩ := qO HR0.out x12_1 p104 q104
     cases e104
     replace hx104_0 := (HB.out.cell (World.block_lt_of_cell? w _ hx104_0)).trans hx104_0
     replace hx104_1 := (HB.out.cell (World.block_lt_of_cell? w _ hx104_1)).trans hx104_1
     replace p104 := eq_true p104
     replace q104 := eq_true q104
     go_wp2_with (first | ((with_reducible refine zl (N := 8) rfl ?_); refine bx 8 #[.string ⟨#[]⟩, .string ⟨#[]⟩] 55 ?_; intro gb105 hg w10 hbox hb; have BK105 := ak (hbox); have GW105 := ak ((by rw [hg]; exact (zd bq) : w.heap.size ≤ gb105)); have GE105 := GW105; replace HO_6 := ak (Kd.R_below (rdq HO_6.out) hb); replace HB := ak (zb bq hb); clear hb hbox hg; obtain ⟨hcz11_0, hcz11_1, hfz11_0, hfz11_1⟩ := blk2 BK105.out) | ((with_reducible refine xi (b := .append) (xs := #[.tmp 20, .tmp 23]) rfl ?_); at_builtin; refine Kd.R_append Kd.string (w0 := w) w.heap.size rfl (.tmp 20) (.tmp 23) 45 9 (.string ⟨#[]⟩) 16 rfl Tryz.underlying45 info9 rfl (by decide) (by omega) u6 x6_1 ((zV l0 x12_1).f1) [.string ((zV l0 x12_1).f1)] (fun _ => True) (fun _ => False) rfl (by first | (go_simp; done) | (go_simp; rfl)) ?aP (fun _ hk => hk.elim) ?aF ?aO ?aB ?aS ?aL ?_; (case aP => exact rfl); (case aB => exact (bq1 GE105.out)); (case aF => exact (fun _ _ => trivial)); (case aO => exact (by (with_reducible repeat (first | apply Kd.R_alloc | apply Kd.R_drewN | apply Kd.R_drew)); exact Kd.R_mono (Kd.R_far (p := ⟨gb105, 1, none⟩) (Kd.R_far (p := ⟨gb105, 0, none⟩) (Kd.R_types HO_6.out BK105.out (by decide)) (fun _ hk => hk.2) (.string ((zV l0 x12_1).f0))) (fun _ hk => hk.2) (.string ((zV l0 x12_1).f1))) (fun _ hk => trivial))); (case aS => exact (zd (bq1 GE105.out))); (case aL => have := LMc9.out; omega); intro v107 w12 ho hb hg hat; rw [← Ny106.out] at ho; have HO108 := ak (ho); replace BK105 := ak (jG (g := gb105) (o := .cells #[.string ((zV l0 x12_1).f0), .string ((zV l0 x12_1).f1)] 55 (0, 0)) (blp0 BK105.out) hg (Kd.R_ne HO_6.out BK105.out (by decide))); replace HB := ak (hb); clear HO_6; clear ho hb hg hat))
     go_roundg k1
     case measure => have := HK1.out; omega
     case rel => exact ⟨(y106), (wrap64 (x12_1 + 1)), rs, H', ⟨by have := HK1.out; omega⟩, ⟨rdq HO108.out⟩, ⟨bq1 GE105.out⟩⟩
    ·have H' := ak H
     clear H
     have p104 : 0 ≤ (x12_1 : Int) := of_decide_eq_true asm
     have q104 : x12_1 < (l0.length : Int) := of_decide_eq_true asm
     obtain ⟨ad104, e104, hx104_0, hx104_1⟩ := qO HR0.out x12_1 p104 q104
     cases e104
     replace hx104_0 := (HB.out.cell (World.block_lt_of_cell? w _ hx104_0)).trans hx104_0
     replace hx104_1 := (HB.out.cell (World.block_lt_of_cell? w _ hx104_1)).trans hx104_1
     replace p104 := eq_true p104
     replace q104 := eq_true q104
     go_wp2_with (first | ((with_reducible refine zl (N := 8) rfl ?_); refine bx 8 #[.string ⟨#[]⟩, .string ⟨#[]⟩] 55 ?_; intro gb105 hg w13 hbox hb; have BK105 := ak (hbox); have GW105 := ak ((by rw [hg]; exact (zd bq) : w.heap.size ≤ gb105)); have GE105 := GW105; replace HO_6 := ak (Kd.R_below (rdq HO_6.out) hb); replace HB := ak (zb bq hb); clear hb hbox hg; obtain ⟨hcz14_0, hcz14_1, hfz14_0, hfz14_1⟩ := blk2 BK105.out))
     go_roundg k1
     case measure => have := HK1.out; omega
     case rel => exact ⟨(x6_1), (wrap64 (x12_1 + 1)), rs, H', ⟨by have := HK1.out; omega⟩, ⟨by (with_reducible repeat (first | apply Kd.R_alloc | apply Kd.R_drewN | apply Kd.R_drew)); exact Kd.R_mono (Kd.R_far (p := ⟨gb105, 1, none⟩) (Kd.R_far (p := ⟨gb105, 0, none⟩) (Kd.R_types HO_6.out BK105.out (by decide)) (fun _ hk => hk.2) (.string ((zV l0 x12_1).f0))) (fun _ hk => hk.2) (.string ((zV l0 x12_1).f1))) (fun _ hk => trivial)⟩, ⟨bq1 GE105.out⟩⟩
   ·replace H := ob H
    obtain ⟨t109, A15, H⟩ := H
    obtain ⟨rfl, rfl⟩ := oi2 H
    obtain ⟨Ao16, co16, eo16⟩ := Kd.R_slice HO_6.out
    subst eo16
    go_wp2_with (first | ((with_reducible refine za (f := 88) rfl ?_); refine cl 27 rfl Tryz.func88 #[.slice Ao16 x6_1.length co16, .string ⟨#[44, 32]⟩] (qp.calls _ _ x6_1 (⟨#[44, 32]⟩ : ByteArray) t109 _ ?side1 ?side2 A15.out) ?_; (case side1 => exact cq (Kd.R_reads' HO_6.out).2.2); (case side2 => exact (Kd.R_reads' HO_6.out).2.1); rintro e w17 ⟨rfl, hb⟩; refine ⟨_, rfl, ?_⟩; replace HO_6 := ak (Kd.R_below (rdq HO_6.out) hb); replace HB := ak (zb bq hb); (try clear hb)))
    go_ret2
    exact ⟨rv, bq⟩
def xj.f (k : Nat) (l0 : List (S55)) (a1 : ByteArray) : Option (Bool) := (zy.f k l0 a1).bind fun bt101 => (some bt101.2)
theorem xj.mono : ∀ a0 a1 k, LeO (xj.f k a0 a1) (xj.f (k + 1) a0 a1) := by
 intro a0 a1 k
 unfold xj.f
 exact mq1 zy.mono
theorem xj.calls (k : Nat) (A0 : Option Addr) (c0 : Nat) (l0 : List (S55)) (a1 : ByteArray) (r : Bool) (w : World) (hr0 : Kd.C k55 w A0 l0.length l0) (hc0 : l0.length ≤ c0) (h : xj.f k l0 a1 = some r) :
  Calls Tryz.prog 99 #[.slice A0 l0.length c0, .string a1] w fun e w' => e = .returned (.bool r) ∧ Below w.heap.size w w' := by
 have HR0 := ak hr0
 have HC0 := ak hc0
 clear hr0 hc0
 have HB := ak (Below.refl w.heap.size w)
 have H : ((zy.f k l0 a1).bind fun bt101 => (some bt101.2)) = some r := h
 clear h
 replace H := ob H
 obtain ⟨⟨t101, t102⟩, A3, H⟩ := H
 try dsimp only at H
 obtain rfl := oi1 H
 go_enter Tryz.func99, Tryz.ntmps99
 go_wp2_with (first | ((with_reducible refine za (f := 53) rfl ?_); refine cl 10 rfl Tryz.func53 #[.slice A0 l0.length c0, .string a1] (zy.calls k _ _ l0 a1 t101 t102 _ ?side1 ?side2 A3.out) ?_; (case side1 => repeat (first | exact HR0.out | (with_reducible refine Kd.C_alloc ?_ _) | (with_reducible refine Kd.C_drewN ?_ _) | (with_reducible refine Kd.C_drew ?_))); (case side2 => exact HC0.out); rintro e w4 ⟨rfl, hb⟩; refine ⟨_, rfl, ?_⟩; replace HB := ak (zb bq hb); (try clear hb)))
 go_ret
 exact ⟨rv, bq⟩
def xc.f (k : Nat) (l0 : List (S55)) : Option (Bool) := (xj.f k l0 (⟨#[99, 111, 110, 116, 101, 110, 116, 45, 108, 101, 110, 103, 116, 104]⟩ : ByteArray)).bind fun t101 => (if t101 = true then (some true) else ((xj.f k l0 (⟨#[116, 114, 97, 110, 115, 102, 101, 114, 45, 101, 110, 99, 111, 100, 105, 110, 103]⟩ : ByteArray)).bind fun t102 => (some t102)))
theorem xc.mono : ∀ a0 k, LeO (xc.f k a0) (xc.f (k + 1) a0) := by
 intro a0 k
 unfold xc.f
 exact mq1 xj.mono
theorem xc.calls (k : Nat) (A0 : Option Addr) (c0 : Nat) (l0 : List (S55)) (r : Bool) (w : World) (hr0 : Kd.C k55 w A0 l0.length l0) (hc0 : l0.length ≤ c0) (h : xc.f k l0 = some r) :
  Calls Tryz.prog 75 #[.slice A0 l0.length c0] w fun e w' => e = .returned (.bool r) ∧ Below w.heap.size w w' := by
 have HR0 := ak hr0
 have HC0 := ak hc0
 clear hr0 hc0
 have HB := ak (Below.refl w.heap.size w)
 have H := h
 unfold xc.f at H
 clear h
 replace H := ob H
 obtain ⟨t101, A2, H⟩ := H
 replace H := sb H
 rcases H with ⟨rfl, H⟩ | ⟨rfl, H⟩
 ·obtain rfl := oi1 H
  go_enter Tryz.func75, Tryz.ntmps75
  go_wp2_with (first | ((with_reducible refine za (f := 99) rfl ?_); refine cl 4 rfl Tryz.func99 #[.slice A0 l0.length c0, .string ⟨#[99, 111, 110, 116, 101, 110, 116, 45, 108, 101, 110, 103, 116, 104]⟩] (xj.calls k _ _ l0 (⟨#[99, 111, 110, 116, 101, 110, 116, 45, 108, 101, 110, 103, 116, 104]⟩ : ByteArray) true _ ?side1 ?side2 A2.out) ?_; (case side1 => repeat (first | exact HR0.out | (with_reducible refine Kd.C_alloc ?_ _) | (with_reducible refine Kd.C_drewN ?_ _) | (with_reducible refine Kd.C_drew ?_))); (case side2 => exact HC0.out); rintro e w4 ⟨rfl, hb⟩; refine ⟨_, rfl, ?_⟩; replace HB := ak (zb bq hb); (try clear hb)))
  go_ret
  exact ⟨rv, bq⟩
 ·replace H := ob H
  obtain ⟨t102, A5, H⟩ := H
  try dsimp only at H
  obtain rfl := oi1 H
  go_enter Tryz.func75, Tryz.ntmps75
  go_wp2_with (first | ((with_reducible refine za (f := 99) rfl ?_); refine cl 4 rfl Tryz.func99 #[.slice A0 l0.length c0, .string ⟨#[99, 111, 110, 116, 101, 110, 116, 45, 108, 101, 110, 103, 116, 104]⟩] (xj.calls k _ _ l0 (⟨#[99, 111, 110, 116, 101, 110, 116, 45, 108, 101, 110, 103, 116, 104]⟩ : ByteArray) false _ ?side1 ?side2 A2.out) ?_; (case side1 => repeat (first | exact HR0.out | (with_reducible refine Kd.C_alloc ?_ _) | (with_reducible refine Kd.C_drewN ?_ _) | (with_reducible refine Kd.C_drew ?_))); (case side2 => exact HC0.out); rintro e w6 ⟨rfl, hb⟩; refine ⟨_, rfl, ?_⟩; replace HB := ak (zb bq hb); (try clear hb)) | (go_at_call 99; (with_reducible refine (xj.calls k _ _ l0 (⟨#[116, 114, 97, 110, 115, 102, 101, 114, 45, 101, 110, 99, 111, 100, 105, 110, 103]⟩ : ByteArray) t102 _ ?side1 ?side2 A5.out).mono ?_); (case side1 => repeat (first | exact (Kd.C_below HR0.out HB.out) | (with_reducible refine Kd.C_alloc ?_ _) | (with_reducible refine Kd.C_drewN ?_ _) | (with_reducible refine Kd.C_drew ?_))); (case side2 => exact HC0.out); rintro e w7 ⟨rfl, hb⟩; replace HB := ak (zb bq hb); (try clear hb)))
  go_ret
  exact ⟨rv, bq⟩
def yI.f (k : Nat) (l0 : List (S55)) : Option (Bool) := (zI.f k l0).bind fun t101 => (if t101 = true then (if (l0.length : Int) < 12 then ((xc.f k l0).bind fun t102 => (some (!t102))) else (some false)) else (some false))
theorem yI.mono : ∀ a0 k, LeO (yI.f k a0) (yI.f (k + 1) a0) := by
 intro a0 k
 unfold yI.f
 exact mq2 zI.mono xc.mono
theorem yI.calls (k : Nat) (A0 : Option Addr) (c0 : Nat) (l0 : List (S55)) (r : Bool) (w : World) (hr0 : Kd.C k55 w A0 l0.length l0) (hc0 : l0.length ≤ c0) (h : yI.f k l0 = some r) :
  Calls Tryz.prog 45 #[.slice A0 l0.length c0] w fun e w' => e = .returned (.bool r) ∧ Below w.heap.size w w' := by
 have HR0 := ak hr0
 have HC0 := ak hc0
 clear hr0 hc0
 have HB := ak (Below.refl w.heap.size w)
 have H := h
 unfold yI.f at H
 clear h
 replace H := ob H
 obtain ⟨t101, A2, H⟩ := H
 replace H := sb H
 rcases H with ⟨rfl, H⟩ | ⟨rfl, H⟩
 ·replace H := si H
  rcases H with ⟨c4, H⟩ | ⟨c4, H⟩
  ·have c4b0 := decide_eq_true c4
   have c4b1 : decide (l0.length < 12) = true := decide_eq_true (by omega)
   clear c4
   replace H := ob H
   obtain ⟨t102, A5, H⟩ := H
   obtain rfl := oi1 H
   go_enter Tryz.func45, Tryz.ntmps45
   go_wp2_with (first | ((with_reducible refine za (f := 46) rfl ?_); refine cl 4 rfl Tryz.func46 #[.slice A0 l0.length c0] (zI.calls k _ _ l0 true _ ?side1 ?side2 A2.out) ?_; (case side1 => repeat (first | exact HR0.out | (with_reducible refine Kd.C_alloc ?_ _) | (with_reducible refine Kd.C_drewN ?_ _) | (with_reducible refine Kd.C_drew ?_))); (case side2 => exact HC0.out); rintro e w6 ⟨rfl, hb⟩; refine ⟨_, rfl, ?_⟩; replace HB := ak (zb bq hb); (try clear hb)) | (go_at_call 75; (with_reducible refine (xc.calls k _ _ l0 t102 _ ?side1 ?side2 A5.out).mono ?_); (case side1 => repeat (first | exact (Kd.C_below HR0.out HB.out) | (with_reducible refine Kd.C_alloc ?_ _) | (with_reducible refine Kd.C_drewN ?_ _) | (with_reducible refine Kd.C_drew ?_))); (case side2 => exact HC0.out); rintro e w7 ⟨rfl, hb⟩; replace HB := ak (zb bq hb); (try clear hb)))
   go_ret
   exact ⟨rv, bq⟩
  ·have c4b0 := decide_eq_false c4
   have c4b1 : decide (l0.length < 12) = false := decide_eq_false (by omega)
   clear c4
   obtain rfl := oi1 H
   go_enter Tryz.func45, Tryz.ntmps45
   go_wp2_with (first | ((with_reducible refine za (f := 46) rfl ?_); refine cl 4 rfl Tryz.func46 #[.slice A0 l0.length c0] (zI.calls k _ _ l0 true _ ?side1 ?side2 A2.out) ?_; (case side1 => repeat (first | exact HR0.out | (with_reducible refine Kd.C_alloc ?_ _) | (with_reducible refine Kd.C_drewN ?_ _) | (with_reducible refine Kd.C_drew ?_))); (case side2 => exact HC0.out); rintro e w8 ⟨rfl, hb⟩; refine ⟨_, rfl, ?_⟩; replace HB := ak (zb bq hb); (try clear hb)))
   go_ret
   exact ⟨rv, bq⟩
 ·obtain rfl := oi1 H
  go_enter Tryz.func45, Tryz.ntmps45
  go_wp2_with (first | ((with_reducible refine za (f := 46) rfl ?_); refine cl 4 rfl Tryz.func46 #[.slice A0 l0.length c0] (zI.calls k _ _ l0 false _ ?side1 ?side2 A2.out) ?_; (case side1 => repeat (first | exact HR0.out | (with_reducible refine Kd.C_alloc ?_ _) | (with_reducible refine Kd.C_drewN ?_ _) | (with_reducible refine Kd.C_drew ?_))); (case side2 => exact HC0.out); rintro e w9 ⟨rfl, hb⟩; refine ⟨_, rfl, ?_⟩; replace HB := ak (zb bq hb); (try clear hb)))
  go_ret
  exact ⟨rv, bq⟩
def yO.f (k : Nat) (a0_0 : ByteArray) (a0_1 : ByteArray) (l0_2 : List (S55)) (a0_3 : ByteArray) : Option (Bool) := (zu.f k a0_0).bind fun t102 => (if t102 = true then (if (a0_0.size : Int) ≤ 10 then ((yB.f k a0_1).bind fun t103 => (if t103 = true then ((yI.f k l0_2).bind fun t104 => (if t104 = true then (some (decide ((a0_3.size : Int) ≤ 60))) else (some false))) else (some false))) else (some false)) else (some false))
theorem yO.mono : ∀ a0 a1 a2 a3 k, LeO (yO.f k a0 a1 a2 a3) (yO.f (k + 1) a0 a1 a2 a3) := by
 intro a0 a1 a2 a3 k
 unfold yO.f
 exact mq3 zu.mono yB.mono yI.mono
theorem yO.calls (k : Nat) (a0_0 : ByteArray) (a0_1 : ByteArray) (A0_2 : Option Addr) (c0_2 : Nat) (l0_2 : List (S55)) (a0_3 : ByteArray) (r : Bool) (w : World) (hr0_2 : Kd.C k55 w A0_2 l0_2.length l0_2) (hc0_2 : l0_2.length ≤ c0_2) (h : yO.f k a0_0 a0_1 l0_2 a0_3 = some r) :
  Calls Tryz.prog 18 #[.agg #[.string a0_0, .string a0_1, .slice A0_2 l0_2.length c0_2, .string a0_3]] w fun e w' => e = .returned (.bool r) ∧ Below w.heap.size w w' := by
 have hu26 := Tryz.underlying26
 have HR0_2 := ak hr0_2
 have HC0_2 := ak hc0_2
 clear hr0_2 hc0_2
 have HB := ak (Below.refl w.heap.size w)
 have H := h
 unfold yO.f at H
 clear h
 replace H := ob H
 obtain ⟨t102, A2, H⟩ := H
 replace H := sb H
 rcases H with ⟨rfl, H⟩ | ⟨rfl, H⟩
 ·replace H := si H
  rcases H with ⟨c4, H⟩ | ⟨c4, H⟩
  ·have c4b0 := decide_eq_true c4
   have c4b1 : decide (a0_0.size ≤ 10) = true := decide_eq_true (by omega)
   clear c4
   replace H := ob H
   obtain ⟨t103, A5, H⟩ := H
   replace H := sb H
   rcases H with ⟨rfl, H⟩ | ⟨rfl, H⟩
   ·replace H := ob H
    obtain ⟨t104, A7, H⟩ := H
    try dsimp only at H
    replace H := sb H
    rcases H with ⟨rfl, H⟩ | ⟨rfl, H⟩
    ·obtain rfl := oi1 H
     go_enter Tryz.func18, Tryz.ntmps18
     go_wp2_with (first | ((with_reducible refine zl (N := 1) rfl ?_); (try (refine yd (by rfl) ?_; dsimp only)); refine bx 1 #[.string a0_0, .string a0_1, .slice A0_2 l0_2.length c0_2, .string a0_3] 26 ?_; intro gb101 hg w9 hbox hb; have BK101 := ak (hbox); have GW101 := ak ((by rw [hg]; exact (zd bq) : w.heap.size ≤ gb101)); have GE101 := GW101; replace HB := ak (zb bq hb); clear hb hbox hg; obtain ⟨hcz10_0, hcz10_1, hcz10_2, hcz10_3, hfz10_0, hfz10_1, hfz10_2, hfz10_3⟩ := blk4 BK101.out) | ((with_reducible refine za (f := 43) rfl ?_); refine cl 5 rfl Tryz.func43 #[.string a0_0] (zu.calls k a0_0 true _ A2.out) ?_; rintro e w' ⟨rfl, ⟨nd, rfl⟩⟩; refine ⟨_, rfl, ?_⟩) | (go_at_call 44; (with_reducible refine (yB.calls k a0_1 true _ A5.out).mono ?_); rintro e w' ⟨rfl, ⟨nd, rfl⟩⟩) | (go_at_call 45; (with_reducible refine (yI.calls k _ _ l0_2 true _ ?side1 ?side2 A7.out).mono ?_); (case side1 => repeat (first | exact (Kd.C_below HR0_2.out (bq1 GE101.out)) | (with_reducible refine Kd.C_alloc ?_ _) | (with_reducible refine Kd.C_drewN ?_ _) | (with_reducible refine Kd.C_drew ?_))); (case side2 => exact HC0_2.out); rintro e w11 ⟨rfl, hb⟩; replace BK101 := ak (ze (blq BK101.out) hb); replace HB := ak (zb (bq1 GE101.out) hb); (try clear hb); obtain ⟨hcz12_0, hcz12_1, hcz12_2, hcz12_3, hfz12_0, hfz12_1, hfz12_2, hfz12_3⟩ := blk4 BK101.out))
     go_ret
     exact ⟨rv, bq1 GE101.out⟩
    ·obtain rfl := oi1 H
     go_enter Tryz.func18, Tryz.ntmps18
     go_wp2_with (first | ((with_reducible refine zl (N := 1) rfl ?_); (try (refine yd (by rfl) ?_; dsimp only)); refine bx 1 #[.string a0_0, .string a0_1, .slice A0_2 l0_2.length c0_2, .string a0_3] 26 ?_; intro gb101 hg w13 hbox hb; have BK101 := ak (hbox); have GW101 := ak ((by rw [hg]; exact (zd bq) : w.heap.size ≤ gb101)); have GE101 := GW101; replace HB := ak (zb bq hb); clear hb hbox hg; obtain ⟨hcz14_0, hcz14_1, hcz14_2, hcz14_3, hfz14_0, hfz14_1, hfz14_2, hfz14_3⟩ := blk4 BK101.out) | ((with_reducible refine za (f := 43) rfl ?_); refine cl 5 rfl Tryz.func43 #[.string a0_0] (zu.calls k a0_0 true _ A2.out) ?_; rintro e w' ⟨rfl, ⟨nd, rfl⟩⟩; refine ⟨_, rfl, ?_⟩) | (go_at_call 44; (with_reducible refine (yB.calls k a0_1 true _ A5.out).mono ?_); rintro e w' ⟨rfl, ⟨nd, rfl⟩⟩) | (go_at_call 45; (with_reducible refine (yI.calls k _ _ l0_2 false _ ?side1 ?side2 A7.out).mono ?_); (case side1 => repeat (first | exact (Kd.C_below HR0_2.out (bq1 GE101.out)) | (with_reducible refine Kd.C_alloc ?_ _) | (with_reducible refine Kd.C_drewN ?_ _) | (with_reducible refine Kd.C_drew ?_))); (case side2 => exact HC0_2.out); rintro e w15 ⟨rfl, hb⟩; replace BK101 := ak (ze (blq BK101.out) hb); replace HB := ak (zb (bq1 GE101.out) hb); (try clear hb)))
     go_ret
     exact ⟨rv, bq1 GE101.out⟩
   ·obtain rfl := oi1 H
    go_enter Tryz.func18, Tryz.ntmps18
    go_wp2_with (first | ((with_reducible refine zl (N := 1) rfl ?_); (try (refine yd (by rfl) ?_; dsimp only)); refine bx 1 #[.string a0_0, .string a0_1, .slice A0_2 l0_2.length c0_2, .string a0_3] 26 ?_; intro gb101 hg w16 hbox hb; have BK101 := ak (hbox); have GW101 := ak ((by rw [hg]; exact (zd bq) : w.heap.size ≤ gb101)); have GE101 := GW101; replace HB := ak (zb bq hb); clear hb hbox hg; obtain ⟨hcz17_0, hcz17_1, hcz17_2, hcz17_3, hfz17_0, hfz17_1, hfz17_2, hfz17_3⟩ := blk4 BK101.out) | ((with_reducible refine za (f := 43) rfl ?_); refine cl 5 rfl Tryz.func43 #[.string a0_0] (zu.calls k a0_0 true _ A2.out) ?_; rintro e w' ⟨rfl, ⟨nd, rfl⟩⟩; refine ⟨_, rfl, ?_⟩) | (go_at_call 44; (with_reducible refine (yB.calls k a0_1 false _ A5.out).mono ?_); rintro e w' ⟨rfl, ⟨nd, rfl⟩⟩))
    go_ret
    exact ⟨rv, bq1 GE101.out⟩
  ·have c4b0 := decide_eq_false c4
   have c4b1 : decide (a0_0.size ≤ 10) = false := decide_eq_false (by omega)
   clear c4
   obtain rfl := oi1 H
   go_enter Tryz.func18, Tryz.ntmps18
   go_wp2_with (first | ((with_reducible refine zl (N := 1) rfl ?_); (try (refine yd (by rfl) ?_; dsimp only)); refine bx 1 #[.string a0_0, .string a0_1, .slice A0_2 l0_2.length c0_2, .string a0_3] 26 ?_; intro gb101 hg w18 hbox hb; have BK101 := ak (hbox); have GW101 := ak ((by rw [hg]; exact (zd bq) : w.heap.size ≤ gb101)); have GE101 := GW101; replace HB := ak (zb bq hb); clear hb hbox hg; obtain ⟨hcz19_0, hcz19_1, hcz19_2, hcz19_3, hfz19_0, hfz19_1, hfz19_2, hfz19_3⟩ := blk4 BK101.out) | ((with_reducible refine za (f := 43) rfl ?_); refine cl 5 rfl Tryz.func43 #[.string a0_0] (zu.calls k a0_0 true _ A2.out) ?_; rintro e w' ⟨rfl, ⟨nd, rfl⟩⟩; refine ⟨_, rfl, ?_⟩))
   go_ret
   exact ⟨rv, bq1 GE101.out⟩
 ·obtain rfl := oi1 H
  go_enter Tryz.func18, Tryz.ntmps18
  go_wp2_with (first | ((with_reducible refine zl (N := 1) rfl ?_); (try (refine yd (by rfl) ?_; dsimp only)); refine bx 1 #[.string a0_0, .string a0_1, .slice A0_2 l0_2.length c0_2, .string a0_3] 26 ?_; intro gb101 hg w20 hbox hb; have BK101 := ak (hbox); have GW101 := ak ((by rw [hg]; exact (zd bq) : w.heap.size ≤ gb101)); have GE101 := GW101; replace HB := ak (zb bq hb); clear hb hbox hg; obtain ⟨hcz21_0, hcz21_1, hcz21_2, hcz21_3, hfz21_0, hfz21_1, hfz21_2, hfz21_3⟩ := blk4 BK101.out) | ((with_reducible refine za (f := 43) rfl ?_); refine cl 5 rfl Tryz.func43 #[.string a0_0] (zu.calls k a0_0 false _ A2.out) ?_; rintro e w' ⟨rfl, ⟨nd, rfl⟩⟩; refine ⟨_, rfl, ?_⟩))
  go_ret
  exact ⟨rv, bq1 GE101.out⟩
def zJ.l0 : Nat → ByteArray → List (S55) → Int → Int → Option (ByteArray)
 | 0, _, _, _, _ => none
 | k + 1, x3, x9, x10, x11 => if x11 < x10 then (if 0 ≤ x11 then (if x11 < (x9.length : Int) then (if ((zV x9 x11).f0).size + 2 ≤ 9223372036854775807 then (if (((zV x9 x11).f0) ++ (⟨#[58, 32]⟩ : ByteArray)).size + ((zV x9 x11).f1).size ≤ 9223372036854775807 then (if ((((zV x9 x11).f0) ++ (⟨#[58, 32]⟩ : ByteArray)) ++ ((zV x9 x11).f1)).size + 2 ≤ 9223372036854775807 then (if x3.size + (((((zV x9 x11).f0) ++ (⟨#[58, 32]⟩ : ByteArray)) ++ ((zV x9 x11).f1)) ++ (⟨#[13, 10]⟩ : ByteArray)).size ≤ 9223372036854775807 then (zJ.l0 k (x3 ++ (((((zV x9 x11).f0) ++ (⟨#[58, 32]⟩ : ByteArray)) ++ ((zV x9 x11).f1)) ++ (⟨#[13, 10]⟩ : ByteArray))) x9 x10 (wrap64 (x11 + 1))) else (none)) else (none)) else (none)) else (none)) else (none)) else (none)) else (if x3.size + 2 ≤ 9223372036854775807 then (some (x3 ++ (⟨#[13, 10]⟩ : ByteArray))) else (none))
def zJ.f (k : Nat) (l0 : List (S55)) : Option (ByteArray) := (zI.f k l0).bind fun t101 => (if t101 = true then (zJ.l0 k (⟨#[]⟩ : ByteArray) l0 (l0.length : Int) 0) else (some (⟨#[]⟩ : ByteArray)))
theorem zJ.mono_l : ∀ k, (∀ y0 y1 y2 y3, LeO (zJ.l0 k y0 y1 y2 y3) (zJ.l0 (k + 1) y0 y1 y2 y3))
 | 0 => fun _ _ _ _ r h => by simp [zJ.l0] at h
 | k + 1 => by
  have ih0 := zJ.mono_l k
  ·intro y0 y1 y2 y3
   unfold zJ.l0
   exact mq2 ih0 zI.mono
theorem zJ.mono : ∀ a0 k, LeO (zJ.f k a0) (zJ.f (k + 1) a0) := by
 intro a0 k
 have ih0 := zJ.mono_l k
 unfold zJ.f
 exact mq2 ih0 zI.mono
theorem zJ.calls (k : Nat) (A0 : Option Addr) (c0 : Nat) (l0 : List (S55)) (r : ByteArray) (w : World) (hr0 : Kd.C k55 w A0 l0.length l0) (hc0 : l0.length ≤ c0) (h : zJ.f k l0 = some r) :
  Calls Tryz.prog 19 #[.slice A0 l0.length c0] w fun e w' => e = .returned (.string r) ∧ Below w.heap.size w w' := by
 have hu55 := Tryz.underlying55
 have HR0 := ak hr0
 have HC0 := ak hc0
 clear hr0 hc0
 have HB := ak (Below.refl w.heap.size w)
 have H := h
 unfold zJ.f at H
 clear h
 replace H := ob H
 obtain ⟨t101, A2, H⟩ := H
 replace H := sb H
 rcases H with ⟨rfl, H⟩ | ⟨rfl, H⟩
 ·have H' := ak H
  clear H
  go_enter Tryz.func19, Tryz.ntmps19
  go_wp2_with (first | ((with_reducible refine za (f := 46) rfl ?_); refine cl 7 rfl Tryz.func46 #[.slice A0 l0.length c0] (zI.calls k _ _ l0 true _ ?side1 ?side2 A2.out) ?_; (case side1 => repeat (first | exact HR0.out | (with_reducible refine Kd.C_alloc ?_ _) | (with_reducible refine Kd.C_drewN ?_ _) | (with_reducible refine Kd.C_drew ?_))); (case side2 => exact HC0.out); rintro e w4 ⟨rfl, hb⟩; refine ⟨_, rfl, ?_⟩; replace HB := ak (zb bq hb); (try clear hb)))
  go_loopg [3, 11] k (fun kq v3 v11 w' => ∃ (x3_1 : ByteArray) (x11_1 : Int), v3 = .string x3_1 ∧ v11 = .int .i64 x11_1 ∧ Aside0 (zJ.l0 kq x3_1 l0 (l0.length : Int) x11_1 = some r) ∧ Aside0 (kq ≤ k) ∧ Aside0 (Below w.heap.size w w'))
  case atStart => exact ⟨((⟨#[]⟩ : ByteArray)), (0), rs, rs, H', ⟨Nat.le_refl _⟩, ⟨bq⟩⟩
  case round =>
   clear H'
   obtain ⟨x3_1, x11_1, rfl, rfl, HA, HK1, HB⟩ := hrel
   cases gk with
   | zero => exact absurd HA.out (by simp [zJ.l0])
   | succ k1 =>
    have H := HA.out
    clear HA
    simp only [zJ.l0] at H
    replace H := sd H
    rcases H with ⟨c5b0, H⟩ | ⟨c5b0, H⟩
    ·replace H := sT H
     obtain ⟨c6, H⟩ := H
     have c6b0 := decide_eq_true c6
     clear c6
     replace H := sT H
     obtain ⟨c7, H⟩ := H
     have c7b0 := decide_eq_true c7
     clear c7
     replace H := sK H
     obtain ⟨c8, c8b0, c8b1, H⟩ := H
     have c8b2 := sz c8
     replace H := sK H
     obtain ⟨c9, c9b0, c9b1, H⟩ := H
     have c9b2 := sz c9
     try have c9b3 : (9223372036854775807 < ((zV l0 x11_1).f0).size + 2 + ((zV l0 x11_1).f1).size) = False := sz3 c9
     replace H := sK H
     obtain ⟨c10, c10b0, c10b1, H⟩ := H
     have c10b2 := sz c10
     try have c10b3 : (9223372036854775807 < ((zV l0 x11_1).f0).size + 2 + ((zV l0 x11_1).f1).size + 2) = False := sz3 c10
     replace H := sK H
     obtain ⟨c11, c11b0, c11b1, H⟩ := H
     have c11b2 := sz c11
     try have c11b3 : (9223372036854775807 < (x3_1).size + (((zV l0 x11_1).f0).size + 2 + ((zV l0 x11_1).f1).size + 2)) = False := sz3 c11
     have H' := ak H
     clear H
     have p102 : 0 ≤ (x11_1 : Int) := of_decide_eq_true asm
     have q102 : x11_1 < (l0.length : Int) := of_decide_eq_true asm
     obtain ⟨ad102, e102, hx102_0, hx102_1⟩ := qO HR0.out x11_1 p102 q102
     cases e102
     replace hx102_0 := (HB.out.cell (World.block_lt_of_cell? w _ hx102_0)).trans hx102_0
     replace hx102_1 := (HB.out.cell (World.block_lt_of_cell? w _ hx102_1)).trans hx102_1
     replace p102 := eq_true p102
     replace q102 := eq_true q102
     go_wp2_with (first | ((with_reducible refine zl (N := 5) rfl ?_); refine bx 5 #[.string ⟨#[]⟩, .string ⟨#[]⟩] 55 ?_; intro gb103 hg w12 hbox hb; have BK103 := ak (hbox); have GW103 := ak ((by rw [hg]; exact (zd bq) : w.heap.size ≤ gb103)); have GE103 := GW103; replace HB := ak (zb bq hb); clear hb hbox hg; obtain ⟨hcz13_0, hcz13_1, hfz13_0, hfz13_1⟩ := blk2 BK103.out))
     go_roundg k1
     case measure => have := HK1.out; omega
     case rel => exact ⟨(x3_1 ++ (((((zV l0 x11_1).f0) ++ (⟨#[58, 32]⟩ : ByteArray)) ++ ((zV l0 x11_1).f1)) ++ (⟨#[13, 10]⟩ : ByteArray))), (wrap64 (x11_1 + 1)), rs, rs, H', ⟨by have := HK1.out; omega⟩, ⟨bq1 GE103.out⟩⟩
    ·replace H := sK H
     obtain ⟨c14, c14b0, c14b1, H⟩ := H
     have c14b2 := sz c14
     obtain rfl := oi1 H
     go_wp2
     go_ret
     exact ⟨rv, bq⟩
 ·obtain rfl := oi1 H
  go_enter Tryz.func19, Tryz.ntmps19
  go_wp2_with (first | ((with_reducible refine za (f := 46) rfl ?_); refine cl 7 rfl Tryz.func46 #[.slice A0 l0.length c0] (zI.calls k _ _ l0 false _ ?side1 ?side2 A2.out) ?_; (case side1 => repeat (first | exact HR0.out | (with_reducible refine Kd.C_alloc ?_ _) | (with_reducible refine Kd.C_drewN ?_ _) | (with_reducible refine Kd.C_drew ?_))); (case side2 => exact HC0.out); rintro e w15 ⟨rfl, hb⟩; refine ⟨_, rfl, ?_⟩; replace HB := ak (zb bq hb); (try clear hb)))
  go_ret
  exact ⟨rv, bq⟩
def qb.f (a0 : Int) : Option (ByteArray) := (qi.f a0).bind fun t101 => (some t101)
theorem qb.calls (a0 : Int) (r : ByteArray) (w : World) (hGPow : GPow w) (h : qb.f a0 = some r) :
  Calls Tryz.prog 31 #[.int .i64 a0] w fun e w' => e = .returned (.string r) ∧ Below w.heap.size w w' := by
 have HGPow := ak hGPow
 clear hGPow
 have HB := ak (Below.refl w.heap.size w)
 have H : ((qi.f a0).bind fun t101 => (some t101)) = some r := h
 clear h
 replace H := ob H
 obtain ⟨t101, A2, H⟩ := H
 obtain rfl := oi1 H
 go_enter Tryz.func31, Tryz.ntmps31
 go_wp2_with (first | ((with_reducible refine za (f := 63) rfl ?_); refine cl 4 rfl Tryz.func63 #[.int .i64 a0] (qi.calls a0 t101 _ ?side1 A2.out) ?_; (case side1 => refine xu HGPow.out ?_; exact bq); rintro e w3 ⟨rfl, hb⟩; refine ⟨_, rfl, ?_⟩; replace HB := ak (zb bq hb); (try clear hb)))
 go_ret
 exact ⟨rv, bq⟩
def qS.f (l0 : List (S55)) : Option (List (S55)) := if l0.length ≤ 4194304 then some l0 else none
theorem qS.calls (A0 : Option Addr) (c0 : Nat) (l0 : List (S55)) (r : List (S55)) (w : World) (hr0 : Kd.C k55 w A0 l0.length l0) (hc0 : l0.length ≤ c0) (h : qS.f l0 = some r) :
  Calls Tryz.prog 47 #[.slice A0 l0.length c0] w fun e w' => ∃ v0_ : Value, e = .returned (v0_) ∧ Kd.R k55 55 w' w.heap.size (fun _ => True) v0_ r ∧ Below w.heap.size w w' := by
 have hs : l0.length ≤ 4194304 := by
  unfold qS.f at h
  split at h
  ·assumption
  ·cases h
 unfold qS.f at h
 rw [if_pos hs] at h
 have h := Option.some.inj h
 subst h
 have q22 : ∀ (w : World) (a : Option Addr) (n c n' c' : Nat), (binOp .eql 24 (.slice a n c) (.slice none n' c')).run Tryz.prog w = .ok (.bool a.isNone) w := fun w a n c n' c' => Lib.run_eql_slice_nil w _ _ a n c n' c' Tryz.underlying24
 have u22 : ∀ w, Sem.run Tryz.prog (underlying 24) w = .ok (TypeDesc.slice 55) w := run_underlying Tryz.underlying24
 have HB := ak (Below.refl w.heap.size w)
 cases A0 with
 | none =>
  have hl : l0 = [] := by
   cases l0 with
   | nil => rfl
   | cons x r =>
    obtain ⟨_, e, _⟩ := hr0.2.2 (by simp)
    cases e
  subst hl
  clear hr0
  go_enter Tryz.func47, Tryz.ntmps47
  go_wp2
  go_ret
  exact ⟨_, rfl, Kd.R_nil _ _ _ _ _, HB.out⟩
 | some ad =>
  have HR0 := ak hr0
  clear hr0
  go_enter Tryz.func47, Tryz.ntmps47
  go_wp2_with (first | ((with_reducible refine zl (N := 5) rfl ?_); refine r0 k55 55 5 rfl ?_; intro u5 w3 ho4 hb; have HO := ak (Kd.R_lower ho4 (zd HB.out)); have HB2 := ak (zb HB.out hb); clear HB; have HB := HB2; clear HB2; clear hb ho4) | ((with_reducible refine xi (b := .append) (xs := #[.tmp 5, .tmp 6]) rfl ?_); at_builtin; refine Kd.R_append_rows k55 (w0 := w) w.heap.size rfl (.tmp 5) (.tmp 6) 24 55 (.agg #[(.string ⟨#[]⟩), (.string ⟨#[]⟩)]) 32 rfl Tryz.underlying24 vM rfl (by decide) (by omega) u5 [] l0 _ _ _ (fun _ => True) (fun _ => False) rfl rfl ?aO ?aR (fun _ _ h => h) (fun _ h => h.elim) ?aF ?aB ?aS ?aL ?_; (case aO => exact HO.out); (case aR => exact Kd.C_below HR0.out HB.out); (case aF => exact fun _ _ => trivial); (case aB => exact HB.out); (case aS => exact zd HB.out); (case aL => simp; omega); intro v1 w4 ho hb hg hat; clear HO HB; have HO := ak ho; have HB := ak hb; clear ho hb hg hat))
  go_ret
  exact ⟨_, rfl, by simpa using HO.out, HB.out⟩
def xG.f (l0 : List (S55)) (a1 : ByteArray) : Option ((List (S55))) := (qS.f l0).bind fun t101 => ((qb.f (a1.size : Int)).bind fun t104 => (if t101.length < 4398046511104 then (some (t101 ++ [(⟨(⟨#[99, 111, 110, 116, 101, 110, 116, 45, 108, 101, 110, 103, 116, 104]⟩ : ByteArray), t104⟩ : S55)])) else (none)))
theorem xG.calls (A0 : Option Addr) (c0 : Nat) (l0 : List (S55)) (a1 : ByteArray) (r : List (S55)) (w : World) (hr0 : Kd.C k55 w A0 l0.length l0) (hc0 : l0.length ≤ c0) (hGPow : GPow w) (h : xG.f l0 a1 = some r) :
  Calls Tryz.prog 20 #[.slice A0 l0.length c0, .string a1] w fun e w' => ∃ v0_ : Value, e = .returned (v0_) ∧ Kd.R k55 55 w' w.heap.size (fun _ => True) v0_ r ∧ Below w.heap.size w w' := by
 have hu55 := Tryz.underlying55
 have HR0 := ak hr0
 have HC0 := ak hc0
 clear hr0 hc0
 have HGPow := ak hGPow
 clear hGPow
 have HB := ak (Below.refl w.heap.size w)
 have H := h
 unfold xG.f at H
 clear h
 replace H := ob H
 obtain ⟨t101, A3, H⟩ := H
 replace H := ob H
 obtain ⟨t104, A4, H⟩ := H
 replace H := sT H
 obtain ⟨c5, H⟩ := H
 have LMc5 := ak c5
 clear c5
 obtain ⟨y105, hy105⟩ : ∃ y_ : List (S55), y_ = (t101 ++ [(⟨(⟨#[99, 111, 110, 116, 101, 110, 116, 45, 108, 101, 110, 103, 116, 104]⟩ : ByteArray), t104⟩ : S55)]) := ⟨_, rfl⟩
 replace H : (some y105) = some r := rhq hy105
 have Ny105 := ak hy105
 clear hy105
 obtain rfl := oi1 H
 go_enter Tryz.func20, Tryz.ntmps20
 go_wp2_with (first | ((with_reducible refine za (f := 47) rfl ?_); refine cl 6 rfl Tryz.func47 #[.slice A0 l0.length c0] (qS.calls _ _ l0 t101 _ ?side1 ?side2 A3.out) ?_; (case side1 => repeat (first | exact HR0.out | (with_reducible refine Kd.C_alloc ?_ _) | (with_reducible refine Kd.C_drewN ?_ _) | (with_reducible refine Kd.C_drew ?_))); (case side2 => exact HC0.out); rintro e w6 ⟨v102, rfl, ho0, hb⟩; refine ⟨_, rfl, ?_⟩; have HO103 := ak (Kd.R_lower ho0 (zd bq)); replace HB := ak (zb bq hb); (try clear hb ho0)) | ((with_reducible refine za (f := 31) rfl ?_); refine cl 9 rfl Tryz.func31 #[.int .i64 (a1.size : Int)] (qb.calls (a1.size : Int) t104 _ ?side1 A4.out) ?_; (case side1 => refine xu HGPow.out ?_; exact bq); rintro e w7 ⟨rfl, hb⟩; refine ⟨_, rfl, ?_⟩; replace HO103 := ak (Kd.R_below (rdq HO103.out) hb); replace HB := ak (zb bq hb); (try clear hb)) | ((with_reducible refine xi (b := .append) (xs := #[.tmp 6, .tmp 11]) rfl ?_); at_builtin; refine Kd.R_append k55 (w0 := w) w.heap.size rfl (.tmp 6) (.tmp 11) 24 55 (.agg #[(.string ⟨#[]⟩), (.string ⟨#[]⟩)]) 32 rfl Tryz.underlying24 vM rfl (by decide) (by omega) v102 t101 (⟨(⟨#[99, 111, 110, 116, 101, 110, 116, 45, 108, 101, 110, 103, 116, 104]⟩ : ByteArray), t104⟩ : S55) [.string ⟨#[99, 111, 110, 116, 101, 110, 116, 45, 108, 101, 110, 103, 116, 104]⟩, .string t104] (fun _ => True) (fun _ => False) rfl rfl ?aP (fun _ hk => hk.elim) ?aF ?aO ?aB ?aS ?aL ?_; (case aP => exact jA _ _ _ (⟨(⟨#[99, 111, 110, 116, 101, 110, 116, 45, 108, 101, 110, 103, 116, 104]⟩ : ByteArray), t104⟩ : S55)); (case aB => exact bq); (case aF => exact (fun _ _ => trivial)); (case aO => exact (rdq HO103.out)); (case aS => exact (zd bq)); (case aL => have := LMc5.out; omega); intro v106 w8 ho hb hg hat; rw [← Ny105.out] at ho; have HO107 := ak (ho); replace HB := ak (hb); clear HO103; clear ho hb hg hat))
 go_ret
 exact ⟨_, rv, by (with_reducible repeat (first | apply Kd.R_alloc | apply Kd.R_drewN | apply Kd.R_drew)); exact HO107.out, bq⟩
def yh.f (k : Nat) (a0_0 : ByteArray) (a0_1 : ByteArray) (l0_2 : List (S55)) (a0_3 : ByteArray) : Option (ByteArray) := (yO.f k a0_0 a0_1 l0_2 a0_3).bind fun t102 => (if t102 = true then (if a0_0.size + 1 ≤ 9223372036854775807 then (if (a0_0 ++ (⟨#[32]⟩ : ByteArray)).size + a0_1.size ≤ 9223372036854775807 then (if ((a0_0 ++ (⟨#[32]⟩ : ByteArray)) ++ a0_1).size + 1 ≤ 9223372036854775807 then (if (((a0_0 ++ (⟨#[32]⟩ : ByteArray)) ++ a0_1) ++ (⟨#[32]⟩ : ByteArray)).size + 8 ≤ 9223372036854775807 then (if ((((a0_0 ++ (⟨#[32]⟩ : ByteArray)) ++ a0_1) ++ (⟨#[32]⟩ : ByteArray)) ++ (⟨#[72, 84, 84, 80, 47, 49, 46, 49]⟩ : ByteArray)).size + 2 ≤ 9223372036854775807 then ((xG.f l0_2 a0_3).bind fun t103 => ((zJ.f k t103).bind fun t106 => (if (((((a0_0 ++ (⟨#[32]⟩ : ByteArray)) ++ a0_1) ++ (⟨#[32]⟩ : ByteArray)) ++ (⟨#[72, 84, 84, 80, 47, 49, 46, 49]⟩ : ByteArray)) ++ (⟨#[13, 10]⟩ : ByteArray)).size + t106.size ≤ 9223372036854775807 then (if ((((((a0_0 ++ (⟨#[32]⟩ : ByteArray)) ++ a0_1) ++ (⟨#[32]⟩ : ByteArray)) ++ (⟨#[72, 84, 84, 80, 47, 49, 46, 49]⟩ : ByteArray)) ++ (⟨#[13, 10]⟩ : ByteArray)) ++ t106).size + a0_3.size ≤ 9223372036854775807 then (some (((((((a0_0 ++ (⟨#[32]⟩ : ByteArray)) ++ a0_1) ++ (⟨#[32]⟩ : ByteArray)) ++ (⟨#[72, 84, 84, 80, 47, 49, 46, 49]⟩ : ByteArray)) ++ (⟨#[13, 10]⟩ : ByteArray)) ++ t106) ++ a0_3)) else (none)) else (none)))) else (none)) else (none)) else (none)) else (none)) else (none)) else (some (⟨#[]⟩ : ByteArray)))
theorem yh.mono : ∀ a0 a1 a2 a3 k, LeO (yh.f k a0 a1 a2 a3) (yh.f (k + 1) a0 a1 a2 a3) := by
 intro a0 a1 a2 a3 k
 unfold yh.f
 exact mq2 yO.mono zJ.mono
def yh.T3 : Bool × List (List Nat × List Nat) := (true, [([], []), ([0], [0]), ([1], [1]), ([], []), ([3], [3]), ([2, 4], [2, 4]), ([5], [5]), ([6], [6]), ([7], [7]), ([], []), ([9], [9]), ([], []), ([11], [11]), ([10, 12], [10, 12]), ([13, 13], [13]), ([8, 14], [8, 14]), ([], []), ([16], [16]), ([15, 17], [15, 17]), ([18, 14, 0, 1, 2, 3, 4, 5, 6, 7, 8, 9, 10, 11, 12, 13, 14, 15, 16, 17, 18], [18])])
def yh.B3 : List Nat := [0, 1, 3, 0, 8, 31, 63, 127, 255, 0, 512, 0, 2048, 7680, 15872, 32767, 0, 65536, 262143, 524287]
theorem yh.tab3 : rtab .any (opsOf Tryz.f6 3) = yh.T3 := by kernel_rfl
theorem yh.bits3 : qj yh.T3.2 yh.B3 = true := by kernel_rfl
theorem yh.calls (k : Nat) (a0_0 : ByteArray) (a0_1 : ByteArray) (A0_2 : Option Addr) (c0_2 : Nat) (l0_2 : List (S55)) (a0_3 : ByteArray) (r : ByteArray) (w : World) (hr0_2 : Kd.C k55 w A0_2 l0_2.length l0_2) (hc0_2 : l0_2.length ≤ c0_2) (hGPow : GPow w) (h : yh.f k a0_0 a0_1 l0_2 a0_3 = some r) :
  Calls Tryz.prog 6 #[.agg #[.string a0_0, .string a0_1, .slice A0_2 l0_2.length c0_2, .string a0_3]] w fun e w' => e = .returned (.string r) ∧ Below w.heap.size w w' := by
 have hu26 := Tryz.underlying26
 have HR0_2 := ak hr0_2
 have HC0_2 := ak hc0_2
 clear hr0_2 hc0_2
 have HGPow := ak hGPow
 clear hGPow
 have HB := ak (Below.refl w.heap.size w)
 have H := h
 unfold yh.f at H
 clear h
 replace H := ob H
 obtain ⟨t102, A2, H⟩ := H
 replace H := sb H
 rcases H with ⟨rfl, H⟩ | ⟨rfl, H⟩
 ·replace H := sK H
  obtain ⟨c4, c4b0, c4b1, H⟩ := H
  have c4b2 := sz c4
  replace H := sK H
  obtain ⟨c5, c5b0, c5b1, H⟩ := H
  have c5b2 := sz c5
  try have c5b3 : (9223372036854775807 < (a0_0).size + 1 + (a0_1).size) = False := sz3 c5
  replace H := sK H
  obtain ⟨c6, c6b0, c6b1, H⟩ := H
  have c6b2 := sz c6
  try have c6b3 : (9223372036854775807 < (a0_0).size + 1 + (a0_1).size + 1) = False := sz3 c6
  replace H := sK H
  obtain ⟨c7, c7b0, c7b1, H⟩ := H
  have c7b2 := sz c7
  try have c7b3 : (9223372036854775807 < (a0_0).size + 1 + (a0_1).size + 1 + 8) = False := sz3 c7
  replace H := sK H
  obtain ⟨c8, c8b0, c8b1, H⟩ := H
  have c8b2 := sz c8
  try have c8b3 : (9223372036854775807 < (a0_0).size + 1 + (a0_1).size + 1 + 8 + 2) = False := sz3 c8
  replace H := ob H
  obtain ⟨t103, A9, H⟩ := H
  replace H := ob H
  obtain ⟨t106, A10, H⟩ := H
  replace H := sK H
  obtain ⟨c11, c11b0, c11b1, H⟩ := H
  have c11b2 := sz c11
  try have c11b3 : (9223372036854775807 < (a0_0).size + 1 + (a0_1).size + 1 + 8 + 2 + (t106).size) = False := sz3 c11
  replace H := sK H
  obtain ⟨c12, c12b0, c12b1, H⟩ := H
  have c12b2 := sz c12
  try have c12b3 : (9223372036854775807 < (a0_0).size + 1 + (a0_1).size + 1 + 8 + 2 + (t106).size + (a0_3).size) = False := sz3 c12
  obtain rfl := oi1 H
  go_enter Tryz.func6, Tryz.ntmps6
  try go_wp2_with (first | ((with_reducible refine zl (N := 1) rfl ?_); refine bx 1 #[.string a0_0, .string a0_1, .slice A0_2 l0_2.length c0_2, .string a0_3] 26 ?_; intro gb101 hg w13 hbox hb; have BK101 := ak (hbox); have GW101 := ak ((by rw [hg]; exact (zd bq) : w.heap.size ≤ gb101)); have GE101 := GW101; replace HB := ak (zb bq hb); clear hb hbox hg; obtain ⟨hcz14_0, hcz14_1, hcz14_2, hcz14_3, hfz14_0, hfz14_1, hfz14_2, hfz14_3⟩ := blk4 BK101.out) | ((with_reducible refine za (f := 18) rfl ?_); refine cl 4 rfl Tryz.func18 #[.agg #[.string a0_0, .string a0_1, .slice A0_2 l0_2.length c0_2, .string a0_3]] (yO.calls k a0_0 a0_1 _ _ l0_2 a0_3 true _ ?side1 ?side2 A2.out) ?_; (case side1 => repeat (first | exact (Kd.C_below HR0_2.out HB.out) | (with_reducible refine Kd.C_alloc ?_ _) | (with_reducible refine Kd.C_drewN ?_ _) | (with_reducible refine Kd.C_drew ?_))); (case side2 => exact HC0_2.out); rintro e w15 ⟨rfl, hb⟩; refine ⟨_, rfl, ?_⟩; replace BK101 := ak (ze (blq BK101.out) hb); replace HB := ak (zb (bq1 GE101.out) hb); (try clear hb)))
  have n0_ := ak (xe BK101.out)
  have n1_ := ak (ye HB.out)
  clear BK101
  clear HB
  have BK101 := n0_
  have HB := n1_
  clear n0_ n1_
  refine start_ (n := 20) (S := fun w' => w'.cell? ⟨gb101, 0, none⟩ = some (.string a0_0) ∧ w'.cell? ⟨gb101, 1, none⟩ = some (.string a0_1) ∧ w'.cell? ⟨gb101, 2, none⟩ = some (.slice A0_2 l0_2.length c0_2) ∧ w'.cell? ⟨gb101, 3, none⟩ = some (.string a0_3)) (ds := []) (Array.replicate 20 false) (by kernel_rfl) rfl rfl ⟨(zg BK101.out 0).trans rfl, (zg BK101.out 1).trans rfl, (zg BK101.out 2).trans rfl, (zg BK101.out 3).trans rfl⟩ (fun hHeld => ?_); refine xm yh.tab3 yh.bits3 (fun HT_ HW_ => ?_)
  generalize w15.drew = w16 at BK101 HB hHeld ⊢
  refine pu 0 6 HT_ ?_
  refine pu 3 9 HT_ ?_
  refine pu 9 15 HT_ ?_
  refine pu 11 17 HT_ ?_
  refine pu 16 22 HT_ ?_
  refine tk 1 7 HT_ HW_ hHeld ?_ (hy := by rintro w' ⟨s0, s1, s2, s3⟩; go_simp; with_reducible rfl)
  refine pu 2 8 HT_ ?_
  refine tk 4 10 HT_ HW_ hHeld ?_ (hy := by rintro w' ⟨s0, s1, s2, s3⟩; go_simp; with_reducible rfl)
  refine pu 5 11 HT_ ?_
  refine pu 6 12 HT_ ?_
  refine pu 7 13 HT_ ?_
  refine pu 8 14 HT_ ?_
  refine tk 10 16 HT_ HW_ hHeld ?_ (hy := by rintro w' ⟨s0, s1, s2, s3⟩; go_simp; with_reducible rfl)
  refine tk 12 18 HT_ HW_ hHeld ?_ (hy := by rintro w' ⟨s0, s1, s2, s3⟩; go_simp; with_reducible rfl)
  refine tk 17 23 HT_ HW_ hHeld ?_ (hy := by rintro w' ⟨s0, s1, s2, s3⟩; go_simp; with_reducible rfl)
  refine on1 13 19 HT_ (fun K hK => ?_)
  refine goes_ Tryz.func20 (by kernel_rfl) rfl #[.slice A0_2 l0_2.length c0_2, .string a0_3] (by rfl) rfl rfl am ?_
  with_reducible refine (xG.calls _ _ l0_2 a0_3 t103 _ ?side1 ?side2 ?side3 A9.out).mono ?_
  (case side1 => repeat (first | exact (Kd.C_below HR0_2.out HB.out) | (with_reducible refine Kd.C_alloc ?_ _) | (with_reducible refine Kd.C_drewN ?_ _) | (with_reducible refine Kd.C_drew ?_)))
  (case side2 => exact HC0_2.out)
  (case side3 => refine xu HGPow.out ?_; exact bq1 GE101.out)
  rintro e w17 ⟨v104, rfl, ho0, hb⟩
  refine ⟨_, rfl, ?_⟩
  have n0_ := ak (Kd.R_lower ho0 (zd (bq1 GE101.out)))
  have n1_ := ak (ze (blq BK101.out) hb)
  have n2_ := ak (zb (bq1 GE101.out) hb)
  clear BK101
  clear HB
  have HO105 := n0_
  have BK101 := n1_
  have HB := n2_
  clear n0_ n1_ n2_
  (try clear hb)
  (try clear hb2)
  (try clear hk)
  (try clear hi)
  (try clear ho0)
  obtain ⟨Ao18, co18, eo18⟩ := Kd.R_slice HO105.out
  (first | subst eo18 | (injection eo18 with f1_ f2_ f3_; have f4_ := f1_.symm; have f5_ := f3_.symm; clear f1_ f2_ f3_; subst f4_; subst f5_))
  refine hK.out _ _ ⟨(zg BK101.out 0).trans rfl, (zg BK101.out 1).trans rfl, (zg BK101.out 2).trans rfl, (zg BK101.out 3).trans rfl⟩ (fun hHeld => ?_)
  clear hK K
  refine nrm 19 ?_
  refine on1 14 20 HT_ (fun K hK => ?_)
  refine goes_ Tryz.func19 (by kernel_rfl) rfl #[.slice Ao18 t103.length co18] (by rfl) rfl rfl am ?_
  with_reducible refine (zJ.calls k _ _ t103 t106 _ ?side1 ?side2 A10.out).mono ?_
  (case side1 => exact cq (Kd.R_reads' HO105.out).2.2)
  (case side2 => exact (Kd.R_reads' HO105.out).2.1)
  rintro e w19 ⟨rfl, hb⟩
  refine ⟨_, rfl, ?_⟩
  have n0_ := ak (Kd.R_below (rdq HO105.out) hb)
  have n1_ := ak (ze (blq BK101.out) hb)
  have n2_ := ak (zb (bq1 GE101.out) hb)
  clear HO105
  clear BK101
  clear HB
  have HO105 := n0_
  have BK101 := n1_
  have HB := n2_
  clear n0_ n1_ n2_
  (try clear hb)
  (try clear hb2)
  (try clear hk)
  (try clear hi)
  refine hK.out _ _ ⟨(zg BK101.out 0).trans rfl, (zg BK101.out 1).trans rfl, (zg BK101.out 2).trans rfl, (zg BK101.out 3).trans rfl⟩ (fun hHeld => ?_)
  clear hK K
  refine nrm 20 ?_
  refine pu 15 21 HT_ ?_
  refine pu 18 24 HT_ ?_
  refine pu 19 2 HT_ ?_
  refine done_ (xV HT_.out (by kernel_rfl)) ?_
  try go_wp2
  go_ret
  exact ⟨rv, bq1 GE101.out⟩
 ·obtain rfl := oi1 H
  go_enter Tryz.func6, Tryz.ntmps6
  go_wp2_with (first | ((with_reducible refine zl (N := 1) rfl ?_); refine bx 1 #[.string a0_0, .string a0_1, .slice A0_2 l0_2.length c0_2, .string a0_3] 26 ?_; intro gb101 hg w20 hbox hb; have BK101 := ak (hbox); have GW101 := ak ((by rw [hg]; exact (zd bq) : w.heap.size ≤ gb101)); have GE101 := GW101; replace HB := ak (zb bq hb); clear hb hbox hg; obtain ⟨hcz21_0, hcz21_1, hcz21_2, hcz21_3, hfz21_0, hfz21_1, hfz21_2, hfz21_3⟩ := blk4 BK101.out) | ((with_reducible refine za (f := 18) rfl ?_); refine cl 4 rfl Tryz.func18 #[.agg #[.string a0_0, .string a0_1, .slice A0_2 l0_2.length c0_2, .string a0_3]] (yO.calls k a0_0 a0_1 _ _ l0_2 a0_3 false _ ?side1 ?side2 A2.out) ?_; (case side1 => repeat (first | exact (Kd.C_below HR0_2.out HB.out) | (with_reducible refine Kd.C_alloc ?_ _) | (with_reducible refine Kd.C_drewN ?_ _) | (with_reducible refine Kd.C_drew ?_))); (case side2 => exact HC0_2.out); rintro e w22 ⟨rfl, hb⟩; refine ⟨_, rfl, ?_⟩; replace BK101 := ak (ze (blq BK101.out) hb); replace HB := ak (zb (bq1 GE101.out) hb); (try clear hb)))
  go_ret
  exact ⟨rv, bq1 GE101.out⟩
def zX.l0 : Nat → ByteArray → List (S55) → ByteArray → Option ((List (S55)) × Int × Bool)
 | 0, _, _, _ => none
 | k + 1, x0, x5, x6 => (yM.f x6 (⟨#[13, 10]⟩ : ByteArray)).bind fun bt104 => (if bt104.2.2 = true then (if bt104.1.toList = ([] : List UInt8) then (some (x5, wrap64 ((x0.size : Int) - (bt104.2.1.size : Int)), true)) else ((yM.f bt104.1 (⟨#[58]⟩ : ByteArray)).bind fun bt107 => ((xl.f bt107.1).bind fun t110 => ((qq.f bt107.2.1).bind fun t111 => (if bt107.2.2 = true then ((yf.f k t110 t111).bind fun t113 => (if t113 = true then (if (x5.length : Int) = 12 then (some (([] : List (S55)), 0, false)) else (if x5.length < 4398046511104 then (zX.l0 k x0 (x5 ++ [(⟨t110, t111⟩ : S55)]) bt104.2.1) else (none))) else (some (([] : List (S55)), 0, false)))) else (some (([] : List (S55)), 0, false))))))) else (some (([] : List (S55)), 0, false)))
def zX.f (k : Nat) (a0 : ByteArray) : Option ((List (S55)) × Int × Bool) := zX.l0 k a0 (([] : List (S55))) a0
theorem zX.mono_l : ∀ k, (∀ y0 y1 y2, LeO (zX.l0 k y0 y1 y2) (zX.l0 (k + 1) y0 y1 y2))
 | 0 => fun _ _ _ r h => by simp [zX.l0] at h
 | k + 1 => by
  have ih0 := zX.mono_l k
  ·intro y0 y1 y2
   unfold zX.l0
   exact mq2 ih0 yf.mono
theorem zX.mono : ∀ a0 k, LeO (zX.f k a0) (zX.f (k + 1) a0) := by
 intro a0 k
 have ih0 := zX.mono_l k
 unfold zX.f
 exact mq2 ih0 yf.mono
theorem zX.calls (k : Nat) (a0 : ByteArray) (r1 : List (S55)) (r2 : Int) (r3 : Bool) (w : World) (hGMax : GMax w) (h : zX.f k a0 = some (r1, r2, r3)) :
  Calls Tryz.prog 51 #[.string a0] w fun e w' => ∃ v0_ : Value, e = .returned (.tuple #[v0_, .int .i64 r2, .bool r3]) ∧ Kd.R k55 55 w' w.heap.size (fun _ => True) v0_ r1 ∧ Below w.heap.size w w' := by
 have hu55 := Tryz.underlying55
 have HGMax := ak hGMax
 clear hGMax
 have HB := ak (Below.refl w.heap.size w)
 have H : (zX.l0 k a0 (([] : List (S55))) a0) = some (r1, r2, r3) := h
 clear h
 obtain ⟨y101, hy101⟩ : ∃ y_ : List (S55), y_ = (([] : List (S55))) := ⟨_, rfl⟩
 replace H : (zX.l0 k a0 y101 a0) = some (r1, r2, r3) := rhq hy101
 have Ny101 := ak hy101
 clear hy101
 have H' := ak H
 clear H
 go_enter Tryz.func51, Tryz.ntmps51
 go_wp2_with (first | ((with_reducible refine zl (N := 14) rfl ?_); (try (refine yd (by rfl) ?_; dsimp only)); refine r0 k55 55 14 Ny101.out ?_; intro v102 w2 ho3 hb; have HO103 := ak (Kd.R_lower ho3 (zd bq)); replace HB := ak (zb bq hb); clear hb ho3))
 go_loopg [5, 6] k (fun kq v5 v6 w' => ∃ (x5_1 : List (S55)) (x6_1 : ByteArray), v6 = .string x6_1 ∧ Aside0 (zX.l0 kq a0 x5_1 x6_1 = some (r1, r2, r3)) ∧ Aside0 (kq ≤ k) ∧ Aside0 (Kd.R k55 55 w' w.heap.size (fun _ => True) v5 x5_1) ∧ Aside0 (Below w.heap.size w w'))
 case atStart => exact ⟨(y101), (a0), rs, H', ⟨Nat.le_refl _⟩, ⟨rdq HO103.out⟩, ⟨bq⟩⟩
 case round =>
  clear H'
  obtain ⟨x5_1, x6_1, rfl, HA, HK1, HO_5, HB⟩ := hrel
  cases gk with
  | zero => exact absurd HA.out (by simp [zX.l0])
  | succ k1 =>
   have H := HA.out
   clear HA
   simp only [zX.l0] at H
   replace H := ob H
   obtain ⟨⟨t104, t105, t106⟩, A4, H⟩ := H
   try dsimp only at H
   replace H := sb H
   rcases H with ⟨rfl, H⟩ | ⟨rfl, H⟩
   ·replace H := se H
    rcases H with ⟨c6b0, c6b1, H⟩ | ⟨c6, c6b0, c6b1, H⟩
    ·obtain ⟨rfl, rfl, rfl⟩ := oi3 H
     go_wp2_with (first | ((with_reducible refine za (f := 49) rfl ?_); refine cl 18 rfl Tryz.func49 #[.string x6_1, .string ⟨#[13, 10]⟩] (yM.calls x6_1 (⟨#[13, 10]⟩ : ByteArray) t104 t105 true _ ?side1 A4.out) ?_; (case side1 => refine zY HGMax.out ?_; exact bq); rintro e w7 ⟨rfl, hb⟩; refine ⟨_, rfl, ?_⟩; replace HO_5 := ak (Kd.R_below (rdq HO_5.out) hb); replace HB := ak (zb bq hb); (try clear hb)))
     go_ret3
     exact ⟨_, rv, by (with_reducible repeat (first | apply Kd.R_alloc | apply Kd.R_drewN | apply Kd.R_drew)); exact HO_5.out, bq⟩
    ·replace H := ob H
     obtain ⟨⟨t107, t108, t109⟩, A8, H⟩ := H
     try dsimp only at H
     replace H := ob H
     obtain ⟨t110, A9, H⟩ := H
     replace H := ob H
     obtain ⟨t111, A10, H⟩ := H
     replace H := sb H
     rcases H with ⟨rfl, H⟩ | ⟨rfl, H⟩
     ·replace H := ob H
      obtain ⟨t113, A12, H⟩ := H
      try dsimp only at H
      replace H := sb H
      rcases H with ⟨rfl, H⟩ | ⟨rfl, H⟩
      ·replace H := se H
       rcases H with ⟨c14b0, c14b1, H⟩ | ⟨c14, c14b0, c14b1, H⟩
       ·obtain ⟨rfl, rfl, rfl⟩ := oi3 H
        go_wp2_with (first | ((with_reducible refine za (f := 49) rfl ?_); refine cl 18 rfl Tryz.func49 #[.string x6_1, .string ⟨#[13, 10]⟩] (yM.calls x6_1 (⟨#[13, 10]⟩ : ByteArray) t104 t105 true _ ?side1 A4.out) ?_; (case side1 => refine zY HGMax.out ?_; exact bq); rintro e w15 ⟨rfl, hb⟩; refine ⟨_, rfl, ?_⟩; replace HO_5 := ak (Kd.R_below (rdq HO_5.out) hb); replace HB := ak (zb bq hb); (try clear hb)) | ((with_reducible refine za (f := 49) rfl ?_); refine cl 35 rfl Tryz.func49 #[.string t104, .string ⟨#[58]⟩] (yM.calls t104 (⟨#[58]⟩ : ByteArray) t107 t108 true _ ?side1 A8.out) ?_; (case side1 => refine zY HGMax.out ?_; exact bq); rintro e w16 ⟨rfl, hb⟩; refine ⟨_, rfl, ?_⟩; replace HO_5 := ak (Kd.R_below (rdq HO_5.out) hb); replace HB := ak (zb bq hb); (try clear hb)) | ((with_reducible refine za (f := 54) rfl ?_); refine cl 40 rfl Tryz.func54 #[.string t107] (xl.calls t107 t110 _ A9.out) ?_; rintro e w17 ⟨rfl, hb⟩; refine ⟨_, rfl, ?_⟩; replace HO_5 := ak (Kd.R_below (rdq HO_5.out) hb); replace HB := ak (zb bq hb); (try clear hb)) | ((with_reducible refine za (f := 85) rfl ?_); refine cl 42 rfl Tryz.func85 #[.string t108] (qq.calls t108 t111 _ A10.out) ?_; rintro e w18 ⟨rfl, hb⟩; refine ⟨_, rfl, ?_⟩; replace HO_5 := ak (Kd.R_below (rdq HO_5.out) hb); replace HB := ak (zb bq hb); (try clear hb)) | ((with_reducible refine zl (N := 13) rfl ?_); (try (refine yd (by rfl) ?_; dsimp only)); refine bx 13 #[.string ⟨#[]⟩, .string ⟨#[]⟩] 55 ?_; intro gb112 hg w19 hbox hb; have BK112 := ak (hbox); have GW112 := ak ((by rw [hg]; exact (zd bq) : w.heap.size ≤ gb112)); have GE112 := GW112; replace HO_5 := ak (Kd.R_below (Kd.R_elderB (rdq HO_5.out) gb112 (Nat.le_of_eq hg.symm)) hb); replace HB := ak (zb bq hb); clear hb hbox hg; obtain ⟨hcz20_0, hcz20_1, hfz20_0, hfz20_1⟩ := blk2 BK112.out) | (go_at_call 78; (with_reducible refine (yf.calls k1 t110 t111 true _ A12.out).mono ?_); rintro e w21 ⟨rfl, hb⟩; replace HO_5 := ak (Kd.R_below (by (with_reducible repeat (first | apply Kd.R_alloc | apply Kd.R_drewN | apply Kd.R_drew)); exact (Kd.R_mono (Kd.R_far (p := ⟨gb112, 1, none⟩) (Kd.R_far (p := ⟨gb112, 0, none⟩) (Kd.R_mono HO_5.out (fun k_ hk => (⟨hk, hk.2⟩ : _ ∧ k_ ≠ gb112))) (fun _ hk => hk.2) (.string t110)) (fun _ hk => hk.2) (.string t111)) (fun _ h_ => h_.1))) hb); replace BK112 := ak (ze (g := gb112) (o := .cells #[.string t110, .string t111] 55 (0, 0)) (blp0 BK112.out) hb); replace HB := ak (zb (bq1 GE112.out) hb); (try clear hb); obtain ⟨Ao22, co22, eo22⟩ := Kd.R_slice HO_5.out; subst eo22))
        go_ret3
        exact ⟨_, rv, Kd.R_nil _ _ _ _ _, bq1 GE112.out⟩
       ·replace H := sT H
        obtain ⟨c23, H⟩ := H
        have LMc23 := ak c23
        clear c23
        obtain ⟨y114, hy114⟩ : ∃ y_ : List (S55), y_ = (x5_1 ++ [(⟨t110, t111⟩ : S55)]) := ⟨_, rfl⟩
        replace H : (zX.l0 k1 a0 y114 t105) = some (r1, r2, r3) := rhq hy114
        have Ny114 := ak hy114
        clear hy114
        have H' := ak H
        clear H
        go_wp2_with (first | ((with_reducible refine za (f := 49) rfl ?_); refine cl 18 rfl Tryz.func49 #[.string x6_1, .string ⟨#[13, 10]⟩] (yM.calls x6_1 (⟨#[13, 10]⟩ : ByteArray) t104 t105 true _ ?side1 A4.out) ?_; (case side1 => refine zY HGMax.out ?_; exact bq); rintro e w24 ⟨rfl, hb⟩; refine ⟨_, rfl, ?_⟩; replace HO_5 := ak (Kd.R_below (rdq HO_5.out) hb); replace HB := ak (zb bq hb); (try clear hb)) | ((with_reducible refine za (f := 49) rfl ?_); refine cl 35 rfl Tryz.func49 #[.string t104, .string ⟨#[58]⟩] (yM.calls t104 (⟨#[58]⟩ : ByteArray) t107 t108 true _ ?side1 A8.out) ?_; (case side1 => refine zY HGMax.out ?_; exact bq); rintro e w25 ⟨rfl, hb⟩; refine ⟨_, rfl, ?_⟩; replace HO_5 := ak (Kd.R_below (rdq HO_5.out) hb); replace HB := ak (zb bq hb); (try clear hb)) | ((with_reducible refine za (f := 54) rfl ?_); refine cl 40 rfl Tryz.func54 #[.string t107] (xl.calls t107 t110 _ A9.out) ?_; rintro e w26 ⟨rfl, hb⟩; refine ⟨_, rfl, ?_⟩; replace HO_5 := ak (Kd.R_below (rdq HO_5.out) hb); replace HB := ak (zb bq hb); (try clear hb)) | ((with_reducible refine za (f := 85) rfl ?_); refine cl 42 rfl Tryz.func85 #[.string t108] (qq.calls t108 t111 _ A10.out) ?_; rintro e w27 ⟨rfl, hb⟩; refine ⟨_, rfl, ?_⟩; replace HO_5 := ak (Kd.R_below (rdq HO_5.out) hb); replace HB := ak (zb bq hb); (try clear hb)) | ((with_reducible refine zl (N := 13) rfl ?_); (try (refine yd (by rfl) ?_; dsimp only)); refine bx 13 #[.string ⟨#[]⟩, .string ⟨#[]⟩] 55 ?_; intro gb112 hg w28 hbox hb; have BK112 := ak (hbox); have GW112 := ak ((by rw [hg]; exact (zd bq) : w.heap.size ≤ gb112)); have GE112 := GW112; replace HO_5 := ak (Kd.R_below (Kd.R_elderB (rdq HO_5.out) gb112 (Nat.le_of_eq hg.symm)) hb); replace HB := ak (zb bq hb); clear hb hbox hg; obtain ⟨hcz29_0, hcz29_1, hfz29_0, hfz29_1⟩ := blk2 BK112.out) | (go_at_call 78; (with_reducible refine (yf.calls k1 t110 t111 true _ A12.out).mono ?_); rintro e w30 ⟨rfl, hb⟩; replace HO_5 := ak (Kd.R_below (by (with_reducible repeat (first | apply Kd.R_alloc | apply Kd.R_drewN | apply Kd.R_drew)); exact (Kd.R_mono (Kd.R_far (p := ⟨gb112, 1, none⟩) (Kd.R_far (p := ⟨gb112, 0, none⟩) (Kd.R_mono HO_5.out (fun k_ hk => (⟨hk, hk.2⟩ : _ ∧ k_ ≠ gb112))) (fun _ hk => hk.2) (.string t110)) (fun _ hk => hk.2) (.string t111)) (fun _ h_ => h_.1))) hb); replace BK112 := ak (ze (g := gb112) (o := .cells #[.string t110, .string t111] 55 (0, 0)) (blp0 BK112.out) hb); replace HB := ak (zb (bq1 GE112.out) hb); (try clear hb); obtain ⟨Ao31, co31, eo31⟩ := Kd.R_slice HO_5.out; subst eo31; obtain ⟨hcz32_0, hcz32_1, hfz32_0, hfz32_1⟩ := blk2 BK112.out) | ((with_reducible refine xi (b := .append) (xs := #[.tmp 56, .tmp 58]) rfl ?_); (try (refine yd (by rfl) ?_; dsimp only)); at_builtin; refine Kd.R_append k55 (w0 := w) w.heap.size rfl (.tmp 56) (.tmp 58) 24 55 (.agg #[(.string ⟨#[]⟩), (.string ⟨#[]⟩)]) 32 rfl Tryz.underlying24 vM rfl (by decide) (by omega) (.slice Ao31 x5_1.length co31) x5_1 (⟨t110, t111⟩ : S55) [.string t110, .string t111] (fun k_ => k_ ≠ gb112) (fun _ => False) rfl rfl ?aP (fun _ hk => hk.elim) ?aF ?aO ?aB ?aS ?aL ?_; (case aP => exact jA _ _ _ (⟨t110, t111⟩ : S55)); (case aB => exact (bq1 GE112.out)); (case aF => exact (fun k_ hk => Kd.freshB (blq BK112.out) k_ hk)); (case aO => exact (by (with_reducible repeat (first | apply Kd.R_alloc | apply Kd.R_drewN | apply Kd.R_drew)); exact Kd.R_mono HO_5.out (fun _ hk => hk.2))); (case aS => exact (zd (bq1 GE112.out))); (case aL => have := LMc23.out; omega); intro v115 w33 ho hb hg hat; rw [← Ny114.out] at ho; have HO116 := ak (ho); replace BK112 := ak (jG (blq BK112.out) hg (Kd.R_away HO_5.out (fun _ hk => hk.2))); replace HB := ak (hb); clear HO_5; clear ho hb hg hat))
        go_roundg k1
        case measure => have := HK1.out; omega
        case rel => exact ⟨(y114), (t105), rs, H', ⟨by have := HK1.out; omega⟩, ⟨by (with_reducible repeat (first | apply Kd.R_alloc | apply Kd.R_drewN | apply Kd.R_drew)); exact Kd.R_mono HO116.out (fun _ hk => trivial)⟩, ⟨bq1 GE112.out⟩⟩
      ·obtain ⟨rfl, rfl, rfl⟩ := oi3 H
       go_wp2_with (first | ((with_reducible refine za (f := 49) rfl ?_); refine cl 18 rfl Tryz.func49 #[.string x6_1, .string ⟨#[13, 10]⟩] (yM.calls x6_1 (⟨#[13, 10]⟩ : ByteArray) t104 t105 true _ ?side1 A4.out) ?_; (case side1 => refine zY HGMax.out ?_; exact bq); rintro e w34 ⟨rfl, hb⟩; refine ⟨_, rfl, ?_⟩; replace HO_5 := ak (Kd.R_below (rdq HO_5.out) hb); replace HB := ak (zb bq hb); (try clear hb)) | ((with_reducible refine za (f := 49) rfl ?_); refine cl 35 rfl Tryz.func49 #[.string t104, .string ⟨#[58]⟩] (yM.calls t104 (⟨#[58]⟩ : ByteArray) t107 t108 true _ ?side1 A8.out) ?_; (case side1 => refine zY HGMax.out ?_; exact bq); rintro e w35 ⟨rfl, hb⟩; refine ⟨_, rfl, ?_⟩; replace HO_5 := ak (Kd.R_below (rdq HO_5.out) hb); replace HB := ak (zb bq hb); (try clear hb)) | ((with_reducible refine za (f := 54) rfl ?_); refine cl 40 rfl Tryz.func54 #[.string t107] (xl.calls t107 t110 _ A9.out) ?_; rintro e w36 ⟨rfl, hb⟩; refine ⟨_, rfl, ?_⟩; replace HO_5 := ak (Kd.R_below (rdq HO_5.out) hb); replace HB := ak (zb bq hb); (try clear hb)) | ((with_reducible refine za (f := 85) rfl ?_); refine cl 42 rfl Tryz.func85 #[.string t108] (qq.calls t108 t111 _ A10.out) ?_; rintro e w37 ⟨rfl, hb⟩; refine ⟨_, rfl, ?_⟩; replace HO_5 := ak (Kd.R_below (rdq HO_5.out) hb); replace HB := ak (zb bq hb); (try clear hb)) | ((with_reducible refine zl (N := 13) rfl ?_); (try (refine yd (by rfl) ?_; dsimp only)); refine bx 13 #[.string ⟨#[]⟩, .string ⟨#[]⟩] 55 ?_; intro gb112 hg w38 hbox hb; have BK112 := ak (hbox); have GW112 := ak ((by rw [hg]; exact (zd bq) : w.heap.size ≤ gb112)); have GE112 := GW112; replace HO_5 := ak (Kd.R_below (Kd.R_elderB (rdq HO_5.out) gb112 (Nat.le_of_eq hg.symm)) hb); replace HB := ak (zb bq hb); clear hb hbox hg; obtain ⟨hcz39_0, hcz39_1, hfz39_0, hfz39_1⟩ := blk2 BK112.out) | (go_at_call 78; (with_reducible refine (yf.calls k1 t110 t111 false _ A12.out).mono ?_); rintro e w40 ⟨rfl, hb⟩; replace HO_5 := ak (Kd.R_below (by (with_reducible repeat (first | apply Kd.R_alloc | apply Kd.R_drewN | apply Kd.R_drew)); exact (Kd.R_mono (Kd.R_far (p := ⟨gb112, 1, none⟩) (Kd.R_far (p := ⟨gb112, 0, none⟩) (Kd.R_mono HO_5.out (fun k_ hk => (⟨hk, hk.2⟩ : _ ∧ k_ ≠ gb112))) (fun _ hk => hk.2) (.string t110)) (fun _ hk => hk.2) (.string t111)) (fun _ h_ => h_.1))) hb); replace BK112 := ak (ze (g := gb112) (o := .cells #[.string t110, .string t111] 55 (0, 0)) (blp0 BK112.out) hb); replace HB := ak (zb (bq1 GE112.out) hb); (try clear hb)))
       go_ret3
       exact ⟨_, rv, Kd.R_nil _ _ _ _ _, bq1 GE112.out⟩
     ·obtain ⟨rfl, rfl, rfl⟩ := oi3 H
      go_wp2_with (first | ((with_reducible refine za (f := 49) rfl ?_); refine cl 18 rfl Tryz.func49 #[.string x6_1, .string ⟨#[13, 10]⟩] (yM.calls x6_1 (⟨#[13, 10]⟩ : ByteArray) t104 t105 true _ ?side1 A4.out) ?_; (case side1 => refine zY HGMax.out ?_; exact bq); rintro e w41 ⟨rfl, hb⟩; refine ⟨_, rfl, ?_⟩; replace HO_5 := ak (Kd.R_below (rdq HO_5.out) hb); replace HB := ak (zb bq hb); (try clear hb)) | ((with_reducible refine za (f := 49) rfl ?_); refine cl 35 rfl Tryz.func49 #[.string t104, .string ⟨#[58]⟩] (yM.calls t104 (⟨#[58]⟩ : ByteArray) t107 t108 false _ ?side1 A8.out) ?_; (case side1 => refine zY HGMax.out ?_; exact bq); rintro e w42 ⟨rfl, hb⟩; refine ⟨_, rfl, ?_⟩; replace HO_5 := ak (Kd.R_below (rdq HO_5.out) hb); replace HB := ak (zb bq hb); (try clear hb)) | ((with_reducible refine za (f := 54) rfl ?_); refine cl 40 rfl Tryz.func54 #[.string t107] (xl.calls t107 t110 _ A9.out) ?_; rintro e w43 ⟨rfl, hb⟩; refine ⟨_, rfl, ?_⟩; replace HO_5 := ak (Kd.R_below (rdq HO_5.out) hb); replace HB := ak (zb bq hb); (try clear hb)) | ((with_reducible refine za (f := 85) rfl ?_); refine cl 42 rfl Tryz.func85 #[.string t108] (qq.calls t108 t111 _ A10.out) ?_; rintro e w44 ⟨rfl, hb⟩; refine ⟨_, rfl, ?_⟩; replace HO_5 := ak (Kd.R_below (rdq HO_5.out) hb); replace HB := ak (zb bq hb); (try clear hb)) | ((with_reducible refine zl (N := 13) rfl ?_); (try (refine yd (by rfl) ?_; dsimp only)); refine bx 13 #[.string ⟨#[]⟩, .string ⟨#[]⟩] 55 ?_; intro gb112 hg w45 hbox hb; have BK112 := ak (hbox); have GW112 := ak ((by rw [hg]; exact (zd bq) : w.heap.size ≤ gb112)); have GE112 := GW112; replace HO_5 := ak (Kd.R_below (Kd.R_elderB (rdq HO_5.out) gb112 (Nat.le_of_eq hg.symm)) hb); replace HB := ak (zb bq hb); clear hb hbox hg; obtain ⟨hcz46_0, hcz46_1, hfz46_0, hfz46_1⟩ := blk2 BK112.out))
      go_ret3
      exact ⟨_, rv, Kd.R_nil _ _ _ _ _, bq1 GE112.out⟩
   ·obtain ⟨rfl, rfl, rfl⟩ := oi3 H
    go_wp2_with (first | ((with_reducible refine za (f := 49) rfl ?_); refine cl 18 rfl Tryz.func49 #[.string x6_1, .string ⟨#[13, 10]⟩] (yM.calls x6_1 (⟨#[13, 10]⟩ : ByteArray) t104 t105 false _ ?side1 A4.out) ?_; (case side1 => refine zY HGMax.out ?_; exact bq); rintro e w47 ⟨rfl, hb⟩; refine ⟨_, rfl, ?_⟩; replace HO_5 := ak (Kd.R_below (rdq HO_5.out) hb); replace HB := ak (zb bq hb); (try clear hb)))
    go_ret3
    exact ⟨_, rv, Kd.R_nil _ _ _ _ _, bq⟩
end Go.Proofs.YtbldejnlmpajeaaGreatDoor.QL
