/- Requests and answers are read from their texts, whatever stands behind, and of a beginning more is wanted: for all codes that are drawn from (codes of more than 2^20 bytes are let by). -/
import Derived.Test.YtbldejnlmpajeaaGreatDoorCFnMessagesc
set_option linter.unusedVariables false
set_option linter.unusedSimpArgs false
set_option maxHeartbeats 8000000
set_option maxRecDepth 100000
namespace Go.Proofs.YtbldejnlmpajeaaGreatDoor.QL
open Go.RowKit Go.Proofs.YtbldejnlmpajeaaGreatDoorW.PrintWords Go.Proofs.YtbldejnlmpajeaaGreatDoorW.PrintLast Go.Proofs.YtbldejnlmpajeaaGreatDoorW.PrintMore Go.Proofs.YtbldejnlmpajeaaGreatDoor.Aux Go.Proofs.YtbldejnlmpajeaaGreatDoor.Dom Go.Proofs.YtbldejnlmpajeaaGreatDoor.Ext Go.Proofs.YtbldejnlmpajeaaGreatDoor.Glob
attribute [local go_sem] max2_int min2_int max_two min_two max_three min_three max_four min_four
def zL.l0 : Nat → ByteArray → ByteArray → List ByteArray → Int → Option (List ByteArray × (List (S55)) × ByteArray × Int)
 | 0, _, _, _, _ => none
 | k + 1, x6, x7, x9, x27 => if x27 < 2 then ((zk.f x6 (⟨#[32, 9]⟩ : ByteArray)).bind fun t108 => (if t108 < 0 then (some (([] : List ByteArray), ([] : List (S55)), (⟨#[]⟩ : ByteArray), 2)) else (if 0 ≤ t108 then (if t108 ≤ (x6.size : Int) then (if x9.length < 8796093022208 then (if 0 ≤ (wrap64 (t108 + 1)) then (if (wrap64 (t108 + 1)) ≤ (x6.size : Int) then (zL.l0 k (x6.extract ((wrap64 (t108 + 1)) : Int).toNat x6.size) x7 (x9 ++ [x6.extract 0 (t108 : Int).toNat]) (wrap64 (x27 + 1))) else (none)) else (none)) else (none)) else (none)) else (none)))) else ((zX.f k x7).bind fun bt112 => (if bt112.2.2 = true then (if x9.length < 8796093022208 then (if 0 ≤ bt112.2.1 then (if bt112.2.1 ≤ (x7.size : Int) then (some ((x9 ++ [x6]), bt112.1, x7.extract (bt112.2.1 : Int).toNat x7.size, 0)) else (none)) else (none)) else (none)) else (some (([] : List ByteArray), ([] : List (S55)), (⟨#[]⟩ : ByteArray), 2))))
def zL.f (k : Nat) (a0 : ByteArray) : Option (List ByteArray × (List (S55)) × ByteArray × Int) := (xo.f a0 (⟨#[13, 10, 13, 10]⟩ : ByteArray)).bind fun t101 => (if t101 = true then ((yM.f a0 (⟨#[13, 10]⟩ : ByteArray)).bind fun bt102 => (zL.l0 k bt102.1 bt102.2.1 (([] : List ByteArray)) 0)) else (if (a0.size : Int) > 1500 then (some (([] : List ByteArray), ([] : List (S55)), (⟨#[]⟩ : ByteArray), 2)) else (some (([] : List ByteArray), ([] : List (S55)), (⟨#[]⟩ : ByteArray), 1))))
theorem zL.mono_l : ∀ k, (∀ y0 y1 y2 y3, LeO (zL.l0 k y0 y1 y2 y3) (zL.l0 (k + 1) y0 y1 y2 y3))
 | 0 => fun _ _ _ _ r h => by simp [zL.l0] at h
 | k + 1 => by
  have ih0 := zL.mono_l k
  ·intro y0 y1 y2 y3
   unfold zL.l0
   exact mq2 ih0 zX.mono
theorem zL.mono : ∀ a0 k, LeO (zL.f k a0) (zL.f (k + 1) a0) := by
 intro a0 k
 have ih0 := zL.mono_l k
 unfold zL.f
 exact mq2 ih0 zX.mono
def zL.T18 : Bool × List (List Nat × List Nat) := (true, [([], []), ([], []), ([1], [1]), ([0, 2], [0, 2]), ([], []), ([], []), ([], []), ([5, 6], [5, 6]), ([3, 3, 0, 1, 2, 3], [3]), ([4, 8, 0, 1, 2, 3, 4, 8], [4]), ([7, 9, 0, 1, 2, 3, 4, 5, 6, 7, 8, 9], [7]), ([10, 0, 1, 2, 3, 4, 5, 6, 7, 8, 9, 10], [])])
def zL.B18 : List Nat := [0, 0, 2, 7, 0, 0, 0, 96, 15, 287, 1023, 2047]
theorem zL.tab18 : rtab .any (opsOf Tryz.f21 18) = zL.T18 := by kernel_rfl
theorem zL.bits18 : qj zL.T18.2 zL.B18 = true := by kernel_rfl
theorem zL.calls (k : Nat) (a0 : ByteArray) (r1 : List ByteArray) (r2 : List (S55)) (r3 : ByteArray) (r4 : Int) (w : World) (hGMax : GMax w) (h : zL.f k a0 = some (r1, r2, r3, r4)) :
  Calls Tryz.prog 21 #[.string a0] w fun e w' => ∃ v0_ v1_ : Value, e = .returned (.tuple #[v0_, v1_, .string r3, .int .i64 r4]) ∧ Kd.R Kd.string 9 w' w.heap.size (fun _ => True) v0_ r1 ∧ Kd.R k55 55 w' w.heap.size (fun _ => True) v1_ r2 ∧ Below w.heap.size w w' := by
 have HGMax := ak hGMax
 clear hGMax
 have HB := ak (Below.refl w.heap.size w)
 have H := h
 unfold zL.f at H
 clear h
 replace H := ob H
 obtain ⟨t101, A2, H⟩ := H
 replace H := sb H
 rcases H with ⟨rfl, H⟩ | ⟨rfl, H⟩
 ·replace H := ob H
  obtain ⟨⟨t102, t103, t104⟩, A4, H⟩ := H
  try dsimp only at H
  obtain ⟨y105, hy105⟩ : ∃ y_ : List ByteArray, y_ = (([] : List ByteArray)) := ⟨_, rfl⟩
  replace H : (zL.l0 k t102 t103 y105 0) = some (r1, r2, r3, r4) := rhq hy105
  have Ny105 := ak hy105
  clear hy105
  have H' := ak H
  clear H
  go_enter Tryz.func21, Tryz.ntmps21
  go_wp2_with (first | ((with_reducible refine za (f := 48) rfl ?_); refine cl 15 rfl Tryz.func48 #[.string a0, .string ⟨#[13, 10, 13, 10]⟩] (xo.calls a0 (⟨#[13, 10, 13, 10]⟩ : ByteArray) true _ ?side1 A2.out) ?_; (case side1 => refine zY HGMax.out ?_; exact bq); rintro e w' ⟨rfl, ⟨nd, rfl⟩⟩; refine ⟨_, rfl, ?_⟩) | ((with_reducible refine za (f := 49) rfl ?_); refine cl 22 rfl Tryz.func49 #[.string a0, .string ⟨#[13, 10]⟩] (yM.calls a0 (⟨#[13, 10]⟩ : ByteArray) t102 t103 t104 _ ?side1 A4.out) ?_; (case side1 => refine zY HGMax.out ?_; exact bq); rintro e w5 ⟨rfl, hb⟩; refine ⟨_, rfl, ?_⟩; replace HB := ak (zb bq hb); (try clear hb)) | ((with_reducible refine zl (N := 26) rfl ?_); refine rS 9 26 Ny105.out ?_; intro v106 w6 ho7 hb; have HO107 := ak (Kd.R_lower ho7 (zd bq)); replace HB := ak (zb bq hb); clear hb ho7))
  go_loopg [6, 9, 27] k (fun kq v6 v9 v27 w' => ∃ (x6_1 : ByteArray) (x9_1 : List ByteArray) (x27_1 : Int), v6 = .string x6_1 ∧ v27 = .int .i64 x27_1 ∧ Aside0 (zL.l0 kq x6_1 t103 x9_1 x27_1 = some (r1, r2, r3, r4)) ∧ Aside0 (kq ≤ k) ∧ Aside0 (Kd.R Kd.string 9 w' w.heap.size (fun _ => True) v9 x9_1) ∧ Aside0 (Below w.heap.size w w'))
  case atStart => exact ⟨(t102), (y105), (0), rs, rs, H', ⟨Nat.le_refl _⟩, ⟨rdq HO107.out⟩, ⟨bq⟩⟩
  case round =>
   clear H'
   obtain ⟨x6_1, x9_1, x27_1, rfl, rfl, HA, HK1, HO_9, HB⟩ := hrel
   cases gk with
   | zero => exact absurd HA.out (by simp [zL.l0])
   | succ k1 =>
    have H := HA.out
    clear HA
    simp only [zL.l0] at H
    replace H := sd H
    rcases H with ⟨c8b0, H⟩ | ⟨c8b0, H⟩
    ·replace H := ob H
     obtain ⟨t108, A9, H⟩ := H
     replace H := sd H
     rcases H with ⟨c10b0, H⟩ | ⟨c10b0, H⟩
     ·obtain ⟨rfl, rfl, rfl, rfl⟩ := oi4 H
      go_wp2_with (first | ((with_reducible refine za (f := 50) rfl ?_); refine cl 30 rfl Tryz.func50 #[.string x6_1, .string ⟨#[32, 9]⟩] (zk.calls x6_1 (⟨#[32, 9]⟩ : ByteArray) t108 _ A9.out) ?_; rintro e w11 ⟨rfl, hb⟩; refine ⟨_, rfl, ?_⟩; replace HO_9 := ak (Kd.R_below (rdq HO_9.out) hb); replace HB := ak (zb bq hb); (try clear hb)))
      refine bodyPost_ret (ja (rs := [.tmp 2, .tmp 3, .tmp 4, .tmp 5]) rfl (by simp) (.tmp (.tmp (.tmp (.tmp .nil))))) rfl ?_
      exact ⟨_, _, rv, Kd.R_nil _ _ _ _ _, Kd.R_nil _ _ _ _ _, bq⟩
     ·replace H := sG H
      obtain ⟨c12b0, c12b1, H⟩ := H
      replace H := sG H
      obtain ⟨c13b0, c13b1, H⟩ := H
      replace H := sT H
      obtain ⟨c14, H⟩ := H
      have LMc14 := ak c14
      clear c14
      obtain ⟨y109, hy109⟩ : ∃ y_ : List ByteArray, y_ = (x9_1 ++ [x6_1.extract 0 (t108 : Int).toNat]) := ⟨_, rfl⟩
      replace H : (if 0 ≤ (wrap64 (t108 + 1)) then (if (wrap64 (t108 + 1)) ≤ (x6_1.size : Int) then (zL.l0 k1 (x6_1.extract ((wrap64 (t108 + 1)) : Int).toNat x6_1.size) t103 y109 (wrap64 (x27_1 + 1))) else (none)) else (none)) = some (r1, r2, r3, r4) := rhq hy109
      have Ny109 := ak hy109
      clear hy109
      obtain ⟨ji15, hji15⟩ : ∃ j_ : Int, (wrap64 (t108 + 1)) = j_ := ⟨_, rfl⟩
      replace H : (if 0 ≤ (ji15) then (if (ji15) ≤ (x6_1.size : Int) then (zL.l0 k1 (x6_1.extract ((ji15) : Int).toNat x6_1.size) t103 y109 (wrap64 (x27_1 + 1))) else (none)) else (none)) = some (r1, r2, r3, r4) := by first | (rw [hji15] at H; exact H) | (simp only [hji15] at H ⊢; exact H)
      (try rw [hji15] at A9)
      have hji15w : (IntKind.i64.wrap (t108 + 1)) = ji15 := (i64_w _).trans hji15
      replace H := sG H
      obtain ⟨c16b0, c16b1, H⟩ := H
      replace H := sG H
      obtain ⟨c17b0, c17b1, H⟩ := H
      have H' := ak H
      clear H
      go_wp2_with (first | ((with_reducible refine za (f := 50) rfl ?_); refine cl 30 rfl Tryz.func50 #[.string x6_1, .string ⟨#[32, 9]⟩] (zk.calls x6_1 (⟨#[32, 9]⟩ : ByteArray) t108 _ A9.out) ?_; rintro e w18 ⟨rfl, hb⟩; refine ⟨_, rfl, ?_⟩; replace HO_9 := ak (Kd.R_below (rdq HO_9.out) hb); replace HB := ak (zb bq hb); (try clear hb)) | ((with_reducible refine xi (b := .append) (xs := #[.tmp 33, .tmp 37]) rfl ?_); at_builtin; refine Kd.R_append Kd.string (w0 := w) w.heap.size rfl (.tmp 33) (.tmp 37) 45 9 (.string ⟨#[]⟩) 16 rfl Tryz.underlying45 info9 rfl (by decide) (by omega) u9 x9_1 (x6_1.extract 0 (t108 : Int).toNat) [.string (x6_1.extract 0 (t108 : Int).toNat)] (fun _ => True) (fun _ => False) rfl rfl ?aP (fun _ hk => hk.elim) ?aF ?aO ?aB ?aS ?aL ?_; (case aP => exact rfl); (case aB => exact bq); (case aF => exact (fun _ _ => trivial)); (case aO => exact (rdq HO_9.out)); (case aS => exact (zd bq)); (case aL => have := LMc14.out; omega); intro v110 w19 ho hb hg hat; rw [← Ny109.out] at ho; have HO111 := ak (ho); replace HB := ak (hb); clear HO_9; clear ho hb hg hat))
      go_roundg k1
      case measure => have := HK1.out; omega
      case rel => exact ⟨(x6_1.extract ((ji15) : Int).toNat x6_1.size), (y109), (wrap64 (x27_1 + 1)), (by first | rfl | (simp; done) | (simp only [← hji15] <;> (first | rfl | simp)) | (simp [*]; done)), rs, H', ⟨by have := HK1.out; omega⟩, ⟨rdq HO111.out⟩, ⟨bq⟩⟩
    ·replace H := ob H
     obtain ⟨⟨t112, t113, t114⟩, A20, H⟩ := H
     try dsimp only at H
     replace H := sb H
     rcases H with ⟨rfl, H⟩ | ⟨rfl, H⟩
     ·replace H := sT H
      obtain ⟨c22, H⟩ := H
      have LMc22 := ak c22
      clear c22
      obtain ⟨y117, hy117⟩ : ∃ y_ : List ByteArray, y_ = (x9_1 ++ [x6_1]) := ⟨_, rfl⟩
      replace H : (if 0 ≤ t113 then (if t113 ≤ (t103.size : Int) then (some (y117, t112, t103.extract (t113 : Int).toNat t103.size, 0)) else (none)) else (none)) = some (r1, r2, r3, r4) := rhq hy117
      have Ny117 := ak hy117
      clear hy117
      replace H := sG H
      obtain ⟨c23b0, c23b1, H⟩ := H
      replace H := sG H
      obtain ⟨c24b0, c24b1, H⟩ := H
      obtain ⟨rfl, rfl, rfl, rfl⟩ := oi4 H
      try go_wp2_with (first | ((with_reducible refine za (f := 51) rfl ?_); refine cl 46 rfl Tryz.func51 #[.string t103] (zX.calls k1 t103 t112 t113 true _ ?side1 A20.out) ?_; (case side1 => refine zY HGMax.out ?_; exact bq); rintro e w25 ⟨v115, rfl, ho0, hb⟩; refine ⟨_, rfl, ?_⟩; have HO116 := ak (Kd.R_lower ho0 (zd bq)); replace HO_9 := ak (Kd.R_below (rdq HO_9.out) hb); replace HB := ak (zb bq hb); (try clear hb ho0)))
      have n0_ := ak (Kd.R_drew HO_9.out)
      have n1_ := ak (Kd.R_drew HO116.out)
      have n2_ := ak (ye HB.out)
      clear HO_9
      clear HO116
      clear HB
      have HO_9 := n0_
      have HO116 := n1_
      have HB := n2_
      clear n0_ n1_ n2_
      refine start_ (n := 12) (S := fun w' => True) (ds := []) (Array.replicate 12 false) (by kernel_rfl) rfl rfl trivial (fun hHeld => ?_); refine xm zL.tab18 zL.bits18 (fun HT_ HW_ => ?_)
      generalize w25.drew = w26 at HO_9 HO116 HB hHeld ⊢
      refine pu 0 52 HT_ ?_
      refine pu 1 53 HT_ ?_
      refine pu 4 56 HT_ ?_
      refine pu 5 57 HT_ ?_
      refine pu 6 58 HT_ ?_
      refine pu 7 59 HT_ ?_
      refine on1 2 54 HT_ (fun K hK => ?_)
      refine jl0 (w1 := ?_) (v := ?_) (by rfl) rfl ?_ ?_
      rotate_left 2
      ·go_simp
       constructor
       ·rfl
       ·rfl
      refine hK.out _ _ trivial (fun hHeld => ?_)
      clear hK K
      refine nrm 54 ?_
      refine on1 3 55 HT_ (fun K hK => ?_)
      refine Kd.R_append_step Kd.string (w0 := w) w.heap.size (by rfl) (.tmp 52) (.tmp 54) 45 9 (.string ⟨#[]⟩) 16 rfl Tryz.underlying45 info9 rfl (by decide) (by omega) u9 x9_1 x6_1 [.string x6_1] (fun _ => True) (fun _ => False) rfl rfl ?aP (fun _ hk => hk.elim) ?aF ?aO ?aB ?aS ?aL ?_
      (case aP => exact rfl)
      (case aB => exact bq)
      (case aF => exact (fun _ _ => trivial))
      (case aO => exact (rdq HO_9.out))
      (case aS => exact (zd bq))
      (case aL => have := LMc22.out; omega)
      intro v118 w27 ho hb hg hat
      rw [← Ny117.out] at ho
      have n0_ := ak (Kd.R_over' (rdq HO116.out) (Kd.R_typed (rdq HO_9.out)) (by decide) hg)
      have n1_ := ak (hb)
      have n2_ := ak (ho)
      clear HO116
      clear HB
      clear HO_9
      have HO116 := n0_
      have HB := n1_
      have HO119 := n2_
      clear n0_ n1_ n2_
      clear ho hb hg hat
      refine hK.out _ _ trivial (fun hHeld => ?_)
      clear hK K
      refine nrm 55 ?_
      refine pu 8 2 HT_ ?_
      refine pu 9 3 HT_ ?_
      refine pu 10 4 HT_ ?_
      refine pu 11 5 HT_ ?_
      refine done_ (xV HT_.out (by kernel_rfl)) ?_
      try go_wp2
      refine bodyPost_ret (ja (rs := [.tmp 2, .tmp 3, .tmp 4, .tmp 5]) rfl (by simp) (.tmp (.tmp (.tmp (.tmp .nil))))) rfl ?_
      exact ⟨_, _, rv, by (with_reducible repeat (first | apply Kd.R_alloc | apply Kd.R_drewN | apply Kd.R_drew)); exact HO119.out, by (with_reducible repeat (first | apply Kd.R_alloc | apply Kd.R_drewN | apply Kd.R_drew)); exact HO116.out, bq⟩
     ·obtain ⟨rfl, rfl, rfl, rfl⟩ := oi4 H
      go_wp2_with (first | ((with_reducible refine za (f := 51) rfl ?_); refine cl 46 rfl Tryz.func51 #[.string t103] (zX.calls k1 t103 t112 t113 false _ ?side1 A20.out) ?_; (case side1 => refine zY HGMax.out ?_; exact bq); rintro e w28 ⟨v115, rfl, ho0, hb⟩; refine ⟨_, rfl, ?_⟩; have HO116 := ak (Kd.R_lower ho0 (zd bq)); replace HO_9 := ak (Kd.R_below (rdq HO_9.out) hb); replace HB := ak (zb bq hb); (try clear hb ho0)))
      refine bodyPost_ret (ja (rs := [.tmp 2, .tmp 3, .tmp 4, .tmp 5]) rfl (by simp) (.tmp (.tmp (.tmp (.tmp .nil))))) rfl ?_
      exact ⟨_, _, rv, Kd.R_nil _ _ _ _ _, Kd.R_nil _ _ _ _ _, bq⟩
 ·replace H := si H
  rcases H with ⟨c29, H⟩ | ⟨c29, H⟩
  ·have c29b0 := decide_eq_true c29
   have c29b1 : decide (1500 < a0.size) = true := decide_eq_true (by omega)
   clear c29
   obtain ⟨rfl, rfl, rfl, rfl⟩ := oi4 H
   go_enter Tryz.func21, Tryz.ntmps21
   go_wp2_with (first | ((with_reducible refine za (f := 48) rfl ?_); refine cl 15 rfl Tryz.func48 #[.string a0, .string ⟨#[13, 10, 13, 10]⟩] (xo.calls a0 (⟨#[13, 10, 13, 10]⟩ : ByteArray) false _ ?side1 A2.out) ?_; (case side1 => refine zY HGMax.out ?_; exact bq); rintro e w' ⟨rfl, ⟨nd, rfl⟩⟩; refine ⟨_, rfl, ?_⟩))
   refine bodyPost_ret (ja (rs := [.tmp 2, .tmp 3, .tmp 4, .tmp 5]) rfl (by simp) (.tmp (.tmp (.tmp (.tmp .nil))))) rfl ?_
   exact ⟨_, _, rv, Kd.R_nil _ _ _ _ _, Kd.R_nil _ _ _ _ _, bq⟩
  ·have c29b0 := decide_eq_false c29
   have c29b1 : decide (1500 < a0.size) = false := decide_eq_false (by omega)
   clear c29
   obtain ⟨rfl, rfl, rfl, rfl⟩ := oi4 H
   go_enter Tryz.func21, Tryz.ntmps21
   go_wp2_with (first | ((with_reducible refine za (f := 48) rfl ?_); refine cl 15 rfl Tryz.func48 #[.string a0, .string ⟨#[13, 10, 13, 10]⟩] (xo.calls a0 (⟨#[13, 10, 13, 10]⟩ : ByteArray) false _ ?side1 A2.out) ?_; (case side1 => refine zY HGMax.out ?_; exact bq); rintro e w' ⟨rfl, ⟨nd, rfl⟩⟩; refine ⟨_, rfl, ?_⟩))
   refine bodyPost_ret (ja (rs := [.tmp 2, .tmp 3, .tmp 4, .tmp 5]) rfl (by simp) (.tmp (.tmp (.tmp (.tmp .nil))))) rfl ?_
   exact ⟨_, _, rv, Kd.R_nil _ _ _ _ _, Kd.R_nil _ _ _ _ _, bq⟩
def zh.cloneF (l0 : List (S55)) : Option (List (S55)) := if l0.length ≤ 4194304 then some l0 else none
theorem zh.clone (A0 : Option Addr) (c0 : Nat) (l0 : List (S55)) (r : List (S55)) (w : World) (hr0 : Kd.C k55 w A0 l0.length l0) (hc0 : l0.length ≤ c0) (h : zh.cloneF l0 = some r) :
  Calls Tryz.prog 47 #[.slice A0 l0.length c0] w fun e w' => ∃ v0_ : Value, e = .returned (v0_) ∧ Kd.R k55 55 w' w.heap.size (fun _ => True) v0_ r ∧ Below w.heap.size w w' := by
 have hs : l0.length ≤ 4194304 := by
  unfold zh.cloneF at h
  split at h
  ·assumption
  ·cases h
 unfold zh.cloneF at h
 rw [if_pos hs] at h
 have h := Option.some.inj h
 subst h
 have q22 : ∀ (w : World) (a : Option Addr) (n c n' c' : Nat), (binOp .eql 24 (.slice a n c) (.slice none n' c')).run Tryz.prog w = .ok (.bool a.isNone) w := fun w a n c n' c' => Lib.run_eql_slice_nil w _ _ a n c n' c' Tryz.underlying24
 have u22 : ∀ w, Sem.run Tryz.prog (underlying 24) w = .ok (TypeDesc.slice 55) w := run_underlying Tryz.underlying24
 have HB := ak (Below.refl w.heap.size w)
 cases A0 with
 | none =>
  have hl : l0 = [] := by
   cases l0 with
   | nil => rfl
   | cons x r =>
    obtain ⟨_, e, _⟩ := hr0.2.2 (by simp)
    cases e
  subst hl
  clear hr0
  go_enter Tryz.func47, Tryz.ntmps47
  go_wp2
  go_ret
  exact ⟨_, rfl, Kd.R_nil _ _ _ _ _, HB.out⟩
 | some ad =>
  have HR0 := ak hr0
  clear hr0
  go_enter Tryz.func47, Tryz.ntmps47
  go_wp2_with (first | ((with_reducible refine zl (N := 5) rfl ?_); refine r0 k55 55 5 rfl ?_; intro u5 w3 ho4 hb; have HO := ak (Kd.R_lower ho4 (zd HB.out)); have HB2 := ak (zb HB.out hb); clear HB; have HB := HB2; clear HB2; clear hb ho4) | ((with_reducible refine xi (b := .append) (xs := #[.tmp 5, .tmp 6]) rfl ?_); at_builtin; refine Kd.R_append_rows k55 (w0 := w) w.heap.size rfl (.tmp 5) (.tmp 6) 24 55 (.agg #[(.string ⟨#[]⟩), (.string ⟨#[]⟩)]) 32 rfl Tryz.underlying24 vM rfl (by decide) (by omega) u5 [] l0 _ _ _ (fun _ => True) (fun _ => False) rfl rfl ?aO ?aR (fun _ _ h => h) (fun _ h => h.elim) ?aF ?aB ?aS ?aL ?_; (case aO => exact HO.out); (case aR => exact Kd.C_below HR0.out HB.out); (case aF => exact fun _ _ => trivial); (case aB => exact HB.out); (case aS => exact zd HB.out); (case aL => simp; omega); intro v1 w4 ho hb hg hat; clear HO HB; have HO := ak ho; have HB := ak hb; clear ho hb hg hat))
  go_ret
  exact ⟨_, rfl, by simpa using HO.out, HB.out⟩
def zh.Row (cur : Array Value) (off : Nat) (X : List (S55)) : Prop := ∀ (t : Nat) (x : S55), X[t]? = some x → cur[off + t * 2]? = some (.string x.f0) ∧ cur[off + t * 2 + 1]? = some (.string x.f1)
theorem zh.Row_set {cur : Array Value} {off : Nat} {X : List (S55)} (h : zh.Row cur off X) (i : Nat) (hi : i < X.length) (y : S55) :
  zh.Row ((cur.setIfInBounds (off + i * 2) (.string y.f0)).setIfInBounds (off + i * 2 + 1) (.string y.f1)) off (X.set i y) := by
 intro t x hx
 rw [List.getElem?_set] at hx
 by_cases e : i = t
 ·subst e
  rw [if_pos rfl, if_pos hi] at hx
  have hx := Option.some.inj hx
  subst hx
  have h0 := h i X[i] (List.getElem?_eq_getElem hi)
  obtain ⟨b1, _⟩ := Array.getElem?_eq_some_iff.1 h0.1
  obtain ⟨b2, _⟩ := Array.getElem?_eq_some_iff.1 h0.2
  refine ⟨?_, ?_⟩
  ·rw [Array.getElem?_setIfInBounds_ne (by omega), Array.getElem?_setIfInBounds_self_of_lt b1]
  ·rw [Array.getElem?_setIfInBounds_self_of_lt (by rw [Array.size_setIfInBounds]; exact b2)]
 ·rw [if_neg e] at hx
  have h0 := h t x hx
  refine ⟨?_, ?_⟩
  ·rw [Array.getElem?_setIfInBounds_ne (by omega), Array.getElem?_setIfInBounds_ne (by omega)]
   exact h0.1
  ·rw [Array.getElem?_setIfInBounds_ne (by omega), Array.getElem?_setIfInBounds_ne (by omega)]
   exact h0.2
theorem zh.clear2 {P : Program} (w : World) (t e ty : TypeId) (z v : Value) (ht : P.underlying t = some (.slice e)) (hv : ∀ w, (zeroValue e).run P w = .ok z w) (hz : z.cells = #[v, v]) (h1 : v.oneCell' = true) (b o n c : Nat) (hn : 0 < n)
  (hc : ∀ j, j < n * 2 → (w.cell? ⟨b, o + j, none⟩).isSome = true) (hf : ∀ j, j < n * 2 → w.frozen? ⟨b, o + j, none⟩ = false) :
  (Builtin.clear_ #[t] ty #[.slice (some ⟨b, o, none⟩) n c]).run P w = .ok (.tuple #[]) (w.setCells b o (List.replicate (n * 2) v)) := by
 have hzc : (Builtin.zeroCells z.cells n).toList = List.replicate (n * 2) v := by
  rw [hz]
  simp [Builtin.zeroCells]
  apply List.ext_getElem
  ·simp
  ·intro i h1 h2
   simp
   have : i % 2 = 0 ∨ i % 2 = 1 := by omega
   rcases this with e | e <;> simp [e]
 have hst := run_storeCells_cells (P := P) b o (List.replicate (n * 2) v) 0 w (by simpa using hc) (by simpa using hf) (by intro v hv'; rw [List.eq_of_mem_replicate hv']; exact h1)
 simp only [Nat.add_zero] at hst
 obtain ⟨m, rfl⟩ : ∃ m, n = m + 1 := ⟨n - 1, by omega⟩
 simp [Builtin.clear_, run_underlying ht, hv, hzc, hst]
theorem zh.one (n v a1 : ByteArray) (g : Nat) (w : World) (hc : w.cell? ⟨g, 0, none⟩ = some (.string a1)) :
  Calls Tryz.prog 87 #[.agg #[.string n, .string v], .pointer (some ⟨g, 0, none⟩)] w fun e w' => e = .returned (.bool (decide (n = a1))) ∧ Below w.heap.size w w' := by
 have ed : (n.toList == a1.toList) = decide (n = a1) := by
  rw [Bool.eq_iff_iff, beq_iff_eq, decide_eq_true_eq, xF]
 have hg := World.block_lt_of_cell? w _ hc
 have HB := ak (Below.refl w.heap.size w)
 go_enter Tryz.func87, Tryz.ntmps87
 go_wp2_with (first | ((with_reducible refine zl (N := 2) rfl ?_); refine bx 2 #[.string n, .string v] 55 ?_; intro gb hgb w1 hbox hb; have c0 : w1.cell? ⟨gb, 0, none⟩ = some (.string n) := (zg hbox 0).trans rfl; have c1 : w1.cell? ⟨g, 0, none⟩ = some (.string a1) := (hb.cell hg).trans hc; have HB2 := ak (zb HB.out hb); clear HB; have HB := HB2; clear HB2 hb hbox hgb))
 go_ret
 exact ⟨by rw [← ed]; rfl, HB.out⟩
def zh.Found (l : List (S55)) (p : S55 → Bool) (e : Ending) : Prop := (e = .returned (.int .i64 (-1)) ∧ l.any p = false) ∨ ∃ (i : Nat) (y : S55), e = .returned (.int .i64 i) ∧ l[i]? = some y ∧ p y = true ∧ (l.take i).any p = false
theorem zh.search (g : Nat) (lb : Array Value) (eg : ∀ args w, (callFunc g args).run Tryz.prog w = .ok (.enter g args) w) (A : Option Addr) (b off : Nat) (hA : A = some ⟨b, off, none⟩) (c : Nat) (l : List (S55)) (p : S55 → Bool) (w : World) (hb : b < w.heap.size) (hbig : l.length ≤ 9223372036854775807)
  (hrow0 : ∀ j x, l[j]? = some x → w.cell? ⟨b, off + j * 2, none⟩ = some (.string x.f0) ∧ w.cell? ⟨b, off + j * 2 + 1, none⟩ = some (.string x.f1))
  (hp : ∀ (W : World) x, Below w.heap.size w W → Calls Tryz.prog g (#[.agg #[.string x.f0, .string x.f1]] ++ lb) W fun e w' => e = .returned (.bool (p x)) ∧ Below W.heap.size W w') :
  Calls Tryz.prog 100 #[.slice A l.length c, .func (.func g) #[] lb] w fun e w' => zh.Found l p e ∧ Below w.heap.size w w' := by
 have hrow : ∀ (W : World), Below w.heap.size w W → ∀ j x, l[j]? = some x → ∃ b off, A = some ⟨b, off, none⟩ ∧ W.cell? ⟨b, off + j * 2, none⟩ = some (.string x.f0) ∧ W.cell? ⟨b, off + j * 2 + 1, none⟩ = some (.string x.f1) := by
  intro W hW j x hx
  obtain ⟨h1, h2⟩ := hrow0 j x hx
  exact ⟨b, off, hA, (hW.cell (p := ⟨b, off + j * 2, none⟩) hb).trans h1, (hW.cell (p := ⟨b, off + j * 2 + 1, none⟩) hb).trans h2⟩
 clear hrow0 hA hb
 clear b off
 go_enter Tryz.func100, Tryz.ntmps100
 go_wp2
 go_loopg [5, 8] l.length (fun gg _ s8 wr => ∃ kk : Nat, kk ≤ l.length ∧ l.length - kk ≤ gg ∧ s8 = .int .i64 kk ∧ Aside (Below w.heap.size w wr) ∧ Aside ((l.take kk).any p = false))
 case atStart => exact ⟨0, Nat.zero_le _, by omega, rfl, Below.refl _ w, rfl⟩
 case round =>
  obtain ⟨kk, hkk, hg, rfl, BW, A1⟩ := hrel
  by_cases hlt : kk < l.length
  ·have hltz : (kk : Int) < (l.length : Int) := by omega
   obtain ⟨b, off, rfl, l2, l3⟩ := hrow wr BW.out kk l[kk] (List.getElem?_eq_getElem hlt)
   have hcall := hp wr l[kk] BW.out
   have htk : l.take (kk + 1) = l.take kk ++ [l[kk]] := List.take_succ_eq_append_getElem hlt
   have hget : Aside0 (l[kk]? = some l[kk]) := ak (List.getElem?_eq_getElem hlt)
   clear hrow hp
   generalize l[kk] = y at l2 l3 hcall htk hget
   cases hq : p y with
   | true =>
    rw [hq] at hcall
    go_wp2_with (go_at_fn g; refine hcall.mono ?_; rintro e w' ⟨rfl, hb'⟩)
    go_ret
    exact ⟨Or.inr ⟨kk, y, rfl, hget.out, hq, A1.out⟩, zb BW.out hb'⟩
   | false =>
    rw [hq] at hcall
    go_wp2_with (go_at_fn g; refine hcall.mono ?_; rintro e w' ⟨rfl, hb'⟩)
    go_roundg (l.length - (kk + 1))
    case measure => omega
    case rel =>
     refine ⟨kk + 1, by omega, by omega, by go_num, zb BW.out hb', (show Aside _ from ?_)⟩
     show (l.take (kk + 1)).any p = false
     rw [htk, List.any_append, A1.out]
     simp [hq]
  ·have hltz : ¬ (kk : Int) < (l.length : Int) := by omega
   have hkn : kk = l.length := by omega
   subst hkn
   go_wp2
   go_ret
   have := A1.out
   rw [List.take_length] at this
   exact ⟨Or.inl ⟨rfl, this⟩, BW.out⟩
theorem zh.first_ (p : S55 → Bool) : ∀ l : List (S55), l.any p = false ∨ ∃ i y, l[i]? = some y ∧ p y = true ∧ (l.take i).any p = false
 | [] => Or.inl rfl
 | x :: r => by
  cases h : p x with
  | true => exact Or.inr ⟨0, x, rfl, h, rfl⟩
  | false =>
   rcases zh.first_ p r with e | ⟨i, y, a, b, c⟩
   ·exact Or.inl (by rw [List.any_cons, h, e]; rfl)
   ·exact Or.inr ⟨i + 1, y, a, b, by rw [List.take_succ_cons, List.any_cons, h, c]; rfl⟩
theorem zh.first_no {p : S55 → Bool} {l : List (S55)} {i j : Nat} {y : S55} (a : l[i]? = some y) (b : p y = true) (h : (l.take j).any p = false) : j ≤ i := by
 rcases Nat.lt_or_ge i j with c | c
 ·have hm : y ∈ l.take j := List.mem_of_getElem? (i := i) (by rw [List.getElem?_take_of_lt c]; exact a)
  rw [List.any_eq_true.2 ⟨y, hm, b⟩] at h
  cases h
 ·exact c
theorem zh.any_no {p : S55 → Bool} {l : List (S55)} {i : Nat} {y : S55} (a : l[i]? = some y) (b : p y = true) (h : l.any p = false) : False := by
 rw [List.any_eq_true.2 ⟨y, List.mem_of_getElem? a, b⟩] at h
 cases h
theorem zh.keep_all {p : S55 → Bool} {l : List (S55)} (h : l.any p = false) : (l.filter fun x => !p x) = l := by
 refine List.filter_eq_self.2 fun x hx => ?_
 rw [List.any_eq_false] at h
 have := h x hx
 simpa using this
theorem zh.start_ {p : S55 → Bool} {l : List (S55)} {i : Nat} {y : S55} (a : l[i]? = some y) (b : p y = true) (h : (l.take i).any p = false) : l.take i = ((l.take (i + 1)).filter fun x => !p x) ∧ i = ((l.take (i + 1)).filter fun x => !p x).length := by
 have hlt := (List.getElem?_eq_some_iff.1 a).1
 have e : ((l.take (i + 1)).filter fun x => !p x) = l.take i := by
  rw [List.take_add_one, a, List.filter_append, zh.keep_all h]
  simp [b]
 rw [e, List.length_take]
 exact ⟨rfl, by omega⟩
theorem zh.at_drop {X l : List (S55)} {j : Nat} (h : X.drop j = l.drop j) : X[j]? = l[j]? := by
 have e : ∀ L : List (S55), L[j]? = (L.drop j)[0]? := fun L => by rw [List.getElem?_drop]; rfl
 rw [e X, e l, h]
theorem zh.skip_ {p : S55 → Bool} {l : List (S55)} {j : Nat} {y : S55} (a : l[j]? = some y) (b : p y = true) : ((l.take (j + 1)).filter fun x => !p x) = (l.take j).filter fun x => !p x := by
 rw [List.take_add_one, a, List.filter_append]
 simp [b]
theorem zh.more_ {p : S55 → Bool} {l : List (S55)} {j : Nat} {y : S55} (a : l[j]? = some y) (b : p y = false) : ((l.take (j + 1)).filter fun x => !p x) = ((l.take j).filter fun x => !p x) ++ [y] := by
 rw [List.take_add_one, a, List.filter_append]
 simp [b]
theorem zh.next_ {X l : List (S55)} {j : Nat} (h : X.drop j = l.drop j) : X.drop (j + 1) = l.drop (j + 1) := by
 rw [← List.drop_drop, ← List.drop_drop, h]
theorem zh.put_ {X : List (S55)} {i j : Nat} (y : S55) (hij : i < j) (hj : j ≤ X.length) : (X.set i y).take (i + 1) = X.take i ++ [y] ∧ (X.set i y).drop j = X.drop j := by
 refine ⟨?_, ?_⟩
 ·rw [List.take_add_one, List.getElem?_set_self (by omega), List.take_set_of_le (by omega)]
  rfl
 ·rw [List.drop_set_of_lt hij]
theorem zh.step_ {w wr w1 : World} {b gv : Nat} {cur : Array Value} {u v : Value} (y : S55) (HC : wr.heap[b]? = some (.cells cur 55 (0, 0))) (hbw : b < wr.heap.size) (HBW : Below b w wr) (HKW : KeepBut w wr b none) (hgv : gv = wr.heap.size)
  (HV : w1.heap[gv]? = some (.cells #[u, v] 55 (0, 0))) (HVB : Below wr.heap.size wr w1) :
  KeepBut w ((w1.setCell ⟨gv, 0, none⟩ (.string y.f0)).setCell ⟨gv, 1, none⟩ (.string y.f1)) b none ∧ ∀ w2, Below ((w1.setCell ⟨gv, 0, none⟩ (.string y.f0)).setCell ⟨gv, 1, none⟩ (.string y.f1)).heap.size ((w1.setCell ⟨gv, 0, none⟩ (.string y.f0)).setCell ⟨gv, 1, none⟩ (.string y.f1)) w2 →
   w2.heap[b]? = some (.cells cur 55 (0, 0)) ∧ w2.heap[gv]? = some (.cells #[.string y.f0, .string y.f1] 55 (0, 0)) ∧ Below b w w2 ∧ KeepBut w w2 b none := by
 have hne : b ≠ gv := by omega
 have k1 : KeepBut w w1 b none := KeepBut.trans HKW (zF HVB b none) (.inl rfl)
 have hge : w.heap.size ≤ gv := by have := HKW.1; omega
 have k2 := yf0 (p := ⟨gv, 1, none⟩) (yf0 (p := ⟨gv, 0, none⟩) k1 hge (.string y.f0)) hge (.string y.f1)
 have b1 : Below b w w1 := HBW.trans (HVB.mono (Nat.le_of_lt hbw))
 have b2 := (b1.setCell (p := ⟨gv, 0, none⟩) (show b ≤ gv by omega) (.string y.f0)).setCell (p := ⟨gv, 1, none⟩) (show b ≤ gv by omega) (.string y.f1)
 have g2 := jf0 (jf0 HV 0 (.string y.f0) rfl) 1 (.string y.f1) rfl
 have c2 := xT0 (p := ⟨gv, 1, none⟩) (xT0 (p := ⟨gv, 0, none⟩) (ze HC HVB) hne (.string y.f0)) hne (.string y.f1)
 refine ⟨k2, fun w2 h2 => ⟨ze c2 h2, ze g2 h2, b2.trans (h2.mono (by have := xn c2; omega)), KeepBut.trans k2 (zF h2 b none) (.inl rfl)⟩⟩
theorem zh.zero_run (w : World) : (zeroValue 55).run Tryz.prog w = .ok (.agg #[.string ⟨#[]⟩, .string ⟨#[]⟩]) w := by
 go_simp
theorem zh.del (g : Nat) (lb : Array Value) (eg : ∀ args w, (callFunc g args).run Tryz.prog w = .ok (.enter g args) w) (b off : Nat) (c : Nat) (cur0 : Array Value) (l : List (S55)) (p : S55 → Bool) (w : World)
  (hblk : w.heap[b]? = some (.cells cur0 55 (0, 0))) (hR : zh.Row cur0 off l) (hlc : l.length ≤ c) (hbig : l.length ≤ 4194304)
  (hp : ∀ (W : World) x, KeepBut w W b none → Calls Tryz.prog g (#[.agg #[.string x.f0, .string x.f1]] ++ lb) W fun e w' => e = .returned (.bool (p x)) ∧ Below W.heap.size W w') :
  Calls Tryz.prog 86 #[.slice (some ⟨b, off, none⟩) l.length c, .func (.func g) #[] lb] w fun e w' => e = .returned (.slice (some ⟨b, off, none⟩) (l.filter fun x => !p x).length c) ∧ (∃ cur, w'.heap[b]? = some (.cells cur 55 (0, 0)) ∧ cur.size = cur0.size ∧ zh.Row cur off (l.filter fun x => !p x)) ∧ Below b w w' := by
 have hb : b < w.heap.size := by
  by_cases h : b < w.heap.size
  ·exact h
  ·rw [Array.getElem?_eq_none (by omega)] at hblk
   cases hblk
 have hs := zh.search g lb eg (some ⟨b, off, none⟩) b off rfl c l p w hb (by omega) (fun j x hx => ⟨(zg hblk _).trans (hR j x hx).1, (zg hblk _).trans (hR j x hx).2⟩) (fun W x hW => hp W x (zF hW b none))
 have u26 : ∀ w, Sem.run Tryz.prog (underlying 24) w = .ok (TypeDesc.slice 55) w := run_underlying Tryz.underlying24
 have HP := ak hp
 have HBK := ak hblk
 have HRW := ak hR
 have HLC := ak hlc
 have HBB := ak hb
 clear hp hblk hR hlc
 rcases zh.first_ p l with hany | ⟨i0, y0, hy0, hpy, htk0⟩
 ·have hs2 : Calls Tryz.prog 100 #[.slice (some ⟨b, off, none⟩) l.length c, .func (.func g) #[] lb] w fun e w' => e = .returned (.int .i64 (-1)) ∧ Below w.heap.size w w' := by
   refine hs.mono ?_
   rintro e w' ⟨hF, hb'⟩
   rcases hF with ⟨rfl, _⟩ | ⟨i, y, _, a1, a2, _⟩
   ·exact ⟨rfl, hb'⟩
   ·exact (zh.any_no a1 a2 hany).elim
  rw [zh.keep_all hany]
  clear hs hany
  go_enter Tryz.func86, Tryz.ntmps86
  go_wp2_with (go_at_call 100; refine hs2.mono ?_; rintro e w' ⟨rfl, hb'⟩)
  go_ret
  exact ⟨rfl, ⟨cur0, ze HBK.out hb', rfl, HRW.out⟩, hb'.mono (Nat.le_of_lt HBB.out)⟩
 ·have hs2 : Calls Tryz.prog 100 #[.slice (some ⟨b, off, none⟩) l.length c, .func (.func g) #[] lb] w fun e w' => e = .returned (.int .i64 (i0 : Int)) ∧ Below w.heap.size w w' := by
   refine hs.mono ?_
   rintro e w' ⟨hF, hb'⟩
   rcases hF with ⟨_, hn⟩ | ⟨i, y, rfl, a1, a2, a3⟩
   ·exact (zh.any_no hy0 hpy hn).elim
   ·have e : i = i0 := Nat.le_antisymm (zh.first_no hy0 hpy a3) (zh.first_no a1 a2 htk0)
    exact ⟨by rw [e], hb'⟩
  have hlt0 : i0 < l.length := (List.getElem?_eq_some_iff.1 hy0).1
  have HY := ak hy0
  have HPY := ak hpy
  have HTK := ak htk0
  have hne1 : ((i0 : Int) == -1) = false := beq_eq_false_iff_ne.2 (by omega)
  clear hs hy0 hpy htk0
  go_enter Tryz.func86, Tryz.ntmps86
  go_wp2_with (go_at_call 100; refine hs2.mono ?_; rintro e w' ⟨rfl, hb'⟩)
  have HB0 := ak hb'
  clear hb'
  go_loopg [5, 6, 7] l.length (fun gg s5 s6 _ wr => ∃ (ii jj : Nat) (cur : Array Value) (X : List (S55)), s5 = .int .i64 ii ∧ s6 = .int .i64 jj ∧ jj ≤ l.length ∧ ii < jj ∧ l.length - jj ≤ gg ∧ Aside0 (wr.heap[b]? = some (.cells cur 55 (0, 0))) ∧ Aside0 (cur.size = cur0.size) ∧ Aside0 (zh.Row cur off X) ∧ Aside0 (X.length = l.length ∧ X.take ii = (l.take jj).filter (fun x => !p x) ∧ ii = ((l.take jj).filter (fun x => !p x)).length ∧ X.drop jj = l.drop jj) ∧ Aside0 (Below b w wr) ∧ Aside0 (KeepBut w wr b none))
  case atStart =>
   obtain ⟨s1, s2⟩ := zh.start_ HY.out HPY.out HTK.out
   exact ⟨i0, i0 + 1, cur0, l, rfl, by go_num, by omega, by omega, by omega, ⟨ze HBK.out HB0.out⟩, ⟨rfl⟩, HRW, ⟨rfl, s1, s2, rfl⟩, ⟨HB0.out.mono (Nat.le_of_lt HBB.out)⟩, ⟨zF HB0.out b none⟩⟩
  case round =>
   obtain ⟨ii, jj, cur, X, rfl, rfl, hjl, hij, hgg, HC, HCS, HRX, HXL, HBW, HKW⟩ := hrel
   have hbw : b < wr.heap.size := Nat.lt_of_lt_of_le HBB.out HKW.out.1
   by_cases hlt : jj < l.length
   ·have hltz : (jj : Int) < (l.length : Int) := by omega
    obtain ⟨y, hy⟩ : ∃ y, l[jj]? = some y := ⟨_, List.getElem?_eq_getElem hlt⟩
    have HYJ := ak hy
    have hxj : X[jj]? = some y := (zh.at_drop HXL.out.2.2.2).trans hy
    have hXl := HXL.out.1
    obtain ⟨z, hz⟩ : ∃ z, X[ii]? = some z := ⟨_, List.getElem?_eq_getElem (by omega)⟩
    obtain ⟨cj0, cj1⟩ := HRX.out jj y hxj
    obtain ⟨ci0, ci1⟩ := HRX.out ii z hz
    replace cj0 := (zg HC.out _).trans cj0
    replace cj1 := (zg HC.out _).trans cj1
    clear hy hxj hz
    have CI0 := ak ci0
    have CI1 := ak ci1
    clear ci0 ci1
    cases hq : p y with
    | true =>
     have HQ := ak hq
     clear hq
     go_wp2_with (first | ((with_reducible refine zl (N := 7) rfl ?_); refine bx 7 #[.string ⟨#[]⟩, .string ⟨#[]⟩] 55 ?_; intro gv hgv w1 hbox hb; have v0 : w1.cell? ⟨gv, 0, none⟩ = some (.string ⟨#[]⟩) := (zg hbox 0).trans rfl; have v1 : w1.cell? ⟨gv, 1, none⟩ = some (.string ⟨#[]⟩) := (zg hbox 1).trans rfl; have fz0 := yS hbox 0; have fz1 := yS hbox 1; have HV := ak hbox; have HVB := ak hb; have HGV := ak hgv; clear hbox hb hgv) | (go_at_fn g; refine (HP.out _ y (zh.step_ y HC.out hbw HBW.out HKW.out HGV.out HV.out HVB.out).1).mono ?_; rintro e w2 ⟨rfl, hb2⟩; obtain ⟨q1, q2, q3, q4⟩ := (zh.step_ y HC.out hbw HBW.out HKW.out HGV.out HV.out HVB.out).2 w2 hb2; have Q1 := ak q1; have Q3 := ak q3; have Q4 := ak q4; (try rw [HQ.out]); skip; clear q1 q2 q3 q4 hb2))
     go_roundg (l.length - (jj + 1))
     case measure => omega
     case rel => exact ⟨ii, jj + 1, cur, X, rfl, by go_num, by omega, by omega, by omega, Q1, HCS, HRX, ⟨HXL.out.1, by rw [zh.skip_ HYJ.out HQ.out]; exact HXL.out.2.1, by rw [zh.skip_ HYJ.out HQ.out]; exact HXL.out.2.2.1, zh.next_ HXL.out.2.2.2⟩, Q3, Q4⟩
    | false =>
     have HQ := ak hq
     clear hq
     go_wp2_with (first | ((with_reducible refine zl (N := 7) rfl ?_); refine bx 7 #[.string ⟨#[]⟩, .string ⟨#[]⟩] 55 ?_; intro gv hgv w1 hbox hb; have v0 : w1.cell? ⟨gv, 0, none⟩ = some (.string ⟨#[]⟩) := (zg hbox 0).trans rfl; have v1 : w1.cell? ⟨gv, 1, none⟩ = some (.string ⟨#[]⟩) := (zg hbox 1).trans rfl; have fz0 := yS hbox 0; have fz1 := yS hbox 1; have HV := ak hbox; have HVB := ak hb; have HGV := ak hgv; clear hbox hb hgv) | (go_at_fn g; refine (HP.out _ y (zh.step_ y HC.out hbw HBW.out HKW.out HGV.out HV.out HVB.out).1).mono ?_; rintro e w2 ⟨rfl, hb2⟩; obtain ⟨q1, q2, q3, q4⟩ := (zh.step_ y HC.out hbw HBW.out HKW.out HGV.out HV.out HVB.out).2 w2 hb2; have Q1 := ak q1; have Q3 := ak q3; have Q4 := ak q4; (try rw [HQ.out]); have v0 : w2.cell? ⟨gv, 0, none⟩ = some (.string y.f0) := (zg q2 0).trans rfl; have v1 : w2.cell? ⟨gv, 1, none⟩ = some (.string y.f1) := (zg q2 1).trans rfl; have d0 : w2.cell? ⟨b, off + ii * 2, none⟩ = some (.string z.f0) := (zg q1 _).trans CI0.out; have d1 : w2.cell? ⟨b, off + ii * 2 + 1, none⟩ = some (.string z.f1) := (zg q1 _).trans CI1.out; have fd0 := yS q1 (off + ii * 2); have fd1 := yS q1 (off + ii * 2 + 1); clear q1 q2 q3 q4 hb2))
     go_roundg (l.length - (jj + 1))
     case measure => omega
     case rel =>
      obtain ⟨p1, p2⟩ := zh.put_ (X := X) y hij (by omega)
      exact ⟨ii + 1, jj + 1, _, X.set ii y, by go_num, by go_num, by omega, by omega, by omega, ⟨yD0 (yD0 Q1.out (off + ii * 2) (.string y.f0)) (off + ii * 2 + 1) (.string y.f1)⟩, ⟨by rw [Array.size_setIfInBounds, Array.size_setIfInBounds]; exact HCS.out⟩, ⟨zh.Row_set HRX.out ii (by omega) y⟩,
       ⟨by rw [List.length_set]; exact hXl, by rw [p1, zh.more_ HYJ.out HQ.out, HXL.out.2.1], by rw [zh.more_ HYJ.out HQ.out, List.length_append, ← HXL.out.2.2.1]; rfl, zh.next_ (p2.trans HXL.out.2.2.2)⟩, ⟨(Q3.out.setCell (p := ⟨b, off + ii * 2, none⟩) (Nat.le_refl b) _).setCell (p := ⟨b, off + ii * 2 + 1, none⟩) (Nat.le_refl b) _⟩, ⟨(Q4.out.set_ _ _).set_ _ _⟩⟩
   ·obtain rfl : jj = l.length := by omega
    have hltz : ¬ (l.length : Int) < (l.length : Int) := by omega
    have hXl := HXL.out.1
    have hcl : ∀ ty, (Builtin.clear_ #[24] ty #[.slice (some ⟨b, off + ii * 2, none⟩) (l.length - ii) (c - ii)]).run Tryz.prog wr = .ok (.tuple #[]) (wr.setCells b (off + ii * 2) (List.replicate ((l.length - ii) * 2) (.string ⟨#[]⟩))) := by
     intro ty
     refine zh.clear2 wr _ _ ty _ _ Tryz.underlying24 zh.zero_run rfl rfl b (off + ii * 2) _ _ (by omega) (fun j hj => ?_) (fun j hj => yS HC.out _)
     obtain ⟨x, hx⟩ : ∃ x, X[ii + j / 2]? = some x := ⟨_, List.getElem?_eq_getElem (by omega)⟩
     obtain ⟨e0, e1⟩ := HRX.out _ x hx
     rw [zg HC.out]
     rcases (by omega : j % 2 = 0 ∨ j % 2 = 1) with h | h
     ·rw [show off + ii * 2 + j = off + (ii + j / 2) * 2 by omega, e0]; rfl
     ·rw [show off + ii * 2 + j = off + (ii + j / 2) * 2 + 1 by omega, e1]; rfl
    have hlc := HLC.out
    go_wp2
    go_ret
    have hsz : off + ii * 2 + (List.replicate ((l.length - ii) * 2) (Value.string ⟨#[]⟩)).length ≤ cur.size := by
     rw [List.length_replicate]
     obtain ⟨x, hx⟩ : ∃ x, X[l.length - 1]? = some x := ⟨_, List.getElem?_eq_getElem (by omega)⟩
     obtain ⟨e0, _⟩ := Array.getElem?_eq_some_iff.1 (HRX.out _ x hx).2
     omega
    obtain ⟨cur', h3, h4, h5⟩ := yK0 (g := b) (e := 55) (List.replicate ((l.length - ii) * 2) (Value.string ⟨#[]⟩)) (off + ii * 2) wr cur HC.out hsz
    have hq := HXL.out.2.1
    have hq2 := HXL.out.2.2.1
    rw [List.take_length] at hq hq2
    have hsame := zY0 b (List.replicate ((l.length - ii) * 2) (Value.string ⟨#[]⟩)) (off + ii * 2) wr
    refine ⟨by rw [← hq2]; rfl, ⟨cur', h3, h4.trans HCS.out, ?_⟩, HBW.out.trans ⟨hsame.1, hsame.2.1, hsame.2.2.1, by rw [hsame.2.2.2]; exact Nat.le_refl _, fun k hk => yL0 _ _ k (by omega)⟩⟩
    rw [← hq]
    intro u x hx
    have hu : u < ii := by
     have := (List.getElem?_eq_some_iff.1 hx).1
     rw [List.length_take] at this
     omega
    rw [List.getElem?_take_of_lt hu] at hx
    obtain ⟨e0, e1⟩ := HRX.out u x hx
    have key : ∀ k, k < off + ii * 2 → cur'[k]? = cur[k]? := by
     intro k hk
     rw [← Array.getElem?_toList, ← Array.getElem?_toList, h5, List.append_assoc, List.getElem?_append_left (by rw [List.length_take, Array.length_toList]; omega), List.getElem?_take_of_lt hk]
    rw [key _ (by omega), key _ (by omega)]
    exact ⟨e0, e1⟩
theorem zh.search_nil (g : Nat) (lb : Array Value) (w : World) :
  Calls Tryz.prog 100 #[.slice none 0 0, .func (.func g) #[] lb] w fun e w' => e = .returned (.int .i64 (-1)) ∧ Below w.heap.size w w' := by
 have HB := ak (Below.refl w.heap.size w)
 go_enter Tryz.func100, Tryz.ntmps100
 go_wp2
 go_loopg [5, 8] 1 (fun gg _ s8 wr => s8 = .int .i64 0 ∧ Aside (Below w.heap.size w wr))
 case atStart => exact ⟨rfl, Below.refl _ w⟩
 case round =>
  obtain ⟨rfl, BW⟩ := hrel
  go_wp2
  go_ret
  exact ⟨rfl, BW.out⟩
theorem zh.del_nil (g : Nat) (lb : Array Value) (w : World) :
  Calls Tryz.prog 86 #[.slice none 0 0, .func (.func g) #[] lb] w fun e w' => e = .returned (.slice none 0 0) ∧ Below w.heap.size w w' := by
 have hs := zh.search_nil g lb w
 go_enter Tryz.func86, Tryz.ntmps86
 go_wp2_with (go_at_call 100; refine hs.mono ?_; rintro e w' ⟨rfl, hb'⟩)
 go_ret
 exact ⟨rfl, hb'⟩
theorem zh.cells_of {cur : Array Value} {X : List (S55)} {m : Nat} (h : zh.Row cur 0 X) (hm : X.length ≤ m) (j : Nat) (x : S55) (hx : X[j]? = some x) : ((cur.toList.take (m * 2)).drop (j * 2)).take 2 = [.string x.f0, .string x.f1] := by
 obtain ⟨e0, e1⟩ := h j x hx
 have hj := (List.getElem?_eq_some_iff.1 hx).1
 rw [Nat.zero_add, ← Array.getElem?_toList] at e0 e1
 refine List.ext_getElem? fun i => ?_
 match i with
 | 0 => rw [List.getElem?_take_of_lt (by omega), List.getElem?_drop, List.getElem?_take_of_lt (by omega)]; exact e0
 | 1 => rw [List.getElem?_take_of_lt (by omega), List.getElem?_drop, List.getElem?_take_of_lt (by omega)]; exact e1
 | i + 2 => rw [List.getElem?_eq_none (by rw [List.length_take]; omega)]; rfl
theorem zh.of_cells {cur : Array Value} {X : List (S55)} (h : ∀ j x, X[j]? = some x → ((cur.toList.take (X.length * 2)).drop (j * 2)).take 2 = [.string x.f0, .string x.f1]) : zh.Row cur 0 X := by
 intro t x hx
 have ht := (List.getElem?_eq_some_iff.1 hx).1
 have e := h t x hx
 have e0 : (((cur.toList.take (X.length * 2)).drop (t * 2)).take 2)[0]? = some (.string x.f0) := by rw [e]; rfl
 have e1 : (((cur.toList.take (X.length * 2)).drop (t * 2)).take 2)[1]? = some (.string x.f1) := by rw [e]; rfl
 rw [List.getElem?_take_of_lt (by omega), List.getElem?_drop, List.getElem?_take_of_lt (by omega), Array.getElem?_toList] at e0 e1
 rw [Nat.zero_add]
 exact ⟨e0, e1⟩
theorem zh.R_of {w : World} {base b c : Nat} {cur : Array Value} {X : List (S55)} (hb : base ≤ b) (hh : w.heap[b]? = some (.cells cur 55 (0, 0))) (hl : X.length ≤ c) (hc : c ≤ maxLen) (hs : cur.size = c * 2) (h : zh.Row cur 0 X) : Kd.R k55 55 w base (fun _ => True) (.slice (some ⟨b, 0, none⟩) X.length c) X := by
 refine ⟨fun _ _ => trivial, cur.toList.take (X.length * 2), ⟨?_, Or.inr ⟨b, c, cur, rfl, hb, hh, hl, hc, hs, rfl⟩⟩, ?_, ?_⟩
 ·show (cur.toList.take (X.length * 2)).length = X.length * 2
  rw [List.length_take, show cur.toList.length = c * 2 from hs]
  omega
 ·show (cur.toList.take (X.length * 2)).length = X.length * 2
  rw [List.length_take, show cur.toList.length = c * 2 from hs]
  omega
 ·intro j x hx
  rw [show ((cur.toList.take (X.length * 2)).drop (j * k55.sz)).take k55.sz = [.string x.f0, .string x.f1] from zh.cells_of h (Nat.le_refl _) j x hx]
  exact jA _ _ _ x
def zh.f (l0 : List (S55)) (a1 : ByteArray) : Option (List (S55)) := if l0.length ≤ 4194304 then some (l0.filter fun x => !decide (x.f0 = a1)) else none
theorem zh.calls (A0 : Option Addr) (c0 : Nat) (l0 : List (S55)) (a1 : ByteArray) (r : List (S55)) (w : World) (hr0 : Kd.C k55 w A0 l0.length l0) (hc0 : l0.length ≤ c0) (h : zh.f l0 a1 = some r) :
  Calls Tryz.prog 52 #[.slice A0 l0.length c0, .string a1] w fun e w' => ∃ v0_ : Value, e = .returned (v0_) ∧ Kd.R k55 55 w' w.heap.size (fun _ => True) v0_ r ∧ Below w.heap.size w w' := by
 have hs : l0.length ≤ 4194304 := by
  unfold zh.f at h
  split at h
  ·assumption
  ·cases h
 have hcl : zh.cloneF l0 = some l0 := by
  unfold zh.cloneF
  rw [if_pos hs]
 unfold zh.f at h
 rw [if_pos hs] at h
 have h := Option.some.inj h
 subst h
 have HR0 := ak hr0
 have HC0 := ak hc0
 have HCL := ak hcl
 have HS := ak hs
 have HB := ak (Below.refl w.heap.size w)
 clear hr0 hc0 hcl hs

 have hdel : ∀ (gb : Nat) (W : World) (v : Value), w.heap.size ≤ W.heap.size → gb < W.heap.size → ∀ w2, W.heap.size ≤ w2.heap.size → w2.cell? ⟨gb, 0, none⟩ = some (.string a1) → Kd.R k55 55 w2 W.heap.size (fun _ => True) v l0 →
   Calls Tryz.prog 86 #[v, .func (.func 87) #[] #[.pointer (some ⟨gb, 0, none⟩)]] w2 fun e w' => ∃ v0_ : Value, e = .returned (v0_) ∧ Kd.R k55 55 w' w.heap.size (fun _ => True) v0_ (l0.filter fun x => !decide (x.f0 = a1)) ∧ Below W.heap.size w2 w' := by
  intro gb W v hwW hgb w2 hW hc hR
  have eg := enters_of Tryz.func87 (by kernel_rfl) rfl
  obtain ⟨_, inner, ⟨hl, ho⟩, hp⟩ := hR
  rcases ho with ⟨rfl, hn⟩ | ⟨b, cap, cur, rfl, hbb, hh, hle, hcap, hsz, hin⟩
  ·have hn0 : l0 = [] := List.eq_nil_of_length_eq_zero hn
   subst hn0
   refine (zh.del_nil _ _ w2).mono ?_
   rintro e w' ⟨rfl, hb'⟩
   exact ⟨_, rfl, Kd.R_nil _ _ _ _ _, hb'.mono hW⟩
  ·have hrow : zh.Row cur 0 l0 := zh.of_cells fun j x hx => by
    have e := hp.2 j x hx
    rw [← hin] at e
    exact zB1 e
   have hne : gb ≠ b := by omega
   have hone : ∀ (W2 : World) (x : S55), KeepBut w2 W2 b none → Calls Tryz.prog 87 (#[.agg #[.string x.f0, .string x.f1]] ++ #[.pointer (some ⟨gb, 0, none⟩)]) W2 fun e w' => e = .returned (.bool (decide (x.f0 = a1))) ∧ Below W2.heap.size W2 w' := by
    intro W2 x hW2
    have e : (#[.agg #[.string x.f0, .string x.f1]] ++ #[.pointer (some ⟨gb, 0, none⟩)] : Array Value) = #[.agg #[.string x.f0, .string x.f1], .pointer (some ⟨gb, 0, none⟩)] := rfl
    rw [e]
    have hc2 : W2.cell? ⟨gb, 0, none⟩ = some (.string a1) := xG0 hW2 hc hne
    exact zh.one x.f0 x.f1 a1 gb W2 hc2
   refine (zh.del _ _ eg b 0 cap cur l0 (fun x => decide (x.f0 = a1)) w2 hh hrow hle HS.out hone).mono ?_
   rintro e w' ⟨rfl, ⟨cur', h1, h2, h3⟩, h4⟩
   exact ⟨_, rfl, zh.R_of (by omega) h1 (Nat.le_trans (List.length_filter_le _ _) hle) hcap (by rw [h2]; exact hsz) h3, h4.mono hbb⟩
 have HD := ak hdel
 clear hdel
 go_enter Tryz.func52, Tryz.ntmps52
 go_wp2_with (first | ((with_reducible refine zl (N := 3) rfl ?_); refine bx 3 #[.string a1] 9 ?_; intro gb hgb w1 hbox hb; have HX := ak (show w1.cell? ⟨gb, 0, none⟩ = some (.string a1) from (zg hbox 0).trans rfl); have HGB := ak (show gb < w1.heap.size from xn hbox); have HB2 := ak (zb HB.out hb); clear HB; have HB := HB2; clear HB2 hb hbox hgb) | (go_at_call 47; refine (zh.clone A0 c0 l0 l0 _ (Kd.C_below HR0.out HB.out) HC0.out HCL.out).mono ?_; rintro e w2 ⟨v0, rfl, ho, hb⟩; obtain ⟨A1, c1, rfl, hl1, hC1⟩ := Kd.R_reads ho; clear hl1 hC1; have HO := ak ho; have HX2 := ak ((hb.cell (World.block_lt_of_cell? _ _ HX.out)).trans HX.out); have HB2 := ak (zb HB.out hb); have HB3 := ak hb; clear ho hb) | (go_at_call 86; refine (HD.out gb w1 (.slice A1 l0.length c1) HB.out.size HGB.out w2 HB3.out.size HX2.out HO.out).mono ?_; rintro e w3 ⟨v1, rfl, ho, hb⟩; have HO1 := ak ho; have HB4 := ak hb; clear ho hb))
 go_ret
 exact ⟨_, rfl, HO1.out, HB2.out.trans (HB4.out.mono HB.out.size)⟩
def xq.f (l0 : List (S55)) : Option ((List (S55))) := (zh.f l0 (⟨#[99, 111, 110, 116, 101, 110, 116, 45, 108, 101, 110, 103, 116, 104]⟩ : ByteArray)).bind fun t101 => ((zh.f t101 (⟨#[116, 114, 97, 110, 115, 102, 101, 114, 45, 101, 110, 99, 111, 100, 105, 110, 103]⟩ : ByteArray)).bind fun t104 => (some t104))
theorem xq.calls (A0 : Option Addr) (c0 : Nat) (l0 : List (S55)) (r : List (S55)) (w : World) (hr0 : Kd.C k55 w A0 l0.length l0) (hc0 : l0.length ≤ c0) (h : xq.f l0 = some r) :
  Calls Tryz.prog 22 #[.slice A0 l0.length c0] w fun e w' => ∃ v0_ : Value, e = .returned (v0_) ∧ Kd.R k55 55 w' w.heap.size (fun _ => True) v0_ r ∧ Below w.heap.size w w' := by
 have HR0 := ak hr0
 have HC0 := ak hc0
 clear hr0 hc0
 have HB := ak (Below.refl w.heap.size w)
 have H := h
 unfold xq.f at H
 clear h
 replace H := ob H
 obtain ⟨t101, A2, H⟩ := H
 replace H := ob H
 obtain ⟨t104, A3, H⟩ := H
 obtain rfl := oi1 H
 go_enter Tryz.func22, Tryz.ntmps22
 go_wp2_with (first | ((with_reducible refine za (f := 52) rfl ?_); refine cl 4 rfl Tryz.func52 #[.slice A0 l0.length c0, .string ⟨#[99, 111, 110, 116, 101, 110, 116, 45, 108, 101, 110, 103, 116, 104]⟩] (zh.calls _ _ l0 (⟨#[99, 111, 110, 116, 101, 110, 116, 45, 108, 101, 110, 103, 116, 104]⟩ : ByteArray) t101 _ ?side1 ?side2 A2.out) ?_; (case side1 => repeat (first | exact HR0.out | (with_reducible refine Kd.C_alloc ?_ _) | (with_reducible refine Kd.C_drewN ?_ _) | (with_reducible refine Kd.C_drew ?_))); (case side2 => exact HC0.out); rintro e w4 ⟨v102, rfl, ho0, hb⟩; refine ⟨_, rfl, ?_⟩; have HO103 := ak (Kd.R_lower ho0 (zd bq)); replace HB := ak (zb bq hb); (try clear hb ho0); obtain ⟨Ao5, co5, eo5⟩ := Kd.R_slice HO103.out; subst eo5) | ((with_reducible refine za (f := 52) rfl ?_); refine cl 5 rfl Tryz.func52 #[.slice Ao5 t101.length co5, .string ⟨#[116, 114, 97, 110, 115, 102, 101, 114, 45, 101, 110, 99, 111, 100, 105, 110, 103]⟩] (zh.calls _ _ t101 (⟨#[116, 114, 97, 110, 115, 102, 101, 114, 45, 101, 110, 99, 111, 100, 105, 110, 103]⟩ : ByteArray) t104 _ ?side1 ?side2 A3.out) ?_; (case side1 => exact cq (Kd.R_reads' HO103.out).2.2); (case side2 => exact (Kd.R_reads' HO103.out).2.1); rintro e w6 ⟨v105, rfl, ho0, hb⟩; refine ⟨_, rfl, ?_⟩; have HO106 := ak (Kd.R_lower (Kd.R_new' ho0 (Kd.R_lt (rdq HO103.out))) (zd bq)); replace HO103 := ak (Kd.R_elder' (rdq HO103.out) (Kd.R_base ho0) hb); replace HB := ak (zb bq hb); (try clear hb ho0)))
 go_ret
 exact ⟨_, rv, by (with_reducible repeat (first | apply Kd.R_alloc | apply Kd.R_drewN | apply Kd.R_drew)); exact Kd.R_mono HO106.out (fun _ hk => trivial), bq⟩
mutual
def zr.l0 : Nat → ByteArray → Int → Int → Int → Option (Int × Bool)
 | 0, _, _, _, _ => none
 | k + 1, x0, x4, x12, x13 => if x13 < x12 then (if 0 ≤ x13 then (if x13 < (x0.size : Int) then ((yV.f (⟨#[48, 49, 50, 51, 52, 53, 54, 55, 56, 57, 97, 98, 99, 100, 101, 102]⟩ : ByteArray) (bt x0 x13)).bind fun t102 => (if (bt x0 x13) ≥ 65 then (zr.j1 k x0 x4 x13 t102 x12 x13 (decide ((bt x0 x13) ≤ 70))) else (zr.j1 k x0 x4 x13 t102 x12 x13 false))) else (none)) else (none)) else (some (x4, true))
def zr.j1 : Nat → ByteArray → Int → Int → Int → Int → Int → Bool → Option (Int × Bool)
 | 0, _, _, _, _, _, _, _ => none
 | k + 1, x0, x4, x5, x6, x12, x13, x29 => if x29 = true then (if 0 ≤ x5 then (if x5 < (x0.size : Int) then (if ((((bt x0 x5) - 65) % 256) + 10) < 0 then (some (0, false)) else (zr.l0 k x0 (wrap64 ((wrap64 (16 * x4)) + ((((bt x0 x5) - 65) % 256) + 10))) x12 (wrap64 (x13 + 1)))) else (none)) else (none)) else (if x6 < 0 then (some (0, false)) else (zr.l0 k x0 (wrap64 ((wrap64 (16 * x4)) + x6)) x12 (wrap64 (x13 + 1))))
end
def zr.f (k : Nat) (a0 : ByteArray) : Option (Int × Bool) := (qf.f (a0.size : Int) 1 6).bind fun t101 => (if t101 = true then (zr.l0 k a0 0 (a0.size : Int) 0) else (some (0, false)))
theorem zr.mono_l : ∀ k, (∀ y0 y1 y2 y3, LeO (zr.l0 k y0 y1 y2 y3) (zr.l0 (k + 1) y0 y1 y2 y3)) ∧ (∀ y0 y1 y2 y3 y4 y5 y6, LeO (zr.j1 k y0 y1 y2 y3 y4 y5 y6) (zr.j1 (k + 1) y0 y1 y2 y3 y4 y5 y6))
 | 0 => ⟨fun _ _ _ _ r h => by simp [zr.l0] at h, fun _ _ _ _ _ _ _ r h => by simp [zr.j1] at h⟩
 | k + 1 => by
  obtain ⟨ih0, ih1⟩ := zr.mono_l k
  refine ⟨?_, ?_⟩
  ·intro y0 y1 y2 y3
   unfold zr.l0
   exact mq2 ih0 ih1
  ·intro y0 y1 y2 y3 y4 y5 y6
   unfold zr.j1
   exact mq2 ih0 ih1
theorem zr.mono : ∀ a0 k, LeO (zr.f k a0) (zr.f (k + 1) a0) := by
 intro a0 k
 obtain ⟨ih0, ih1⟩ := zr.mono_l k
 unfold zr.f
 exact mq2 ih0 ih1
theorem zr.calls (k : Nat) (a0 : ByteArray) (r1 : Int) (r2 : Bool) (w : World) (h : zr.f k a0 = some (r1, r2)) :
  Calls Tryz.prog 110 #[.string a0] w fun e w' => e = .returned (.tuple #[.int .i64 r1, .bool r2]) ∧ Drawn0 w w' := by
 have H := h
 unfold zr.f at H
 clear h
 replace H := ob H
 obtain ⟨t101, A2, H⟩ := H
 replace H := sb H
 rcases H with ⟨rfl, H⟩ | ⟨rfl, H⟩
 ·have H' := ak H
  clear H
  go_enter Tryz.func110, Tryz.ntmps110
  go_wp2_with (first | ((with_reducible refine za (f := 62) rfl ?_); refine cl 9 rfl Tryz.func62 #[.int .i64 (a0.size : Int), .int .i64 1, .int .i64 6] (qf.calls (a0.size : Int) 1 6 true _ A2.out) ?_; rintro e w' ⟨rfl, ⟨nd, rfl⟩⟩; refine ⟨_, rfl, ?_⟩))
  go_loopg [4, 13] k (fun kq v4 v13 w' => ∃ (x4_1 : Int) (x13_1 : Int), v4 = .int .i64 x4_1 ∧ v13 = .int .i64 x13_1 ∧ Aside0 (zr.l0 kq a0 x4_1 (a0.size : Int) x13_1 = some (r1, r2)) ∧ Aside0 (kq ≤ k) ∧ Drawn0 w w')
  case atStart => exact ⟨(0), (0), rs, rs, H', ⟨Nat.le_refl _⟩, by repeat (first | exact Drawn0.refl _ | apply yv)⟩
  case round =>
   clear H'
   obtain ⟨x4_1, x13_1, rfl, rfl, HA, HK1, ⟨m1, rfl⟩⟩ := hrel
   cases gk with
   | zero => exact absurd HA.out (by simp [zr.l0])
   | succ k1 =>
    have H := HA.out
    clear HA
    simp only [zr.l0] at H
    replace H := sd H
    rcases H with ⟨c4b0, H⟩ | ⟨c4b0, H⟩
    ·replace H := sT H
     obtain ⟨c5, H⟩ := H
     have c5b0 := decide_eq_true c5
     clear c5
     replace H := sT H
     obtain ⟨c6, H⟩ := H
     have c6b0 := decide_eq_true c6
     clear c6
     replace H := ob H
     obtain ⟨t102, A8, H⟩ := H
     have HC9 := ak H
     clear H
     have p7 : 0 ≤ (x13_1 : Int) := of_decide_eq_true asm
     have q7 : x13_1 < (a0.size : Int) := of_decide_eq_true asm
     have hx7 := bt_at a0 x13_1
     replace p7 := eq_true p7
     replace q7 := eq_true q7
     go_upto_region 8 with (first | ((with_reducible refine za (f := 74) rfl ?_); refine cl 19 rfl Tryz.func74 #[.string ⟨#[48, 49, 50, 51, 52, 53, 54, 55, 56, 57, 97, 98, 99, 100, 101, 102]⟩, .int .u8 (bt a0 x13_1)] (yV.calls (⟨#[48, 49, 50, 51, 52, 53, 54, 55, 56, 57, 97, 98, 99, 100, 101, 102]⟩ : ByteArray) (bt a0 x13_1) t102 _ A8.out) ?_; rintro e w' ⟨rfl, ⟨nd, rfl⟩⟩; refine ⟨_, rfl, ?_⟩))
     (try simp only [Act.put, List.setIfInBounds_toArray, List.set_cons_zero, List.set_cons_succ])
     go_cut [29] (fun v29 wc => ∃ (kq : Nat) (x29_8 : Bool), v29 = .bool x29_8 ∧ Aside0 (zr.j1 kq a0 x4_1 x13_1 t102 (a0.size : Int) x13_1 x29_8 = some (r1, r2)) ∧ Aside0 (kq ≤ k1) ∧ Drawn0 w wc)
     case first =>
      have H := HC9.out
      clear HC9
      replace H := sd H
      rcases H with ⟨c11b0, H⟩ | ⟨c11b0, H⟩
      ·(first | rw [c11b0] | (simp only [i64_w, i32_w]; rw [c11b0]) | skip)
       have H' := ak H
       clear H
       have p10 : 0 ≤ (x13_1 : Int) := of_decide_eq_true asm
       have q10 : x13_1 < (a0.size : Int) := of_decide_eq_true asm
       have hx10 := bt_at a0 x13_1
       replace p10 := eq_true p10
       replace q10 := eq_true q10
       have p12 : 0 ≤ (x13_1 : Int) := of_decide_eq_true asm
       have q12 : x13_1 < (a0.size : Int) := of_decide_eq_true asm
       have hx12 := bt_at a0 x13_1
       replace p12 := eq_true p12
       replace q12 := eq_true q12
       go_wp2
       go_meet
       case rel => exact ⟨_, (decide ((bt a0 x13_1) ≤ 70)), rs, H', ⟨by have := HK1.out; first | omega | exact Nat.le_refl _⟩, by repeat (first | exact Drawn0.refl _ | apply yv)⟩
      ·(first | rw [c11b0] | (simp only [i64_w, i32_w]; rw [c11b0]) | skip)
       have H' := ak H
       clear H
       have p10 : 0 ≤ (x13_1 : Int) := of_decide_eq_true asm
       have q10 : x13_1 < (a0.size : Int) := of_decide_eq_true asm
       have hx10 := bt_at a0 x13_1
       replace p10 := eq_true p10
       replace q10 := eq_true q10
       go_wp2
       go_meet
       case rel => exact ⟨_, (false), rs, H', ⟨by have := HK1.out; first | omega | exact Nat.le_refl _⟩, by repeat (first | exact Drawn0.refl _ | apply yv)⟩
     case rest =>
      clear HC9
      try clear q1
      try clear hx1
      try clear q7
      try clear hx7
      try clear q10
      try clear hx10
      try clear q12
      try clear hx12
      try clear q10
      try clear q12
      try clear q7
      obtain ⟨kq, x29_8, rfl, HA, HJ8, ⟨mc8, rfl⟩⟩ := hcut
      cases kq with
      | zero => exact absurd HA.out (by simp [zr.j1])
      | succ kj8 =>
       have H := HA.out
       clear HA
       simp only [zr.j1] at H
       replace H := sb H
       rcases H with ⟨rfl, H⟩ | ⟨rfl, H⟩
       ·replace H := sT H
        obtain ⟨c14, H⟩ := H
        have c14b0 := decide_eq_true c14
        clear c14
        replace H := sT H
        obtain ⟨c15, H⟩ := H
        have c15b0 := decide_eq_true c15
        clear c15
        replace H := sd H
        rcases H with ⟨c17b0, H⟩ | ⟨c17b0, H⟩
        ·obtain ⟨rfl, rfl⟩ := oi2 H
         have p16 : 0 ≤ (x13_1 : Int) := of_decide_eq_true asm
         have q16 : x13_1 < (a0.size : Int) := of_decide_eq_true asm
         have hx16 := bt_at a0 x13_1
         replace p16 := eq_true p16
         replace q16 := eq_true q16
         go_wp2
         go_ret2
         exact ⟨rt, dr⟩
        ·have H' := ak H
         clear H
         have p16 : 0 ≤ (x13_1 : Int) := of_decide_eq_true asm
         have q16 : x13_1 < (a0.size : Int) := of_decide_eq_true asm
         have hx16 := bt_at a0 x13_1
         replace p16 := eq_true p16
         replace q16 := eq_true q16
         go_wp2
         go_roundg kj8
         case measure => have := HK1.out; have := HJ8.out; omega
         case rel => exact ⟨(wrap64 ((wrap64 (16 * x4_1)) + ((((bt a0 x13_1) - 65) % 256) + 10))), (wrap64 (x13_1 + 1)), rs, rs, H', ⟨by have := HK1.out; have := HJ8.out; omega⟩, by repeat (first | exact Drawn0.refl _ | apply yv)⟩
       ·replace H := sd H
        rcases H with ⟨c18b0, H⟩ | ⟨c18b0, H⟩
        ·obtain ⟨rfl, rfl⟩ := oi2 H
         go_wp2
         go_ret2
         exact ⟨rt, dr⟩
        ·have H' := ak H
         clear H
         go_wp2
         go_roundg kj8
         case measure => have := HK1.out; have := HJ8.out; omega
         case rel => exact ⟨(wrap64 ((wrap64 (16 * x4_1)) + t102)), (wrap64 (x13_1 + 1)), rs, rs, H', ⟨by have := HK1.out; have := HJ8.out; omega⟩, by repeat (first | exact Drawn0.refl _ | apply yv)⟩
    ·obtain ⟨rfl, rfl⟩ := oi2 H
     go_wp2
     go_ret2
     exact ⟨rt, dr⟩
 ·obtain ⟨rfl, rfl⟩ := oi2 H
  go_enter Tryz.func110, Tryz.ntmps110
  go_wp2_with (first | ((with_reducible refine za (f := 62) rfl ?_); refine cl 9 rfl Tryz.func62 #[.int .i64 (a0.size : Int), .int .i64 1, .int .i64 6] (qf.calls (a0.size : Int) 1 6 false _ A2.out) ?_; rintro e w' ⟨rfl, ⟨nd, rfl⟩⟩; refine ⟨_, rfl, ?_⟩))
  go_ret2
  exact ⟨rt, dr⟩
def yG.j0 : Nat → ByteArray → ByteArray → Int → Bool → Option (ByteArray × Int × Int)
 | 0, _, _, _, _ => none
 | k + 1, x7, x8, x10, x28 => if x28 = true then (some ((⟨#[]⟩ : ByteArray), 0, 2)) else (if (x8.size : Int) < (wrap64 (x10 + 2)) then (some ((⟨#[]⟩ : ByteArray), 0, 1)) else (if 0 ≤ x10 then (if x10 ≤ (wrap64 (x10 + 2)) then (if (wrap64 (x10 + 2)) ≤ (x8.size : Int) then (if (x8.extract (x10 : Int).toNat ((wrap64 (x10 + 2)) : Int).toNat).toList = ([13, 10] : List UInt8) then (if x10 ≤ (x8.size : Int) then (some (x8.extract 0 (x10 : Int).toNat, wrap64 ((wrap64 ((x7.size : Int) + x10)) + 4), 0)) else (none)) else (some ((⟨#[]⟩ : ByteArray), 0, 2))) else (none)) else (none)) else (none)))
def yG.f (k : Nat) (a0 : ByteArray) (a1 : Int) : Option (ByteArray × Int × Int) := (yM.f a0 (⟨#[13, 10]⟩ : ByteArray)).bind fun bt101 => (if bt101.2.2 = true then ((zr.f k bt101.1).bind fun bt104 => (if bt104.2 = true then (yG.j0 k bt101.1 bt101.2.1 bt104.1 (decide ((wrap64 (a1 + bt104.1)) > 60))) else (yG.j0 k bt101.1 bt101.2.1 bt104.1 true))) else (if (a0.size : Int) ≤ 8 then (some ((⟨#[]⟩ : ByteArray), 0, 1)) else (some ((⟨#[]⟩ : ByteArray), 0, 2))))
theorem yG.mono_l : ∀ k, (∀ y0 y1 y2 y3, LeO (yG.j0 k y0 y1 y2 y3) (yG.j0 (k + 1) y0 y1 y2 y3))
 | 0 => fun _ _ _ _ r h => by simp [yG.j0] at h
 | k + 1 => by
  have ih0 := yG.mono_l k
  ·intro y0 y1 y2 y3
   unfold yG.j0
   exact mq2 ih0 zr.mono
theorem yG.mono : ∀ a0 a1 k, LeO (yG.f k a0 a1) (yG.f (k + 1) a0 a1) := by
 intro a0 a1 k
 have ih0 := yG.mono_l k
 unfold yG.f
 exact mq2 ih0 zr.mono
theorem yG.calls (k : Nat) (a0 : ByteArray) (a1 : Int) (r1 : ByteArray) (r2 : Int) (r3 : Int) (w : World) (hGMax : GMax w) (h : yG.f k a0 a1 = some (r1, r2, r3)) :
  Calls Tryz.prog 89 #[.string a0, .int .i64 a1] w fun e w' => e = .returned (.tuple #[.string r1, .int .i64 r2, .int .i64 r3]) ∧ Below w.heap.size w w' := by
 have HGMax := ak hGMax
 clear hGMax
 have HB := ak (Below.refl w.heap.size w)
 have H := h
 unfold yG.f at H
 clear h
 replace H := ob H
 obtain ⟨⟨t101, t102, t103⟩, A3, H⟩ := H
 try dsimp only at H
 replace H := sb H
 rcases H with ⟨rfl, H⟩ | ⟨rfl, H⟩
 ·replace H := ob H
  obtain ⟨⟨t104, t105⟩, A5, H⟩ := H
  try dsimp only at H
  have HC6 := ak H
  clear H
  go_enter Tryz.func89, Tryz.ntmps89
  go_upto_region 7 with (first | ((with_reducible refine za (f := 49) rfl ?_); refine cl 14 rfl Tryz.func49 #[.string a0, .string ⟨#[13, 10]⟩] (yM.calls a0 (⟨#[13, 10]⟩ : ByteArray) t101 t102 true _ ?side1 A3.out) ?_; (case side1 => refine zY HGMax.out ?_; exact bq); rintro e w7 ⟨rfl, hb⟩; refine ⟨_, rfl, ?_⟩; replace HB := ak (zb bq hb); (try clear hb)) | ((with_reducible refine za (f := 110) rfl ?_); refine cl 25 rfl Tryz.func110 #[.string t101] (zr.calls k t101 t104 t105 _ A5.out) ?_; rintro e w' ⟨rfl, ⟨nd, rfl⟩⟩; refine ⟨_, rfl, ?_⟩))
  (try simp only [Act.put, List.setIfInBounds_toArray, List.set_cons_zero, List.set_cons_succ])
  go_cut [28] (fun v28 wc => ∃ (kq : Nat) (x28_5 : Bool), v28 = .bool x28_5 ∧ Aside0 (yG.j0 kq t101 t102 t104 x28_5 = some (r1, r2, r3)) ∧ Aside0 (kq ≤ k) ∧ Aside0 (Below w.heap.size w wc))
  case first =>
   have H := HC6.out
   clear HC6
   replace H := sb H
   rcases H with ⟨rfl, H⟩ | ⟨rfl, H⟩
   ·have H' := ak H
    clear H
    go_wp2
    go_meet
    case rel => exact ⟨_, (decide ((wrap64 (a1 + t104)) > 60)), rs, H', ⟨om⟩, ⟨bq⟩⟩
   ·have H' := ak H
    clear H
    go_wp2
    go_meet
    case rel => exact ⟨_, (true), rs, H', ⟨om⟩, ⟨bq⟩⟩
  case rest =>
   clear HC6
   obtain ⟨kq, x28_5, rfl, HA, HJ5, HB⟩ := hcut
   cases kq with
   | zero => exact absurd HA.out (by simp [yG.j0])
   | succ kj5 =>
    have H := HA.out
    clear HA
    simp only [yG.j0] at H
    replace H := sb H
    rcases H with ⟨rfl, H⟩ | ⟨rfl, H⟩
    ·obtain ⟨rfl, rfl, rfl⟩ := oi3 H
     go_wp2
     go_ret3
     exact ⟨rv, bq⟩
    ·replace H := sd H
     rcases H with ⟨c10b0, H⟩ | ⟨c10b0, H⟩
     ·obtain ⟨rfl, rfl, rfl⟩ := oi3 H
      go_wp2
      go_ret3
      exact ⟨rv, bq⟩
     ·replace H := sG H
      obtain ⟨c11b0, c11b1, H⟩ := H
      replace H := sK H
      obtain ⟨c12, c12b0, c12b1, H⟩ := H
      replace H := sK H
      obtain ⟨c13, c13b0, c13b1, H⟩ := H
      replace H := se H
      rcases H with ⟨c14b0, c14b1, H⟩ | ⟨c14, c14b0, c14b1, H⟩
      ·have c15b0 := eq_true (of_decide_eq_true asm : 0 ≤ t104)
       replace H := sG H
       obtain ⟨c16b0, c16b1, H⟩ := H
       obtain ⟨rfl, rfl, rfl⟩ := oi3 H
       go_wp2
       go_ret3
       exact ⟨rv, bq⟩
      ·obtain ⟨rfl, rfl, rfl⟩ := oi3 H
       go_wp2
       go_ret3
       exact ⟨rv, bq⟩
 ·replace H := si H
  rcases H with ⟨c17, H⟩ | ⟨c17, H⟩
  ·have c17b0 := decide_eq_true c17
   have c17b1 : decide (a0.size ≤ 8) = true := decide_eq_true (by omega)
   clear c17
   obtain ⟨rfl, rfl, rfl⟩ := oi3 H
   go_enter Tryz.func89, Tryz.ntmps89
   go_wp2_with (first | ((with_reducible refine za (f := 49) rfl ?_); refine cl 14 rfl Tryz.func49 #[.string a0, .string ⟨#[13, 10]⟩] (yM.calls a0 (⟨#[13, 10]⟩ : ByteArray) t101 t102 false _ ?side1 A3.out) ?_; (case side1 => refine zY HGMax.out ?_; exact bq); rintro e w18 ⟨rfl, hb⟩; refine ⟨_, rfl, ?_⟩; replace HB := ak (zb bq hb); (try clear hb)))
   go_ret3
   exact ⟨rv, bq⟩
  ·have c17b0 := decide_eq_false c17
   have c17b1 : decide (a0.size ≤ 8) = false := decide_eq_false (by omega)
   clear c17
   obtain ⟨rfl, rfl, rfl⟩ := oi3 H
   go_enter Tryz.func89, Tryz.ntmps89
   go_wp2_with (first | ((with_reducible refine za (f := 49) rfl ?_); refine cl 14 rfl Tryz.func49 #[.string a0, .string ⟨#[13, 10]⟩] (yM.calls a0 (⟨#[13, 10]⟩ : ByteArray) t101 t102 false _ ?side1 A3.out) ?_; (case side1 => refine zY HGMax.out ?_; exact bq); rintro e w19 ⟨rfl, hb⟩; refine ⟨_, rfl, ?_⟩; replace HB := ak (zb bq hb); (try clear hb)))
   go_ret3
   exact ⟨rv, bq⟩
def yz.l0 : Nat → ByteArray → ByteArray → Int → Option (ByteArray × Int × Int)
 | 0, _, _, _ => none
 | k + 1, x0, x5, x6 => if 0 ≤ x6 then (if x6 ≤ (x0.size : Int) then ((yG.f k (x0.extract (x6 : Int).toNat x0.size) (x5.size : Int)).bind fun bt101 => (if bt101.2.2 = 0 then (if bt101.1.toList = ([] : List UInt8) then (some (x5, wrap64 (x6 + bt101.2.1), 0)) else (if x5.size + bt101.1.size ≤ 9223372036854775807 then (yz.l0 k x0 (x5 ++ bt101.1) (wrap64 (x6 + bt101.2.1))) else (none))) else (some ((⟨#[]⟩ : ByteArray), 0, bt101.2.2)))) else (none)) else (none)
def yz.f (k : Nat) (a0 : ByteArray) : Option (ByteArray × Int × Int) := yz.l0 k a0 (⟨#[]⟩ : ByteArray) 0
theorem yz.mono_l : ∀ k, (∀ y0 y1 y2, LeO (yz.l0 k y0 y1 y2) (yz.l0 (k + 1) y0 y1 y2))
 | 0 => fun _ _ _ r h => by simp [yz.l0] at h
 | k + 1 => by
  have ih0 := yz.mono_l k
  ·intro y0 y1 y2
   unfold yz.l0
   exact mq2 ih0 yG.mono
theorem yz.mono : ∀ a0 k, LeO (yz.f k a0) (yz.f (k + 1) a0) := by
 intro a0 k
 have ih0 := yz.mono_l k
 unfold yz.f
 exact mq2 ih0 yG.mono
theorem yz.calls (k : Nat) (a0 : ByteArray) (r1 : ByteArray) (r2 : Int) (r3 : Int) (w : World) (hGMax : GMax w) (h : yz.f k a0 = some (r1, r2, r3)) :
  Calls Tryz.prog 55 #[.string a0] w fun e w' => e = .returned (.tuple #[.string r1, .int .i64 r2, .int .i64 r3]) ∧ Below w.heap.size w w' := by
 have HGMax := ak hGMax
 clear hGMax
 have HB := ak (Below.refl w.heap.size w)
 have H : (yz.l0 k a0 (⟨#[]⟩ : ByteArray) 0) = some (r1, r2, r3) := h
 clear h
 have H' := ak H
 clear H
 go_enter Tryz.func55, Tryz.ntmps55
 go_wp2
 go_loopg [5, 6] k (fun kq v5 v6 w' => ∃ (x5_1 : ByteArray) (x6_1 : Int), v5 = .string x5_1 ∧ v6 = .int .i64 x6_1 ∧ Aside0 (yz.l0 kq a0 x5_1 x6_1 = some (r1, r2, r3)) ∧ Aside0 (kq ≤ k) ∧ Aside0 (Below w.heap.size w w'))
 case atStart => exact ⟨((⟨#[]⟩ : ByteArray)), (0), rs, rs, H', ⟨Nat.le_refl _⟩, ⟨bq⟩⟩
 case round =>
  clear H'
  obtain ⟨x5_1, x6_1, rfl, rfl, HA, HK1, HB⟩ := hrel
  cases gk with
  | zero => exact absurd HA.out (by simp [yz.l0])
  | succ k1 =>
   have H := HA.out
   clear HA
   simp only [yz.l0] at H
   replace H := sG H
   obtain ⟨c2b0, c2b1, H⟩ := H
   replace H := sG H
   obtain ⟨c3b0, c3b1, H⟩ := H
   replace H := ob H
   obtain ⟨⟨t101, t102, t103⟩, A4, H⟩ := H
   try dsimp only at H
   replace H := se H
   rcases H with ⟨c5b0, c5b1, H⟩ | ⟨c5, c5b0, c5b1, H⟩
   ·replace H := se H
    rcases H with ⟨c6b0, c6b1, H⟩ | ⟨c6, c6b0, c6b1, H⟩
    ·obtain ⟨rfl, rfl, rfl⟩ := oi3 H
     go_wp2_with (first | ((with_reducible refine za (f := 89) rfl ?_); refine cl 16 rfl Tryz.func89 #[.string (a0.extract (x6_1 : Int).toNat a0.size), .int .i64 (x5_1.size : Int)] (yG.calls k1 (a0.extract (x6_1 : Int).toNat a0.size) (x5_1.size : Int) t101 t102 t103 _ ?side1 A4.out) ?_; (case side1 => refine zY HGMax.out ?_; exact bq); rintro e w7 ⟨rfl, hb⟩; refine ⟨_, rfl, ?_⟩; replace HB := ak (zb bq hb); (try clear hb)))
     go_ret3
     exact ⟨rv, bq⟩
    ·replace H := sK H
     obtain ⟨c8, c8b0, c8b1, H⟩ := H
     have H' := ak H
     clear H
     go_wp2_with (first | ((with_reducible refine za (f := 89) rfl ?_); refine cl 16 rfl Tryz.func89 #[.string (a0.extract (x6_1 : Int).toNat a0.size), .int .i64 (x5_1.size : Int)] (yG.calls k1 (a0.extract (x6_1 : Int).toNat a0.size) (x5_1.size : Int) t101 t102 t103 _ ?side1 A4.out) ?_; (case side1 => refine zY HGMax.out ?_; exact bq); rintro e w9 ⟨rfl, hb⟩; refine ⟨_, rfl, ?_⟩; replace HB := ak (zb bq hb); (try clear hb)))
     go_roundg k1
     case measure => have := HK1.out; omega
     case rel => exact ⟨(x5_1 ++ t101), (wrap64 (x6_1 + t102)), rs, rs, H', ⟨by have := HK1.out; omega⟩, ⟨bq⟩⟩
   ·obtain ⟨rfl, rfl, rfl⟩ := oi3 H
    go_wp2_with (first | ((with_reducible refine za (f := 89) rfl ?_); refine cl 16 rfl Tryz.func89 #[.string (a0.extract (x6_1 : Int).toNat a0.size), .int .i64 (x5_1.size : Int)] (yG.calls k1 (a0.extract (x6_1 : Int).toNat a0.size) (x5_1.size : Int) t101 t102 t103 _ ?side1 A4.out) ?_; (case side1 => refine zY HGMax.out ?_; exact bq); rintro e w10 ⟨rfl, hb⟩; refine ⟨_, rfl, ?_⟩; replace HB := ak (zb bq hb); (try clear hb)))
    go_ret3
    exact ⟨rv, bq⟩
def yo.l0 : Nat → ByteArray → Int → Int → Option (Int × Bool)
 | 0, _, _, _ => none
 | k + 1, x0, x9, x10 => if x10 < x9 then (if 0 ≤ x10 then (if x10 < (x0.size : Int) then (if (bt x0 x10) < 48 then (some (0, false)) else (if (bt x0 x10) > 57 then (some (0, false)) else (yo.l0 k x0 x9 (wrap64 (x10 + 1))))) else (none)) else (none)) else (if x0.toList = ([] : List UInt8) then (some (0, false)) else ((xz.f x0 (⟨#[48]⟩ : ByteArray)).bind fun t101 => (if (t101.size : Int) > 10 then (some (2147483648, true)) else (if 1 + t101.size ≤ 9223372036854775807 then ((xh.f ((⟨#[48]⟩ : ByteArray) ++ t101)).bind fun bt102 => (some (mn bt102.1 2147483648, true))) else (none)))))
def yo.f (k : Nat) (a0 : ByteArray) : Option (Int × Bool) := yo.l0 k a0 (a0.size : Int) 0
theorem yo.mono_l : ∀ k, (∀ y0 y1 y2, LeO (yo.l0 k y0 y1 y2) (yo.l0 (k + 1) y0 y1 y2))
 | 0 => fun _ _ _ r h => by simp [yo.l0] at h
 | k + 1 => by
  have ih0 := yo.mono_l k
  ·intro y0 y1 y2
   unfold yo.l0
   exact mq1 ih0
theorem yo.mono : ∀ a0 k, LeO (yo.f k a0) (yo.f (k + 1) a0) := by
 intro a0 k
 have ih0 := yo.mono_l k
 unfold yo.f
 exact mq1 ih0
theorem yo.calls (k : Nat) (a0 : ByteArray) (r1 : Int) (r2 : Bool) (w : World) (hGErr : GErr w) (h : yo.f k a0 = some (r1, r2)) :
  Calls Tryz.prog 56 #[.string a0] w fun e w' => e = .returned (.tuple #[.int .i64 r1, .bool r2]) ∧ Below w.heap.size w w' := by
 have HGErr := ak hGErr
 clear hGErr
 have HB := ak (Below.refl w.heap.size w)
 have H : (yo.l0 k a0 (a0.size : Int) 0) = some (r1, r2) := h
 clear h
 have H' := ak H
 clear H
 go_enter Tryz.func56, Tryz.ntmps56
 go_wp2
 go_loopg [10] k (fun kq v10 w' => ∃ (x10_1 : Int), v10 = .int .i64 x10_1 ∧ Aside0 (yo.l0 kq a0 (a0.size : Int) x10_1 = some (r1, r2)) ∧ Aside0 (kq ≤ k) ∧ Aside0 (Below w.heap.size w w'))
 case atStart => exact ⟨(0), rs, H', ⟨Nat.le_refl _⟩, ⟨bq⟩⟩
 case round =>
  clear H'
  obtain ⟨x10_1, rfl, HA, HK1, HB⟩ := hrel
  cases gk with
  | zero => exact absurd HA.out (by simp [yo.l0])
  | succ k1 =>
   have H := HA.out
   clear HA
   simp only [yo.l0] at H
   replace H := sd H
   rcases H with ⟨c2b0, H⟩ | ⟨c2b0, H⟩
   ·replace H := sT H
    obtain ⟨c3, H⟩ := H
    have c3b0 := decide_eq_true c3
    clear c3
    replace H := sT H
    obtain ⟨c4, H⟩ := H
    have c4b0 := decide_eq_true c4
    clear c4
    replace H := sd H
    rcases H with ⟨c6b0, H⟩ | ⟨c6b0, H⟩
    ·obtain ⟨rfl, rfl⟩ := oi2 H
     have p5 : 0 ≤ (x10_1 : Int) := of_decide_eq_true asm
     have q5 : x10_1 < (a0.size : Int) := of_decide_eq_true asm
     have hx5 := bt_at a0 x10_1
     replace p5 := eq_true p5
     replace q5 := eq_true q5
     go_wp2
     go_ret2
     exact ⟨rv, bq⟩
    ·replace H := sd H
     rcases H with ⟨c8b0, H⟩ | ⟨c8b0, H⟩
     ·obtain ⟨rfl, rfl⟩ := oi2 H
      have p5 : 0 ≤ (x10_1 : Int) := of_decide_eq_true asm
      have q5 : x10_1 < (a0.size : Int) := of_decide_eq_true asm
      have hx5 := bt_at a0 x10_1
      replace p5 := eq_true p5
      replace q5 := eq_true q5
      have p7 : 0 ≤ (x10_1 : Int) := of_decide_eq_true asm
      have q7 : x10_1 < (a0.size : Int) := of_decide_eq_true asm
      have hx7 := bt_at a0 x10_1
      replace p7 := eq_true p7
      replace q7 := eq_true q7
      go_wp2
      go_ret2
      exact ⟨rv, bq⟩
     ·have H' := ak H
      clear H
      have p5 : 0 ≤ (x10_1 : Int) := of_decide_eq_true asm
      have q5 : x10_1 < (a0.size : Int) := of_decide_eq_true asm
      have hx5 := bt_at a0 x10_1
      replace p5 := eq_true p5
      replace q5 := eq_true q5
      have p7 : 0 ≤ (x10_1 : Int) := of_decide_eq_true asm
      have q7 : x10_1 < (a0.size : Int) := of_decide_eq_true asm
      have hx7 := bt_at a0 x10_1
      replace p7 := eq_true p7
      replace q7 := eq_true q7
      go_wp2
      go_roundg k1
      case measure => have := HK1.out; omega
      case rel => exact ⟨(wrap64 (x10_1 + 1)), rs, H', ⟨by have := HK1.out; omega⟩, ⟨bq⟩⟩
   ·replace H := se H
    rcases H with ⟨c9b0, c9b1, H⟩ | ⟨c9, c9b0, c9b1, H⟩
    ·obtain ⟨rfl, rfl⟩ := oi2 H
     go_wp2
     go_ret2
     exact ⟨rv, bq⟩
    ·replace H := ob H
     obtain ⟨t101, A10, H⟩ := H
     replace H := si H
     rcases H with ⟨c11, H⟩ | ⟨c11, H⟩
     ·have c11b0 := decide_eq_true c11
      have c11b1 : decide (10 < t101.size) = true := decide_eq_true (by omega)
      clear c11
      obtain ⟨rfl, rfl⟩ := oi2 H
      go_wp2_with (first | ((with_reducible refine za (f := 90) rfl ?_); refine cl 27 rfl Tryz.func90 #[.string a0, .string ⟨#[48]⟩] (xz.calls a0 (⟨#[48]⟩ : ByteArray) t101 _ A10.out) ?_; rintro e w12 ⟨rfl, hb⟩; refine ⟨_, rfl, ?_⟩; replace HB := ak (zb bq hb); (try clear hb)))
      go_ret2
      exact ⟨rv, bq⟩
     ·have c11b0 := decide_eq_false c11
      have c11b1 : decide (10 < t101.size) = false := decide_eq_false (by omega)
      clear c11
      replace H := sK H
      obtain ⟨c13, c13b0, c13b1, H⟩ := H
      replace H := ob H
      obtain ⟨⟨t102, t103⟩, A14, H⟩ := H
      try dsimp only at H
      obtain ⟨ji15, hji15⟩ : ∃ j_ : Int, (mn t102 2147483648) = j_ := ⟨_, rfl⟩
      replace H : (some (ji15, true)) = some (r1, r2) := by first | (rw [hji15] at H; exact H) | (simp only [hji15] at H ⊢; exact H)
      (try rw [hji15] at A10)
      (try rw [hji15] at A14)
      (try (have hji15h : ji15 ≤ 2147483648 := by (rw [← hji15]; unfold mn; (repeat' split) <;> omega)))
      (try (have hji15g : ji15 ≤ 64 := by omega))
      have hji15_ : (if 2147483648 < t102 then 2147483648 else t102) = ji15 := hji15
      obtain ⟨rfl, rfl⟩ := oi2 H
      go_wp2_with (first | ((with_reducible refine za (f := 90) rfl ?_); refine cl 27 rfl Tryz.func90 #[.string a0, .string ⟨#[48]⟩] (xz.calls a0 (⟨#[48]⟩ : ByteArray) t101 _ A10.out) ?_; rintro e w16 ⟨rfl, hb⟩; refine ⟨_, rfl, ?_⟩; replace HB := ak (zb bq hb); (try clear hb)) | ((with_reducible refine za (f := 64) rfl ?_); refine cl 34 rfl Tryz.func64 #[.string ((⟨#[48]⟩ : ByteArray) ++ t101)] (xh.calls ((⟨#[48]⟩ : ByteArray) ++ t101) t102 t103 _ ?side1 A14.out) ?_; (case side1 => refine yY HGErr.out ?_; exact bq); rintro e w17 ⟨ev_, rfl, he_, hf_, hb⟩; clear he_ hf_; refine ⟨_, rfl, ?_⟩; replace HB := ak (zb bq hb); (try clear hb); (try simp only [xy, xx])))
      go_ret2
      exact ⟨by first | rfl | (simp [xy, xx] <;> rfl) | (simp only [← hji15]; first | rfl | (simp [xy, xx] <;> rfl)) | (simp [*, xy, xx] <;> rfl), bq⟩
def yn.j0 : Nat → ByteArray → Int → Bool → Option (ByteArray × Int × Int)
 | 0, _, _, _ => none
 | k + 1, x1, x13, x50 => if x50 = true then (some ((⟨#[]⟩ : ByteArray), 0, 2)) else (if (x1.size : Int) < x13 then (some ((⟨#[]⟩ : ByteArray), 0, 1)) else (if 0 ≤ x13 then (if x13 ≤ (x1.size : Int) then (some (x1.extract 0 (x13 : Int).toNat, x13, 0)) else (none)) else (none)))
def yn.f (k : Nat) (l0 : List (S55)) (a1 : ByteArray) (a2 : Bool) : Option (ByteArray × Int × Int) := (zy.f k l0 (⟨#[116, 114, 97, 110, 115, 102, 101, 114, 45, 101, 110, 99, 111, 100, 105, 110, 103]⟩ : ByteArray)).bind fun bt101 => ((zy.f k l0 (⟨#[99, 111, 110, 116, 101, 110, 116, 45, 108, 101, 110, 103, 116, 104]⟩ : ByteArray)).bind fun bt103 => (if bt101.2 = true then ((xl.f bt101.1).bind fun t105 => (if t105.toList = ([99, 104, 117, 110, 107, 101, 100] : List UInt8) then (if bt103.2 = true then (some ((⟨#[]⟩ : ByteArray), 0, 2)) else ((yz.f k a1).bind fun bt106 => (some (bt106.1, bt106.2.1, bt106.2.2)))) else (some ((⟨#[]⟩ : ByteArray), 0, 2)))) else (if bt103.2 = true then ((yo.f k bt103.1).bind fun bt109 => (if bt109.2 = true then (yn.j0 k a1 bt109.1 (decide (bt109.1 > 60))) else (yn.j0 k a1 bt109.1 true))) else (if a2 = true then (if (a1.size : Int) > 60 then (some ((⟨#[]⟩ : ByteArray), 0, 2)) else (some (a1, (a1.size : Int), 0))) else (some ((⟨#[]⟩ : ByteArray), 0, 0))))))
theorem yn.mono_l : ∀ k, (∀ y0 y1 y2, LeO (yn.j0 k y0 y1 y2) (yn.j0 (k + 1) y0 y1 y2))
 | 0 => fun _ _ _ r h => by simp [yn.j0] at h
 | k + 1 => by
  have ih0 := yn.mono_l k
  ·intro y0 y1 y2
   unfold yn.j0
   exact mq4 ih0 zy.mono yo.mono yz.mono
theorem yn.mono : ∀ a0 a1 a2 k, LeO (yn.f k a0 a1 a2) (yn.f (k + 1) a0 a1 a2) := by
 intro a0 a1 a2 k
 have ih0 := yn.mono_l k
 unfold yn.f
 exact mq4 ih0 zy.mono yo.mono yz.mono
theorem yn.calls (k : Nat) (A0 : Option Addr) (c0 : Nat) (l0 : List (S55)) (a1 : ByteArray) (a2 : Bool) (r1 : ByteArray) (r2 : Int) (r3 : Int) (w : World) (hr0 : Kd.C k55 w A0 l0.length l0) (hc0 : l0.length ≤ c0) (hGErr : GErr w) (hGMax : GMax w) (h : yn.f k l0 a1 a2 = some (r1, r2, r3)) :
  Calls Tryz.prog 23 #[.slice A0 l0.length c0, .string a1, .bool a2] w fun e w' => e = .returned (.tuple #[.string r1, .int .i64 r2, .int .i64 r3]) ∧ Below w.heap.size w w' := by
 have HR0 := ak hr0
 have HC0 := ak hc0
 clear hr0 hc0
 have HGErr := ak hGErr
 clear hGErr
 have HGMax := ak hGMax
 clear hGMax
 have HB := ak (Below.refl w.heap.size w)
 have H := h
 unfold yn.f at H
 clear h
 replace H := ob H
 obtain ⟨⟨t101, t102⟩, A4, H⟩ := H
 try dsimp only at H
 replace H := ob H
 obtain ⟨⟨t103, t104⟩, A5, H⟩ := H
 try dsimp only at H
 replace H := sb H
 rcases H with ⟨rfl, H⟩ | ⟨rfl, H⟩
 ·replace H := ob H
  obtain ⟨t105, A7, H⟩ := H
  try dsimp only at H
  replace H := se H
  rcases H with ⟨c8b0, c8b1, H⟩ | ⟨c8, c8b0, c8b1, H⟩
  ·replace H := sb H
   rcases H with ⟨rfl, H⟩ | ⟨rfl, H⟩
   ·obtain ⟨rfl, rfl, rfl⟩ := oi3 H
    go_enter Tryz.func23, Tryz.ntmps23
    go_wp2_with (first | ((with_reducible refine za (f := 53) rfl ?_); refine cl 17 rfl Tryz.func53 #[.slice A0 l0.length c0, .string ⟨#[116, 114, 97, 110, 115, 102, 101, 114, 45, 101, 110, 99, 111, 100, 105, 110, 103]⟩] (zy.calls k _ _ l0 (⟨#[116, 114, 97, 110, 115, 102, 101, 114, 45, 101, 110, 99, 111, 100, 105, 110, 103]⟩ : ByteArray) t101 true _ ?side1 ?side2 A4.out) ?_; (case side1 => repeat (first | exact HR0.out | (with_reducible refine Kd.C_alloc ?_ _) | (with_reducible refine Kd.C_drewN ?_ _) | (with_reducible refine Kd.C_drew ?_))); (case side2 => exact HC0.out); rintro e w10 ⟨rfl, hb⟩; refine ⟨_, rfl, ?_⟩; replace HB := ak (zb bq hb); (try clear hb)) | ((with_reducible refine za (f := 53) rfl ?_); refine cl 22 rfl Tryz.func53 #[.slice A0 l0.length c0, .string ⟨#[99, 111, 110, 116, 101, 110, 116, 45, 108, 101, 110, 103, 116, 104]⟩] (zy.calls k _ _ l0 (⟨#[99, 111, 110, 116, 101, 110, 116, 45, 108, 101, 110, 103, 116, 104]⟩ : ByteArray) t103 true _ ?side1 ?side2 A5.out) ?_; (case side1 => repeat (first | exact (Kd.C_below HR0.out HB.out) | (with_reducible refine Kd.C_alloc ?_ _) | (with_reducible refine Kd.C_drewN ?_ _) | (with_reducible refine Kd.C_drew ?_))); (case side2 => exact HC0.out); rintro e w11 ⟨rfl, hb⟩; refine ⟨_, rfl, ?_⟩; replace HB := ak (zb bq hb); (try clear hb)) | ((with_reducible refine za (f := 54) rfl ?_); refine cl 28 rfl Tryz.func54 #[.string t101] (xl.calls t101 t105 _ A7.out) ?_; rintro e w12 ⟨rfl, hb⟩; refine ⟨_, rfl, ?_⟩; replace HB := ak (zb bq hb); (try clear hb)))
    go_ret3
    exact ⟨rv, bq⟩
   ·replace H := ob H
    obtain ⟨⟨t106, t107, t108⟩, A13, H⟩ := H
    try dsimp only at H
    obtain ⟨rfl, rfl, rfl⟩ := oi3 H
    go_enter Tryz.func23, Tryz.ntmps23
    go_wp2_with (first | ((with_reducible refine za (f := 53) rfl ?_); refine cl 17 rfl Tryz.func53 #[.slice A0 l0.length c0, .string ⟨#[116, 114, 97, 110, 115, 102, 101, 114, 45, 101, 110, 99, 111, 100, 105, 110, 103]⟩] (zy.calls k _ _ l0 (⟨#[116, 114, 97, 110, 115, 102, 101, 114, 45, 101, 110, 99, 111, 100, 105, 110, 103]⟩ : ByteArray) t101 true _ ?side1 ?side2 A4.out) ?_; (case side1 => repeat (first | exact HR0.out | (with_reducible refine Kd.C_alloc ?_ _) | (with_reducible refine Kd.C_drewN ?_ _) | (with_reducible refine Kd.C_drew ?_))); (case side2 => exact HC0.out); rintro e w14 ⟨rfl, hb⟩; refine ⟨_, rfl, ?_⟩; replace HB := ak (zb bq hb); (try clear hb)) | ((with_reducible refine za (f := 53) rfl ?_); refine cl 22 rfl Tryz.func53 #[.slice A0 l0.length c0, .string ⟨#[99, 111, 110, 116, 101, 110, 116, 45, 108, 101, 110, 103, 116, 104]⟩] (zy.calls k _ _ l0 (⟨#[99, 111, 110, 116, 101, 110, 116, 45, 108, 101, 110, 103, 116, 104]⟩ : ByteArray) t103 false _ ?side1 ?side2 A5.out) ?_; (case side1 => repeat (first | exact (Kd.C_below HR0.out HB.out) | (with_reducible refine Kd.C_alloc ?_ _) | (with_reducible refine Kd.C_drewN ?_ _) | (with_reducible refine Kd.C_drew ?_))); (case side2 => exact HC0.out); rintro e w15 ⟨rfl, hb⟩; refine ⟨_, rfl, ?_⟩; replace HB := ak (zb bq hb); (try clear hb)) | ((with_reducible refine za (f := 54) rfl ?_); refine cl 28 rfl Tryz.func54 #[.string t101] (xl.calls t101 t105 _ A7.out) ?_; rintro e w16 ⟨rfl, hb⟩; refine ⟨_, rfl, ?_⟩; replace HB := ak (zb bq hb); (try clear hb)) | ((with_reducible refine za (f := 55) rfl ?_); refine cl 34 rfl Tryz.func55 #[.string a1] (yz.calls k a1 t106 t107 t108 _ ?side1 A13.out) ?_; (case side1 => refine zY HGMax.out ?_; exact bq); rintro e w17 ⟨rfl, hb⟩; refine ⟨_, rfl, ?_⟩; replace HB := ak (zb bq hb); (try clear hb)))
    go_ret3
    exact ⟨rv, bq⟩
  ·obtain ⟨rfl, rfl, rfl⟩ := oi3 H
   go_enter Tryz.func23, Tryz.ntmps23
   go_wp2_with (first | ((with_reducible refine za (f := 53) rfl ?_); refine cl 17 rfl Tryz.func53 #[.slice A0 l0.length c0, .string ⟨#[116, 114, 97, 110, 115, 102, 101, 114, 45, 101, 110, 99, 111, 100, 105, 110, 103]⟩] (zy.calls k _ _ l0 (⟨#[116, 114, 97, 110, 115, 102, 101, 114, 45, 101, 110, 99, 111, 100, 105, 110, 103]⟩ : ByteArray) t101 true _ ?side1 ?side2 A4.out) ?_; (case side1 => repeat (first | exact HR0.out | (with_reducible refine Kd.C_alloc ?_ _) | (with_reducible refine Kd.C_drewN ?_ _) | (with_reducible refine Kd.C_drew ?_))); (case side2 => exact HC0.out); rintro e w18 ⟨rfl, hb⟩; refine ⟨_, rfl, ?_⟩; replace HB := ak (zb bq hb); (try clear hb)) | ((with_reducible refine za (f := 53) rfl ?_); refine cl 22 rfl Tryz.func53 #[.slice A0 l0.length c0, .string ⟨#[99, 111, 110, 116, 101, 110, 116, 45, 108, 101, 110, 103, 116, 104]⟩] (zy.calls k _ _ l0 (⟨#[99, 111, 110, 116, 101, 110, 116, 45, 108, 101, 110, 103, 116, 104]⟩ : ByteArray) t103 t104 _ ?side1 ?side2 A5.out) ?_; (case side1 => repeat (first | exact (Kd.C_below HR0.out HB.out) | (with_reducible refine Kd.C_alloc ?_ _) | (with_reducible refine Kd.C_drewN ?_ _) | (with_reducible refine Kd.C_drew ?_))); (case side2 => exact HC0.out); rintro e w19 ⟨rfl, hb⟩; refine ⟨_, rfl, ?_⟩; replace HB := ak (zb bq hb); (try clear hb)) | ((with_reducible refine za (f := 54) rfl ?_); refine cl 28 rfl Tryz.func54 #[.string t101] (xl.calls t101 t105 _ A7.out) ?_; rintro e w20 ⟨rfl, hb⟩; refine ⟨_, rfl, ?_⟩; replace HB := ak (zb bq hb); (try clear hb)))
   go_ret3
   exact ⟨rv, bq⟩
 ·replace H := sb H
  rcases H with ⟨rfl, H⟩ | ⟨rfl, H⟩
  ·replace H := ob H
   obtain ⟨⟨t109, t110⟩, A22, H⟩ := H
   try dsimp only at H
   have HC23 := ak H
   clear H
   go_enter Tryz.func23, Tryz.ntmps23
   go_upto_region 9 with (first | ((with_reducible refine za (f := 53) rfl ?_); refine cl 17 rfl Tryz.func53 #[.slice A0 l0.length c0, .string ⟨#[116, 114, 97, 110, 115, 102, 101, 114, 45, 101, 110, 99, 111, 100, 105, 110, 103]⟩] (zy.calls k _ _ l0 (⟨#[116, 114, 97, 110, 115, 102, 101, 114, 45, 101, 110, 99, 111, 100, 105, 110, 103]⟩ : ByteArray) t101 false _ ?side1 ?side2 A4.out) ?_; (case side1 => repeat (first | exact HR0.out | (with_reducible refine Kd.C_alloc ?_ _) | (with_reducible refine Kd.C_drewN ?_ _) | (with_reducible refine Kd.C_drew ?_))); (case side2 => exact HC0.out); rintro e w24 ⟨rfl, hb⟩; refine ⟨_, rfl, ?_⟩; replace HB := ak (zb bq hb); (try clear hb)) | ((with_reducible refine za (f := 53) rfl ?_); refine cl 22 rfl Tryz.func53 #[.slice A0 l0.length c0, .string ⟨#[99, 111, 110, 116, 101, 110, 116, 45, 108, 101, 110, 103, 116, 104]⟩] (zy.calls k _ _ l0 (⟨#[99, 111, 110, 116, 101, 110, 116, 45, 108, 101, 110, 103, 116, 104]⟩ : ByteArray) t103 true _ ?side1 ?side2 A5.out) ?_; (case side1 => repeat (first | exact (Kd.C_below HR0.out HB.out) | (with_reducible refine Kd.C_alloc ?_ _) | (with_reducible refine Kd.C_drewN ?_ _) | (with_reducible refine Kd.C_drew ?_))); (case side2 => exact HC0.out); rintro e w25 ⟨rfl, hb⟩; refine ⟨_, rfl, ?_⟩; replace HB := ak (zb bq hb); (try clear hb)) | ((with_reducible refine za (f := 56) rfl ?_); refine cl 42 rfl Tryz.func56 #[.string t103] (yo.calls k t103 t109 t110 _ ?side1 A22.out) ?_; (case side1 => refine yY HGErr.out ?_; exact bq); rintro e w26 ⟨rfl, hb⟩; refine ⟨_, rfl, ?_⟩; replace HB := ak (zb bq hb); (try clear hb)))
   (try simp only [Act.put, List.setIfInBounds_toArray, List.set_cons_zero, List.set_cons_succ])
   go_cut [50] (fun v50 wc => ∃ (kq : Nat) (x50_22 : Bool), v50 = .bool x50_22 ∧ Aside0 (yn.j0 kq a1 t109 x50_22 = some (r1, r2, r3)) ∧ Aside0 (kq ≤ k) ∧ Aside0 (Below w.heap.size w wc))
   case first =>
    have H := HC23.out
    clear HC23
    replace H := sb H
    rcases H with ⟨rfl, H⟩ | ⟨rfl, H⟩
    ·have H' := ak H
     clear H
     go_wp2
     go_meet
     case rel => exact ⟨_, (decide (t109 > 60)), rs, H', ⟨om⟩, ⟨bq⟩⟩
    ·have H' := ak H
     clear H
     go_wp2
     go_meet
     case rel => exact ⟨_, (true), rs, H', ⟨om⟩, ⟨bq⟩⟩
   case rest =>
    clear HC23
    obtain ⟨kq, x50_22, rfl, HA, HJ22, HB⟩ := hcut
    cases kq with
    | zero => exact absurd HA.out (by simp [yn.j0])
    | succ kj22 =>
     have H := HA.out
     clear HA
     simp only [yn.j0] at H
     replace H := sb H
     rcases H with ⟨rfl, H⟩ | ⟨rfl, H⟩
     ·obtain ⟨rfl, rfl, rfl⟩ := oi3 H
      go_wp2
      go_ret3
      exact ⟨rv, bq⟩
     ·replace H := sd H
      rcases H with ⟨c29b0, H⟩ | ⟨c29b0, H⟩
      ·obtain ⟨rfl, rfl, rfl⟩ := oi3 H
       go_wp2
       go_ret3
       exact ⟨rv, bq⟩
      ·replace H := sG H
       obtain ⟨c30b0, c30b1, H⟩ := H
       replace H := sG H
       obtain ⟨c31b0, c31b1, H⟩ := H
       obtain ⟨rfl, rfl, rfl⟩ := oi3 H
       go_wp2
       go_ret3
       exact ⟨rv, bq⟩
  ·replace H := sb H
   rcases H with ⟨rfl, H⟩ | ⟨rfl, H⟩
   ·replace H := si H
    rcases H with ⟨c33, H⟩ | ⟨c33, H⟩
    ·have c33b0 := decide_eq_true c33
     have c33b1 : decide (60 < a1.size) = true := decide_eq_true (by omega)
     clear c33
     obtain ⟨rfl, rfl, rfl⟩ := oi3 H
     go_enter Tryz.func23, Tryz.ntmps23
     go_wp2_with (first | ((with_reducible refine za (f := 53) rfl ?_); refine cl 17 rfl Tryz.func53 #[.slice A0 l0.length c0, .string ⟨#[116, 114, 97, 110, 115, 102, 101, 114, 45, 101, 110, 99, 111, 100, 105, 110, 103]⟩] (zy.calls k _ _ l0 (⟨#[116, 114, 97, 110, 115, 102, 101, 114, 45, 101, 110, 99, 111, 100, 105, 110, 103]⟩ : ByteArray) t101 false _ ?side1 ?side2 A4.out) ?_; (case side1 => repeat (first | exact HR0.out | (with_reducible refine Kd.C_alloc ?_ _) | (with_reducible refine Kd.C_drewN ?_ _) | (with_reducible refine Kd.C_drew ?_))); (case side2 => exact HC0.out); rintro e w34 ⟨rfl, hb⟩; refine ⟨_, rfl, ?_⟩; replace HB := ak (zb bq hb); (try clear hb)) | ((with_reducible refine za (f := 53) rfl ?_); refine cl 22 rfl Tryz.func53 #[.slice A0 l0.length c0, .string ⟨#[99, 111, 110, 116, 101, 110, 116, 45, 108, 101, 110, 103, 116, 104]⟩] (zy.calls k _ _ l0 (⟨#[99, 111, 110, 116, 101, 110, 116, 45, 108, 101, 110, 103, 116, 104]⟩ : ByteArray) t103 false _ ?side1 ?side2 A5.out) ?_; (case side1 => repeat (first | exact (Kd.C_below HR0.out HB.out) | (with_reducible refine Kd.C_alloc ?_ _) | (with_reducible refine Kd.C_drewN ?_ _) | (with_reducible refine Kd.C_drew ?_))); (case side2 => exact HC0.out); rintro e w35 ⟨rfl, hb⟩; refine ⟨_, rfl, ?_⟩; replace HB := ak (zb bq hb); (try clear hb)))
     go_ret3
     exact ⟨rv, bq⟩
    ·have c33b0 := decide_eq_false c33
     have c33b1 : decide (60 < a1.size) = false := decide_eq_false (by omega)
     clear c33
     obtain ⟨rfl, rfl, rfl⟩ := oi3 H
     go_enter Tryz.func23, Tryz.ntmps23
     go_wp2_with (first | ((with_reducible refine za (f := 53) rfl ?_); refine cl 17 rfl Tryz.func53 #[.slice A0 l0.length c0, .string ⟨#[116, 114, 97, 110, 115, 102, 101, 114, 45, 101, 110, 99, 111, 100, 105, 110, 103]⟩] (zy.calls k _ _ l0 (⟨#[116, 114, 97, 110, 115, 102, 101, 114, 45, 101, 110, 99, 111, 100, 105, 110, 103]⟩ : ByteArray) t101 false _ ?side1 ?side2 A4.out) ?_; (case side1 => repeat (first | exact HR0.out | (with_reducible refine Kd.C_alloc ?_ _) | (with_reducible refine Kd.C_drewN ?_ _) | (with_reducible refine Kd.C_drew ?_))); (case side2 => exact HC0.out); rintro e w36 ⟨rfl, hb⟩; refine ⟨_, rfl, ?_⟩; replace HB := ak (zb bq hb); (try clear hb)) | ((with_reducible refine za (f := 53) rfl ?_); refine cl 22 rfl Tryz.func53 #[.slice A0 l0.length c0, .string ⟨#[99, 111, 110, 116, 101, 110, 116, 45, 108, 101, 110, 103, 116, 104]⟩] (zy.calls k _ _ l0 (⟨#[99, 111, 110, 116, 101, 110, 116, 45, 108, 101, 110, 103, 116, 104]⟩ : ByteArray) t103 false _ ?side1 ?side2 A5.out) ?_; (case side1 => repeat (first | exact (Kd.C_below HR0.out HB.out) | (with_reducible refine Kd.C_alloc ?_ _) | (with_reducible refine Kd.C_drewN ?_ _) | (with_reducible refine Kd.C_drew ?_))); (case side2 => exact HC0.out); rintro e w37 ⟨rfl, hb⟩; refine ⟨_, rfl, ?_⟩; replace HB := ak (zb bq hb); (try clear hb)))
     go_ret3
     exact ⟨rv, bq⟩
   ·obtain ⟨rfl, rfl, rfl⟩ := oi3 H
    go_enter Tryz.func23, Tryz.ntmps23
    go_wp2_with (first | ((with_reducible refine za (f := 53) rfl ?_); refine cl 17 rfl Tryz.func53 #[.slice A0 l0.length c0, .string ⟨#[116, 114, 97, 110, 115, 102, 101, 114, 45, 101, 110, 99, 111, 100, 105, 110, 103]⟩] (zy.calls k _ _ l0 (⟨#[116, 114, 97, 110, 115, 102, 101, 114, 45, 101, 110, 99, 111, 100, 105, 110, 103]⟩ : ByteArray) t101 false _ ?side1 ?side2 A4.out) ?_; (case side1 => repeat (first | exact HR0.out | (with_reducible refine Kd.C_alloc ?_ _) | (with_reducible refine Kd.C_drewN ?_ _) | (with_reducible refine Kd.C_drew ?_))); (case side2 => exact HC0.out); rintro e w38 ⟨rfl, hb⟩; refine ⟨_, rfl, ?_⟩; replace HB := ak (zb bq hb); (try clear hb)) | ((with_reducible refine za (f := 53) rfl ?_); refine cl 22 rfl Tryz.func53 #[.slice A0 l0.length c0, .string ⟨#[99, 111, 110, 116, 101, 110, 116, 45, 108, 101, 110, 103, 116, 104]⟩] (zy.calls k _ _ l0 (⟨#[99, 111, 110, 116, 101, 110, 116, 45, 108, 101, 110, 103, 116, 104]⟩ : ByteArray) t103 false _ ?side1 ?side2 A5.out) ?_; (case side1 => repeat (first | exact (Kd.C_below HR0.out HB.out) | (with_reducible refine Kd.C_alloc ?_ _) | (with_reducible refine Kd.C_drewN ?_ _) | (with_reducible refine Kd.C_drew ?_))); (case side2 => exact HC0.out); rintro e w39 ⟨rfl, hb⟩; refine ⟨_, rfl, ?_⟩; replace HB := ak (zb bq hb); (try clear hb)))
    go_ret3
    exact ⟨rv, bq⟩
def xX.f (a0 : Int) : Option (Int) := if a0 = 0 then (some 0) else (if a0 = 1 then (some 1) else (some 2))
theorem xX.calls (a0 : Int) (r : Int) (w : World) (h : xX.f a0 = some r) :
  Calls Tryz.prog 24 #[.int .i64 a0] w fun e w' => e = .returned (.int .i64 r) ∧ Drawn0 w w' := by
 have H : (if a0 = 0 then (some 0) else (if a0 = 1 then (some 1) else (some 2))) = some r := h
 clear h
 replace H := se H
 rcases H with ⟨c2b0, c2b1, H⟩ | ⟨c2, c2b0, c2b1, H⟩
 ·obtain rfl := oi1 H
  go_enter Tryz.func24, Tryz.ntmps24
  go_wp2
  go_ret
  exact ⟨rt, dr⟩
 ·replace H := se H
  rcases H with ⟨c3b0, c3b1, H⟩ | ⟨c3, c3b0, c3b1, H⟩
  ·obtain rfl := oi1 H
   go_enter Tryz.func24, Tryz.ntmps24
   go_wp2
   go_ret
   exact ⟨rt, dr⟩
  ·obtain rfl := oi1 H
   go_enter Tryz.func24, Tryz.ntmps24
   go_wp2
   go_ret
   exact ⟨rt, dr⟩
def zn.j0 : Nat → ByteArray → List (S55) → ByteArray → Bool → ByteArray → ByteArray → List (S55) → ByteArray → Option (ByteArray × ByteArray × (List (S55)) × ByteArray × Int × Int)
 | 0, _, _, _, _, _, _, _, _ => none
 | k + 1, x0, x6, x7, x41, x116000, x116001, x116002, x116003 => if x41 = true then (some ((⟨#[]⟩ : ByteArray), (⟨#[]⟩ : ByteArray), ([] : List (S55)), (⟨#[]⟩ : ByteArray), 0, 2)) else ((yn.f k x6 x7 false).bind fun bt118 => (if bt118.2.2 = 0 then (some (x116000, x116001, x116002, bt118.1, wrap64 ((wrap64 ((x0.size : Int) - (x7.size : Int))) + bt118.2.1), 0)) else ((xX.f bt118.2.2).bind fun t121 => (some ((⟨#[]⟩ : ByteArray), (⟨#[]⟩ : ByteArray), ([] : List (S55)), (⟨#[]⟩ : ByteArray), 0, t121)))))
def zn.f (k : Nat) (a0 : ByteArray) : Option (ByteArray × ByteArray × (List (S55)) × ByteArray × Int × Int) := (zL.f k a0).bind fun bt102 => (if bt102.2.2.2 = 0 then (if 0 < (bt102.1.length : Int) then (if 1 < (bt102.1.length : Int) then ((xq.f bt102.2.1).bind fun t112 => (if 2 < (bt102.1.length : Int) then (if (rdOf ByteArray.empty bt102.1 2).toList = ([72, 84, 84, 80, 47, 49, 46, 49] : List UInt8) then ((yO.f k (rdOf ByteArray.empty bt102.1 0) (rdOf ByteArray.empty bt102.1 1) t112 (⟨#[]⟩ : ByteArray)).bind fun t117 => (zn.j0 k a0 bt102.2.1 bt102.2.2.1 (!t117) (rdOf ByteArray.empty bt102.1 0) (rdOf ByteArray.empty bt102.1 1) t112 (⟨#[]⟩ : ByteArray))) else (zn.j0 k a0 bt102.2.1 bt102.2.2.1 true (rdOf ByteArray.empty bt102.1 0) (rdOf ByteArray.empty bt102.1 1) t112 (⟨#[]⟩ : ByteArray))) else (none))) else (none)) else (none)) else (some ((⟨#[]⟩ : ByteArray), (⟨#[]⟩ : ByteArray), ([] : List (S55)), (⟨#[]⟩ : ByteArray), 0, bt102.2.2.2)))
theorem zn.mono_l : ∀ k, (∀ y0 y1 y2 y3 y4 y5 y6 y7, LeO (zn.j0 k y0 y1 y2 y3 y4 y5 y6 y7) (zn.j0 (k + 1) y0 y1 y2 y3 y4 y5 y6 y7))
 | 0 => fun _ _ _ _ _ _ _ _ r h => by simp [zn.j0] at h
 | k + 1 => by
  have ih0 := zn.mono_l k
  ·intro y0 y1 y2 y3 y4 y5 y6 y7
   unfold zn.j0
   exact mq4 ih0 yn.mono yO.mono zL.mono
theorem zn.mono : ∀ a0 k, LeO (zn.f k a0) (zn.f (k + 1) a0) := by
 intro a0 k
 have ih0 := zn.mono_l k
 unfold zn.f
 exact mq4 ih0 yn.mono yO.mono zL.mono
def zn.T4 : Bool × List (List Nat × List Nat) := (true, [([], []), ([0], [0]), ([1], [1]), ([], []), ([3], [3]), ([4], [4]), ([], []), ([6], [6]), ([2, 5, 7], [2, 5, 7]), ([], []), ([9, 8, 7, 0, 1, 2, 3, 4, 5, 6, 7, 8, 9], [8, 9])])
def zn.B4 : List Nat := [0, 1, 3, 0, 8, 24, 0, 64, 255, 0, 1023]
theorem zn.tab4 : rtab .any (opsOf Tryz.f7 4) = zn.T4 := by kernel_rfl
theorem zn.bits4 : qj zn.T4.2 zn.B4 = true := by kernel_rfl
theorem zn.calls (k : Nat) (a0 : ByteArray) (r1 : ByteArray) (r2 : ByteArray) (r3 : List (S55)) (r4 : ByteArray) (r5 : Int) (r6 : Int) (w : World) (hGErr : GErr w) (hGMax : GMax w) (h : zn.f k a0 = some (r1, r2, r3, r4, r5, r6)) :
  Calls Tryz.prog 7 #[.string a0] w fun e w' => ∃ v2_ : Value, e = .returned (.tuple #[.agg #[.string r1, .string r2, v2_, .string r4], .int .i64 r5, .int .i64 r6]) ∧ Kd.R k55 55 w' w.heap.size (fun _ => True) v2_ r3 ∧ Below w.heap.size w w' := by
 have hu26 := Tryz.underlying26
 have HGErr := ak hGErr
 clear hGErr
 have HGMax := ak hGMax
 clear hGMax
 have HB := ak (Below.refl w.heap.size w)
 have H := h
 unfold zn.f at H
 clear h
 replace H := ob H
 obtain ⟨⟨t102, t103, t104, t105⟩, A2, H⟩ := H
 try dsimp only at H
 replace H := se H
 rcases H with ⟨c3b0, c3b1, H⟩ | ⟨c3, c3b0, c3b1, H⟩
 ·replace H := sT H
  obtain ⟨c4, H⟩ := H
  have c4b0 := decide_eq_true c4
  have c4b1 : decide (0 < t102.length) = true := decide_eq_true (by omega)
  clear c4
  replace H := sT H
  obtain ⟨c5, H⟩ := H
  have c5b0 := decide_eq_true c5
  have c5b1 : decide (1 < t102.length) = true := decide_eq_true (by omega)
  clear c5
  replace H := ob H
  obtain ⟨t112, A6, H⟩ := H
  have HC7 := ak H
  clear H
  go_enter Tryz.func7, Tryz.ntmps7
  try go_wp2_with (first | ((with_reducible refine zl (N := 2) rfl ?_); refine bx 2 #[.string ⟨#[]⟩, .string ⟨#[]⟩, .slice none 0 0, .string ⟨#[]⟩] 26 ?_; intro gb101 hg w8 hbox hb; have BK101 := ak (hbox); have GW101 := ak ((by rw [hg]; exact (zd bq) : w.heap.size ≤ gb101)); have GE101 := GW101; replace HB := ak (zb bq hb); clear hb hbox hg) | ((with_reducible refine za (f := 21) rfl ?_); refine cl 15 rfl Tryz.func21 #[.string a0] (zL.calls k a0 t102 t103 t104 t105 _ ?side1 A2.out) ?_; (case side1 => refine zY HGMax.out ?_; exact bq1 GE101.out); rintro e w9 ⟨v106, v108, rfl, ho0, ho1, hb⟩; refine ⟨_, rfl, ?_⟩; have HO107 := ak (Kd.R_lower ho0 (zd (bq1 GE101.out))); have HO109 := ak (Kd.R_lower ho1 (zd (bq1 GE101.out))); replace BK101 := ak (ze (blq BK101.out) hb); replace HB := ak (zb (bq1 GE101.out) hb); (try clear hb ho0 ho1); obtain ⟨Ao10, co10, eo10⟩ := Kd.R_slice HO109.out; subst eo10))
  have n0_ := ak (Kd.R_drew HO107.out)
  have n1_ := ak (Kd.R_drew HO109.out)
  have n2_ := ak (xe BK101.out)
  have n3_ := ak (ye HB.out)
  clear HO107
  clear HO109
  clear BK101
  clear HB
  have HO107 := n0_
  have HO109 := n1_
  have BK101 := n2_
  have HB := n3_
  clear n0_ n1_ n2_ n3_
  obtain ⟨Ao12, co12, eo12⟩ := Kd.R_slice HO107.out
  (first | subst eo12 | (injection eo12 with f1_ f2_ f3_; have f4_ := f1_.symm; have f5_ := f3_.symm; clear f1_ f2_ f3_; subst f4_; subst f5_))
  have p110 : 0 ≤ (0 : Int) := (by omega)
  have q110 : 0 < (t102.length : Int) := of_decide_eq_true asm
  obtain ⟨ad110, e110, hx110_0⟩ := Kd.at_string (Kd.R_reads' HO107.out).2.2 0 p110 q110
  cases e110
  have qi110 : (0 < t102.length) = True := eq_true (by omega)
  (try rw [show ((0 : Int)).toNat = 0 from rfl] at hx110_0)
  (try rw [Addr.add_zero'] at hx110_0)
  replace p110 := eq_true p110
  replace q110 := eq_true q110
  have p111 : 0 ≤ (1 : Int) := (by omega)
  have q111 : 1 < (t102.length : Int) := of_decide_eq_true asm
  obtain ⟨ad111, e111, hx111_0⟩ := Kd.at_string (Kd.R_reads' HO107.out).2.2 1 p111 q111
  obtain rfl : ad110 = ad111 := (by injection e111)
  (try simp only [show (1 : Int).toNat = 1 from rfl, Nat.reduceMul, Nat.reduceEqDiff, Go.Addr.add, ↓reduceIte] at hx111_0)
  have qi111 : (1 < t102.length) = True := eq_true (by omega)
  (try rw [show ((1 : Int)).toNat = 1 from rfl] at hx111_0)
  replace p111 := eq_true p111
  replace q111 := eq_true q111
  refine start_ (n := 11) (S := fun w' => w'.cell? ad110 = some (.string (rdOf ByteArray.empty t102 0)) ∧ w'.cell? ⟨ad110.block, ad110.off + 1, none⟩ = some (.string (rdOf ByteArray.empty t102 1))) (ds := []) (Array.replicate 11 false) (by kernel_rfl) rfl rfl ⟨hx110_0, hx111_0⟩ (fun hHeld => ?_); refine xm zn.tab4 zn.bits4 (fun HT_ HW_ => ?_)
  generalize w9.drew = w11 at HO107 HO109 BK101 HB hx110_0 hx111_0 hHeld ⊢
  refine pu 0 24 HT_ ?_
  refine pu 1 25 HT_ ?_
  refine pu 3 27 HT_ ?_
  refine pu 4 28 HT_ ?_
  refine pu 6 30 HT_ ?_
  refine tk 2 26 HT_ HW_ hHeld ?_ (hy := by rintro w' ⟨s0, s1⟩; go_simp; with_reducible rfl)
  refine tk 5 29 HT_ HW_ hHeld ?_ (hy := by rintro w' ⟨s0, s1⟩; go_simp; with_reducible rfl)
  refine join_ (σ := Value × Nat) 1 #[true, true, true, true, true, true, true, true, true, true, false] (fun s_ => [(31, s_.1), (9, .pointer (some ⟨s_.2, 0, none⟩)), (32, .agg #[.string (rdOf ByteArray.empty t102 0), .string (rdOf ByteArray.empty t102 1), s_.1, .string ⟨#[]⟩])]) (fun s_ w' => (w'.cell? ad110 = some (.string (rdOf ByteArray.empty t102 0)) ∧ w'.cell? ⟨ad110.block, ad110.off + 1, none⟩ = some (.string (rdOf ByteArray.empty t102 1))) ∧ (Kd.R Kd.string 9 w' w.heap.size (fun _ => True) (.slice (some ad110) t102.length co12) t102) ∧ (Kd.R k55 55 w' w.heap.size (fun k_ => some k_ ≠ (s_.1 : Value).ownBlock) (.slice Ao10 t103.length co10) t103) ∧ (Kd.R k55 55 w' w.heap.size (fun k_ => some k_ ≠ (.slice Ao10 t103.length co10 : Value).ownBlock) s_.1 t112) ∧ (w'.heap[gb101]? = some (.cells #[.string ⟨#[]⟩, .string ⟨#[]⟩, .slice none 0 0, .string ⟨#[]⟩] 26 (0, 0))) ∧ (w'.heap[s_.2]? = some (.cells #[.string ⟨#[]⟩, .string ⟨#[]⟩, .slice none 0 0, .string ⟨#[]⟩] 26 (0, 0))) ∧ (w.heap.size ≤ s_.2) ∧ (w.heap.size ≤ s_.2) ∧ (gb101 ≠ s_.2) ∧ (s_.2 ≠ gb101) ∧ (Below w.heap.size w w')) ?_ ?_
  rotate_left
  ·intro hCont
   refine two_ (i := 7) (j := 9) (Ni := some 31) (Nj := some 9) #[true, true, true, true, true, true, true, true, false, false, false] #[true, true, true, true, true, true, true, false, false, true, false] rfl rfl rfl rfl (two_of HT_.out (by kernel_rfl)) (by decide) (by decide) (fun K hK => ?_) (fun K hK => ?_)
   ·skip
    refine goes_ Tryz.func22 (by kernel_rfl) rfl #[.slice Ao10 t103.length co10] (by rfl) rfl rfl am ?_
    with_reducible refine (xq.calls _ _ t103 t112 _ ?side1 ?side2 A6.out).mono ?_
    (case side1 => exact cq (Kd.R_reads' HO109.out).2.2)
    (case side2 => exact (Kd.R_reads' HO109.out).2.1)
    rintro e w13 ⟨v113, rfl, ho0, hb⟩
    have HS0_ := (hb.cell (World.block_lt_of_cell? _ _ (hHeld.1))).trans (hHeld.1)
    have HS1_ := (hb.cell (World.block_lt_of_cell? _ _ (hHeld.2))).trans (hHeld.2)
    refine ⟨_, rfl, ?_⟩
    have n0_ := ak (Kd.R_below (rdq HO107.out) hb)
    have n1_ := ak (Kd.R_elder' (rdq HO109.out) (Kd.R_base ho0) hb)
    have n2_ := ak (Kd.R_lower (Kd.R_new' ho0 (Kd.R_lt (rdq HO109.out))) (zd (bq1 GE101.out)))
    have n3_ := ak (ze (blq BK101.out) hb)
    have n4_ := ak (zb (bq1 GE101.out) hb)
    clear HO107
    clear HO109
    clear BK101
    clear HB
    have HO107 := n0_
    have HO109 := n1_
    have HO114 := n2_
    have BK101 := n3_
    have HB := n4_
    clear n0_ n1_ n2_ n3_ n4_
    (try clear hb)
    (try clear hb2)
    (try clear hk)
    (try clear hi)
    (try clear ho0)
    obtain ⟨Ao14, co14, eo14⟩ := Kd.R_slice HO114.out
    (first | subst eo14 | (injection eo14 with f1_ f2_ f3_; have f4_ := f1_.symm; have f5_ := f3_.symm; clear f1_ f2_ f3_; subst f4_; subst f5_))
    refine hK.out _ _ ⟨HS0_, HS1_⟩ (fun hHeld => ?_)
    clear hK K
    refine nrm 31 ?_
    refine pu 8 32 HT_ ?_
    refine on1 9 9 HT_ (fun K hK => ?_)
    refine vP0 ?hg (N := 9) ?hd (cs := #[.string ⟨#[]⟩, .string ⟨#[]⟩, .slice none 0 0, .string ⟨#[]⟩]) (t := 26) ?hr ?_; (case hd => rfl); (case hg => rfl); (case hr => first | (go_simp; done) | (go_simp; rfl))
    intro gb115 hg w15 hbox hb
    have HS0_ := (hb.cell (World.block_lt_of_cell? _ _ (hHeld.1))).trans (hHeld.1)
    have HS1_ := (hb.cell (World.block_lt_of_cell? _ _ (hHeld.2))).trans (hHeld.2)
    have n0_ := ak (Kd.R_below (rdq HO107.out) hb)
    have n1_ := ak (Kd.R_below (rdq HO109.out) hb)
    have n2_ := ak (Kd.R_below (rdq HO114.out) hb)
    have n3_ := ak (ze (blq BK101.out) hb)
    have n4_ := ak (zb (bq1 GE101.out) hb)
    have n5_ := ak (hbox)
    have n6_ := ak ((by rw [hg]; exact (zd (bq1 GE101.out)) : w.heap.size ≤ gb115))
    have n7_ := ak ((by rw [hg]; exact (zd (bq1 GE101.out)) : w.heap.size ≤ gb115))
    have n8_ := ak ((by rw [hg]; exact Nat.ne_of_lt (xn (blq BK101.out)) : gb101 ≠ gb115))
    have n9_ := ak ((by rw [hg]; exact Nat.ne_of_gt (xn (blq BK101.out)) : gb115 ≠ gb101))
    clear HO107
    clear HO109
    clear HO114
    clear BK101
    clear HB
    have HO107 := n0_
    have HO109 := n1_
    have HO114 := n2_
    have BK101 := n3_
    have HB := n4_
    have BK115 := n5_
    have GW115 := n6_
    have GE115 := n7_
    have NB101_115 := n8_
    have NB115_101 := n9_
    clear n0_ n1_ n2_ n3_ n4_ n5_ n6_ n7_ n8_ n9_
    clear hb hbox hg
    refine hK.out _ _ ⟨HS0_, HS1_⟩ (fun hHeld => ?_)
    clear hK K
    refine nrm 9 ?_
    exact norm_ (by simp only [qq0, Act.put, List.setIfInBounds_toArray, List.set_cons_zero, List.set_cons_succ]) (hCont (.slice Ao14 t112.length co14, gb115) _ ⟨hHeld, (rdq HO107.out), (by (with_reducible repeat (first | apply Kd.R_alloc | apply Kd.R_drewN | apply Kd.R_drew)); exact Kd.R_mono HO109.out (fun _ hk => hk.2)), (by (with_reducible repeat (first | apply Kd.R_alloc | apply Kd.R_drewN | apply Kd.R_drew)); exact Kd.R_mono HO114.out (fun _ hk => hk.2)), (blq BK101.out), (blq BK115.out), GW115.out, GE115.out, NB101_115.out, NB115_101.out, (bq2 GE101.out GE115.out)⟩)
   ·skip
    refine vP0 ?hg (N := 9) ?hd (cs := #[.string ⟨#[]⟩, .string ⟨#[]⟩, .slice none 0 0, .string ⟨#[]⟩]) (t := 26) ?hr ?_; (case hd => rfl); (case hg => rfl); (case hr => first | (go_simp; done) | (go_simp; rfl))
    intro gb115 hg w13 hbox hb
    have HS0_ := (hb.cell (World.block_lt_of_cell? _ _ (hHeld.1))).trans (hHeld.1)
    have HS1_ := (hb.cell (World.block_lt_of_cell? _ _ (hHeld.2))).trans (hHeld.2)
    have n0_ := ak (Kd.R_below (rdq HO107.out) hb)
    have n1_ := ak (Kd.R_below (rdq HO109.out) hb)
    have n2_ := ak (ze (blq BK101.out) hb)
    have n3_ := ak (zb (bq1 GE101.out) hb)
    have n4_ := ak (hbox)
    have n5_ := ak ((by rw [hg]; exact (zd (bq1 GE101.out)) : w.heap.size ≤ gb115))
    have n6_ := ak ((by rw [hg]; exact (zd (bq1 GE101.out)) : w.heap.size ≤ gb115))
    have n7_ := ak ((by rw [hg]; exact Nat.ne_of_lt (xn (blq BK101.out)) : gb101 ≠ gb115))
    have n8_ := ak ((by rw [hg]; exact Nat.ne_of_gt (xn (blq BK101.out)) : gb115 ≠ gb101))
    clear HO107
    clear HO109
    clear BK101
    clear HB
    have HO107 := n0_
    have HO109 := n1_
    have BK101 := n2_
    have HB := n3_
    have BK115 := n4_
    have GW115 := n5_
    have GE115 := n6_
    have NB101_115 := n7_
    have NB115_101 := n8_
    clear n0_ n1_ n2_ n3_ n4_ n5_ n6_ n7_ n8_
    clear hb hbox hg
    refine hK.out _ _ ⟨HS0_, HS1_⟩ (fun hHeld => ?_)
    clear hK K
    refine nrm 9 ?_
    refine on1 7 31 HT_ (fun K hK => ?_)
    refine goes_ Tryz.func22 (by kernel_rfl) rfl #[.slice Ao10 t103.length co10] (by rfl) rfl rfl am ?_
    with_reducible refine (xq.calls _ _ t103 t112 _ ?side1 ?side2 A6.out).mono ?_
    (case side1 => exact cq (Kd.R_reads' HO109.out).2.2)
    (case side2 => exact (Kd.R_reads' HO109.out).2.1)
    rintro e w14 ⟨v113, rfl, ho0, hb⟩
    have HS0_ := (hb.cell (World.block_lt_of_cell? _ _ (hHeld.1))).trans (hHeld.1)
    have HS1_ := (hb.cell (World.block_lt_of_cell? _ _ (hHeld.2))).trans (hHeld.2)
    refine ⟨_, rfl, ?_⟩
    have n0_ := ak (Kd.R_below (rdq HO107.out) hb)
    have n1_ := ak (Kd.R_elder' (rdq HO109.out) (Kd.R_base ho0) hb)
    have n2_ := ak (Kd.R_lower (Kd.R_new' ho0 (Kd.R_lt (rdq HO109.out))) (zd (bq2 GE101.out GE115.out)))
    have n3_ := ak (ze (blq BK101.out) hb)
    have n4_ := ak (ze (blq BK115.out) hb)
    have n5_ := ak (zb (bq2 GE101.out GE115.out) hb)
    clear HO107
    clear HO109
    clear BK101
    clear BK115
    clear HB
    have HO107 := n0_
    have HO109 := n1_
    have HO114 := n2_
    have BK101 := n3_
    have BK115 := n4_
    have HB := n5_
    clear n0_ n1_ n2_ n3_ n4_ n5_
    (try clear hb)
    (try clear hb2)
    (try clear hk)
    (try clear hi)
    (try clear ho0)
    obtain ⟨Ao15, co15, eo15⟩ := Kd.R_slice HO114.out
    (first | subst eo15 | (injection eo15 with f1_ f2_ f3_; have f4_ := f1_.symm; have f5_ := f3_.symm; clear f1_ f2_ f3_; subst f4_; subst f5_))
    refine hK.out _ _ ⟨HS0_, HS1_⟩ (fun hHeld => ?_)
    clear hK K
    refine nrm 31 ?_
    refine pu 8 32 HT_ ?_
    exact norm_ (by simp only [qq0, Act.put, List.setIfInBounds_toArray, List.set_cons_zero, List.set_cons_succ]) (hCont (.slice Ao15 t112.length co15, gb115) _ ⟨hHeld, (rdq HO107.out), (by (with_reducible repeat (first | apply Kd.R_alloc | apply Kd.R_drewN | apply Kd.R_drew)); exact Kd.R_mono HO109.out (fun _ hk => hk.2)), (by (with_reducible repeat (first | apply Kd.R_alloc | apply Kd.R_drewN | apply Kd.R_drew)); exact Kd.R_mono HO114.out (fun _ hk => hk.2)), (blq BK101.out), (blq BK115.out), GW115.out, GE115.out, NB101_115.out, NB115_101.out, (bq2 GE101.out GE115.out)⟩)
  rintro ⟨v113, gb115⟩ w16 ⟨hS_, h0_, h1_, h2_, h3_, h4_, h5_, h6_, h7_, h8_, h9_⟩
  have n0_ : Aside0 (Kd.R Kd.string 9 w16 w.heap.size (fun _ => True) (.slice (some ad110) t102.length co12) t102) := ⟨h0_⟩
  have n1_ : Aside0 (Kd.R k55 55 w16 w.heap.size (fun k_ => some k_ ≠ (v113 : Value).ownBlock) (.slice Ao10 t103.length co10) t103) := ⟨h1_⟩
  have n2_ : Aside0 (Kd.R k55 55 w16 w.heap.size (fun k_ => some k_ ≠ (.slice Ao10 t103.length co10 : Value).ownBlock) v113 t112) := ⟨h2_⟩
  have n3_ : Aside0 (w16.heap[gb101]? = some (.cells #[.string ⟨#[]⟩, .string ⟨#[]⟩, .slice none 0 0, .string ⟨#[]⟩] 26 (0, 0))) := ⟨h3_⟩
  have n4_ : Aside0 (w16.heap[gb115]? = some (.cells #[.string ⟨#[]⟩, .string ⟨#[]⟩, .slice none 0 0, .string ⟨#[]⟩] 26 (0, 0))) := ⟨h4_⟩
  have n5_ : Aside0 (w.heap.size ≤ gb115) := ⟨h5_⟩
  have n6_ : Aside0 (w.heap.size ≤ gb115) := ⟨h6_⟩
  have n7_ : Aside0 (gb101 ≠ gb115) := ⟨h7_⟩
  have n8_ : Aside0 (gb115 ≠ gb101) := ⟨h8_⟩
  have n9_ : Aside0 (Below w.heap.size w w16) := ⟨h9_⟩
  clear HO107
  clear HO109
  clear BK101
  clear HB
  clear h0_ h1_ h2_ h3_ h4_ h5_ h6_ h7_ h8_ h9_
  have HO107 := n0_
  have HO109 := n1_
  have HO114 := n2_
  have BK101 := n3_
  have BK115 := n4_
  have GW115 := n5_
  have GE115 := n6_
  have NB101_115 := n7_
  have NB115_101 := n8_
  have HB := n9_
  clear n0_ n1_ n2_ n3_ n4_ n5_ n6_ n7_ n8_ n9_
  have hHeld : w16.cell? ad110 = some (.string (rdOf ByteArray.empty t102 0)) ∧ w16.cell? ⟨ad110.block, ad110.off + 1, none⟩ = some (.string (rdOf ByteArray.empty t102 1)) := hS_
  obtain ⟨Ao17, co17, eo17⟩ := Kd.R_slice HO114.out
  (first | subst eo17 | (injection eo17 with f1_ f2_ f3_; have f4_ := f1_.symm; have f5_ := f3_.symm; clear f1_ f2_ f3_; subst f4_; subst f5_))
  refine norm_ (a' := ?_) ?_ ?_
  rotate_left
  ·simp only [qq0, Act.put, List.setIfInBounds_toArray, List.set_cons_zero, List.set_cons_succ]
   rfl
  refine one_ (i := 10) (N := none) #[true, true, true, true, true, true, true, true, true, true, true] rfl rfl (vz0 HT_.out (by kernel_rfl)) (by decide) (fun K hK => ?_)
  have hs18 : w16.cell? ⟨gb115, 0, none⟩ = some (.string ⟨#[]⟩) := (zg BK115.out 0).trans rfl
  have hfs18 := yS BK115.out 0
  have hns18_0 := NB101_115.out
  have hms18_0 := NB115_101.out
  have hs19 : w16.cell? ⟨gb115, 1, none⟩ = some (.string ⟨#[]⟩) := (zg BK115.out 1).trans rfl
  have hfs19 := yS BK115.out 1
  have hns19_0 := NB101_115.out
  have hms19_0 := NB115_101.out
  have hs20 : w16.cell? ⟨gb115, 2, none⟩ = some (.slice none 0 0) := (zg BK115.out 2).trans rfl
  have hfs20 := yS BK115.out 2
  have hns20_0 := NB101_115.out
  have hms20_0 := NB115_101.out
  have hs21 : w16.cell? ⟨gb115, 3, none⟩ = some (.string ⟨#[]⟩) := (zg BK115.out 3).trans rfl
  have hfs21 := yS BK115.out 3
  have hns21_0 := NB101_115.out
  have hms21_0 := NB115_101.out
  refine skip_ (w1 := ?_) (by rfl) rfl ?_ ?_
  rotate_left
  ·go_simp
   rfl
  refine hK.out _ _ ⟨((yW (p := ⟨gb115, _, none⟩) (by first | exact Kd.own_blk (Kd.R_ne HO107.out BK115.out (by decide)) | (rw [zG]; exact Kd.own_blk (Kd.R_ne HO107.out BK115.out (by decide))) | (show (Addr.add _ _).block ≠ _; rw [zG]; exact Kd.own_blk (Kd.R_ne HO107.out BK115.out (by decide))) | (dsimp only; exact Kd.own_blk (Kd.R_ne HO107.out BK115.out (by decide)))) _).trans (((yW (p := ⟨gb115, _, none⟩) (by first | exact Kd.own_blk (Kd.R_ne HO107.out BK115.out (by decide)) | (rw [zG]; exact Kd.own_blk (Kd.R_ne HO107.out BK115.out (by decide))) | (show (Addr.add _ _).block ≠ _; rw [zG]; exact Kd.own_blk (Kd.R_ne HO107.out BK115.out (by decide))) | (dsimp only; exact Kd.own_blk (Kd.R_ne HO107.out BK115.out (by decide)))) _).trans (((yW (p := ⟨gb115, _, none⟩) (by first | exact Kd.own_blk (Kd.R_ne HO107.out BK115.out (by decide)) | (rw [zG]; exact Kd.own_blk (Kd.R_ne HO107.out BK115.out (by decide))) | (show (Addr.add _ _).block ≠ _; rw [zG]; exact Kd.own_blk (Kd.R_ne HO107.out BK115.out (by decide))) | (dsimp only; exact Kd.own_blk (Kd.R_ne HO107.out BK115.out (by decide)))) _).trans (((yW (p := ⟨gb115, _, none⟩) (by first | exact Kd.own_blk (Kd.R_ne HO107.out BK115.out (by decide)) | (rw [zG]; exact Kd.own_blk (Kd.R_ne HO107.out BK115.out (by decide))) | (show (Addr.add _ _).block ≠ _; rw [zG]; exact Kd.own_blk (Kd.R_ne HO107.out BK115.out (by decide))) | (dsimp only; exact Kd.own_blk (Kd.R_ne HO107.out BK115.out (by decide)))) _).trans (hHeld.1)))))))), ((yW (p := ⟨gb115, _, none⟩) (by first | exact Kd.own_blk (Kd.R_ne HO107.out BK115.out (by decide)) | (rw [zG]; exact Kd.own_blk (Kd.R_ne HO107.out BK115.out (by decide))) | (show (Addr.add _ _).block ≠ _; rw [zG]; exact Kd.own_blk (Kd.R_ne HO107.out BK115.out (by decide))) | (dsimp only; exact Kd.own_blk (Kd.R_ne HO107.out BK115.out (by decide)))) _).trans (((yW (p := ⟨gb115, _, none⟩) (by first | exact Kd.own_blk (Kd.R_ne HO107.out BK115.out (by decide)) | (rw [zG]; exact Kd.own_blk (Kd.R_ne HO107.out BK115.out (by decide))) | (show (Addr.add _ _).block ≠ _; rw [zG]; exact Kd.own_blk (Kd.R_ne HO107.out BK115.out (by decide))) | (dsimp only; exact Kd.own_blk (Kd.R_ne HO107.out BK115.out (by decide)))) _).trans (((yW (p := ⟨gb115, _, none⟩) (by first | exact Kd.own_blk (Kd.R_ne HO107.out BK115.out (by decide)) | (rw [zG]; exact Kd.own_blk (Kd.R_ne HO107.out BK115.out (by decide))) | (show (Addr.add _ _).block ≠ _; rw [zG]; exact Kd.own_blk (Kd.R_ne HO107.out BK115.out (by decide))) | (dsimp only; exact Kd.own_blk (Kd.R_ne HO107.out BK115.out (by decide)))) _).trans (((yW (p := ⟨gb115, _, none⟩) (by first | exact Kd.own_blk (Kd.R_ne HO107.out BK115.out (by decide)) | (rw [zG]; exact Kd.own_blk (Kd.R_ne HO107.out BK115.out (by decide))) | (show (Addr.add _ _).block ≠ _; rw [zG]; exact Kd.own_blk (Kd.R_ne HO107.out BK115.out (by decide))) | (dsimp only; exact Kd.own_blk (Kd.R_ne HO107.out BK115.out (by decide)))) _).trans (hHeld.2))))))))⟩ (fun hHeld => ?_)
  clear hK K
  refine done_ (xV HT_.out (by kernel_rfl)) ?_
  go_upto_region 5 with (fail)
  go_cut [41] (fun v41 wc => ∃ (kq : Nat) (x41_6 : Bool), v41 = .bool x41_6 ∧ Aside0 (zn.j0 kq a0 t103 t104 x41_6 (rdOf ByteArray.empty t102 0) (rdOf ByteArray.empty t102 1) t112 (⟨#[]⟩ : ByteArray) = some (r1, r2, r3, r4, r5, r6)) ∧ Aside0 (kq ≤ k) ∧ Aside0 (Kd.R k55 55 wc w.heap.size (fun k_ => some k_ ≠ ((.slice Ao17 t112.length co17) : Value).ownBlock) (.slice Ao10 t103.length co10) t103) ∧ Aside0 (Kd.R k55 55 wc w.heap.size (fun k_ => some k_ ≠ ((.slice Ao10 t103.length co10) : Value).ownBlock) (.slice Ao17 t112.length co17) t112) ∧ Aside0 (wc.heap[gb101]? = some (.cells #[.string ⟨#[]⟩, .string ⟨#[]⟩, (.slice none 0 0), .string ⟨#[]⟩] 26 (0, 0))) ∧ Aside0 (wc.heap[gb115]? = some (.cells #[.string (rdOf ByteArray.empty t102 0), .string (rdOf ByteArray.empty t102 1), (.slice Ao17 t112.length co17), .string ⟨#[]⟩] 26 (0, 0))) ∧ Aside0 (Below w.heap.size w wc))
  case first =>
   have H := HC7.out
   clear HC7
   replace H := sT H
   obtain ⟨c22, H⟩ := H
   have c22b0 := decide_eq_true c22
   have c22b1 : decide (2 < t102.length) = true := decide_eq_true (by omega)
   clear c22
   (first | rw [c22b0] | (simp only [i64_w, i32_w]; rw [c22b0]) | skip)
   replace H := se H
   rcases H with ⟨c23b0, c23b1, H⟩ | ⟨c23, c23b0, c23b1, H⟩
   ·replace H := ob H
    obtain ⟨t117, A24, H⟩ := H
    have H' := ak H
    clear H
    have p116 : 0 ≤ (2 : Int) := (by omega)
    have q116 : 2 < (t102.length : Int) := of_decide_eq_true asm
    obtain ⟨ad116, e116, hx116_0⟩ := Kd.at_string (Kd.R_reads' HO107.out).2.2 2 p116 q116
    obtain rfl : ad110 = ad116 := (by injection e116)
    (try simp only [show (2 : Int).toNat = 2 from rfl, Nat.reduceMul, Nat.reduceEqDiff, Go.Addr.add, ↓reduceIte] at hx116_0)
    have qi116 : (2 < t102.length) = True := eq_true (by omega)
    (try rw [show ((2 : Int)).toNat = 2 from rfl] at hx116_0)
    have hn116_0 : ad110.block ≠ gb115 := Kd.own_blk (Kd.R_ne HO107.out BK115.out (by decide))
    have hn116_1 : ad110.block ≠ gb115 := Kd.own_blk (Kd.R_ne HO107.out BK115.out (by decide))
    have hn116_2 : ad110.block ≠ gb115 := Kd.own_blk (Kd.R_ne HO107.out BK115.out (by decide))
    have hn116_3 : ad110.block ≠ gb115 := Kd.own_blk (Kd.R_ne HO107.out BK115.out (by decide))
    replace hx116_0 := (yW (p := ⟨gb115, 0, none⟩) (by first | (rw [zG]; exact hn116_0) | (show (Addr.add _ _).block ≠ _; rw [zG]; exact hn116_0) | exact hn116_0) (.string (rdOf ByteArray.empty t102 0))).trans hx116_0
    replace hx116_0 := (yW (p := ⟨gb115, 1, none⟩) (by first | (rw [zG]; exact hn116_1) | (show (Addr.add _ _).block ≠ _; rw [zG]; exact hn116_1) | exact hn116_1) (.string (rdOf ByteArray.empty t102 1))).trans hx116_0
    replace hx116_0 := (yW (p := ⟨gb115, 2, none⟩) (by first | (rw [zG]; exact hn116_2) | (show (Addr.add _ _).block ≠ _; rw [zG]; exact hn116_2) | exact hn116_2) (.slice Ao17 t112.length co17)).trans hx116_0
    replace hx116_0 := (yW (p := ⟨gb115, 3, none⟩) (by first | (rw [zG]; exact hn116_3) | (show (Addr.add _ _).block ≠ _; rw [zG]; exact hn116_3) | exact hn116_3) (.string ⟨#[]⟩)).trans hx116_0
    clear hn116_0
    clear hn116_1
    clear hn116_2
    clear hn116_3
    replace p116 := eq_true p116
    replace q116 := eq_true q116
    have hnb25 := NB115_101.out
    have hnc25 := NB101_115.out
    obtain ⟨hcz26_0, hcz26_1, hcz26_2, hcz26_3, hfz26_0, hfz26_1, hfz26_2, hfz26_3⟩ := blk4 BK115.out
    go_wp2_with (first | (go_at_call 18; (with_reducible refine (yO.calls k (rdOf ByteArray.empty t102 0) (rdOf ByteArray.empty t102 1) _ _ t112 (⟨#[]⟩ : ByteArray) t117 _ ?side1 ?side2 A24.out).mono ?_); (case side1 => refine (Kd.R_reads' (e := 55) (base := w.heap.size) (ok := fun k_ => some k_ ≠ (.slice Ao10 t103.length co10 : Value).ownBlock) (n := t112.length) (c := co17) ?_).2.2; exact (rfd HO114.out BK115.out)); (case side2 => exact (Kd.R_reads' HO114.out).2.1); rintro e w27 ⟨rfl, hb⟩; replace HO107 := ak (Kd.R_below (rfd HO107.out BK115.out) hb); replace HO109 := ak (Kd.R_below (rfd HO109.out BK115.out) hb); replace HO114 := ak (Kd.R_below (rfd HO114.out BK115.out) hb); replace BK101 := ak (ze (g := gb101) (o := .cells #[.string ⟨#[]⟩, .string ⟨#[]⟩, .slice none 0 0, .string ⟨#[]⟩] 26 (0, 0)) (blf1 BK101.out NB101_115.out) hb); replace BK115 := ak (ze (g := gb115) (o := .cells #[.string (rdOf ByteArray.empty t102 0), .string (rdOf ByteArray.empty t102 1), .slice Ao17 t112.length co17, .string ⟨#[]⟩] 26 (0, 0)) (blp0 BK115.out) hb); replace HB := ak (zb (bq2 GE101.out GE115.out) hb); (try clear hb)))
    go_meet
    case rel => exact ⟨_, (!t117), rs, H', ⟨om⟩, ⟨rdq HO109.out⟩, ⟨rdq HO114.out⟩, ⟨blq BK101.out⟩, ⟨blq BK115.out⟩, ⟨bq2 GE101.out GE115.out⟩⟩
   ·have H' := ak H
    clear H
    have p116 : 0 ≤ (2 : Int) := (by omega)
    have q116 : 2 < (t102.length : Int) := of_decide_eq_true asm
    obtain ⟨ad116, e116, hx116_0⟩ := Kd.at_string (Kd.R_reads' HO107.out).2.2 2 p116 q116
    obtain rfl : ad110 = ad116 := (by injection e116)
    (try simp only [show (2 : Int).toNat = 2 from rfl, Nat.reduceMul, Nat.reduceEqDiff, Go.Addr.add, ↓reduceIte] at hx116_0)
    have qi116 : (2 < t102.length) = True := eq_true (by omega)
    (try rw [show ((2 : Int)).toNat = 2 from rfl] at hx116_0)
    have hn116_0 : ad110.block ≠ gb115 := Kd.own_blk (Kd.R_ne HO107.out BK115.out (by decide))
    have hn116_1 : ad110.block ≠ gb115 := Kd.own_blk (Kd.R_ne HO107.out BK115.out (by decide))
    have hn116_2 : ad110.block ≠ gb115 := Kd.own_blk (Kd.R_ne HO107.out BK115.out (by decide))
    have hn116_3 : ad110.block ≠ gb115 := Kd.own_blk (Kd.R_ne HO107.out BK115.out (by decide))
    replace hx116_0 := (yW (p := ⟨gb115, 0, none⟩) (by first | (rw [zG]; exact hn116_0) | (show (Addr.add _ _).block ≠ _; rw [zG]; exact hn116_0) | exact hn116_0) (.string (rdOf ByteArray.empty t102 0))).trans hx116_0
    replace hx116_0 := (yW (p := ⟨gb115, 1, none⟩) (by first | (rw [zG]; exact hn116_1) | (show (Addr.add _ _).block ≠ _; rw [zG]; exact hn116_1) | exact hn116_1) (.string (rdOf ByteArray.empty t102 1))).trans hx116_0
    replace hx116_0 := (yW (p := ⟨gb115, 2, none⟩) (by first | (rw [zG]; exact hn116_2) | (show (Addr.add _ _).block ≠ _; rw [zG]; exact hn116_2) | exact hn116_2) (.slice Ao17 t112.length co17)).trans hx116_0
    replace hx116_0 := (yW (p := ⟨gb115, 3, none⟩) (by first | (rw [zG]; exact hn116_3) | (show (Addr.add _ _).block ≠ _; rw [zG]; exact hn116_3) | exact hn116_3) (.string ⟨#[]⟩)).trans hx116_0
    clear hn116_0
    clear hn116_1
    clear hn116_2
    clear hn116_3
    replace p116 := eq_true p116
    replace q116 := eq_true q116
    go_wp2
    go_meet
    case rel => exact ⟨_, (true), rs, H', ⟨om⟩, ⟨by (with_reducible repeat (first | apply Kd.R_alloc | apply Kd.R_drewN | apply Kd.R_drew)); exact Kd.R_mono (Kd.R_far (p := ⟨gb115, 3, none⟩) (Kd.R_far (p := ⟨gb115, 2, none⟩) (Kd.R_far (p := ⟨gb115, 1, none⟩) (Kd.R_far (p := ⟨gb115, 0, none⟩) (Kd.R_types HO109.out BK115.out (by decide)) (fun _ hk => hk.2) (.string (rdOf ByteArray.empty t102 0))) (fun _ hk => hk.2) (.string (rdOf ByteArray.empty t102 1))) (fun _ hk => hk.2) (.slice Ao17 t112.length co17)) (fun _ hk => hk.2) (.string ⟨#[]⟩)) (fun _ hk => hk.1)⟩, ⟨by (with_reducible repeat (first | apply Kd.R_alloc | apply Kd.R_drewN | apply Kd.R_drew)); exact Kd.R_mono (Kd.R_far (p := ⟨gb115, 3, none⟩) (Kd.R_far (p := ⟨gb115, 2, none⟩) (Kd.R_far (p := ⟨gb115, 1, none⟩) (Kd.R_far (p := ⟨gb115, 0, none⟩) (Kd.R_types HO114.out BK115.out (by decide)) (fun _ hk => hk.2) (.string (rdOf ByteArray.empty t102 0))) (fun _ hk => hk.2) (.string (rdOf ByteArray.empty t102 1))) (fun _ hk => hk.2) (.slice Ao17 t112.length co17)) (fun _ hk => hk.2) (.string ⟨#[]⟩)) (fun _ hk => hk.1)⟩, ⟨blf1 BK101.out NB101_115.out⟩, ⟨blp0 BK115.out⟩, ⟨bq2 GE101.out GE115.out⟩⟩
  case rest =>
   clear HC7
   try clear q1
   try clear hx1
   try clear qi1
   try clear q11
   try clear hx11
   try clear qi11
   try clear hcz26_0 hcz26_1 hcz26_2 hcz26_3 hfz26_0 hfz26_1 hfz26_2 hfz26_3
   try clear hx110_0
   try clear hx111_0
   try clear hx116_0
   try clear q110
   try clear q111
   try clear q116
   obtain ⟨kq, x41_6, rfl, HA, HJ6, HO_6, HO_116002, BK101, BK115, HB⟩ := hcut
   cases kq with
   | zero => exact absurd HA.out (by simp [zn.j0])
   | succ kj6 =>
    have H := HA.out
    clear HA
    simp only [zn.j0] at H
    replace H := sb H
    rcases H with ⟨rfl, H⟩ | ⟨rfl, H⟩
    ·obtain ⟨rfl, rfl, rfl, rfl, rfl, rfl⟩ := oi6 H
     have hnb29 := NB101_115.out
     have hnc29 := NB115_101.out
     obtain ⟨hcz30_0, hcz30_1, hcz30_2, hcz30_3, hfz30_0, hfz30_1, hfz30_2, hfz30_3⟩ := blk4 BK101.out
     go_wp2
     refine bodyPost_ret (qk rfl _ _ gb101 26 #[.string ⟨#[]⟩, .string ⟨#[]⟩, .slice none 0 0, .string ⟨#[]⟩] (0, 0) _ rfl (blp0 BK101.out) Tryz.underlying26 rfl (by kernel_rfl)) rfl ?_
     exact ⟨_, rv, Kd.R_nil _ _ _ _ _, bq2 GE101.out GE115.out⟩
    ·replace H := ob H
     obtain ⟨⟨t118, t119, t120⟩, A31, H⟩ := H
     try dsimp only at H
     replace H := se H
     rcases H with ⟨c32b0, c32b1, H⟩ | ⟨c32, c32b0, c32b1, H⟩
     ·obtain ⟨rfl, rfl, rfl, rfl, rfl, rfl⟩ := oi6 H
      go_wp2_with (first | ((with_reducible refine za (f := 23) rfl ?_); refine cl 46 rfl Tryz.func23 #[.slice Ao10 t103.length co10, .string t104, .bool false] (yn.calls kj6 _ _ t103 t104 false t118 t119 t120 _ ?side1 ?side2 ?side3 ?side4 A31.out) ?_; (case side1 => exact cq (Kd.R_reads' HO_6.out).2.2); (case side2 => exact (Kd.R_reads' HO_6.out).2.1); (case side3 => refine yY HGErr.out ?_; exact bq2 GE101.out GE115.out); (case side4 => refine zY HGMax.out ?_; exact bq2 GE101.out GE115.out); rintro e w33 ⟨rfl, hb⟩; refine ⟨_, rfl, ?_⟩; replace HO_6 := ak (Kd.R_below (rdq HO_6.out) hb); replace HO_116002 := ak (Kd.R_below (rdq HO_116002.out) hb); replace BK101 := ak (ze (blq BK101.out) hb); replace BK115 := ak (ze (blq BK115.out) hb); replace HB := ak (zb (bq2 GE101.out GE115.out) hb); (try clear hb); have hnb34 := NB115_101.out; have hnc34 := NB101_115.out; obtain ⟨hcz35_0, hcz35_1, hcz35_2, hcz35_3, hfz35_0, hfz35_1, hfz35_2, hfz35_3⟩ := blk4 BK115.out; obtain ⟨hcz36_0, hcz36_1, hcz36_2, hcz36_3, hfz36_0, hfz36_1, hfz36_2, hfz36_3⟩ := blk4 BK101.out))
      refine bodyPost_ret (qk rfl _ _ gb101 26 #[.string (rdOf ByteArray.empty t102 0), .string (rdOf ByteArray.empty t102 1), .slice Ao17 t112.length co17, .string t118] (0, 0) _ rfl (blp1 BK101.out NB101_115.out) Tryz.underlying26 rfl (by kernel_rfl)) rfl ?_
      exact ⟨_, rv, by (with_reducible repeat (first | apply Kd.R_alloc | apply Kd.R_drewN | apply Kd.R_drew)); exact Kd.R_mono (Kd.R_far (p := ⟨gb101, 3, none⟩) (Kd.R_far (p := ⟨gb101, 2, none⟩) (Kd.R_far (p := ⟨gb101, 1, none⟩) (Kd.R_far (p := ⟨gb101, 0, none⟩) (Kd.R_far (p := ⟨gb115, 3, none⟩) (Kd.R_types (Kd.R_types HO_116002.out BK115.out (by decide)) BK101.out (by decide)) (fun _ hk => hk.1.2) (.string t118)) (fun _ hk => hk.2) (.string (rdOf ByteArray.empty t102 0))) (fun _ hk => hk.2) (.string (rdOf ByteArray.empty t102 1))) (fun _ hk => hk.2) (.slice Ao17 t112.length co17)) (fun _ hk => hk.2) (.string t118)) (fun _ hk => trivial), bq2 GE101.out GE115.out⟩
     ·replace H := ob H
      obtain ⟨t121, A37, H⟩ := H
      obtain ⟨rfl, rfl, rfl, rfl, rfl, rfl⟩ := oi6 H
      go_wp2_with (first | ((with_reducible refine za (f := 23) rfl ?_); refine cl 46 rfl Tryz.func23 #[.slice Ao10 t103.length co10, .string t104, .bool false] (yn.calls kj6 _ _ t103 t104 false t118 t119 t120 _ ?side1 ?side2 ?side3 ?side4 A31.out) ?_; (case side1 => exact cq (Kd.R_reads' HO_6.out).2.2); (case side2 => exact (Kd.R_reads' HO_6.out).2.1); (case side3 => refine yY HGErr.out ?_; exact bq2 GE101.out GE115.out); (case side4 => refine zY HGMax.out ?_; exact bq2 GE101.out GE115.out); rintro e w38 ⟨rfl, hb⟩; refine ⟨_, rfl, ?_⟩; replace HO_6 := ak (Kd.R_below (rdq HO_6.out) hb); replace HO_116002 := ak (Kd.R_below (rdq HO_116002.out) hb); replace BK101 := ak (ze (blq BK101.out) hb); replace BK115 := ak (ze (blq BK115.out) hb); replace HB := ak (zb (bq2 GE101.out GE115.out) hb); (try clear hb)) | ((with_reducible refine za (f := 24) rfl ?_); refine cl 54 rfl Tryz.func24 #[.int .i64 t120] (xX.calls t120 t121 _ A37.out) ?_; rintro e w' ⟨rfl, ⟨nd, rfl⟩⟩; refine ⟨_, rfl, ?_⟩; (try (rw [qT w38]; generalize hq_ : World.drewN w38 _ = w38; have n0_ : Aside0 (Kd.R k55 55 w38 w.heap.size (fun k_ => some k_ ≠ (.slice Ao10 t103.length co10 : Value).ownBlock) (.slice Ao17 t112.length co17) t112) := ⟨by rw [← hq_]; exact (rdq HO_116002.out)⟩; have n1_ : Aside0 (Kd.R k55 55 w38 w.heap.size (fun k_ => some k_ ≠ (.slice Ao17 t112.length co17 : Value).ownBlock) (.slice Ao10 t103.length co10) t103) := ⟨by rw [← hq_]; exact (rdq HO_6.out)⟩; have n2_ : Aside0 (w38.heap[gb101]? = some (.cells #[.string ⟨#[]⟩, .string ⟨#[]⟩, .slice none 0 0, .string ⟨#[]⟩] 26 (0, 0))) := ⟨by rw [← hq_]; exact (blq BK101.out)⟩; have n3_ : Aside0 (w38.heap[gb115]? = some (.cells #[.string (rdOf ByteArray.empty t102 0), .string (rdOf ByteArray.empty t102 1), .slice Ao17 t112.length co17, .string ⟨#[]⟩] 26 (0, 0))) := ⟨by rw [← hq_]; exact (blq BK115.out)⟩; have n4_ : Aside0 (Below w.heap.size w w38) := ⟨by rw [← hq_]; exact (bq2 GE101.out GE115.out)⟩; clear HO_116002 HO_6 BK101 BK115 HB hq_; have HO_116002 := n0_; have HO_6 := n1_; have BK101 := n2_; have BK115 := n3_; have HB := n4_; clear n0_ n1_ n2_ n3_ n4_)); have hnb39 := NB101_115.out; have hnc39 := NB115_101.out; obtain ⟨hcz40_0, hcz40_1, hcz40_2, hcz40_3, hfz40_0, hfz40_1, hfz40_2, hfz40_3⟩ := blk4 BK101.out))
      refine bodyPost_ret (qk rfl _ _ gb101 26 #[.string ⟨#[]⟩, .string ⟨#[]⟩, .slice none 0 0, .string ⟨#[]⟩] (0, 0) _ rfl (blp0 BK101.out) Tryz.underlying26 rfl (by kernel_rfl)) rfl ?_
      exact ⟨_, rv, Kd.R_nil _ _ _ _ _, bq2 GE101.out GE115.out⟩
 ·obtain ⟨rfl, rfl, rfl, rfl, rfl, rfl⟩ := oi6 H
  go_enter Tryz.func7, Tryz.ntmps7
  go_wp2_with (first | ((with_reducible refine zl (N := 2) rfl ?_); refine bx 2 #[.string ⟨#[]⟩, .string ⟨#[]⟩, .slice none 0 0, .string ⟨#[]⟩] 26 ?_; intro gb101 hg w41 hbox hb; have BK101 := ak (hbox); have GW101 := ak ((by rw [hg]; exact (zd bq) : w.heap.size ≤ gb101)); have GE101 := GW101; replace HB := ak (zb bq hb); clear hb hbox hg) | ((with_reducible refine za (f := 21) rfl ?_); refine cl 15 rfl Tryz.func21 #[.string a0] (zL.calls k a0 t102 t103 t104 t105 _ ?side1 A2.out) ?_; (case side1 => refine zY HGMax.out ?_; exact bq1 GE101.out); rintro e w42 ⟨v106, v108, rfl, ho0, ho1, hb⟩; refine ⟨_, rfl, ?_⟩; have HO107 := ak (Kd.R_lower ho0 (zd (bq1 GE101.out))); have HO109 := ak (Kd.R_lower ho1 (zd (bq1 GE101.out))); replace BK101 := ak (ze (blq BK101.out) hb); replace HB := ak (zb (bq1 GE101.out) hb); (try clear hb ho0 ho1); obtain ⟨hcz43_0, hcz43_1, hcz43_2, hcz43_3, hfz43_0, hfz43_1, hfz43_2, hfz43_3⟩ := blk4 BK101.out))
  refine bodyPost_ret (qk rfl _ _ gb101 26 #[.string ⟨#[]⟩, .string ⟨#[]⟩, .slice none 0 0, .string ⟨#[]⟩] (0, 0) _ rfl (blp0 BK101.out) Tryz.underlying26 rfl (by kernel_rfl)) rfl ?_
  exact ⟨_, rv, Kd.R_nil _ _ _ _ _, bq1 GE101.out⟩
def zx.l0 : Nat → ByteArray → Int → Option (Bool)
 | 0, _, _ => none
 | k + 1, x0, x3 => if x3 < (x0.size : Int) then (if 0 ≤ x3 then ((xW.f (bt x0 x3)).bind fun t101 => (if t101 = true then (zx.l0 k x0 (wrap64 (x3 + 1))) else (some false))) else (none)) else (some (decide ((x0.size : Int) > 0)))
def zx.f (k : Nat) (a0 : ByteArray) : Option (Bool) := zx.l0 k a0 0
theorem zx.mono_l : ∀ k, (∀ y0 y1, LeO (zx.l0 k y0 y1) (zx.l0 (k + 1) y0 y1))
 | 0 => fun _ _ r h => by simp [zx.l0] at h
 | k + 1 => by
  have ih0 := zx.mono_l k
  ·intro y0 y1
   unfold zx.l0
   exact mq1 ih0
theorem zx.mono : ∀ a0 k, LeO (zx.f k a0) (zx.f (k + 1) a0) := by
 intro a0 k
 have ih0 := zx.mono_l k
 unfold zx.f
 exact mq1 ih0
theorem zx.calls (k : Nat) (a0 : ByteArray) (r : Bool) (w : World) (h : zx.f k a0 = some r) :
  Calls Tryz.prog 25 #[.string a0] w fun e w' => e = .returned (.bool r) ∧ Drawn0 w w' := by
 have H : (zx.l0 k a0 0) = some r := h
 clear h
 have H' := ak H
 clear H
 go_enter Tryz.func25, Tryz.ntmps25
 go_wp2
 go_loopg [3] k (fun kq v3 w' => ∃ (x3_1 : Int), v3 = .int .i64 x3_1 ∧ Aside0 (zx.l0 kq a0 x3_1 = some r) ∧ Aside0 (kq ≤ k) ∧ Drawn0 w w')
 case atStart => exact ⟨(0), rs, H', ⟨Nat.le_refl _⟩, by repeat (first | exact Drawn0.refl _ | apply yv)⟩
 case round =>
  clear H'
  obtain ⟨x3_1, rfl, HA, HK1, ⟨m1, rfl⟩⟩ := hrel
  cases gk with
  | zero => exact absurd HA.out (by simp [zx.l0])
  | succ k1 =>
   have H := HA.out
   clear HA
   simp only [zx.l0] at H
   replace H := sd H
   rcases H with ⟨c2b0, H⟩ | ⟨c2b0, H⟩
   ·replace H := sT H
    obtain ⟨c3, H⟩ := H
    have c3b0 := decide_eq_true c3
    clear c3
    replace H := ob H
    obtain ⟨t101, A5, H⟩ := H
    replace H := sb H
    rcases H with ⟨rfl, H⟩ | ⟨rfl, H⟩
    ·have H' := ak H
     clear H
     have p4 : 0 ≤ (x3_1 : Int) := of_decide_eq_true asm
     have q4 : x3_1 < (a0.size : Int) := of_decide_eq_true asm
     have hx4 := bt_at a0 x3_1
     replace p4 := eq_true p4
     replace q4 := eq_true q4
     go_wp2_with (first | ((with_reducible refine za (f := 57) rfl ?_); refine cl 13 rfl Tryz.func57 #[.int .u8 (bt a0 x3_1)] (xW.calls (bt a0 x3_1) true _ A5.out) ?_; rintro e w' ⟨rfl, ⟨nd, rfl⟩⟩; refine ⟨_, rfl, ?_⟩))
     go_roundg k1
     case measure => have := HK1.out; omega
     case rel => exact ⟨(wrap64 (x3_1 + 1)), rs, H', ⟨by have := HK1.out; omega⟩, by repeat (first | exact Drawn0.refl _ | apply yv)⟩
    ·obtain rfl := oi1 H
     have p4 : 0 ≤ (x3_1 : Int) := of_decide_eq_true asm
     have q4 : x3_1 < (a0.size : Int) := of_decide_eq_true asm
     have hx4 := bt_at a0 x3_1
     replace p4 := eq_true p4
     replace q4 := eq_true q4
     go_wp2_with (first | ((with_reducible refine za (f := 57) rfl ?_); refine cl 13 rfl Tryz.func57 #[.int .u8 (bt a0 x3_1)] (xW.calls (bt a0 x3_1) false _ A5.out) ?_; rintro e w' ⟨rfl, ⟨nd, rfl⟩⟩; refine ⟨_, rfl, ?_⟩))
     go_ret
     exact ⟨rt, dr⟩
   ·obtain rfl := oi1 H
    go_wp2
    go_ret
    exact ⟨rt, dr⟩
def yA.l0 : Nat → ByteArray → Int → Option (Bool)
 | 0, _, _ => none
 | k + 1, x0, x3 => if x3 < (x0.size : Int) then (if 0 ≤ x3 then (if (bt x0 x3) ≤ 32 then (some false) else (if (bt x0 x3) ≥ 127 then (some false) else (yA.l0 k x0 (wrap64 (x3 + 1))))) else (none)) else ((yZ.f (x0.size : Int) 1 20).bind fun t101 => (if t101 = true then (if 0 < (x0.size : Int) then (some ((bt x0 0) == 47)) else (none)) else (some false)))
def yA.f (k : Nat) (a0 : ByteArray) : Option (Bool) := yA.l0 k a0 0
theorem yA.mono_l : ∀ k, (∀ y0 y1, LeO (yA.l0 k y0 y1) (yA.l0 (k + 1) y0 y1))
 | 0 => fun _ _ r h => by simp [yA.l0] at h
 | k + 1 => by
  have ih0 := yA.mono_l k
  ·intro y0 y1
   unfold yA.l0
   exact mq1 ih0
theorem yA.mono : ∀ a0 k, LeO (yA.f k a0) (yA.f (k + 1) a0) := by
 intro a0 k
 have ih0 := yA.mono_l k
 unfold yA.f
 exact mq1 ih0
theorem yA.calls (k : Nat) (a0 : ByteArray) (r : Bool) (w : World) (h : yA.f k a0 = some r) :
  Calls Tryz.prog 26 #[.string a0] w fun e w' => e = .returned (.bool r) ∧ Drawn0 w w' := by
 have H : (yA.l0 k a0 0) = some r := h
 clear h
 have H' := ak H
 clear H
 go_enter Tryz.func26, Tryz.ntmps26
 go_wp2
 go_loopg [3] k (fun kq v3 w' => ∃ (x3_1 : Int), v3 = .int .i64 x3_1 ∧ Aside0 (yA.l0 kq a0 x3_1 = some r) ∧ Aside0 (kq ≤ k) ∧ Drawn0 w w')
 case atStart => exact ⟨(0), rs, H', ⟨Nat.le_refl _⟩, by repeat (first | exact Drawn0.refl _ | apply yv)⟩
 case round =>
  clear H'
  obtain ⟨x3_1, rfl, HA, HK1, ⟨m1, rfl⟩⟩ := hrel
  cases gk with
  | zero => exact absurd HA.out (by simp [yA.l0])
  | succ k1 =>
   have H := HA.out
   clear HA
   simp only [yA.l0] at H
   replace H := sd H
   rcases H with ⟨c2b0, H⟩ | ⟨c2b0, H⟩
   ·replace H := sT H
    obtain ⟨c3, H⟩ := H
    have c3b0 := decide_eq_true c3
    clear c3
    replace H := sd H
    rcases H with ⟨c5b0, H⟩ | ⟨c5b0, H⟩
    ·obtain rfl := oi1 H
     have p4 : 0 ≤ (x3_1 : Int) := of_decide_eq_true asm
     have q4 : x3_1 < (a0.size : Int) := of_decide_eq_true asm
     have hx4 := bt_at a0 x3_1
     replace p4 := eq_true p4
     replace q4 := eq_true q4
     go_wp2
     go_ret
     exact ⟨rt, dr⟩
    ·replace H := sd H
     rcases H with ⟨c7b0, H⟩ | ⟨c7b0, H⟩
     ·obtain rfl := oi1 H
      have p4 : 0 ≤ (x3_1 : Int) := of_decide_eq_true asm
      have q4 : x3_1 < (a0.size : Int) := of_decide_eq_true asm
      have hx4 := bt_at a0 x3_1
      replace p4 := eq_true p4
      replace q4 := eq_true q4
      have p6 : 0 ≤ (x3_1 : Int) := of_decide_eq_true asm
      have q6 : x3_1 < (a0.size : Int) := of_decide_eq_true asm
      have hx6 := bt_at a0 x3_1
      replace p6 := eq_true p6
      replace q6 := eq_true q6
      go_wp2
      go_ret
      exact ⟨rt, dr⟩
     ·have H' := ak H
      clear H
      have p4 : 0 ≤ (x3_1 : Int) := of_decide_eq_true asm
      have q4 : x3_1 < (a0.size : Int) := of_decide_eq_true asm
      have hx4 := bt_at a0 x3_1
      replace p4 := eq_true p4
      replace q4 := eq_true q4
      have p6 : 0 ≤ (x3_1 : Int) := of_decide_eq_true asm
      have q6 : x3_1 < (a0.size : Int) := of_decide_eq_true asm
      have hx6 := bt_at a0 x3_1
      replace p6 := eq_true p6
      replace q6 := eq_true q6
      go_wp2
      go_roundg k1
      case measure => have := HK1.out; omega
      case rel => exact ⟨(wrap64 (x3_1 + 1)), rs, H', ⟨by have := HK1.out; omega⟩, by repeat (first | exact Drawn0.refl _ | apply yv)⟩
   ·replace H := ob H
    obtain ⟨t101, A8, H⟩ := H
    replace H := sb H
    rcases H with ⟨rfl, H⟩ | ⟨rfl, H⟩
    ·replace H := sT H
     obtain ⟨c10, H⟩ := H
     have c10b0 := decide_eq_true c10
     have c10b1 : decide (0 < a0.size) = true := decide_eq_true (by omega)
     clear c10
     obtain rfl := oi1 H
     go_wp2_with (first | ((with_reducible refine za (f := 34) rfl ?_); refine cl 22 rfl Tryz.func34 #[.int .i64 (a0.size : Int), .int .i64 1, .int .i64 20] (yZ.calls (a0.size : Int) 1 20 true _ A8.out) ?_; rintro e w' ⟨rfl, ⟨nd, rfl⟩⟩; refine ⟨_, rfl, ?_⟩; have p11 : 0 ≤ (0 : Int) := (by omega); have q11 : 0 < a0.size := (by have : (0 : Int) < (a0.size : Int) := of_decide_eq_true asm; omega); have hx11 : ∀ h : 0 < a0.size, ((a0[0]'h).toNat : Int) = bt a0 0 := bt_at a0 0; clear p11; have qi11 : (0 < (a0.size : Int)) = True := eq_true (of_decide_eq_true asm); replace q11 := eq_true q11))
     go_ret
     exact ⟨rt, dr⟩
    ·obtain rfl := oi1 H
     go_wp2_with (first | ((with_reducible refine za (f := 34) rfl ?_); refine cl 22 rfl Tryz.func34 #[.int .i64 (a0.size : Int), .int .i64 1, .int .i64 20] (yZ.calls (a0.size : Int) 1 20 false _ A8.out) ?_; rintro e w' ⟨rfl, ⟨nd, rfl⟩⟩; refine ⟨_, rfl, ?_⟩))
     go_ret
     exact ⟨rt, dr⟩
def zH.l0 : Nat → List (S55) → ByteArray → ByteArray → Bool → Int → Option (ByteArray × Bool)
 | 0, _, _, _, _, _ => none
 | k + 1, x0, x1, x6, x7, x8 => if x8 < (x0.length : Int) then (if 0 ≤ x8 then (if ((zV x0 x8).f0).toList = x1.toList then (if x7 = true then (if x6.size + 2 ≤ 9223372036854775807 then (if (x6 ++ (⟨#[44, 32]⟩ : ByteArray)).size + ((zV x0 x8).f1).size ≤ 9223372036854775807 then (zH.l0 k x0 x1 ((x6 ++ (⟨#[44, 32]⟩ : ByteArray)) ++ ((zV x0 x8).f1)) true (wrap64 (x8 + 1))) else (none)) else (none)) else (if x6.size + ((zV x0 x8).f1).size ≤ 9223372036854775807 then (zH.l0 k x0 x1 (x6 ++ ((zV x0 x8).f1)) true (wrap64 (x8 + 1))) else (none))) else (zH.l0 k x0 x1 x6 x7 (wrap64 (x8 + 1)))) else (none)) else (some (x6, x7))
def zH.f (k : Nat) (l0 : List (S55)) (a1 : ByteArray) : Option (ByteArray × Bool) := zH.l0 k l0 a1 (⟨#[]⟩ : ByteArray) false 0
theorem zH.mono_l : ∀ k, (∀ y0 y1 y2 y3 y4, LeO (zH.l0 k y0 y1 y2 y3 y4) (zH.l0 (k + 1) y0 y1 y2 y3 y4))
 | 0 => fun _ _ _ _ _ r h => by simp [zH.l0] at h
 | k + 1 => by
  have ih0 := zH.mono_l k
  ·intro y0 y1 y2 y3 y4
   unfold zH.l0
   exact mq1 ih0
theorem zH.mono : ∀ a0 a1 k, LeO (zH.f k a0 a1) (zH.f (k + 1) a0 a1) := by
 intro a0 a1 k
 have ih0 := zH.mono_l k
 unfold zH.f
 exact mq1 ih0
theorem zH.calls (k : Nat) (A0 : Option Addr) (c0 : Nat) (l0 : List (S55)) (a1 : ByteArray) (r1 : ByteArray) (r2 : Bool) (w : World) (hr0 : Kd.C k55 w A0 l0.length l0) (hc0 : l0.length ≤ c0) (h : zH.f k l0 a1 = some (r1, r2)) :
  Calls Tryz.prog 58 #[.slice A0 l0.length c0, .string a1] w fun e w' => e = .returned (.tuple #[.string r1, .bool r2]) ∧ Drawn0 w w' := by
 have HR0 := ak hr0
 have HC0 := ak hc0
 clear hr0 hc0
 have H : (zH.l0 k l0 a1 (⟨#[]⟩ : ByteArray) false 0) = some (r1, r2) := h
 clear h
 have H' := ak H
 clear H
 go_enter Tryz.func58, Tryz.ntmps58
 go_wp2
 go_loopg [6, 7, 8] k (fun kq v6 v7 v8 w' => ∃ (x6_1 : ByteArray) (x7_1 : Bool) (x8_1 : Int), v6 = .string x6_1 ∧ v7 = .bool x7_1 ∧ v8 = .int .i64 x8_1 ∧ Aside0 (zH.l0 kq l0 a1 x6_1 x7_1 x8_1 = some (r1, r2)) ∧ Aside0 (kq ≤ k) ∧ Drawn0 w w')
 case atStart => exact ⟨((⟨#[]⟩ : ByteArray)), (false), (0), rs, rs, rs, H', ⟨Nat.le_refl _⟩, by repeat (first | exact Drawn0.refl _ | apply yv)⟩
 case round =>
  clear H'
  obtain ⟨x6_1, x7_1, x8_1, rfl, rfl, rfl, HA, HK1, ⟨m1, rfl⟩⟩ := hrel
  cases gk with
  | zero => exact absurd HA.out (by simp [zH.l0])
  | succ k1 =>
   have H := HA.out
   clear HA
   simp only [zH.l0] at H
   replace H := sd H
   rcases H with ⟨c3b0, H⟩ | ⟨c3b0, H⟩
   ·replace H := sT H
    obtain ⟨c4, H⟩ := H
    have c4b0 := decide_eq_true c4
    clear c4
    replace H := se H
    rcases H with ⟨c5b0, c5b1, H⟩ | ⟨c5, c5b0, c5b1, H⟩
    ·replace H := sb H
     rcases H with ⟨rfl, H⟩ | ⟨rfl, H⟩
     ·replace H := sK H
      obtain ⟨c7, c7b0, c7b1, H⟩ := H
      replace H := sK H
      obtain ⟨c8, c8b0, c8b1, H⟩ := H
      have H' := ak H
      clear H
      have p101 : 0 ≤ (x8_1 : Int) := of_decide_eq_true asm
      have q101 : x8_1 < (l0.length : Int) := of_decide_eq_true asm
      obtain ⟨ad101, e101, hx101_0, hx101_1⟩ := qO HR0.out x8_1 p101 q101
      cases e101
      replace p101 := eq_true p101
      replace q101 := eq_true q101
      have p102 : 0 ≤ (x8_1 : Int) := of_decide_eq_true asm
      have q102 : x8_1 < (l0.length : Int) := of_decide_eq_true asm
      obtain ⟨ad102, e102, hx102_0, hx102_1⟩ := qO HR0.out x8_1 p102 q102
      obtain rfl : ad101 = ad102 := (by injection e102)
      replace p102 := eq_true p102
      replace q102 := eq_true q102
      go_wp2
      go_roundg k1
      case measure => have := HK1.out; omega
      case rel => exact ⟨((x6_1 ++ (⟨#[44, 32]⟩ : ByteArray)) ++ ((zV l0 x8_1).f1)), (true), (wrap64 (x8_1 + 1)), rs, rs, rs, H', ⟨by have := HK1.out; omega⟩, by repeat (first | exact Drawn0.refl _ | apply yv)⟩
     ·replace H := sK H
      obtain ⟨c9, c9b0, c9b1, H⟩ := H
      have H' := ak H
      clear H
      have p101 : 0 ≤ (x8_1 : Int) := of_decide_eq_true asm
      have q101 : x8_1 < (l0.length : Int) := of_decide_eq_true asm
      obtain ⟨ad101, e101, hx101_0, hx101_1⟩ := qO HR0.out x8_1 p101 q101
      cases e101
      replace p101 := eq_true p101
      replace q101 := eq_true q101
      have p103 : 0 ≤ (x8_1 : Int) := of_decide_eq_true asm
      have q103 : x8_1 < (l0.length : Int) := of_decide_eq_true asm
      obtain ⟨ad103, e103, hx103_0, hx103_1⟩ := qO HR0.out x8_1 p103 q103
      obtain rfl : ad101 = ad103 := (by injection e103)
      replace p103 := eq_true p103
      replace q103 := eq_true q103
      go_wp2
      go_roundg k1
      case measure => have := HK1.out; omega
      case rel => exact ⟨(x6_1 ++ ((zV l0 x8_1).f1)), (true), (wrap64 (x8_1 + 1)), rs, rs, rs, H', ⟨by have := HK1.out; omega⟩, by repeat (first | exact Drawn0.refl _ | apply yv)⟩
    ·have H' := ak H
     clear H
     have p101 : 0 ≤ (x8_1 : Int) := of_decide_eq_true asm
     have q101 : x8_1 < (l0.length : Int) := of_decide_eq_true asm
     obtain ⟨ad101, e101, hx101_0, hx101_1⟩ := qO HR0.out x8_1 p101 q101
     cases e101
     replace p101 := eq_true p101
     replace q101 := eq_true q101
     go_wp2
     go_roundg k1
     case measure => have := HK1.out; omega
     case rel => exact ⟨(x6_1), (x7_1), (wrap64 (x8_1 + 1)), rs, rs, rs, H', ⟨by have := HK1.out; omega⟩, by repeat (first | exact Drawn0.refl _ | apply yv)⟩
   ·obtain ⟨rfl, rfl⟩ := oi2 H
    go_wp2
    go_ret2
    exact ⟨rt, dr⟩
def xK.f (a0 : Int) : Option (Bool) := if a0 = 32 then (some true) else (some (a0 == 9))
theorem xK.calls (a0 : Int) (r : Bool) (w : World) (h : xK.f a0 = some r) :
  Calls Tryz.prog 148 #[.int .u8 a0] w fun e w' => e = .returned (.bool r) ∧ Drawn0 w w' := by
 have H : (if a0 = 32 then (some true) else (some (a0 == 9))) = some r := h
 clear h
 replace H := se H
 rcases H with ⟨c2b0, c2b1, H⟩ | ⟨c2, c2b0, c2b1, H⟩
 ·obtain rfl := oi1 H
  go_enter Tryz.func148, Tryz.ntmps148
  go_wp2
  go_ret
  exact ⟨rt, dr⟩
 ·obtain rfl := oi1 H
  go_enter Tryz.func148, Tryz.ntmps148
  go_wp2
  go_ret
  exact ⟨rt, dr⟩
mutual
def zT.j1 : Nat → ByteArray → Option (ByteArray)
 | 0, _ => none
 | k + 1, x0 => zT.l1 k x0
def zT.l1 : Nat → ByteArray → Option (ByteArray)
 | 0, _ => none
 | k + 1, x0 => if (x0.size : Int) > 0 then (if 0 ≤ (wrap64 ((x0.size : Int) - 1)) then (if (wrap64 ((x0.size : Int) - 1)) < (x0.size : Int) then ((xK.f (bt x0 (wrap64 ((x0.size : Int) - 1)))).bind fun t102 => (if t102 = true then (if (wrap64 ((x0.size : Int) - 1)) ≤ (x0.size : Int) then (zT.l1 k (x0.extract 0 ((wrap64 ((x0.size : Int) - 1)) : Int).toNat)) else (none)) else (some x0))) else (none)) else (none)) else (some x0)
def zT.l0 : Nat → ByteArray → Option (ByteArray)
 | 0, _ => none
 | k + 1, x0 => if (x0.size : Int) > 0 then (if 0 < (x0.size : Int) then ((xK.f (bt x0 0)).bind fun t101 => (if t101 = true then (if 1 ≤ (x0.size : Int) then (zT.l0 k (x0.extract 1 x0.size)) else (none)) else (zT.j1 k x0))) else (none)) else (zT.j1 k x0)
end
def zT.f (k : Nat) (a0 : ByteArray) : Option (ByteArray) := zT.l0 k a0
theorem zT.mono_l : ∀ k, (∀ y0, LeO (zT.j1 k y0) (zT.j1 (k + 1) y0)) ∧ (∀ y0, LeO (zT.l1 k y0) (zT.l1 (k + 1) y0)) ∧ (∀ y0, LeO (zT.l0 k y0) (zT.l0 (k + 1) y0))
 | 0 => ⟨fun _ r h => by simp [zT.j1] at h, fun _ r h => by simp [zT.l1] at h, fun _ r h => by simp [zT.l0] at h⟩
 | k + 1 => by
  obtain ⟨ih0, ih1, ih2⟩ := zT.mono_l k
  refine ⟨?_, ?_, ?_⟩
  ·intro y0
   unfold zT.j1
   exact mq3 ih0 ih1 ih2
  ·intro y0
   unfold zT.l1
   exact mq3 ih0 ih1 ih2
  ·intro y0
   unfold zT.l0
   exact mq3 ih0 ih1 ih2
theorem zT.mono : ∀ a0 k, LeO (zT.f k a0) (zT.f (k + 1) a0) := by
 intro a0 k
 obtain ⟨ih0, ih1, ih2⟩ := zT.mono_l k
 unfold zT.f
 exact mq3 ih0 ih1 ih2
theorem zT.calls (k : Nat) (a0 : ByteArray) (r : ByteArray) (w : World) (h : zT.f k a0 = some r) :
  Calls Tryz.prog 133 #[.string a0] w fun e w' => e = .returned (.string r) ∧ Drawn0 w w' := by
 have H : (zT.l0 k a0) = some r := h
 clear h
 have HC2 := ak H
 clear H
 go_enter Tryz.func133, Tryz.ntmps133
 go_upto_block 0 with (fail)
 go_cut [0] (fun v0 wc => ∃ (kq : Nat) (x0_1 : ByteArray), v0 = .string x0_1 ∧ Aside0 (zT.j1 kq x0_1 = some r) ∧ Aside0 (kq ≤ k) ∧ Drawn0 w wc)
 case first =>
  have H := HC2.out
  clear HC2
  have H' := ak H
  clear H
  go_wp2
  go_loopg [0] k (fun kq v0 w' => ∃ (x0_1 : ByteArray), v0 = .string x0_1 ∧ Aside0 (zT.l0 kq x0_1 = some r) ∧ Aside0 (kq ≤ k) ∧ Drawn0 w w')
  case atStart => exact ⟨(a0), rs, H', ⟨Nat.le_refl _⟩, by repeat (first | exact Drawn0.refl _ | apply yv)⟩
  case round =>
   clear H'
   obtain ⟨x0_1, rfl, HA, HK1, ⟨m1, rfl⟩⟩ := hrel
   cases gk with
   | zero => exact absurd HA.out (by simp [zT.l0])
   | succ k1 =>
    have H := HA.out
    clear HA
    simp only [zT.l0] at H
    replace H := si H
    rcases H with ⟨c3, H⟩ | ⟨c3, H⟩
    ·have c3b0 := decide_eq_true c3
     have c3b1 : decide (0 < x0_1.size) = true := decide_eq_true (by omega)
     clear c3
     (first | rw [c3b0] | (simp only [i64_w, i32_w]; rw [c3b0]) | skip)
     replace H := sT H
     obtain ⟨c4, H⟩ := H
     have c4b0 := decide_eq_true c4
     have c4b1 : decide (0 < x0_1.size) = true := decide_eq_true (by omega)
     clear c4
     replace H := ob H
     obtain ⟨t101, A6, H⟩ := H
     replace H := sb H
     rcases H with ⟨rfl, H⟩ | ⟨rfl, H⟩
     ·replace H := sG H
      obtain ⟨c8b0, c8b1, H⟩ := H
      have H' := ak H
      clear H
      have p5 : 0 ≤ (0 : Int) := (by omega)
      have q5 : 0 < x0_1.size := (by have : (0 : Int) < (x0_1.size : Int) := of_decide_eq_true asm; omega)
      have hx5 : ∀ h : 0 < x0_1.size, ((x0_1[0]'h).toNat : Int) = bt x0_1 0 := bt_at x0_1 0
      clear p5
      have qi5 : (0 < (x0_1.size : Int)) = True := eq_true (of_decide_eq_true asm)
      replace q5 := eq_true q5
      go_wp2_with (first | (go_at_call 148; (with_reducible refine (xK.calls (bt x0_1 0) true _ A6.out).mono ?_); rintro e w' ⟨rfl, ⟨nd, rfl⟩⟩))
      go_roundg k1
      case measure => have := HK1.out; omega
      case rel => exact ⟨(x0_1.extract 1 x0_1.size), rs, H', ⟨by have := HK1.out; omega⟩, by repeat (first | exact Drawn0.refl _ | apply yv)⟩
     ·have H' := ak H
      clear H
      have p5 : 0 ≤ (0 : Int) := (by omega)
      have q5 : 0 < x0_1.size := (by have : (0 : Int) < (x0_1.size : Int) := of_decide_eq_true asm; omega)
      have hx5 : ∀ h : 0 < x0_1.size, ((x0_1[0]'h).toNat : Int) = bt x0_1 0 := bt_at x0_1 0
      clear p5
      have qi5 : (0 < (x0_1.size : Int)) = True := eq_true (of_decide_eq_true asm)
      replace q5 := eq_true q5
      go_wp2_with (first | (go_at_call 148; (with_reducible refine (xK.calls (bt x0_1 0) false _ A6.out).mono ?_); rintro e w' ⟨rfl, ⟨nd, rfl⟩⟩))
      go_meet
      case rel => exact ⟨_, (x0_1), rs, H', ⟨by have := HK1.out; first | omega | exact Nat.le_refl _⟩, by repeat (first | exact Drawn0.refl _ | apply yv)⟩
    ·have c3b0 := decide_eq_false c3
     have c3b1 : decide (0 < x0_1.size) = false := decide_eq_false (by omega)
     clear c3
     (first | rw [c3b0] | (simp only [i64_w, i32_w]; rw [c3b0]) | skip)
     have H' := ak H
     clear H
     go_wp2
     go_meet
     case rel => exact ⟨_, (x0_1), rs, H', ⟨by have := HK1.out; first | omega | exact Nat.le_refl _⟩, by repeat (first | exact Drawn0.refl _ | apply yv)⟩
 case rest =>
  clear HC2
  try clear q5
  try clear hx5
  try clear qi5
  try clear q5
  obtain ⟨kq, x0_1, rfl, HA, HJ1, ⟨mc1, rfl⟩⟩ := hcut
  cases kq with
  | zero => exact absurd HA.out (by simp [zT.j1])
  | succ kj1 =>
   have H := HA.out
   clear HA
   simp only [zT.j1] at H
   have H' := ak H
   clear H
   go_wp2
   go_loopg [0] kj1 (fun kq v0 w' => ∃ (x0_2 : ByteArray), v0 = .string x0_2 ∧ Aside0 (zT.l1 kq x0_2 = some r) ∧ Aside0 (kq ≤ kj1) ∧ Drawn0 w w')
   case atStart => exact ⟨(x0_1), rs, H', ⟨Nat.le_refl _⟩, by repeat (first | exact Drawn0.refl _ | apply yv)⟩
   case round =>
    clear H'
    try clear q5
    try clear hx5
    try clear qi5
    try clear q5
    obtain ⟨x0_2, rfl, HA, HK2, ⟨m2, rfl⟩⟩ := hrel
    cases gk with
    | zero => exact absurd HA.out (by simp [zT.l1])
    | succ k2 =>
     have H := HA.out
     clear HA
     simp only [zT.l1] at H
     replace H := si H
     rcases H with ⟨c9, H⟩ | ⟨c9, H⟩
     ·have c9b0 := decide_eq_true c9
      have c9b1 : decide (0 < x0_2.size) = true := decide_eq_true (by omega)
      clear c9
      obtain ⟨ji10, hji10⟩ : ∃ j_ : Int, (wrap64 ((x0_2.size : Int) - 1)) = j_ := ⟨_, rfl⟩
      replace H : (if 0 ≤ (ji10) then (if (ji10) < (x0_2.size : Int) then ((xK.f (bt x0_2 (ji10))).bind fun t102 => (if t102 = true then (if (ji10) ≤ (x0_2.size : Int) then (zT.l1 k2 (x0_2.extract 0 ((ji10) : Int).toNat)) else (none)) else (some x0_2))) else (none)) else (none)) = some r := by first | (rw [hji10] at H; exact H) | (simp only [hji10] at H ⊢; exact H)
      have hji10w : (IntKind.i64.wrap ((x0_2.size : Int) - 1)) = ji10 := (i64_w _).trans hji10
      replace H := sT H
      obtain ⟨c11, H⟩ := H
      have c11b0 := decide_eq_true c11
      clear c11
      replace H := sT H
      obtain ⟨c12, H⟩ := H
      have c12b0 := decide_eq_true c12
      clear c12
      replace H := ob H
      obtain ⟨t102, A14, H⟩ := H
      replace H := sb H
      rcases H with ⟨rfl, H⟩ | ⟨rfl, H⟩
      ·have c16b0 := eq_true (of_decide_eq_true asm : 0 ≤ (ji10))
       replace H := sG H
       obtain ⟨c17b0, c17b1, H⟩ := H
       have H' := ak H
       clear H
       have p13 : 0 ≤ ((ji10) : Int) := of_decide_eq_true asm
       have q13 : (ji10) < (x0_2.size : Int) := of_decide_eq_true asm
       have hx13 := bt_at x0_2 (ji10)
       replace p13 := eq_true p13
       replace q13 := eq_true q13
       go_wp2_with (first | (go_at_call 148; (with_reducible refine (xK.calls (bt x0_2 (ji10)) true _ A14.out).mono ?_); rintro e w' ⟨rfl, ⟨nd, rfl⟩⟩))
       go_roundg k2
       case measure => have := HJ1.out; have := HK2.out; omega
       case rel => exact ⟨(x0_2.extract 0 ((ji10) : Int).toNat), (by first | rfl | (simp; done) | (simp only [← hji10] <;> (first | rfl | simp)) | (simp [*]; done)), H', ⟨by have := HJ1.out; have := HK2.out; omega⟩, by repeat (first | exact Drawn0.refl _ | apply yv)⟩
      ·obtain rfl := oi1 H
       have p13 : 0 ≤ ((ji10) : Int) := of_decide_eq_true asm
       have q13 : (ji10) < (x0_2.size : Int) := of_decide_eq_true asm
       have hx13 := bt_at x0_2 (ji10)
       replace p13 := eq_true p13
       replace q13 := eq_true q13
       go_wp2_with (first | (go_at_call 148; (with_reducible refine (xK.calls (bt x0_2 (ji10)) false _ A14.out).mono ?_); rintro e w' ⟨rfl, ⟨nd, rfl⟩⟩))
       go_ret
       exact ⟨by first | rfl | (simp; done) | (simp only [← hji10] <;> (first | rfl | simp)) | (simp [*]; done) | (simp; generalize ByteArray.toList _ = L_; cases L_ <;> rfl), by repeat (first | exact Drawn0.refl _ | apply yv)⟩
     ·have c9b0 := decide_eq_false c9
      have c9b1 : decide (0 < x0_2.size) = false := decide_eq_false (by omega)
      clear c9
      obtain rfl := oi1 H
      go_wp2
      go_ret
      exact ⟨rt, dr⟩
def zD.l0 : Nat → ByteArray → Int → Option (Bool)
 | 0, _, _ => none
 | k + 1, x0, x3 => if x3 < (x0.size : Int) then (if 0 ≤ x3 then (if (bt x0 x3) = 9 then (zD.l0 k x0 (wrap64 (x3 + 1))) else (if (bt x0 x3) < 32 then (some false) else (if (bt x0 x3) = 127 then (some false) else (zD.l0 k x0 (wrap64 (x3 + 1)))))) else (none)) else ((zT.f k x0).bind fun t101 => (some (t101.toList == x0.toList)))
def zD.f (k : Nat) (a0 : ByteArray) : Option (Bool) := zD.l0 k a0 0
theorem zD.mono_l : ∀ k, (∀ y0 y1, LeO (zD.l0 k y0 y1) (zD.l0 (k + 1) y0 y1))
 | 0 => fun _ _ r h => by simp [zD.l0] at h
 | k + 1 => by
  have ih0 := zD.mono_l k
  ·intro y0 y1
   unfold zD.l0
   exact mq2 ih0 zT.mono
theorem zD.mono : ∀ a0 k, LeO (zD.f k a0) (zD.f (k + 1) a0) := by
 intro a0 k
 have ih0 := zD.mono_l k
 unfold zD.f
 exact mq2 ih0 zT.mono
theorem zD.calls (k : Nat) (a0 : ByteArray) (r : Bool) (w : World) (h : zD.f k a0 = some r) :
  Calls Tryz.prog 115 #[.string a0] w fun e w' => e = .returned (.bool r) ∧ Drawn0 w w' := by
 have H : (zD.l0 k a0 0) = some r := h
 clear h
 have H' := ak H
 clear H
 go_enter Tryz.func115, Tryz.ntmps115
 go_wp2
 go_loopg [3] k (fun kq v3 w' => ∃ (x3_1 : Int), v3 = .int .i64 x3_1 ∧ Aside0 (zD.l0 kq a0 x3_1 = some r) ∧ Aside0 (kq ≤ k) ∧ Drawn0 w w')
 case atStart => exact ⟨(0), rs, H', ⟨Nat.le_refl _⟩, by repeat (first | exact Drawn0.refl _ | apply yv)⟩
 case round =>
  clear H'
  obtain ⟨x3_1, rfl, HA, HK1, ⟨m1, rfl⟩⟩ := hrel
  cases gk with
  | zero => exact absurd HA.out (by simp [zD.l0])
  | succ k1 =>
   have H := HA.out
   clear HA
   simp only [zD.l0] at H
   replace H := sd H
   rcases H with ⟨c2b0, H⟩ | ⟨c2b0, H⟩
   ·replace H := sT H
    obtain ⟨c3, H⟩ := H
    have c3b0 := decide_eq_true c3
    clear c3
    replace H := se H
    rcases H with ⟨c5b0, c5b1, H⟩ | ⟨c5, c5b0, c5b1, H⟩
    ·have H' := ak H
     clear H
     have p4 : 0 ≤ (x3_1 : Int) := of_decide_eq_true asm
     have q4 : x3_1 < (a0.size : Int) := of_decide_eq_true asm
     have hx4 := bt_at a0 x3_1
     replace p4 := eq_true p4
     replace q4 := eq_true q4
     go_wp2
     go_roundg k1
     case measure => have := HK1.out; omega
     case rel => exact ⟨(wrap64 (x3_1 + 1)), rs, H', ⟨by have := HK1.out; omega⟩, by repeat (first | exact Drawn0.refl _ | apply yv)⟩
    ·replace H := sd H
     rcases H with ⟨c7b0, H⟩ | ⟨c7b0, H⟩
     ·obtain rfl := oi1 H
      have p4 : 0 ≤ (x3_1 : Int) := of_decide_eq_true asm
      have q4 : x3_1 < (a0.size : Int) := of_decide_eq_true asm
      have hx4 := bt_at a0 x3_1
      replace p4 := eq_true p4
      replace q4 := eq_true q4
      have p6 : 0 ≤ (x3_1 : Int) := of_decide_eq_true asm
      have q6 : x3_1 < (a0.size : Int) := of_decide_eq_true asm
      have hx6 := bt_at a0 x3_1
      replace p6 := eq_true p6
      replace q6 := eq_true q6
      go_wp2
      go_ret
      exact ⟨rt, dr⟩
     ·replace H := se H
      rcases H with ⟨c9b0, c9b1, H⟩ | ⟨c9, c9b0, c9b1, H⟩
      ·obtain rfl := oi1 H
       have p4 : 0 ≤ (x3_1 : Int) := of_decide_eq_true asm
       have q4 : x3_1 < (a0.size : Int) := of_decide_eq_true asm
       have hx4 := bt_at a0 x3_1
       replace p4 := eq_true p4
       replace q4 := eq_true q4
       have p6 : 0 ≤ (x3_1 : Int) := of_decide_eq_true asm
       have q6 : x3_1 < (a0.size : Int) := of_decide_eq_true asm
       have hx6 := bt_at a0 x3_1
       replace p6 := eq_true p6
       replace q6 := eq_true q6
       have p8 : 0 ≤ (x3_1 : Int) := of_decide_eq_true asm
       have q8 : x3_1 < (a0.size : Int) := of_decide_eq_true asm
       have hx8 := bt_at a0 x3_1
       replace p8 := eq_true p8
       replace q8 := eq_true q8
       go_wp2
       go_ret
       exact ⟨rt, dr⟩
      ·have H' := ak H
       clear H
       have p4 : 0 ≤ (x3_1 : Int) := of_decide_eq_true asm
       have q4 : x3_1 < (a0.size : Int) := of_decide_eq_true asm
       have hx4 := bt_at a0 x3_1
       replace p4 := eq_true p4
       replace q4 := eq_true q4
       have p6 : 0 ≤ (x3_1 : Int) := of_decide_eq_true asm
       have q6 : x3_1 < (a0.size : Int) := of_decide_eq_true asm
       have hx6 := bt_at a0 x3_1
       replace p6 := eq_true p6
       replace q6 := eq_true q6
       have p8 : 0 ≤ (x3_1 : Int) := of_decide_eq_true asm
       have q8 : x3_1 < (a0.size : Int) := of_decide_eq_true asm
       have hx8 := bt_at a0 x3_1
       replace p8 := eq_true p8
       replace q8 := eq_true q8
       go_wp2
       go_roundg k1
       case measure => have := HK1.out; omega
       case rel => exact ⟨(wrap64 (x3_1 + 1)), rs, H', ⟨by have := HK1.out; omega⟩, by repeat (first | exact Drawn0.refl _ | apply yv)⟩
   ·replace H := ob H
    obtain ⟨t101, A10, H⟩ := H
    obtain rfl := oi1 H
    go_wp2_with (first | ((with_reducible refine za (f := 133) rfl ?_); refine cl 27 rfl Tryz.func133 #[.string a0] (zT.calls k1 a0 t101 _ A10.out) ?_; rintro e w' ⟨rfl, ⟨nd, rfl⟩⟩; refine ⟨_, rfl, ?_⟩))
    go_ret
    exact ⟨rt, dr⟩
def zZ.f (k : Nat) (a0_0 : ByteArray) (a0_1 : ByteArray) : Option (Bool) := (zx.f k a0_0).bind fun t102 => (if t102 = true then ((qe.f a0_0).bind fun t103 => (if a0_0.toList = t103.toList then (if (a0_0.size : Int) ≤ 24 then ((zD.f k a0_1).bind fun t104 => (if t104 = true then (some (decide ((a0_1.size : Int) ≤ 60))) else (some false))) else (some false)) else (some false))) else (some false))
theorem zZ.mono : ∀ a0 a1 k, LeO (zZ.f k a0 a1) (zZ.f (k + 1) a0 a1) := by
 intro a0 a1 k
 unfold zZ.f
 exact mq2 zx.mono zD.mono
def zZ.T1 : Bool × List (List Nat × List Nat) := (true, [([], []), ([0], [0]), ([1], [1]), ([2, 2], [2]), ([3], [3]), ([4, 3], [3, 4]), ([3], [3]), ([6, 3], [3, 6]), ([7, 3, 3], [3, 7]), ([5, 8, 3], [3, 5, 8]), ([3, 9], [3, 9]), ([10, 8], [10]), ([11], [11]), ([12, 11], [11, 12]), ([13, 11], [11, 13]), ([14, 11], [11, 14]), ([11, 15], [11, 15]), ([16, 11], [16]), ([17], [17]), ([18, 17], [17, 18]), ([19, 17, 17], [17, 19]), ([17, 20], [17, 20]), ([21, 20], [21]), ([22], [22]), ([23, 22], [22, 23]), ([24, 22], [22, 24]), ([25, 22], [22, 25]), ([22, 26], [22, 26]), ([27, 22, 0, 1, 2, 3, 4, 5, 6, 7, 8, 9, 10, 11, 12, 13, 14, 15, 16, 17, 18, 19, 20, 21, 22, 23, 24, 25, 26, 27], [27])])
def zZ.B1 : List Nat := [0, 1, 3, 7, 15, 31, 15, 79, 207, 511, 1023, 2047, 4095, 8191, 16383, 32767, 65535, 131071, 262143, 524287, 1048575, 2097151, 4194303, 8388607, 16777215, 33554431, 67108863, 134217727, 268435455]
theorem zZ.tab1 : rtab .any (opsOf Tryz.f91 1) = zZ.T1 := by kernel_rfl
theorem zZ.bits1 : qj zZ.T1.2 zZ.B1 = true := by kernel_rfl
theorem zZ.calls (k : Nat) (a0_0 : ByteArray) (a0_1 : ByteArray) (r : Bool) (w : World) (h : zZ.f k a0_0 a0_1 = some r) :
  Calls Tryz.prog 91 #[.agg #[.string a0_0, .string a0_1]] w fun e w' => e = .returned (.bool r) ∧ Below w.heap.size w w' := by
 have hu55 := Tryz.underlying55
 have HB := ak (Below.refl w.heap.size w)
 have H := h
 unfold zZ.f at H
 clear h
 replace H := ob H
 obtain ⟨t102, A2, H⟩ := H
 replace H := sb H
 rcases H with ⟨rfl, H⟩ | ⟨rfl, H⟩
 ·replace H := ob H
  obtain ⟨t103, A4, H⟩ := H
  try dsimp only at H
  replace H := se H
  rcases H with ⟨c5b0, c5b1, H⟩ | ⟨c5, c5b0, c5b1, H⟩
  ·replace H := si H
   rcases H with ⟨c6, H⟩ | ⟨c6, H⟩
   ·have c6b0 := decide_eq_true c6
    have c6b1 : decide (a0_0.size ≤ 24) = true := decide_eq_true (by omega)
    clear c6
    replace H := ob H
    obtain ⟨t104, A7, H⟩ := H
    replace H := sb H
    rcases H with ⟨rfl, H⟩ | ⟨rfl, H⟩
    ·obtain rfl := oi1 H
     go_enter Tryz.func91, Tryz.ntmps91
     try go_wp2_with (first | ((with_reducible refine zl (N := 1) rfl ?_); (try (refine yd (by rfl) ?_; dsimp only)); refine bx 1 #[.string a0_0, .string a0_1] 55 ?_; intro gb101 hg w9 hbox hb; have BK101 := ak (hbox); have GW101 := ak ((by rw [hg]; exact (zd bq) : w.heap.size ≤ gb101)); have GE101 := GW101; replace HB := ak (zb bq hb); clear hb hbox hg))
     have n0_ := ak (xe BK101.out)
     have n1_ := ak (ye HB.out)
     clear BK101
     clear HB
     have BK101 := n0_
     have HB := n1_
     clear n0_ n1_
     refine start_ (n := 29) (S := fun w' => w'.cell? ⟨gb101, 0, none⟩ = some (.string a0_0) ∧ w'.cell? ⟨gb101, 1, none⟩ = some (.string a0_1)) (ds := []) (Array.replicate 29 false) (by kernel_rfl) rfl rfl ⟨(zg BK101.out 0).trans rfl, (zg BK101.out 1).trans rfl⟩ (fun hHeld => ?_); refine xm zZ.tab1 zZ.bits1 (fun HT_ HW_ => ?_)
     generalize w9.drew = w10 at BK101 HB hHeld ⊢
     refine pu 0 3 HT_ ?_
     refine tk 1 4 HT_ HW_ hHeld ?_ (hy := by rintro w' ⟨s0, s1⟩; go_simp; with_reducible rfl)
     refine on1 2 5 HT_ (fun K hK => ?_)
     refine goes_ Tryz.func25 (by kernel_rfl) rfl #[.string a0_0] (by rfl) rfl rfl am ?_
     with_reducible refine (zx.calls k a0_0 true _ A2.out).mono ?_
     rintro e w' ⟨rfl, ⟨nd, rfl⟩⟩
     refine ⟨_, rfl, ?_⟩
     refine hK.out _ _ ⟨(zg BK101.out 0).trans rfl, (zg BK101.out 1).trans rfl⟩ (fun hHeld => ?_)
     clear hK K
     refine nrm 5 ?_
     refine pu 3 6 HT_ ?_
     refine pu 4 7 HT_ ?_
     refine pu 6 9 HT_ ?_
     refine tk 5 8 HT_ HW_ hHeld ?_ (hy := by rintro w' ⟨s0, s1⟩; go_simp; with_reducible rfl)
     refine tk 7 10 HT_ HW_ hHeld ?_ (hy := by rintro w' ⟨s0, s1⟩; go_simp; with_reducible rfl)
     refine on1 8 11 HT_ (fun K hK => ?_)
     refine goes_ Tryz.func114 (by kernel_rfl) rfl #[.string a0_0] (by rfl) rfl rfl am ?_
     with_reducible refine (qe.calls a0_0 t103 _ A4.out).mono ?_
     rintro e w11 ⟨rfl, hb⟩
     refine ⟨_, rfl, ?_⟩
     have n0_ := ak (ze (blq BK101.out) hb)
     have n1_ := ak (zb (bq1 GE101.out) hb)
     clear BK101
     clear HB
     have BK101 := n0_
     have HB := n1_
     clear n0_ n1_
     (try clear hb)
     (try clear hb2)
     (try clear hk)
     (try clear hi)
     refine hK.out _ _ ⟨(zg BK101.out 0).trans rfl, (zg BK101.out 1).trans rfl⟩ (fun hHeld => ?_)
     clear hK K
     refine nrm 11 ?_
     refine pu 9 12 HT_ ?_
     refine pu 10 13 HT_ ?_
     refine pu 11 14 HT_ ?_
     refine pu 12 15 HT_ ?_
     refine tk 13 16 HT_ HW_ hHeld ?_ (hy := by rintro w' ⟨s0, s1⟩; go_simp; with_reducible rfl)
     refine pu 14 17 HT_ ?_
     refine pu 15 18 HT_ ?_
     refine pu 16 19 HT_ ?_
     refine pu 17 20 HT_ ?_
     refine pu 18 21 HT_ ?_
     refine tk 19 22 HT_ HW_ hHeld ?_ (hy := by rintro w' ⟨s0, s1⟩; go_simp; with_reducible rfl)
     refine on1 20 23 HT_ (fun K hK => ?_)
     refine goes_ Tryz.func115 (by kernel_rfl) rfl #[.string a0_1] (by rfl) rfl rfl am ?_
     with_reducible refine (zD.calls k a0_1 true _ A7.out).mono ?_
     rintro e w' ⟨rfl, ⟨nd, rfl⟩⟩
     refine ⟨_, rfl, ?_⟩
     refine hK.out _ _ ⟨(zg BK101.out 0).trans rfl, (zg BK101.out 1).trans rfl⟩ (fun hHeld => ?_)
     clear hK K
     refine nrm 23 ?_
     refine pu 21 24 HT_ ?_
     refine pu 22 25 HT_ ?_
     refine pu 23 26 HT_ ?_
     refine tk 24 27 HT_ HW_ hHeld ?_ (hy := by rintro w' ⟨s0, s1⟩; go_simp; with_reducible rfl)
     refine pu 25 28 HT_ ?_
     refine pu 26 29 HT_ ?_
     refine pu 27 30 HT_ ?_
     refine pu 28 2 HT_ ?_
     refine done_ (xV HT_.out (by kernel_rfl)) ?_
     try go_wp2
     go_ret
     exact ⟨rv, bq1 GE101.out⟩
    ·obtain rfl := oi1 H
     go_enter Tryz.func91, Tryz.ntmps91
     try go_wp2_with (first | ((with_reducible refine zl (N := 1) rfl ?_); (try (refine yd (by rfl) ?_; dsimp only)); refine bx 1 #[.string a0_0, .string a0_1] 55 ?_; intro gb101 hg w12 hbox hb; have BK101 := ak (hbox); have GW101 := ak ((by rw [hg]; exact (zd bq) : w.heap.size ≤ gb101)); have GE101 := GW101; replace HB := ak (zb bq hb); clear hb hbox hg))
     have n0_ := ak (xe BK101.out)
     have n1_ := ak (ye HB.out)
     clear BK101
     clear HB
     have BK101 := n0_
     have HB := n1_
     clear n0_ n1_
     refine start_ (n := 29) (S := fun w' => w'.cell? ⟨gb101, 0, none⟩ = some (.string a0_0) ∧ w'.cell? ⟨gb101, 1, none⟩ = some (.string a0_1)) (ds := []) (Array.replicate 29 false) (by kernel_rfl) rfl rfl ⟨(zg BK101.out 0).trans rfl, (zg BK101.out 1).trans rfl⟩ (fun hHeld => ?_); refine xm zZ.tab1 zZ.bits1 (fun HT_ HW_ => ?_)
     generalize w12.drew = w13 at BK101 HB hHeld ⊢
     refine pu 0 3 HT_ ?_
     refine tk 1 4 HT_ HW_ hHeld ?_ (hy := by rintro w' ⟨s0, s1⟩; go_simp; with_reducible rfl)
     refine on1 2 5 HT_ (fun K hK => ?_)
     refine goes_ Tryz.func25 (by kernel_rfl) rfl #[.string a0_0] (by rfl) rfl rfl am ?_
     with_reducible refine (zx.calls k a0_0 true _ A2.out).mono ?_
     rintro e w' ⟨rfl, ⟨nd, rfl⟩⟩
     refine ⟨_, rfl, ?_⟩
     refine hK.out _ _ ⟨(zg BK101.out 0).trans rfl, (zg BK101.out 1).trans rfl⟩ (fun hHeld => ?_)
     clear hK K
     refine nrm 5 ?_
     refine pu 3 6 HT_ ?_
     refine pu 4 7 HT_ ?_
     refine pu 6 9 HT_ ?_
     refine tk 5 8 HT_ HW_ hHeld ?_ (hy := by rintro w' ⟨s0, s1⟩; go_simp; with_reducible rfl)
     refine tk 7 10 HT_ HW_ hHeld ?_ (hy := by rintro w' ⟨s0, s1⟩; go_simp; with_reducible rfl)
     refine on1 8 11 HT_ (fun K hK => ?_)
     refine goes_ Tryz.func114 (by kernel_rfl) rfl #[.string a0_0] (by rfl) rfl rfl am ?_
     with_reducible refine (qe.calls a0_0 t103 _ A4.out).mono ?_
     rintro e w14 ⟨rfl, hb⟩
     refine ⟨_, rfl, ?_⟩
     have n0_ := ak (ze (blq BK101.out) hb)
     have n1_ := ak (zb (bq1 GE101.out) hb)
     clear BK101
     clear HB
     have BK101 := n0_
     have HB := n1_
     clear n0_ n1_
     (try clear hb)
     (try clear hb2)
     (try clear hk)
     (try clear hi)
     refine hK.out _ _ ⟨(zg BK101.out 0).trans rfl, (zg BK101.out 1).trans rfl⟩ (fun hHeld => ?_)
     clear hK K
     refine nrm 11 ?_
     refine pu 9 12 HT_ ?_
     refine pu 10 13 HT_ ?_
     refine pu 11 14 HT_ ?_
     refine pu 12 15 HT_ ?_
     refine tk 13 16 HT_ HW_ hHeld ?_ (hy := by rintro w' ⟨s0, s1⟩; go_simp; with_reducible rfl)
     refine pu 14 17 HT_ ?_
     refine pu 15 18 HT_ ?_
     refine pu 16 19 HT_ ?_
     refine pu 17 20 HT_ ?_
     refine pu 18 21 HT_ ?_
     refine tk 19 22 HT_ HW_ hHeld ?_ (hy := by rintro w' ⟨s0, s1⟩; go_simp; with_reducible rfl)
     refine on1 20 23 HT_ (fun K hK => ?_)
     refine goes_ Tryz.func115 (by kernel_rfl) rfl #[.string a0_1] (by rfl) rfl rfl am ?_
     with_reducible refine (zD.calls k a0_1 false _ A7.out).mono ?_
     rintro e w' ⟨rfl, ⟨nd, rfl⟩⟩
     refine ⟨_, rfl, ?_⟩
     refine hK.out _ _ ⟨(zg BK101.out 0).trans rfl, (zg BK101.out 1).trans rfl⟩ (fun hHeld => ?_)
     clear hK K
     refine nrm 23 ?_
     refine pu 21 24 HT_ ?_
     refine pu 22 25 HT_ ?_
     refine pf 23 26 (tf 24 5) HT_ ?_
     refine pf 24 27 (tf 25 4) HT_ ?_
     refine pf 25 28 (tf 26 3) HT_ ?_
     refine pf 26 29 (tf 27 2) HT_ ?_
     refine pu 27 30 HT_ ?_
     refine pu 28 2 HT_ ?_
     refine done_ (xV HT_.out (by kernel_rfl)) ?_
     try go_wp2
     go_ret
     exact ⟨rv, bq1 GE101.out⟩
   ·have c6b0 := decide_eq_false c6
    have c6b1 : decide (a0_0.size ≤ 24) = false := decide_eq_false (by omega)
    clear c6
    obtain rfl := oi1 H
    go_enter Tryz.func91, Tryz.ntmps91
    try go_wp2_with (first | ((with_reducible refine zl (N := 1) rfl ?_); (try (refine yd (by rfl) ?_; dsimp only)); refine bx 1 #[.string a0_0, .string a0_1] 55 ?_; intro gb101 hg w15 hbox hb; have BK101 := ak (hbox); have GW101 := ak ((by rw [hg]; exact (zd bq) : w.heap.size ≤ gb101)); have GE101 := GW101; replace HB := ak (zb bq hb); clear hb hbox hg))
    have n0_ := ak (xe BK101.out)
    have n1_ := ak (ye HB.out)
    clear BK101
    clear HB
    have BK101 := n0_
    have HB := n1_
    clear n0_ n1_
    refine start_ (n := 29) (S := fun w' => w'.cell? ⟨gb101, 0, none⟩ = some (.string a0_0) ∧ w'.cell? ⟨gb101, 1, none⟩ = some (.string a0_1)) (ds := []) (Array.replicate 29 false) (by kernel_rfl) rfl rfl ⟨(zg BK101.out 0).trans rfl, (zg BK101.out 1).trans rfl⟩ (fun hHeld => ?_); refine xm zZ.tab1 zZ.bits1 (fun HT_ HW_ => ?_)
    generalize w15.drew = w16 at BK101 HB hHeld ⊢
    refine pu 0 3 HT_ ?_
    refine tk 1 4 HT_ HW_ hHeld ?_ (hy := by rintro w' ⟨s0, s1⟩; go_simp; with_reducible rfl)
    refine on1 2 5 HT_ (fun K hK => ?_)
    refine goes_ Tryz.func25 (by kernel_rfl) rfl #[.string a0_0] (by rfl) rfl rfl am ?_
    with_reducible refine (zx.calls k a0_0 true _ A2.out).mono ?_
    rintro e w' ⟨rfl, ⟨nd, rfl⟩⟩
    refine ⟨_, rfl, ?_⟩
    refine hK.out _ _ ⟨(zg BK101.out 0).trans rfl, (zg BK101.out 1).trans rfl⟩ (fun hHeld => ?_)
    clear hK K
    refine nrm 5 ?_
    refine pu 3 6 HT_ ?_
    refine pu 4 7 HT_ ?_
    refine pu 6 9 HT_ ?_
    refine tk 5 8 HT_ HW_ hHeld ?_ (hy := by rintro w' ⟨s0, s1⟩; go_simp; with_reducible rfl)
    refine tk 7 10 HT_ HW_ hHeld ?_ (hy := by rintro w' ⟨s0, s1⟩; go_simp; with_reducible rfl)
    refine on1 8 11 HT_ (fun K hK => ?_)
    refine goes_ Tryz.func114 (by kernel_rfl) rfl #[.string a0_0] (by rfl) rfl rfl am ?_
    with_reducible refine (qe.calls a0_0 t103 _ A4.out).mono ?_
    rintro e w17 ⟨rfl, hb⟩
    refine ⟨_, rfl, ?_⟩
    have n0_ := ak (ze (blq BK101.out) hb)
    have n1_ := ak (zb (bq1 GE101.out) hb)
    clear BK101
    clear HB
    have BK101 := n0_
    have HB := n1_
    clear n0_ n1_
    (try clear hb)
    (try clear hb2)
    (try clear hk)
    (try clear hi)
    refine hK.out _ _ ⟨(zg BK101.out 0).trans rfl, (zg BK101.out 1).trans rfl⟩ (fun hHeld => ?_)
    clear hK K
    refine nrm 11 ?_
    refine pu 9 12 HT_ ?_
    refine pu 10 13 HT_ ?_
    refine pu 11 14 HT_ ?_
    refine pu 12 15 HT_ ?_
    refine tk 13 16 HT_ HW_ hHeld ?_ (hy := by rintro w' ⟨s0, s1⟩; go_simp; with_reducible rfl)
    refine pu 14 17 HT_ ?_
    refine pu 15 18 HT_ ?_
    refine pu 16 19 HT_ ?_
    refine pu 17 20 HT_ ?_
    refine pf 18 21 (tf 19 10) HT_ ?_
    refine pf 19 22 (tf 20 9) HT_ ?_
    refine pf 20 23 (tf 21 8) HT_ ?_
    refine pu 21 24 HT_ ?_
    refine pu 22 25 HT_ ?_
    refine pf 23 26 (tf 24 5) HT_ ?_
    refine pf 24 27 (tf 25 4) HT_ ?_
    refine pf 25 28 (tf 26 3) HT_ ?_
    refine pf 26 29 (tf 27 2) HT_ ?_
    refine pu 27 30 HT_ ?_
    refine pu 28 2 HT_ ?_
    refine done_ (xV HT_.out (by kernel_rfl)) ?_
    try go_wp2
    go_ret
    exact ⟨rv, bq1 GE101.out⟩
  ·obtain rfl := oi1 H
   go_enter Tryz.func91, Tryz.ntmps91
   try go_wp2_with (first | ((with_reducible refine zl (N := 1) rfl ?_); (try (refine yd (by rfl) ?_; dsimp only)); refine bx 1 #[.string a0_0, .string a0_1] 55 ?_; intro gb101 hg w18 hbox hb; have BK101 := ak (hbox); have GW101 := ak ((by rw [hg]; exact (zd bq) : w.heap.size ≤ gb101)); have GE101 := GW101; replace HB := ak (zb bq hb); clear hb hbox hg))
   have n0_ := ak (xe BK101.out)
   have n1_ := ak (ye HB.out)
   clear BK101
   clear HB
   have BK101 := n0_
   have HB := n1_
   clear n0_ n1_
   refine start_ (n := 29) (S := fun w' => w'.cell? ⟨gb101, 0, none⟩ = some (.string a0_0) ∧ w'.cell? ⟨gb101, 1, none⟩ = some (.string a0_1)) (ds := []) (Array.replicate 29 false) (by kernel_rfl) rfl rfl ⟨(zg BK101.out 0).trans rfl, (zg BK101.out 1).trans rfl⟩ (fun hHeld => ?_); refine xm zZ.tab1 zZ.bits1 (fun HT_ HW_ => ?_)
   generalize w18.drew = w19 at BK101 HB hHeld ⊢
   refine pu 0 3 HT_ ?_
   refine tk 1 4 HT_ HW_ hHeld ?_ (hy := by rintro w' ⟨s0, s1⟩; go_simp; with_reducible rfl)
   refine on1 2 5 HT_ (fun K hK => ?_)
   refine goes_ Tryz.func25 (by kernel_rfl) rfl #[.string a0_0] (by rfl) rfl rfl am ?_
   with_reducible refine (zx.calls k a0_0 true _ A2.out).mono ?_
   rintro e w' ⟨rfl, ⟨nd, rfl⟩⟩
   refine ⟨_, rfl, ?_⟩
   refine hK.out _ _ ⟨(zg BK101.out 0).trans rfl, (zg BK101.out 1).trans rfl⟩ (fun hHeld => ?_)
   clear hK K
   refine nrm 5 ?_
   refine pu 3 6 HT_ ?_
   refine pu 4 7 HT_ ?_
   refine pu 6 9 HT_ ?_
   refine tk 5 8 HT_ HW_ hHeld ?_ (hy := by rintro w' ⟨s0, s1⟩; go_simp; with_reducible rfl)
   refine tk 7 10 HT_ HW_ hHeld ?_ (hy := by rintro w' ⟨s0, s1⟩; go_simp; with_reducible rfl)
   refine on1 8 11 HT_ (fun K hK => ?_)
   refine goes_ Tryz.func114 (by kernel_rfl) rfl #[.string a0_0] (by rfl) rfl rfl am ?_
   with_reducible refine (qe.calls a0_0 t103 _ A4.out).mono ?_
   rintro e w20 ⟨rfl, hb⟩
   refine ⟨_, rfl, ?_⟩
   have n0_ := ak (ze (blq BK101.out) hb)
   have n1_ := ak (zb (bq1 GE101.out) hb)
   clear BK101
   clear HB
   have BK101 := n0_
   have HB := n1_
   clear n0_ n1_
   (try clear hb)
   (try clear hb2)
   (try clear hk)
   (try clear hi)
   refine hK.out _ _ ⟨(zg BK101.out 0).trans rfl, (zg BK101.out 1).trans rfl⟩ (fun hHeld => ?_)
   clear hK K
   refine nrm 11 ?_
   refine pu 9 12 HT_ ?_
   refine pu 10 13 HT_ ?_
   refine pu 11 14 HT_ ?_
   refine pf 12 15 (tf 13 16) HT_ ?_
   refine pf 13 16 (tf 14 15) HT_ ?_
   refine pf 14 17 (tf 15 14) HT_ ?_
   refine pf 15 18 (tf 16 13) HT_ ?_
   refine pu 16 19 HT_ ?_
   refine pu 17 20 HT_ ?_
   refine pf 18 21 (tf 19 10) HT_ ?_
   refine pf 19 22 (tf 20 9) HT_ ?_
   refine pf 20 23 (tf 21 8) HT_ ?_
   refine pu 21 24 HT_ ?_
   refine pu 22 25 HT_ ?_
   refine pf 23 26 (tf 24 5) HT_ ?_
   refine pf 24 27 (tf 25 4) HT_ ?_
   refine pf 25 28 (tf 26 3) HT_ ?_
   refine pf 26 29 (tf 27 2) HT_ ?_
   refine pu 27 30 HT_ ?_
   refine pu 28 2 HT_ ?_
   refine done_ (xV HT_.out (by kernel_rfl)) ?_
   try go_wp2
   go_ret
   exact ⟨rv, bq1 GE101.out⟩
 ·obtain rfl := oi1 H
  go_enter Tryz.func91, Tryz.ntmps91
  try go_wp2_with (first | ((with_reducible refine zl (N := 1) rfl ?_); (try (refine yd (by rfl) ?_; dsimp only)); refine bx 1 #[.string a0_0, .string a0_1] 55 ?_; intro gb101 hg w21 hbox hb; have BK101 := ak (hbox); have GW101 := ak ((by rw [hg]; exact (zd bq) : w.heap.size ≤ gb101)); have GE101 := GW101; replace HB := ak (zb bq hb); clear hb hbox hg))
  have n0_ := ak (xe BK101.out)
  have n1_ := ak (ye HB.out)
  clear BK101
  clear HB
  have BK101 := n0_
  have HB := n1_
  clear n0_ n1_
  refine start_ (n := 29) (S := fun w' => w'.cell? ⟨gb101, 0, none⟩ = some (.string a0_0) ∧ w'.cell? ⟨gb101, 1, none⟩ = some (.string a0_1)) (ds := []) (Array.replicate 29 false) (by kernel_rfl) rfl rfl ⟨(zg BK101.out 0).trans rfl, (zg BK101.out 1).trans rfl⟩ (fun hHeld => ?_); refine xm zZ.tab1 zZ.bits1 (fun HT_ HW_ => ?_)
  generalize w21.drew = w22 at BK101 HB hHeld ⊢
  refine pu 0 3 HT_ ?_
  refine tk 1 4 HT_ HW_ hHeld ?_ (hy := by rintro w' ⟨s0, s1⟩; go_simp; with_reducible rfl)
  refine on1 2 5 HT_ (fun K hK => ?_)
  refine goes_ Tryz.func25 (by kernel_rfl) rfl #[.string a0_0] (by rfl) rfl rfl am ?_
  with_reducible refine (zx.calls k a0_0 false _ A2.out).mono ?_
  rintro e w' ⟨rfl, ⟨nd, rfl⟩⟩
  refine ⟨_, rfl, ?_⟩
  refine hK.out _ _ ⟨(zg BK101.out 0).trans rfl, (zg BK101.out 1).trans rfl⟩ (fun hHeld => ?_)
  clear hK K
  refine nrm 5 ?_
  refine pu 3 6 HT_ ?_
  refine pf 4 7 (tf 5 24) HT_ ?_
  refine pf 5 8 (tf 6 23) HT_ ?_
  refine pf 6 9 (tf 7 22) HT_ ?_
  refine pf 7 10 (tf 8 21) HT_ ?_
  refine pf 8 11 (tf 9 20) HT_ ?_
  refine pf 9 12 (tf 10 19) HT_ ?_
  refine pu 10 13 HT_ ?_
  refine pu 11 14 HT_ ?_
  refine pf 12 15 (tf 13 16) HT_ ?_
  refine pf 13 16 (tf 14 15) HT_ ?_
  refine pf 14 17 (tf 15 14) HT_ ?_
  refine pf 15 18 (tf 16 13) HT_ ?_
  refine pu 16 19 HT_ ?_
  refine pu 17 20 HT_ ?_
  refine pf 18 21 (tf 19 10) HT_ ?_
  refine pf 19 22 (tf 20 9) HT_ ?_
  refine pf 20 23 (tf 21 8) HT_ ?_
  refine pu 21 24 HT_ ?_
  refine pu 22 25 HT_ ?_
  refine pf 23 26 (tf 24 5) HT_ ?_
  refine pf 24 27 (tf 25 4) HT_ ?_
  refine pf 25 28 (tf 26 3) HT_ ?_
  refine pf 26 29 (tf 27 2) HT_ ?_
  refine pu 27 30 HT_ ?_
  refine pu 28 2 HT_ ?_
  refine done_ (xV HT_.out (by kernel_rfl)) ?_
  try go_wp2
  go_ret
  exact ⟨rv, bq1 GE101.out⟩
def zQ.l0 : Nat → List (S55) → Int → Option (Bool)
 | 0, _, _ => none
 | k + 1, x0, x3 => if x3 < (x0.length : Int) then (if 0 ≤ x3 then ((zZ.f k ((zV x0 x3).f0) ((zV x0 x3).f1)).bind fun t102 => (if t102 = true then (zQ.l0 k x0 (wrap64 (x3 + 1))) else (some false))) else (none)) else (some (decide ((x0.length : Int) ≤ 12)))
def zQ.f (k : Nat) (l0 : List (S55)) : Option (Bool) := zQ.l0 k l0 0
theorem zQ.mono_l : ∀ k, (∀ y0 y1, LeO (zQ.l0 k y0 y1) (zQ.l0 (k + 1) y0 y1))
 | 0 => fun _ _ r h => by simp [zQ.l0] at h
 | k + 1 => by
  have ih0 := zQ.mono_l k
  ·intro y0 y1
   unfold zQ.l0
   exact mq2 ih0 zZ.mono
theorem zQ.mono : ∀ a0 k, LeO (zQ.f k a0) (zQ.f (k + 1) a0) := by
 intro a0 k
 have ih0 := zQ.mono_l k
 unfold zQ.f
 exact mq2 ih0 zZ.mono
theorem zQ.calls (k : Nat) (A0 : Option Addr) (c0 : Nat) (l0 : List (S55)) (r : Bool) (w : World) (hr0 : Kd.C k55 w A0 l0.length l0) (hc0 : l0.length ≤ c0) (h : zQ.f k l0 = some r) :
  Calls Tryz.prog 59 #[.slice A0 l0.length c0] w fun e w' => e = .returned (.bool r) ∧ Below w.heap.size w w' := by
 have hu55 := Tryz.underlying55
 have HR0 := ak hr0
 have HC0 := ak hc0
 clear hr0 hc0
 have HB := ak (Below.refl w.heap.size w)
 have H : (zQ.l0 k l0 0) = some r := h
 clear h
 have H' := ak H
 clear H
 go_enter Tryz.func59, Tryz.ntmps59
 go_wp2
 go_loopg [3] k (fun kq v3 w' => ∃ (x3_1 : Int), v3 = .int .i64 x3_1 ∧ Aside0 (zQ.l0 kq l0 x3_1 = some r) ∧ Aside0 (kq ≤ k) ∧ Aside0 (Below w.heap.size w w'))
 case atStart => exact ⟨(0), rs, H', ⟨Nat.le_refl _⟩, ⟨bq⟩⟩
 case round =>
  clear H'
  obtain ⟨x3_1, rfl, HA, HK1, HB⟩ := hrel
  cases gk with
  | zero => exact absurd HA.out (by simp [zQ.l0])
  | succ k1 =>
   have H := HA.out
   clear HA
   simp only [zQ.l0] at H
   replace H := sd H
   rcases H with ⟨c2b0, H⟩ | ⟨c2b0, H⟩
   ·replace H := sT H
    obtain ⟨c3, H⟩ := H
    have c3b0 := decide_eq_true c3
    clear c3
    replace H := ob H
    obtain ⟨t102, A4, H⟩ := H
    replace H := sb H
    rcases H with ⟨rfl, H⟩ | ⟨rfl, H⟩
    ·have H' := ak H
     clear H
     have p101 : 0 ≤ (x3_1 : Int) := of_decide_eq_true asm
     have q101 : x3_1 < (l0.length : Int) := of_decide_eq_true asm
     obtain ⟨ad101, e101, hx101_0, hx101_1⟩ := qO HR0.out x3_1 p101 q101
     cases e101
     replace hx101_0 := (HB.out.cell (World.block_lt_of_cell? w _ hx101_0)).trans hx101_0
     replace hx101_1 := (HB.out.cell (World.block_lt_of_cell? w _ hx101_1)).trans hx101_1
     replace p101 := eq_true p101
     replace q101 := eq_true q101
     go_wp2_with (first | ((with_reducible refine za (f := 91) rfl ?_); refine cl 14 rfl Tryz.func91 #[.agg #[.string ((zV l0 x3_1).f0), .string ((zV l0 x3_1).f1)]] (zZ.calls k1 ((zV l0 x3_1).f0) ((zV l0 x3_1).f1) true _ A4.out) ?_; rintro e w6 ⟨rfl, hb⟩; refine ⟨_, rfl, ?_⟩; replace HB := ak (zb bq hb); (try clear hb)))
     go_roundg k1
     case measure => have := HK1.out; omega
     case rel => exact ⟨(wrap64 (x3_1 + 1)), rs, H', ⟨by have := HK1.out; omega⟩, ⟨bq⟩⟩
    ·obtain rfl := oi1 H
     have p101 : 0 ≤ (x3_1 : Int) := of_decide_eq_true asm
     have q101 : x3_1 < (l0.length : Int) := of_decide_eq_true asm
     obtain ⟨ad101, e101, hx101_0, hx101_1⟩ := qO HR0.out x3_1 p101 q101
     cases e101
     replace hx101_0 := (HB.out.cell (World.block_lt_of_cell? w _ hx101_0)).trans hx101_0
     replace hx101_1 := (HB.out.cell (World.block_lt_of_cell? w _ hx101_1)).trans hx101_1
     replace p101 := eq_true p101
     replace q101 := eq_true q101
     go_wp2_with (first | ((with_reducible refine za (f := 91) rfl ?_); refine cl 14 rfl Tryz.func91 #[.agg #[.string ((zV l0 x3_1).f0), .string ((zV l0 x3_1).f1)]] (zZ.calls k1 ((zV l0 x3_1).f0) ((zV l0 x3_1).f1) false _ A4.out) ?_; rintro e w7 ⟨rfl, hb⟩; refine ⟨_, rfl, ?_⟩; replace HB := ak (zb bq hb); (try clear hb)))
     go_ret
     exact ⟨rv, bq⟩
   ·obtain rfl := oi1 H
    go_wp2
    go_ret
    exact ⟨rv, bq⟩
def yR.f (k : Nat) (l0 : List (S55)) : Option (Bool) := (zH.f k l0 (⟨#[116, 114, 97, 110, 115, 102, 101, 114, 45, 101, 110, 99, 111, 100, 105, 110, 103]⟩ : ByteArray)).bind fun bt101 => ((zH.f k l0 (⟨#[99, 111, 110, 116, 101, 110, 116, 45, 108, 101, 110, 103, 116, 104]⟩ : ByteArray)).bind fun bt103 => (if bt101.2 = true then (some false) else (if bt103.2 = true then (some false) else (if (l0.length : Int) < 12 then ((zQ.f k l0).bind fun t105 => (some t105)) else (some false)))))
theorem yR.mono : ∀ a0 k, LeO (yR.f k a0) (yR.f (k + 1) a0) := by
 intro a0 k
 unfold yR.f
 exact mq2 zH.mono zQ.mono
theorem yR.calls (k : Nat) (A0 : Option Addr) (c0 : Nat) (l0 : List (S55)) (r : Bool) (w : World) (hr0 : Kd.C k55 w A0 l0.length l0) (hc0 : l0.length ≤ c0) (h : yR.f k l0 = some r) :
  Calls Tryz.prog 27 #[.slice A0 l0.length c0] w fun e w' => e = .returned (.bool r) ∧ Below w.heap.size w w' := by
 have HR0 := ak hr0
 have HC0 := ak hc0
 clear hr0 hc0
 have HB := ak (Below.refl w.heap.size w)
 have H := h
 unfold yR.f at H
 clear h
 replace H := ob H
 obtain ⟨⟨t101, t102⟩, A2, H⟩ := H
 try dsimp only at H
 replace H := ob H
 obtain ⟨⟨t103, t104⟩, A3, H⟩ := H
 try dsimp only at H
 replace H := sb H
 rcases H with ⟨rfl, H⟩ | ⟨rfl, H⟩
 ·obtain rfl := oi1 H
  go_enter Tryz.func27, Tryz.ntmps27
  go_wp2_with (first | ((with_reducible refine za (f := 58) rfl ?_); refine cl 9 rfl Tryz.func58 #[.slice A0 l0.length c0, .string ⟨#[116, 114, 97, 110, 115, 102, 101, 114, 45, 101, 110, 99, 111, 100, 105, 110, 103]⟩] (zH.calls k _ _ l0 (⟨#[116, 114, 97, 110, 115, 102, 101, 114, 45, 101, 110, 99, 111, 100, 105, 110, 103]⟩ : ByteArray) t101 true _ ?side1 ?side2 A2.out) ?_; (case side1 => repeat (first | exact HR0.out | (with_reducible refine Kd.C_alloc ?_ _) | (with_reducible refine Kd.C_drewN ?_ _) | (with_reducible refine Kd.C_drew ?_))); (case side2 => exact HC0.out); rintro e w' ⟨rfl, ⟨nd, rfl⟩⟩; refine ⟨_, rfl, ?_⟩) | ((with_reducible refine za (f := 58) rfl ?_); refine cl 14 rfl Tryz.func58 #[.slice A0 l0.length c0, .string ⟨#[99, 111, 110, 116, 101, 110, 116, 45, 108, 101, 110, 103, 116, 104]⟩] (zH.calls k _ _ l0 (⟨#[99, 111, 110, 116, 101, 110, 116, 45, 108, 101, 110, 103, 116, 104]⟩ : ByteArray) t103 t104 _ ?side1 ?side2 A3.out) ?_; (case side1 => repeat (first | exact HR0.out | (with_reducible refine Kd.C_alloc ?_ _) | (with_reducible refine Kd.C_drewN ?_ _) | (with_reducible refine Kd.C_drew ?_))); (case side2 => exact HC0.out); rintro e w' ⟨rfl, ⟨nd, rfl⟩⟩; refine ⟨_, rfl, ?_⟩))
  go_ret
  exact ⟨rv, bq⟩
 ·replace H := sb H
  rcases H with ⟨rfl, H⟩ | ⟨rfl, H⟩
  ·obtain rfl := oi1 H
   go_enter Tryz.func27, Tryz.ntmps27
   go_wp2_with (first | ((with_reducible refine za (f := 58) rfl ?_); refine cl 9 rfl Tryz.func58 #[.slice A0 l0.length c0, .string ⟨#[116, 114, 97, 110, 115, 102, 101, 114, 45, 101, 110, 99, 111, 100, 105, 110, 103]⟩] (zH.calls k _ _ l0 (⟨#[116, 114, 97, 110, 115, 102, 101, 114, 45, 101, 110, 99, 111, 100, 105, 110, 103]⟩ : ByteArray) t101 false _ ?side1 ?side2 A2.out) ?_; (case side1 => repeat (first | exact HR0.out | (with_reducible refine Kd.C_alloc ?_ _) | (with_reducible refine Kd.C_drewN ?_ _) | (with_reducible refine Kd.C_drew ?_))); (case side2 => exact HC0.out); rintro e w' ⟨rfl, ⟨nd, rfl⟩⟩; refine ⟨_, rfl, ?_⟩) | ((with_reducible refine za (f := 58) rfl ?_); refine cl 14 rfl Tryz.func58 #[.slice A0 l0.length c0, .string ⟨#[99, 111, 110, 116, 101, 110, 116, 45, 108, 101, 110, 103, 116, 104]⟩] (zH.calls k _ _ l0 (⟨#[99, 111, 110, 116, 101, 110, 116, 45, 108, 101, 110, 103, 116, 104]⟩ : ByteArray) t103 true _ ?side1 ?side2 A3.out) ?_; (case side1 => repeat (first | exact HR0.out | (with_reducible refine Kd.C_alloc ?_ _) | (with_reducible refine Kd.C_drewN ?_ _) | (with_reducible refine Kd.C_drew ?_))); (case side2 => exact HC0.out); rintro e w' ⟨rfl, ⟨nd, rfl⟩⟩; refine ⟨_, rfl, ?_⟩))
   go_ret
   exact ⟨rv, bq⟩
  ·replace H := si H
   rcases H with ⟨c6, H⟩ | ⟨c6, H⟩
   ·have c6b0 := decide_eq_true c6
    have c6b1 : decide (l0.length < 12) = true := decide_eq_true (by omega)
    clear c6
    replace H := ob H
    obtain ⟨t105, A7, H⟩ := H
    obtain rfl := oi1 H
    go_enter Tryz.func27, Tryz.ntmps27
    go_wp2_with (first | ((with_reducible refine za (f := 58) rfl ?_); refine cl 9 rfl Tryz.func58 #[.slice A0 l0.length c0, .string ⟨#[116, 114, 97, 110, 115, 102, 101, 114, 45, 101, 110, 99, 111, 100, 105, 110, 103]⟩] (zH.calls k _ _ l0 (⟨#[116, 114, 97, 110, 115, 102, 101, 114, 45, 101, 110, 99, 111, 100, 105, 110, 103]⟩ : ByteArray) t101 false _ ?side1 ?side2 A2.out) ?_; (case side1 => repeat (first | exact HR0.out | (with_reducible refine Kd.C_alloc ?_ _) | (with_reducible refine Kd.C_drewN ?_ _) | (with_reducible refine Kd.C_drew ?_))); (case side2 => exact HC0.out); rintro e w' ⟨rfl, ⟨nd, rfl⟩⟩; refine ⟨_, rfl, ?_⟩) | ((with_reducible refine za (f := 58) rfl ?_); refine cl 14 rfl Tryz.func58 #[.slice A0 l0.length c0, .string ⟨#[99, 111, 110, 116, 101, 110, 116, 45, 108, 101, 110, 103, 116, 104]⟩] (zH.calls k _ _ l0 (⟨#[99, 111, 110, 116, 101, 110, 116, 45, 108, 101, 110, 103, 116, 104]⟩ : ByteArray) t103 false _ ?side1 ?side2 A3.out) ?_; (case side1 => repeat (first | exact HR0.out | (with_reducible refine Kd.C_alloc ?_ _) | (with_reducible refine Kd.C_drewN ?_ _) | (with_reducible refine Kd.C_drew ?_))); (case side2 => exact HC0.out); rintro e w' ⟨rfl, ⟨nd, rfl⟩⟩; refine ⟨_, rfl, ?_⟩) | (go_at_call 59; (with_reducible refine (zQ.calls k _ _ l0 t105 _ ?side1 ?side2 A7.out).mono ?_); (case side1 => repeat (first | exact HR0.out | (with_reducible refine Kd.C_alloc ?_ _) | (with_reducible refine Kd.C_drewN ?_ _) | (with_reducible refine Kd.C_drew ?_))); (case side2 => exact HC0.out); rintro e w8 ⟨rfl, hb⟩; replace HB := ak (zb bq hb); (try clear hb)))
    go_ret
    exact ⟨rv, bq⟩
   ·have c6b0 := decide_eq_false c6
    have c6b1 : decide (l0.length < 12) = false := decide_eq_false (by omega)
    clear c6
    obtain rfl := oi1 H
    go_enter Tryz.func27, Tryz.ntmps27
    go_wp2_with (first | ((with_reducible refine za (f := 58) rfl ?_); refine cl 9 rfl Tryz.func58 #[.slice A0 l0.length c0, .string ⟨#[116, 114, 97, 110, 115, 102, 101, 114, 45, 101, 110, 99, 111, 100, 105, 110, 103]⟩] (zH.calls k _ _ l0 (⟨#[116, 114, 97, 110, 115, 102, 101, 114, 45, 101, 110, 99, 111, 100, 105, 110, 103]⟩ : ByteArray) t101 false _ ?side1 ?side2 A2.out) ?_; (case side1 => repeat (first | exact HR0.out | (with_reducible refine Kd.C_alloc ?_ _) | (with_reducible refine Kd.C_drewN ?_ _) | (with_reducible refine Kd.C_drew ?_))); (case side2 => exact HC0.out); rintro e w' ⟨rfl, ⟨nd, rfl⟩⟩; refine ⟨_, rfl, ?_⟩) | ((with_reducible refine za (f := 58) rfl ?_); refine cl 14 rfl Tryz.func58 #[.slice A0 l0.length c0, .string ⟨#[99, 111, 110, 116, 101, 110, 116, 45, 108, 101, 110, 103, 116, 104]⟩] (zH.calls k _ _ l0 (⟨#[99, 111, 110, 116, 101, 110, 116, 45, 108, 101, 110, 103, 116, 104]⟩ : ByteArray) t103 false _ ?side1 ?side2 A3.out) ?_; (case side1 => repeat (first | exact HR0.out | (with_reducible refine Kd.C_alloc ?_ _) | (with_reducible refine Kd.C_drewN ?_ _) | (with_reducible refine Kd.C_drew ?_))); (case side2 => exact HC0.out); rintro e w' ⟨rfl, ⟨nd, rfl⟩⟩; refine ⟨_, rfl, ?_⟩))
    go_ret
    exact ⟨rv, bq⟩
def yx.f (k : Nat) (a0_0 : ByteArray) (a0_1 : ByteArray) (l0_2 : List (S55)) (a0_3 : ByteArray) : Option (Bool) := (zx.f k a0_0).bind fun t102 => (if t102 = true then (if (a0_0.size : Int) ≤ 10 then ((yA.f k a0_1).bind fun t103 => (if t103 = true then ((yR.f k l0_2).bind fun t104 => (if t104 = true then (some (decide ((a0_3.size : Int) ≤ 60))) else (some false))) else (some false))) else (some false)) else (some false))
theorem yx.mono : ∀ a0 a1 a2 a3 k, LeO (yx.f k a0 a1 a2 a3) (yx.f (k + 1) a0 a1 a2 a3) := by
 intro a0 a1 a2 a3 k
 unfold yx.f
 exact mq3 zx.mono yA.mono yR.mono
theorem yx.calls (k : Nat) (a0_0 : ByteArray) (a0_1 : ByteArray) (A0_2 : Option Addr) (c0_2 : Nat) (l0_2 : List (S55)) (a0_3 : ByteArray) (r : Bool) (w : World) (hr0_2 : Kd.C k55 w A0_2 l0_2.length l0_2) (hc0_2 : l0_2.length ≤ c0_2) (h : yx.f k a0_0 a0_1 l0_2 a0_3 = some r) :
  Calls Tryz.prog 8 #[.agg #[.string a0_0, .string a0_1, .slice A0_2 l0_2.length c0_2, .string a0_3]] w fun e w' => e = .returned (.bool r) ∧ Below w.heap.size w w' := by
 have hu26 := Tryz.underlying26
 have HR0_2 := ak hr0_2
 have HC0_2 := ak hc0_2
 clear hr0_2 hc0_2
 have HB := ak (Below.refl w.heap.size w)
 have H := h
 unfold yx.f at H
 clear h
 replace H := ob H
 obtain ⟨t102, A2, H⟩ := H
 replace H := sb H
 rcases H with ⟨rfl, H⟩ | ⟨rfl, H⟩
 ·replace H := si H
  rcases H with ⟨c4, H⟩ | ⟨c4, H⟩
  ·have c4b0 := decide_eq_true c4
   have c4b1 : decide (a0_0.size ≤ 10) = true := decide_eq_true (by omega)
   clear c4
   replace H := ob H
   obtain ⟨t103, A5, H⟩ := H
   replace H := sb H
   rcases H with ⟨rfl, H⟩ | ⟨rfl, H⟩
   ·replace H := ob H
    obtain ⟨t104, A7, H⟩ := H
    try dsimp only at H
    replace H := sb H
    rcases H with ⟨rfl, H⟩ | ⟨rfl, H⟩
    ·obtain rfl := oi1 H
     go_enter Tryz.func8, Tryz.ntmps8
     go_wp2_with (first | ((with_reducible refine zl (N := 1) rfl ?_); (try (refine yd (by rfl) ?_; dsimp only)); refine bx 1 #[.string a0_0, .string a0_1, .slice A0_2 l0_2.length c0_2, .string a0_3] 26 ?_; intro gb101 hg w9 hbox hb; have BK101 := ak (hbox); have GW101 := ak ((by rw [hg]; exact (zd bq) : w.heap.size ≤ gb101)); have GE101 := GW101; replace HB := ak (zb bq hb); clear hb hbox hg; obtain ⟨hcz10_0, hcz10_1, hcz10_2, hcz10_3, hfz10_0, hfz10_1, hfz10_2, hfz10_3⟩ := blk4 BK101.out) | ((with_reducible refine za (f := 25) rfl ?_); refine cl 5 rfl Tryz.func25 #[.string a0_0] (zx.calls k a0_0 true _ A2.out) ?_; rintro e w' ⟨rfl, ⟨nd, rfl⟩⟩; refine ⟨_, rfl, ?_⟩) | (go_at_call 26; (with_reducible refine (yA.calls k a0_1 true _ A5.out).mono ?_); rintro e w' ⟨rfl, ⟨nd, rfl⟩⟩) | (go_at_call 27; (with_reducible refine (yR.calls k _ _ l0_2 true _ ?side1 ?side2 A7.out).mono ?_); (case side1 => repeat (first | exact (Kd.C_below HR0_2.out (bq1 GE101.out)) | (with_reducible refine Kd.C_alloc ?_ _) | (with_reducible refine Kd.C_drewN ?_ _) | (with_reducible refine Kd.C_drew ?_))); (case side2 => exact HC0_2.out); rintro e w11 ⟨rfl, hb⟩; replace BK101 := ak (ze (blq BK101.out) hb); replace HB := ak (zb (bq1 GE101.out) hb); (try clear hb); obtain ⟨hcz12_0, hcz12_1, hcz12_2, hcz12_3, hfz12_0, hfz12_1, hfz12_2, hfz12_3⟩ := blk4 BK101.out))
     go_ret
     exact ⟨rv, bq1 GE101.out⟩
    ·obtain rfl := oi1 H
     go_enter Tryz.func8, Tryz.ntmps8
     go_wp2_with (first | ((with_reducible refine zl (N := 1) rfl ?_); (try (refine yd (by rfl) ?_; dsimp only)); refine bx 1 #[.string a0_0, .string a0_1, .slice A0_2 l0_2.length c0_2, .string a0_3] 26 ?_; intro gb101 hg w13 hbox hb; have BK101 := ak (hbox); have GW101 := ak ((by rw [hg]; exact (zd bq) : w.heap.size ≤ gb101)); have GE101 := GW101; replace HB := ak (zb bq hb); clear hb hbox hg; obtain ⟨hcz14_0, hcz14_1, hcz14_2, hcz14_3, hfz14_0, hfz14_1, hfz14_2, hfz14_3⟩ := blk4 BK101.out) | ((with_reducible refine za (f := 25) rfl ?_); refine cl 5 rfl Tryz.func25 #[.string a0_0] (zx.calls k a0_0 true _ A2.out) ?_; rintro e w' ⟨rfl, ⟨nd, rfl⟩⟩; refine ⟨_, rfl, ?_⟩) | (go_at_call 26; (with_reducible refine (yA.calls k a0_1 true _ A5.out).mono ?_); rintro e w' ⟨rfl, ⟨nd, rfl⟩⟩) | (go_at_call 27; (with_reducible refine (yR.calls k _ _ l0_2 false _ ?side1 ?side2 A7.out).mono ?_); (case side1 => repeat (first | exact (Kd.C_below HR0_2.out (bq1 GE101.out)) | (with_reducible refine Kd.C_alloc ?_ _) | (with_reducible refine Kd.C_drewN ?_ _) | (with_reducible refine Kd.C_drew ?_))); (case side2 => exact HC0_2.out); rintro e w15 ⟨rfl, hb⟩; replace BK101 := ak (ze (blq BK101.out) hb); replace HB := ak (zb (bq1 GE101.out) hb); (try clear hb)))
     go_ret
     exact ⟨rv, bq1 GE101.out⟩
   ·obtain rfl := oi1 H
    go_enter Tryz.func8, Tryz.ntmps8
    go_wp2_with (first | ((with_reducible refine zl (N := 1) rfl ?_); (try (refine yd (by rfl) ?_; dsimp only)); refine bx 1 #[.string a0_0, .string a0_1, .slice A0_2 l0_2.length c0_2, .string a0_3] 26 ?_; intro gb101 hg w16 hbox hb; have BK101 := ak (hbox); have GW101 := ak ((by rw [hg]; exact (zd bq) : w.heap.size ≤ gb101)); have GE101 := GW101; replace HB := ak (zb bq hb); clear hb hbox hg; obtain ⟨hcz17_0, hcz17_1, hcz17_2, hcz17_3, hfz17_0, hfz17_1, hfz17_2, hfz17_3⟩ := blk4 BK101.out) | ((with_reducible refine za (f := 25) rfl ?_); refine cl 5 rfl Tryz.func25 #[.string a0_0] (zx.calls k a0_0 true _ A2.out) ?_; rintro e w' ⟨rfl, ⟨nd, rfl⟩⟩; refine ⟨_, rfl, ?_⟩) | (go_at_call 26; (with_reducible refine (yA.calls k a0_1 false _ A5.out).mono ?_); rintro e w' ⟨rfl, ⟨nd, rfl⟩⟩))
    go_ret
    exact ⟨rv, bq1 GE101.out⟩
  ·have c4b0 := decide_eq_false c4
   have c4b1 : decide (a0_0.size ≤ 10) = false := decide_eq_false (by omega)
   clear c4
   obtain rfl := oi1 H
   go_enter Tryz.func8, Tryz.ntmps8
   go_wp2_with (first | ((with_reducible refine zl (N := 1) rfl ?_); (try (refine yd (by rfl) ?_; dsimp only)); refine bx 1 #[.string a0_0, .string a0_1, .slice A0_2 l0_2.length c0_2, .string a0_3] 26 ?_; intro gb101 hg w18 hbox hb; have BK101 := ak (hbox); have GW101 := ak ((by rw [hg]; exact (zd bq) : w.heap.size ≤ gb101)); have GE101 := GW101; replace HB := ak (zb bq hb); clear hb hbox hg; obtain ⟨hcz19_0, hcz19_1, hcz19_2, hcz19_3, hfz19_0, hfz19_1, hfz19_2, hfz19_3⟩ := blk4 BK101.out) | ((with_reducible refine za (f := 25) rfl ?_); refine cl 5 rfl Tryz.func25 #[.string a0_0] (zx.calls k a0_0 true _ A2.out) ?_; rintro e w' ⟨rfl, ⟨nd, rfl⟩⟩; refine ⟨_, rfl, ?_⟩))
   go_ret
   exact ⟨rv, bq1 GE101.out⟩
 ·obtain rfl := oi1 H
  go_enter Tryz.func8, Tryz.ntmps8
  go_wp2_with (first | ((with_reducible refine zl (N := 1) rfl ?_); (try (refine yd (by rfl) ?_; dsimp only)); refine bx 1 #[.string a0_0, .string a0_1, .slice A0_2 l0_2.length c0_2, .string a0_3] 26 ?_; intro gb101 hg w20 hbox hb; have BK101 := ak (hbox); have GW101 := ak ((by rw [hg]; exact (zd bq) : w.heap.size ≤ gb101)); have GE101 := GW101; replace HB := ak (zb bq hb); clear hb hbox hg; obtain ⟨hcz21_0, hcz21_1, hcz21_2, hcz21_3, hfz21_0, hfz21_1, hfz21_2, hfz21_3⟩ := blk4 BK101.out) | ((with_reducible refine za (f := 25) rfl ?_); refine cl 5 rfl Tryz.func25 #[.string a0_0] (zx.calls k a0_0 false _ A2.out) ?_; rintro e w' ⟨rfl, ⟨nd, rfl⟩⟩; refine ⟨_, rfl, ?_⟩))
  go_ret
  exact ⟨rv, bq1 GE101.out⟩
theorem eqA55 (d : Nat) (w : World) (x0 y0 : ByteArray) (x1 y1 : ByteArray) :
  (Op.equalIn (d + 2) 55 (.agg #[.string x0, .string x1]) (.agg #[.string y0, .string y1])).run Tryz.prog w = .ok (x0.toList == y0.toList && (x1.toList == y1.toList)) w := by
 refine eqA_of Tryz.underlying55 (by kernel_rfl) ?_
 refine eqf_cons (by rfl) (by go_simp; rfl) (by go_simp; rfl) (by go_simp) ?_
 exact eqf_last (by rfl) (by go_simp; rfl) (by go_simp; rfl) (by go_simp)
def zx0.f (l0 : List Int) (a1 : Int) : Option (Int) := if a1 < (l0.length : Int) then (if 0 ≤ a1 then (some (wrap64 (rd l0 a1))) else (none)) else (some (Int.tmod (wrap64 ((wrap64 (a1 * 37)) + (wrap64 ((l0.length : Int) * 11)))) 256))
theorem zx0.calls (A0 : Option Addr) (c0 : Nat) (l0 : List Int) (a1 : Int) (r : Int) (w : World) (hr0 : Kd.C (Kd.int .u8) w A0 l0.length l0) (hc0 : l0.length ≤ c0) (h : zx0.f l0 a1 = some r) :
  Calls Tryz.prog 10 #[.slice A0 l0.length c0, .int .i64 a1] w fun e w' => e = .returned (.int .i64 r) ∧ Drawn0 w w' := by
 have HR0 := ak hr0
 have HC0 := ak hc0
 clear hr0 hc0
 have H := h
 unfold zx0.f at H
 clear h
 replace H := sd H
 rcases H with ⟨c3b0, H⟩ | ⟨c3b0, H⟩
 ·replace H := sT H
  obtain ⟨c4, H⟩ := H
  have c4b0 := decide_eq_true c4
  clear c4
  obtain rfl := oi1 H
  have p101 : 0 ≤ (a1 : Int) := of_decide_eq_true asm
  have q101 : a1 < (l0.length : Int) := of_decide_eq_true asm
  obtain ⟨ad101, e101, hx101_0⟩ := Kd.at_int HR0.out a1 p101 q101
  cases e101
  replace p101 := eq_true p101
  replace q101 := eq_true q101
  go_enter Tryz.func10, Tryz.ntmps10
  go_wp2
  go_ret
  exact ⟨rt, dr⟩
 ·obtain rfl := oi1 H
  go_enter Tryz.func10, Tryz.ntmps10
  go_wp2
  go_ret
  exact ⟨rt, dr⟩
def xf.f (s0_0 : List Int) (s0_1 : Int) (s0_2 : Int) (l1 : List Int) : Option (Int × Int × Int) := (zp.f s0_0 s0_1 s0_2 (l1.length : Int)).bind fun bt101 => (if 0 ≤ bt101.1 then (if bt101.1 < (l1.length : Int) then (some (rd l1 bt101.1, bt101.2.1, bt101.2.2)) else (none)) else (none))
theorem xf.calls (g : Nat) (s0_0 : List Int) (s0_1 : Int) (s0_2 : Int) (A1 : Option Addr) (c1 : Nat) (l1 : List Int) (r1 : Int) (r2 : Int) (r3 : Int) (w0 w : World) (hI : IsS88 w0 w g s0_0 s0_1 s0_2) (hB : Below w0.heap.size w0 w) (hr1 : Kd.C (Kd.int .i64) w A1 l1.length l1) (hc1 : l1.length ≤ c1) (hf1 : ∀ ad, A1 = some ad → 0 < l1.length → ad.block ≠ g) (h : xf.f s0_0 s0_1 s0_2 l1 = some (r1, r2, r3)) :
  Calls Tryz.prog 61 #[.pointer (some ⟨g, 0, none⟩), .slice A1 l1.length c1] w fun e w' => e = .returned (.int .i64 r1) ∧ IsS88 w0 w' g s0_0 r2 r3 ∧ Below w0.heap.size w0 w' ∧ KeepBut w w' g none := by
 have HR1 := ak hr1
 have HC1 := ak hc1
 clear hr1 hc1
 have HI0 := ak hI
 have HK := ak (KeepBut.refl w g none)
 have HL := ak hB.size
 clear hI
 have HW0 := ak hB.size
 have HB := ak hB
 clear hB
 have H := h
 unfold xf.f at H
 clear h
 replace H := ob H
 obtain ⟨⟨t101, t102, t103⟩, A3, H⟩ := H
 try dsimp only at H
 replace H := sT H
 obtain ⟨c4, H⟩ := H
 have c4b0 := decide_eq_true c4
 clear c4
 replace H := sT H
 obtain ⟨c5, H⟩ := H
 have c5b0 := decide_eq_true c5
 clear c5
 obtain ⟨rfl, rfl, rfl⟩ := oi3 H
 go_enter Tryz.func61, Tryz.ntmps61
 go_wp2_with (first | ((with_reducible refine za (f := 38) rfl ?_); refine cl 9 rfl Tryz.func38 #[.pointer (some ⟨g, 0, none⟩), .int .i64 (l1.length : Int)] (zp.calls g s0_0 s0_1 s0_2 (l1.length : Int) t101 t102 t103 w0 _ ?side1 ?side2 A3.out) ?_; (case side1 => exact zU HI0.out); (case side2 => exact bq1 (zc HI0.out)); rintro e w6 ⟨rfl, hi, hb, hk⟩; refine ⟨_, rfl, ?_⟩; replace HK := ak (KeepBut.trans kq hk (.inl rfl)); replace HB := ak (hb); replace HI0 := ak (hi); (try clear hb hk hi); have p104 : 0 ≤ (t101 : Int) := of_decide_eq_true asm; have q104 : t101 < (l1.length : Int) := of_decide_eq_true asm; obtain ⟨ad104, e104, hx104_0⟩ := Kd.at_int HR1.out t101 p104 q104; cases e104; replace hx104_0 := xG0 HK.out hx104_0 (by first | (rw [zG]; exact hf1 _ rfl (by omega)) | exact hf1 _ rfl (by omega) | exact hf1 ad104 rfl (by omega)); replace p104 := eq_true p104; replace q104 := eq_true q104))
 go_ret
 exact ⟨rv, zU HI0.out, bq1 (zc HI0.out), kq⟩
def yJ.f (k : Nat) (s0_0 : List Int) (s0_1 : Int) (s0_2 : Int) : Option (Int × (List (S55)) × ByteArray × Int × Int) := (xf.f s0_0 s0_1 s0_2 (([200, 200, 200, 200, 404, 301, 203, 500, 204, 304] : List Int))).bind fun bt105 => ((zK.f k s0_0 bt105.2.1 bt105.2.2).bind fun bt108 => (if bt105.1 = 204 then (some (bt105.1, bt108.1, (⟨#[]⟩ : ByteArray), bt108.2.1, bt108.2.2)) else (if bt105.1 = 304 then (some (bt105.1, bt108.1, (⟨#[]⟩ : ByteArray), bt108.2.1, bt108.2.2)) else ((zP.f k s0_0 bt108.2.1 bt108.2.2 8).bind fun bt114 => (some (bt105.1, bt108.1, bt114.1, bt114.2.1, bt114.2.2))))))
theorem yJ.mono : ∀ a0 a1 a2 k, LeO (yJ.f k a0 a1 a2) (yJ.f (k + 1) a0 a1 a2) := by
 intro a0 a1 a2 k
 unfold yJ.f
 exact mq2 zP.mono zK.mono
theorem yJ.calls (k : Nat) (g : Nat) (s0_0 : List Int) (s0_1 : Int) (s0_2 : Int) (r1 : Int) (r2 : List (S55)) (r3 : ByteArray) (r4 : Int) (r5 : Int) (w0 w : World) (hI : IsS88 w0 w g s0_0 s0_1 s0_2) (hB : Below w0.heap.size w0 w) (h : yJ.f k s0_0 s0_1 s0_2 = some (r1, r2, r3, r4, r5)) :
  Calls Tryz.prog 60 #[.pointer (some ⟨g, 0, none⟩)] w fun e w' => ∃ v1_ : Value, e = .returned (.agg #[.int .i64 r1, v1_, .string r3]) ∧ Kd.R k55 55 w' w.heap.size (fun _ => True) v1_ r2 ∧ IsS88 w0 w' g s0_0 r4 r5 ∧ Below w0.heap.size w0 w' ∧ KeepBut w w' g none := by
 have hu35 := Tryz.underlying35
 have HI0 := ak hI
 have HK := ak (KeepBut.refl w g none)
 have HL := ak hB.size
 clear hI
 have HW0 := ak hB.size
 have HB := ak hB
 clear hB
 have H := h
 unfold yJ.f at H
 clear h
 obtain ⟨y102, hy102⟩ : ∃ y_ : List Int, y_ = (([200, 200, 200, 200, 404, 301, 203, 500, 204, 304] : List Int)) := ⟨_, rfl⟩
 replace H : ((xf.f s0_0 s0_1 s0_2 y102).bind fun bt105 => ((zK.f k s0_0 bt105.2.1 bt105.2.2).bind fun bt108 => (if bt105.1 = 204 then (some (bt105.1, bt108.1, (⟨#[]⟩ : ByteArray), bt108.2.1, bt108.2.2)) else (if bt105.1 = 304 then (some (bt105.1, bt108.1, (⟨#[]⟩ : ByteArray), bt108.2.1, bt108.2.2)) else ((zP.f k s0_0 bt108.2.1 bt108.2.2 8).bind fun bt114 => (some (bt105.1, bt108.1, bt114.1, bt114.2.1, bt114.2.2))))))) = some (r1, r2, r3, r4, r5) := rhq hy102
 have Ny102 := ak hy102
 clear hy102
 replace H := ob H
 obtain ⟨⟨t105, t106, t107⟩, A2, H⟩ := H
 try dsimp only at H
 replace H := ob H
 obtain ⟨⟨t108, t111, t112⟩, A3, H⟩ := H
 try dsimp only at H
 replace H := se H
 rcases H with ⟨c4b0, c4b1, H⟩ | ⟨c4, c4b0, c4b1, H⟩
 ·obtain ⟨rfl, rfl, rfl, rfl, rfl⟩ := oi5 H
  go_enter Tryz.func60, Tryz.ntmps60
  go_wp2_with (first | ((with_reducible refine zl (N := 2) rfl ?_); refine bx 2 #[.int .i64 0, .slice none 0 0, .string ⟨#[]⟩] 35 ?_; intro gb101 hg w5 hbox hb; have BK101 := ak (hbox); have GW101 := ak ((by rw [hg]; exact (yi (w := w) (g := g) (row := none) kq) : w.heap.size ≤ gb101)); have GE101 := ak ((Nat.le_trans HW0.out (by rw [hg]; exact (yi (w := w) (g := g) (row := none) kq) : w.heap.size ≤ gb101) : w0.heap.size ≤ gb101)); have NB0_101 := ak ((by rw [hg]; exact Nat.ne_of_lt (xE (show IsS88 w0 _ g s0_0 s0_1 s0_2 from zU HI0.out)) : g ≠ gb101)); have NB101_0 := ak NB0_101.out.symm; replace HK := ak (KeepBut.trans kq (zF hb g none) (.inl rfl)); replace HB := ak (zb (bq1 (zc HI0.out)) hb); replace HI0 := ak (IsS88.below (zU HI0.out) hb); clear hb hbox hg) | ((with_reducible refine zl (N := 5) rfl ?_); refine rI .i64 3 5 Ny102.out ?_; intro v103 w6 ho7 hb; have HO104 := ak (Kd.R_lower ho7 (yi (w := w) (g := g) (row := none) (kq1 GW101.out))); replace BK101 := ak (ze (blq BK101.out) hb); replace HK := ak (KeepBut.trans (kq1 GW101.out) (zF hb g none) (.inl rfl)); replace HB := ak (zb (bq2 (zc HI0.out) GE101.out) hb); replace HI0 := ak (IsS88.below (zS HI0.out NB0_101.out) hb); clear hb ho7; obtain ⟨Ao8, co8, eo8⟩ := Kd.R_slice HO104.out; subst eo8) | ((with_reducible refine za (f := 61) rfl ?_); refine cl 6 rfl Tryz.func61 #[.pointer (some ⟨g, 0, none⟩), .slice Ao8 y102.length co8] (xf.calls g s0_0 s0_1 s0_2 _ _ y102 t105 t106 t107 w0 _ ?side1 ?side2 ?side3 ?side4 ?side5 A2.out) ?_; (case side1 => exact zS HI0.out NB0_101.out); (case side2 => exact bq2 (zc HI0.out) GE101.out); (case side3 => exact cq (Kd.R_reads' HO104.out).2.2); (case side4 => exact (Kd.R_reads' HO104.out).2.1); (case side5 => exact xD (yp HI0.out HO104.out (by decide))); rintro e w9 ⟨rfl, hi, hb, hk⟩; refine ⟨_, rfl, ?_⟩; replace BK101 := ak (KeepBut.blk hk (blq BK101.out) NB101_0.out (by simp)); replace HO104 := ak (Kd.R_mono (Kd.R_keep (IsS88.apart (show IsS88 w0 _ g s0_0 s0_1 s0_2 from zS HI0.out NB0_101.out) (rdq HO104.out) (by decide)) hk (fun _ h => h.2)) (fun _ h => h.1)); replace HK := ak (KeepBut.trans (kq1 GW101.out) hk (.inl rfl)); replace HB := ak (hb); replace HI0 := ak (hi); (try clear hb hk hi)) | ((with_reducible refine za (f := 72) rfl ?_); refine cl 8 rfl Tryz.func72 #[.pointer (some ⟨g, 0, none⟩)] (zK.calls k g s0_0 t106 t107 t108 t111 t112 w0 _ ?side1 ?side2 A3.out) ?_; (case side1 => exact zS HI0.out NB0_101.out); (case side2 => exact bq2 (zc HI0.out) GE101.out); rintro e w10 ⟨v109, rfl, ho0, hi, hb, hk⟩; refine ⟨_, rfl, ?_⟩; have HO110 := ak (Kd.R_lower ho0 (yi (w := w) (g := g) (row := none) (kq1 GW101.out))); replace BK101 := ak (KeepBut.blk hk (blq BK101.out) NB101_0.out (by simp)); replace HO104 := ak (Kd.R_mono (Kd.R_keep (IsS88.apart (show IsS88 w0 _ g s0_0 t106 t107 from zS HI0.out NB0_101.out) (rdq HO104.out) (by decide)) hk (fun _ h => h.2)) (fun _ h => h.1)); replace HK := ak (KeepBut.trans (kq1 GW101.out) hk (.inl rfl)); replace HB := ak (hb); replace HI0 := ak (hi); (try clear hb hk hi ho0); obtain ⟨Ao11, co11, eo11⟩ := Kd.R_slice HO110.out; subst eo11) | ((with_reducible refine zl (N := 3) rfl ?_); refine bx 3 #[.int .i64 0, .slice none 0 0, .string ⟨#[]⟩] 35 ?_; intro gb113 hg w12 hbox hb; have BK113 := ak (hbox); have GW113 := ak ((by rw [hg]; exact (yi (w := w) (g := g) (row := none) (kq1 GW101.out)) : w.heap.size ≤ gb113)); have GE113 := ak ((Nat.le_trans HW0.out (by rw [hg]; exact (yi (w := w) (g := g) (row := none) (kq1 GW101.out)) : w.heap.size ≤ gb113) : w0.heap.size ≤ gb113)); have NB101_113 := ak ((by rw [hg]; exact Nat.ne_of_lt (xn (blq BK101.out)) : gb101 ≠ gb113)); have NB113_101 := ak NB101_113.out.symm; have NB0_113 := ak ((by rw [hg]; exact Nat.ne_of_lt (xE (show IsS88 w0 _ g s0_0 t111 t112 from zS HI0.out NB0_101.out)) : g ≠ gb113)); have NB113_0 := ak NB0_113.out.symm; replace HO104 := ak (Kd.R_below (rdq HO104.out) hb); replace HO110 := ak (Kd.R_below (rdq HO110.out) hb); replace BK101 := ak (ze (blq BK101.out) hb); replace HK := ak (KeepBut.trans (kq1 GW101.out) (zF hb g none) (.inl rfl)); replace HB := ak (zb (bq2 (zc HI0.out) GE101.out) hb); replace HI0 := ak (IsS88.below (zS HI0.out NB0_101.out) hb); clear hb hbox hg; have hnb13 := NB113_101.out; have hnc13 := NB101_113.out; have hnb14 := NB113_0.out; have hnc14 := NB0_113.out; obtain ⟨hcz15_0, hcz15_1, hcz15_2, hfz15_0, hfz15_1, hfz15_2⟩ := blk3 BK113.out; have hnb16 := NB101_0.out; have hnc16 := NB0_101.out; obtain ⟨hcz17_0, hcz17_1, hcz17_2, hfz17_0, hfz17_1, hfz17_2⟩ := blk3 BK101.out))
  refine bodyPost_ret (results_cell_row rfl _ _ gb101 35 #[.int .i64 t105, .slice Ao11 t108.length co11, .string ⟨#[]⟩] (0, 0) _ rfl (blp1 BK101.out NB101_113.out) Tryz.underlying35 rfl (by kernel_rfl)) rfl ?_
  exact ⟨_, rv, by (with_reducible repeat (first | apply Kd.R_alloc | apply Kd.R_drewN | apply Kd.R_drew)); exact Kd.R_mono (Kd.R_far (p := ⟨gb101, 2, none⟩) (Kd.R_far (p := ⟨gb101, 1, none⟩) (Kd.R_far (p := ⟨gb101, 0, none⟩) (Kd.R_far (p := ⟨gb113, 2, none⟩) (Kd.R_far (p := ⟨gb113, 1, none⟩) (Kd.R_far (p := ⟨gb113, 0, none⟩) (Kd.R_types (Kd.R_types HO110.out BK113.out (by decide)) BK101.out (by decide)) (fun _ hk => hk.1.2) (.int .i64 t105)) (fun _ hk => hk.1.2) (.slice Ao11 t108.length co11)) (fun _ hk => hk.1.2) (.string ⟨#[]⟩)) (fun _ hk => hk.2) (.int .i64 t105)) (fun _ hk => hk.2) (.slice Ao11 t108.length co11)) (fun _ hk => hk.2) (.string ⟨#[]⟩)) (fun _ hk => trivial), yU HI0.out NB0_101.out NB0_113.out, bq3 (zc HI0.out) GE101.out GE113.out, kq2 GW101.out GW113.out⟩
 ·replace H := se H
  rcases H with ⟨c18b0, c18b1, H⟩ | ⟨c18, c18b0, c18b1, H⟩
  ·obtain ⟨rfl, rfl, rfl, rfl, rfl⟩ := oi5 H
   go_enter Tryz.func60, Tryz.ntmps60
   go_wp2_with (first | ((with_reducible refine zl (N := 2) rfl ?_); refine bx 2 #[.int .i64 0, .slice none 0 0, .string ⟨#[]⟩] 35 ?_; intro gb101 hg w19 hbox hb; have BK101 := ak (hbox); have GW101 := ak ((by rw [hg]; exact (yi (w := w) (g := g) (row := none) kq) : w.heap.size ≤ gb101)); have GE101 := ak ((Nat.le_trans HW0.out (by rw [hg]; exact (yi (w := w) (g := g) (row := none) kq) : w.heap.size ≤ gb101) : w0.heap.size ≤ gb101)); have NB0_101 := ak ((by rw [hg]; exact Nat.ne_of_lt (xE (show IsS88 w0 _ g s0_0 s0_1 s0_2 from zU HI0.out)) : g ≠ gb101)); have NB101_0 := ak NB0_101.out.symm; replace HK := ak (KeepBut.trans kq (zF hb g none) (.inl rfl)); replace HB := ak (zb (bq1 (zc HI0.out)) hb); replace HI0 := ak (IsS88.below (zU HI0.out) hb); clear hb hbox hg) | ((with_reducible refine zl (N := 5) rfl ?_); refine rI .i64 3 5 Ny102.out ?_; intro v103 w20 ho21 hb; have HO104 := ak (Kd.R_lower ho21 (yi (w := w) (g := g) (row := none) (kq1 GW101.out))); replace BK101 := ak (ze (blq BK101.out) hb); replace HK := ak (KeepBut.trans (kq1 GW101.out) (zF hb g none) (.inl rfl)); replace HB := ak (zb (bq2 (zc HI0.out) GE101.out) hb); replace HI0 := ak (IsS88.below (zS HI0.out NB0_101.out) hb); clear hb ho21; obtain ⟨Ao22, co22, eo22⟩ := Kd.R_slice HO104.out; subst eo22) | ((with_reducible refine za (f := 61) rfl ?_); refine cl 6 rfl Tryz.func61 #[.pointer (some ⟨g, 0, none⟩), .slice Ao22 y102.length co22] (xf.calls g s0_0 s0_1 s0_2 _ _ y102 t105 t106 t107 w0 _ ?side1 ?side2 ?side3 ?side4 ?side5 A2.out) ?_; (case side1 => exact zS HI0.out NB0_101.out); (case side2 => exact bq2 (zc HI0.out) GE101.out); (case side3 => exact cq (Kd.R_reads' HO104.out).2.2); (case side4 => exact (Kd.R_reads' HO104.out).2.1); (case side5 => exact xD (yp HI0.out HO104.out (by decide))); rintro e w23 ⟨rfl, hi, hb, hk⟩; refine ⟨_, rfl, ?_⟩; replace BK101 := ak (KeepBut.blk hk (blq BK101.out) NB101_0.out (by simp)); replace HO104 := ak (Kd.R_mono (Kd.R_keep (IsS88.apart (show IsS88 w0 _ g s0_0 s0_1 s0_2 from zS HI0.out NB0_101.out) (rdq HO104.out) (by decide)) hk (fun _ h => h.2)) (fun _ h => h.1)); replace HK := ak (KeepBut.trans (kq1 GW101.out) hk (.inl rfl)); replace HB := ak (hb); replace HI0 := ak (hi); (try clear hb hk hi)) | ((with_reducible refine za (f := 72) rfl ?_); refine cl 8 rfl Tryz.func72 #[.pointer (some ⟨g, 0, none⟩)] (zK.calls k g s0_0 t106 t107 t108 t111 t112 w0 _ ?side1 ?side2 A3.out) ?_; (case side1 => exact zS HI0.out NB0_101.out); (case side2 => exact bq2 (zc HI0.out) GE101.out); rintro e w24 ⟨v109, rfl, ho0, hi, hb, hk⟩; refine ⟨_, rfl, ?_⟩; have HO110 := ak (Kd.R_lower ho0 (yi (w := w) (g := g) (row := none) (kq1 GW101.out))); replace BK101 := ak (KeepBut.blk hk (blq BK101.out) NB101_0.out (by simp)); replace HO104 := ak (Kd.R_mono (Kd.R_keep (IsS88.apart (show IsS88 w0 _ g s0_0 t106 t107 from zS HI0.out NB0_101.out) (rdq HO104.out) (by decide)) hk (fun _ h => h.2)) (fun _ h => h.1)); replace HK := ak (KeepBut.trans (kq1 GW101.out) hk (.inl rfl)); replace HB := ak (hb); replace HI0 := ak (hi); (try clear hb hk hi ho0); obtain ⟨Ao25, co25, eo25⟩ := Kd.R_slice HO110.out; subst eo25) | ((with_reducible refine zl (N := 3) rfl ?_); refine bx 3 #[.int .i64 0, .slice none 0 0, .string ⟨#[]⟩] 35 ?_; intro gb113 hg w26 hbox hb; have BK113 := ak (hbox); have GW113 := ak ((by rw [hg]; exact (yi (w := w) (g := g) (row := none) (kq1 GW101.out)) : w.heap.size ≤ gb113)); have GE113 := ak ((Nat.le_trans HW0.out (by rw [hg]; exact (yi (w := w) (g := g) (row := none) (kq1 GW101.out)) : w.heap.size ≤ gb113) : w0.heap.size ≤ gb113)); have NB101_113 := ak ((by rw [hg]; exact Nat.ne_of_lt (xn (blq BK101.out)) : gb101 ≠ gb113)); have NB113_101 := ak NB101_113.out.symm; have NB0_113 := ak ((by rw [hg]; exact Nat.ne_of_lt (xE (show IsS88 w0 _ g s0_0 t111 t112 from zS HI0.out NB0_101.out)) : g ≠ gb113)); have NB113_0 := ak NB0_113.out.symm; replace HO104 := ak (Kd.R_below (rdq HO104.out) hb); replace HO110 := ak (Kd.R_below (rdq HO110.out) hb); replace BK101 := ak (ze (blq BK101.out) hb); replace HK := ak (KeepBut.trans (kq1 GW101.out) (zF hb g none) (.inl rfl)); replace HB := ak (zb (bq2 (zc HI0.out) GE101.out) hb); replace HI0 := ak (IsS88.below (zS HI0.out NB0_101.out) hb); clear hb hbox hg; have hnb27 := NB113_101.out; have hnc27 := NB101_113.out; have hnb28 := NB113_0.out; have hnc28 := NB0_113.out; obtain ⟨hcz29_0, hcz29_1, hcz29_2, hfz29_0, hfz29_1, hfz29_2⟩ := blk3 BK113.out; have hnb30 := NB101_0.out; have hnc30 := NB0_101.out; obtain ⟨hcz31_0, hcz31_1, hcz31_2, hfz31_0, hfz31_1, hfz31_2⟩ := blk3 BK101.out))
   refine bodyPost_ret (results_cell_row rfl _ _ gb101 35 #[.int .i64 t105, .slice Ao25 t108.length co25, .string ⟨#[]⟩] (0, 0) _ rfl (blp1 BK101.out NB101_113.out) Tryz.underlying35 rfl (by kernel_rfl)) rfl ?_
   exact ⟨_, rv, by (with_reducible repeat (first | apply Kd.R_alloc | apply Kd.R_drewN | apply Kd.R_drew)); exact Kd.R_mono (Kd.R_far (p := ⟨gb101, 2, none⟩) (Kd.R_far (p := ⟨gb101, 1, none⟩) (Kd.R_far (p := ⟨gb101, 0, none⟩) (Kd.R_far (p := ⟨gb113, 2, none⟩) (Kd.R_far (p := ⟨gb113, 1, none⟩) (Kd.R_far (p := ⟨gb113, 0, none⟩) (Kd.R_types (Kd.R_types HO110.out BK113.out (by decide)) BK101.out (by decide)) (fun _ hk => hk.1.2) (.int .i64 t105)) (fun _ hk => hk.1.2) (.slice Ao25 t108.length co25)) (fun _ hk => hk.1.2) (.string ⟨#[]⟩)) (fun _ hk => hk.2) (.int .i64 t105)) (fun _ hk => hk.2) (.slice Ao25 t108.length co25)) (fun _ hk => hk.2) (.string ⟨#[]⟩)) (fun _ hk => trivial), yU HI0.out NB0_101.out NB0_113.out, bq3 (zc HI0.out) GE101.out GE113.out, kq2 GW101.out GW113.out⟩
  ·replace H := ob H
   obtain ⟨⟨t114, t115, t116⟩, A32, H⟩ := H
   try dsimp only at H
   obtain ⟨rfl, rfl, rfl, rfl, rfl⟩ := oi5 H
   go_enter Tryz.func60, Tryz.ntmps60
   go_wp2_with (first | ((with_reducible refine zl (N := 2) rfl ?_); refine bx 2 #[.int .i64 0, .slice none 0 0, .string ⟨#[]⟩] 35 ?_; intro gb101 hg w33 hbox hb; have BK101 := ak (hbox); have GW101 := ak ((by rw [hg]; exact (yi (w := w) (g := g) (row := none) kq) : w.heap.size ≤ gb101)); have GE101 := ak ((Nat.le_trans HW0.out (by rw [hg]; exact (yi (w := w) (g := g) (row := none) kq) : w.heap.size ≤ gb101) : w0.heap.size ≤ gb101)); have NB0_101 := ak ((by rw [hg]; exact Nat.ne_of_lt (xE (show IsS88 w0 _ g s0_0 s0_1 s0_2 from zU HI0.out)) : g ≠ gb101)); have NB101_0 := ak NB0_101.out.symm; replace HK := ak (KeepBut.trans kq (zF hb g none) (.inl rfl)); replace HB := ak (zb (bq1 (zc HI0.out)) hb); replace HI0 := ak (IsS88.below (zU HI0.out) hb); clear hb hbox hg) | ((with_reducible refine zl (N := 5) rfl ?_); refine rI .i64 3 5 Ny102.out ?_; intro v103 w34 ho35 hb; have HO104 := ak (Kd.R_lower ho35 (yi (w := w) (g := g) (row := none) (kq1 GW101.out))); replace BK101 := ak (ze (blq BK101.out) hb); replace HK := ak (KeepBut.trans (kq1 GW101.out) (zF hb g none) (.inl rfl)); replace HB := ak (zb (bq2 (zc HI0.out) GE101.out) hb); replace HI0 := ak (IsS88.below (zS HI0.out NB0_101.out) hb); clear hb ho35; obtain ⟨Ao36, co36, eo36⟩ := Kd.R_slice HO104.out; subst eo36) | ((with_reducible refine za (f := 61) rfl ?_); refine cl 6 rfl Tryz.func61 #[.pointer (some ⟨g, 0, none⟩), .slice Ao36 y102.length co36] (xf.calls g s0_0 s0_1 s0_2 _ _ y102 t105 t106 t107 w0 _ ?side1 ?side2 ?side3 ?side4 ?side5 A2.out) ?_; (case side1 => exact zS HI0.out NB0_101.out); (case side2 => exact bq2 (zc HI0.out) GE101.out); (case side3 => exact cq (Kd.R_reads' HO104.out).2.2); (case side4 => exact (Kd.R_reads' HO104.out).2.1); (case side5 => exact xD (yp HI0.out HO104.out (by decide))); rintro e w37 ⟨rfl, hi, hb, hk⟩; refine ⟨_, rfl, ?_⟩; replace BK101 := ak (KeepBut.blk hk (blq BK101.out) NB101_0.out (by simp)); replace HO104 := ak (Kd.R_mono (Kd.R_keep (IsS88.apart (show IsS88 w0 _ g s0_0 s0_1 s0_2 from zS HI0.out NB0_101.out) (rdq HO104.out) (by decide)) hk (fun _ h => h.2)) (fun _ h => h.1)); replace HK := ak (KeepBut.trans (kq1 GW101.out) hk (.inl rfl)); replace HB := ak (hb); replace HI0 := ak (hi); (try clear hb hk hi)) | ((with_reducible refine za (f := 72) rfl ?_); refine cl 8 rfl Tryz.func72 #[.pointer (some ⟨g, 0, none⟩)] (zK.calls k g s0_0 t106 t107 t108 t111 t112 w0 _ ?side1 ?side2 A3.out) ?_; (case side1 => exact zS HI0.out NB0_101.out); (case side2 => exact bq2 (zc HI0.out) GE101.out); rintro e w38 ⟨v109, rfl, ho0, hi, hb, hk⟩; refine ⟨_, rfl, ?_⟩; have HO110 := ak (Kd.R_lower ho0 (yi (w := w) (g := g) (row := none) (kq1 GW101.out))); replace BK101 := ak (KeepBut.blk hk (blq BK101.out) NB101_0.out (by simp)); replace HO104 := ak (Kd.R_mono (Kd.R_keep (IsS88.apart (show IsS88 w0 _ g s0_0 t106 t107 from zS HI0.out NB0_101.out) (rdq HO104.out) (by decide)) hk (fun _ h => h.2)) (fun _ h => h.1)); replace HK := ak (KeepBut.trans (kq1 GW101.out) hk (.inl rfl)); replace HB := ak (hb); replace HI0 := ak (hi); (try clear hb hk hi ho0); obtain ⟨Ao39, co39, eo39⟩ := Kd.R_slice HO110.out; subst eo39) | ((with_reducible refine zl (N := 3) rfl ?_); refine bx 3 #[.int .i64 0, .slice none 0 0, .string ⟨#[]⟩] 35 ?_; intro gb113 hg w40 hbox hb; have BK113 := ak (hbox); have GW113 := ak ((by rw [hg]; exact (yi (w := w) (g := g) (row := none) (kq1 GW101.out)) : w.heap.size ≤ gb113)); have GE113 := ak ((Nat.le_trans HW0.out (by rw [hg]; exact (yi (w := w) (g := g) (row := none) (kq1 GW101.out)) : w.heap.size ≤ gb113) : w0.heap.size ≤ gb113)); have NB101_113 := ak ((by rw [hg]; exact Nat.ne_of_lt (xn (blq BK101.out)) : gb101 ≠ gb113)); have NB113_101 := ak NB101_113.out.symm; have NB0_113 := ak ((by rw [hg]; exact Nat.ne_of_lt (xE (show IsS88 w0 _ g s0_0 t111 t112 from zS HI0.out NB0_101.out)) : g ≠ gb113)); have NB113_0 := ak NB0_113.out.symm; replace HO104 := ak (Kd.R_below (rdq HO104.out) hb); replace HO110 := ak (Kd.R_below (rdq HO110.out) hb); replace BK101 := ak (ze (blq BK101.out) hb); replace HK := ak (KeepBut.trans (kq1 GW101.out) (zF hb g none) (.inl rfl)); replace HB := ak (zb (bq2 (zc HI0.out) GE101.out) hb); replace HI0 := ak (IsS88.below (zS HI0.out NB0_101.out) hb); clear hb hbox hg; have hnb41 := NB113_101.out; have hnc41 := NB101_113.out; have hnb42 := NB113_0.out; have hnc42 := NB0_113.out; obtain ⟨hcz43_0, hcz43_1, hcz43_2, hfz43_0, hfz43_1, hfz43_2⟩ := blk3 BK113.out) | ((with_reducible refine za (f := 67) rfl ?_); refine cl 19 rfl Tryz.func67 #[.pointer (some ⟨g, 0, none⟩), .int .i64 8] (zP.calls k g s0_0 t111 t112 8 t114 t115 t116 w0 _ ?side1 ?side2 A32.out) ?_; (case side1 => exact yU HI0.out NB0_101.out NB0_113.out); (case side2 => exact bq3 (zc HI0.out) GE101.out GE113.out); rintro e w44 ⟨rfl, hi, hb, hk⟩; refine ⟨_, rfl, ?_⟩; replace BK101 := ak (KeepBut.blk hk (g' := gb101) (o := .cells #[.int .i64 0, .slice none 0 0, .string ⟨#[]⟩] 35 (0, 0)) (blf1 BK101.out NB101_113.out) NB101_0.out (by simp)); replace HO104 := ak (Kd.R_mono (Kd.R_keep (IsS88.apart (show IsS88 w0 _ g s0_0 t111 t112 from yU HI0.out NB0_101.out NB0_113.out) (rfd HO104.out BK113.out) (by decide)) hk (fun _ h => h.2)) (fun _ h => h.1)); replace HO110 := ak (Kd.R_mono (Kd.R_keep (IsS88.apart (show IsS88 w0 _ g s0_0 t111 t112 from yU HI0.out NB0_101.out NB0_113.out) (rfd HO110.out BK113.out) (by decide)) hk (fun _ h => h.2)) (fun _ h => h.1)); replace BK113 := ak (KeepBut.blk hk (g' := gb113) (o := .cells #[.int .i64 t105, .slice Ao39 t108.length co39, .string ⟨#[]⟩] 35 (0, 0)) (blp0 BK113.out) NB113_0.out (by simp)); replace HK := ak (KeepBut.trans (kq2 GW101.out GW113.out) hk (.inl rfl)); replace HB := ak (hb); replace HI0 := ak (hi); (try clear hb hk hi); obtain ⟨hcz45_0, hcz45_1, hcz45_2, hfz45_0, hfz45_1, hfz45_2⟩ := blk3 BK113.out; have hnb46 := NB101_0.out; have hnc46 := NB0_101.out; obtain ⟨hcz47_0, hcz47_1, hcz47_2, hfz47_0, hfz47_1, hfz47_2⟩ := blk3 BK101.out))
   refine bodyPost_ret (results_cell_row rfl _ _ gb101 35 #[.int .i64 t105, .slice Ao39 t108.length co39, .string t114] (0, 0) _ rfl (blp1 BK101.out NB101_113.out) Tryz.underlying35 rfl (by kernel_rfl)) rfl ?_
   exact ⟨_, rv, by (with_reducible repeat (first | apply Kd.R_alloc | apply Kd.R_drewN | apply Kd.R_drew)); exact Kd.R_mono (Kd.R_far (p := ⟨gb101, 2, none⟩) (Kd.R_far (p := ⟨gb101, 1, none⟩) (Kd.R_far (p := ⟨gb101, 0, none⟩) (Kd.R_far (p := ⟨gb113, 2, none⟩) (Kd.R_types (Kd.R_types HO110.out BK113.out (by decide)) BK101.out (by decide)) (fun _ hk => hk.1.2) (.string t114)) (fun _ hk => hk.2) (.int .i64 t105)) (fun _ hk => hk.2) (.slice Ao39 t108.length co39)) (fun _ hk => hk.2) (.string t114)) (fun _ hk => trivial), yU HI0.out NB0_101.out NB0_113.out, bq3 (zc HI0.out) GE101.out GE113.out, kq2 GW101.out GW113.out⟩
end Go.Proofs.YtbldejnlmpajeaaGreatDoor.QL
