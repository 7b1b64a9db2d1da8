/- The program's Lifetime returns what the reference's returns, for all answers (those that hold more than 2^20 fields and bytes are let by). -/
import Derived.Test.YtjldfmkpdkhnnaaGreatDoorProg
import Derived.Below
import Derived.Deep.Draws
import Derived.Deep.AppendLies
import Derived.Maps.AppendAt
import Derived.OwnWalk
import Derived.Laws.BytesArg
import Derived.Laws.MakeOwn
import Derived.Laws.OwnMore
import Derived.Deep.OwnRows
import Derived.Tactics
import Derived.Lib.ConvBytes
import Derived.Laws.Slices
import Derived.WalkKit
import Derived.KernelRfl
import Derived.RowKit3
import Derived.Deep.LoopGhost
import Derived.Deep.QuietTactic
import Derived.BigQuiet
import Derived.WideLaws
import Derived.Deep.DeepCutAuto
import Derived.Deep.CutBlock
import Derived.Deep.RegionHeld3
import Derived.Laws.Rows
import Derived.Lib.AppendStr
import Derived.ArgAppend
import Derived.Laws.IdiomCopy
import Derived.OrdersHeld
import Derived.Laws.BitsLemmas
import Derived.RowKit
import Derived.Shelf.Strings.Builder1
import Derived.Shelf.Strings.Builder2
import Derived.Shelf.Strings.OnBuilder
import Derived.Shelf.Strings.Trim
import Derived.Shelf.Small.Utf8
import Derived.Shelf.Small.Strs
import Derived.Shelf.Utf8.RuneCount
import Derived.Shelf.Strconv.Atoi
import Derived.Shelf.Strconv.Itoa0
import Derived.Shelf.Strconv.Itoa1
import Derived.Shelf.LaysM
import Derived.Shelf.Strconv.Itoa2
import Derived.Shelf.Strconv.Itoa3
import Derived.Shelf.Strconv.AtoiErrFast
import Derived.Shelf.Strconv.ParseIntEmpty
import Derived.Shelf.Strconv.AtoiFail
import Derived.Shelf.Strconv.Clone
import Derived.Shelf.Strconv.SyntaxError
import Derived.Shelf.LaysC
import Derived.Shelf.Strconv.ToError
import Derived.Shelf.Strconv.Lower
import Derived.Shelf.Strconv.ParseUint10
import Derived.Shelf.Strconv.ParseUint10Empty
import Derived.Shelf.Strconv.ParseUint10Any
import Derived.Shelf.Strconv.ParseInt10
import Derived.Shelf.Strconv.AtoiLong
import Derived.Shelf.Strconv.AtoiInnerAll
import Derived.Shelf.Strconv.RangeError
import Derived.Shelf.Strconv.ToErrorRange
import Derived.Shelf.Strconv.AtoiAll
import Derived.Shelf.Strconv.ErrVarAll
import Derived.Shelf.Strings.Search1
import Derived.Shelf.Strings.Search2
import Derived.Shelf.Strings.Search3
import Derived.Shelf.Strings.Cut
import Derived.Shelf.Strings.Count
import Derived.Shelf.Strings.Shaped
import Derived.Shelf.Strings.Split
import Derived.Shelf.Strings.SplitShaped
import Derived.Shelf.Unicode.Decode
import Derived.Shelf.Strings.Runes
import Derived.Shelf.Strings.RuneCount
import Derived.Shelf.Strings.IndexAny
import Derived.Shelf.Strings.AsciiSet
import Derived.Shelf.Strings.IndexAnyAll
import Derived.Shelf.Strings.Explode
import Derived.Shelf.Unicode.DecodeSlow
import Derived.Shelf.Unicode.DecodeAny
import Derived.Shelf.Unicode.DecodeLast
import Derived.Lib.Strings
import Derived.Test.YtjldfmkpdkhnnaaGreatDoorCFnExactLifetimeb
set_option linter.unusedVariables false
set_option linter.unusedSimpArgs false
namespace Go.Proofs.YtjldfmkpdkhnnaaGreatDoor.QL
open Go.RowKit Go.Proofs.YtjldfmkpdkhnnaaGreatDoorW.PrintWords Go.Proofs.YtjldfmkpdkhnnaaGreatDoorW.PrintLast Go.Proofs.YtjldfmkpdkhnnaaGreatDoorW.PrintMore Go.Proofs.YtjldfmkpdkhnnaaGreatDoor.Aux Go.Proofs.YtjldfmkpdkhnnaaGreatDoor.Dom Go.Proofs.YtjldfmkpdkhnnaaGreatDoor.Ext Go.Proofs.YtjldfmkpdkhnnaaGreatDoor.Glob
attribute [local go_sem] max2_int min2_int max_two min_two max_three min_three max_four min_four   -- for this text's walks alone

mutual
def spec_SplitList.l0 : Nat → ByteArray → List ByteArray → Int → Bool → Int → Option (List ByteArray)
 | 0, _, _, _, _, _ => none
 | k + 1, x0, x3, x4, x5, x6 => if x6 ≤ (x0.size : Int) then (if x6 < (x0.size : Int) then (if 0 ≤ x6 then (spec_SplitList.j1 k x0 x3 x4 x5 x6 ((bt x0 x6) == 34)) else (none)) else (spec_SplitList.j1 k x0 x3 x4 x5 x6 false)) else (if x4 < (x0.size : Int) then (spec_SplitList.j5 k x0 x3 x4 x5) else (spec_SplitList.j5 k x0 x3 x4 false))
def spec_SplitList.j1 : Nat → ByteArray → List ByteArray → Int → Bool → Int → Bool → Option (List ByteArray)
 | 0, _, _, _, _, _, _ => none
 | k + 1, x0, x3, x4, x5, x6, x25 => if x25 = true then (spec_SplitList.j2 k x0 x3 x4 (!x5) x6) else (spec_SplitList.j2 k x0 x3 x4 x5 x6)
def spec_SplitList.j2 : Nat → ByteArray → List ByteArray → Int → Bool → Int → Option (List ByteArray)
 | 0, _, _, _, _, _ => none
 | k + 1, x0, x3, x4, x5, x6 => if x6 < (x0.size : Int) then (if x5 = true then (if 0 ≤ x6 then (spec_SplitList.j3 k x0 x3 x4 x5 x6 ((bt x0 x6) == 92)) else (none)) else (spec_SplitList.j3 k x0 x3 x4 x5 x6 false)) else (spec_SplitList.j3 k x0 x3 x4 x5 x6 false)
def spec_SplitList.j3 : Nat → ByteArray → List ByteArray → Int → Bool → Int → Bool → Option (List ByteArray)
 | 0, _, _, _, _, _, _ => none
 | k + 1, x0, x3, x4, x5, x6, x40 => if x40 = true then (spec_SplitList.l0 k x0 x3 x4 x5 (wrap64 ((wrap64 (x6 + 1)) + 1))) else (if x6 ≥ (x0.size : Int) then (spec_SplitList.j4 k x0 x3 x4 x5 x6 true) else (if 0 ≤ x6 then (if x6 < (x0.size : Int) then (if (bt x0 x6) = 44 then (spec_SplitList.j4 k x0 x3 x4 x5 x6 (!x5)) else (spec_SplitList.j4 k x0 x3 x4 x5 x6 false)) else (none)) else (none)))
def spec_SplitList.j4 : Nat → ByteArray → List ByteArray → Int → Bool → Int → Bool → Option (List ByteArray)
 | 0, _, _, _, _, _, _ => none
 | k + 1, x0, x3, x4, x5, x6, x56 => if x56 = true then (if 0 ≤ x4 then (if x4 ≤ (mn x6 (x0.size : Int)) then (if (mn x6 (x0.size : Int)) ≤ (x0.size : Int) then ((spec_Trim.f k (x0.extract (x4 : Int).toNat ((mn x6 (x0.size : Int)) : Int).toNat)).bind fun t104 => (if t104.toList = ([] : List UInt8) then (spec_SplitList.l0 k x0 x3 (wrap64 (x6 + 1)) x5 (wrap64 (x6 + 1))) else (if x3.length < 8796093022208 then (spec_SplitList.l0 k x0 (x3 ++ [t104]) (wrap64 (x6 + 1)) x5 (wrap64 (x6 + 1))) else (none)))) else (none)) else (none)) else (none)) else (spec_SplitList.l0 k x0 x3 x4 x5 (wrap64 (x6 + 1)))
def spec_SplitList.j5 : Nat → ByteArray → List ByteArray → Int → Bool → Option (List ByteArray)
 | 0, _, _, _, _ => none
 | k + 1, x0, x3, x4, x79 => if x79 = true then (if 0 ≤ x4 then (if x4 ≤ (x0.size : Int) then ((spec_Trim.f k (x0.extract (x4 : Int).toNat x0.size)).bind fun t108 => (if t108.toList = ([] : List UInt8) then (some x3) else (if x3.length < 8796093022208 then (some (x3 ++ [t108])) else (none)))) else (none)) else (none)) else (some x3)
end
def spec_SplitList.f (k : Nat) (a0 : ByteArray) : Option (List ByteArray) := spec_SplitList.l0 k a0 (([] : List ByteArray)) 0 false 0
theorem spec_SplitList.mono_l : ∀ k, (∀ y0 y1 y2 y3 y4, LeO (spec_SplitList.l0 k y0 y1 y2 y3 y4) (spec_SplitList.l0 (k + 1) y0 y1 y2 y3 y4)) ∧ (∀ y0 y1 y2 y3 y4 y5, LeO (spec_SplitList.j1 k y0 y1 y2 y3 y4 y5) (spec_SplitList.j1 (k + 1) y0 y1 y2 y3 y4 y5)) ∧ (∀ y0 y1 y2 y3 y4, LeO (spec_SplitList.j2 k y0 y1 y2 y3 y4) (spec_SplitList.j2 (k + 1) y0 y1 y2 y3 y4)) ∧ (∀ y0 y1 y2 y3 y4 y5, LeO (spec_SplitList.j3 k y0 y1 y2 y3 y4 y5) (spec_SplitList.j3 (k + 1) y0 y1 y2 y3 y4 y5)) ∧ (∀ y0 y1 y2 y3 y4 y5, LeO (spec_SplitList.j4 k y0 y1 y2 y3 y4 y5) (spec_SplitList.j4 (k + 1) y0 y1 y2 y3 y4 y5)) ∧ (∀ y0 y1 y2 y3, LeO (spec_SplitList.j5 k y0 y1 y2 y3) (spec_SplitList.j5 (k + 1) y0 y1 y2 y3))
 | 0 => ⟨fun _ _ _ _ _ r h => by simp [spec_SplitList.l0] at h, fun _ _ _ _ _ _ r h => by simp [spec_SplitList.j1] at h, fun _ _ _ _ _ r h => by simp [spec_SplitList.j2] at h, fun _ _ _ _ _ _ r h => by simp [spec_SplitList.j3] at h, fun _ _ _ _ _ _ r h => by simp [spec_SplitList.j4] at h, fun _ _ _ _ r h => by simp [spec_SplitList.j5] at h⟩
 | k + 1 => by
  obtain ⟨ih0, ih1, ih2, ih3, ih4, ih5⟩ := spec_SplitList.mono_l k
  refine ⟨?_, ?_, ?_, ?_, ?_, ?_⟩
  ·intro y0 y1 y2 y3 y4
   unfold spec_SplitList.l0
   repeat' first
   | (with_reducible exact ih0 _ _ _ _ _)
   | (with_reducible exact ih1 _ _ _ _ _ _)
   | (with_reducible exact ih2 _ _ _ _ _)
   | (with_reducible exact ih3 _ _ _ _ _ _)
   | (with_reducible exact ih4 _ _ _ _ _ _)
   | (with_reducible exact ih5 _ _ _ _)
   | (with_reducible exact spec_Trim.mono _ _)
   | (with_reducible exact LeO.refl _)
   | (with_reducible exact LeO.none _)
   | (with_reducible refine LeO.ite ?_ ?_)
   | (with_reducible refine LeO.bind ?_ (fun _ => ?_))
   | exact ih0 _ _ _ _ _
   | exact ih1 _ _ _ _ _ _
   | exact ih2 _ _ _ _ _
   | exact ih3 _ _ _ _ _ _
   | exact ih4 _ _ _ _ _ _
   | exact ih5 _ _ _ _
   | exact spec_Trim.mono _ _
   | exact LeO.none _
   | refine LeO.ite ?_ ?_
   | refine LeO.bind ?_ (fun _ => ?_)
  ·intro y0 y1 y2 y3 y4 y5
   unfold spec_SplitList.j1
   repeat' first
   | (with_reducible exact ih0 _ _ _ _ _)
   | (with_reducible exact ih1 _ _ _ _ _ _)
   | (with_reducible exact ih2 _ _ _ _ _)
   | (with_reducible exact ih3 _ _ _ _ _ _)
   | (with_reducible exact ih4 _ _ _ _ _ _)
   | (with_reducible exact ih5 _ _ _ _)
   | (with_reducible exact spec_Trim.mono _ _)
   | (with_reducible exact LeO.refl _)
   | (with_reducible exact LeO.none _)
   | (with_reducible refine LeO.ite ?_ ?_)
   | (with_reducible refine LeO.bind ?_ (fun _ => ?_))
   | exact ih0 _ _ _ _ _
   | exact ih1 _ _ _ _ _ _
   | exact ih2 _ _ _ _ _
   | exact ih3 _ _ _ _ _ _
   | exact ih4 _ _ _ _ _ _
   | exact ih5 _ _ _ _
   | exact spec_Trim.mono _ _
   | exact LeO.none _
   | refine LeO.ite ?_ ?_
   | refine LeO.bind ?_ (fun _ => ?_)
  ·intro y0 y1 y2 y3 y4
   unfold spec_SplitList.j2
   repeat' first
   | (with_reducible exact ih0 _ _ _ _ _)
   | (with_reducible exact ih1 _ _ _ _ _ _)
   | (with_reducible exact ih2 _ _ _ _ _)
   | (with_reducible exact ih3 _ _ _ _ _ _)
   | (with_reducible exact ih4 _ _ _ _ _ _)
   | (with_reducible exact ih5 _ _ _ _)
   | (with_reducible exact spec_Trim.mono _ _)
   | (with_reducible exact LeO.refl _)
   | (with_reducible exact LeO.none _)
   | (with_reducible refine LeO.ite ?_ ?_)
   | (with_reducible refine LeO.bind ?_ (fun _ => ?_))
   | exact ih0 _ _ _ _ _
   | exact ih1 _ _ _ _ _ _
   | exact ih2 _ _ _ _ _
   | exact ih3 _ _ _ _ _ _
   | exact ih4 _ _ _ _ _ _
   | exact ih5 _ _ _ _
   | exact spec_Trim.mono _ _
   | exact LeO.none _
   | refine LeO.ite ?_ ?_
   | refine LeO.bind ?_ (fun _ => ?_)
  ·intro y0 y1 y2 y3 y4 y5
   unfold spec_SplitList.j3
   repeat' first
   | (with_reducible exact ih0 _ _ _ _ _)
   | (with_reducible exact ih1 _ _ _ _ _ _)
   | (with_reducible exact ih2 _ _ _ _ _)
   | (with_reducible exact ih3 _ _ _ _ _ _)
   | (with_reducible exact ih4 _ _ _ _ _ _)
   | (with_reducible exact ih5 _ _ _ _)
   | (with_reducible exact spec_Trim.mono _ _)
   | (with_reducible exact LeO.refl _)
   | (with_reducible exact LeO.none _)
   | (with_reducible refine LeO.ite ?_ ?_)
   | (with_reducible refine LeO.bind ?_ (fun _ => ?_))
   | exact ih0 _ _ _ _ _
   | exact ih1 _ _ _ _ _ _
   | exact ih2 _ _ _ _ _
   | exact ih3 _ _ _ _ _ _
   | exact ih4 _ _ _ _ _ _
   | exact ih5 _ _ _ _
   | exact spec_Trim.mono _ _
   | exact LeO.none _
   | refine LeO.ite ?_ ?_
   | refine LeO.bind ?_ (fun _ => ?_)
  ·intro y0 y1 y2 y3 y4 y5
   unfold spec_SplitList.j4
   repeat' first
   | (with_reducible exact ih0 _ _ _ _ _)
   | (with_reducible exact ih1 _ _ _ _ _ _)
   | (with_reducible exact ih2 _ _ _ _ _)
   | (with_reducible exact ih3 _ _ _ _ _ _)
   | (with_reducible exact ih4 _ _ _ _ _ _)
   | (with_reducible exact ih5 _ _ _ _)
   | (with_reducible exact spec_Trim.mono _ _)
   | (with_reducible exact LeO.refl _)
   | (with_reducible exact LeO.none _)
   | (with_reducible refine LeO.ite ?_ ?_)
   | (with_reducible refine LeO.bind ?_ (fun _ => ?_))
   | exact ih0 _ _ _ _ _
   | exact ih1 _ _ _ _ _ _
   | exact ih2 _ _ _ _ _
   | exact ih3 _ _ _ _ _ _
   | exact ih4 _ _ _ _ _ _
   | exact ih5 _ _ _ _
   | exact spec_Trim.mono _ _
   | exact LeO.none _
   | refine LeO.ite ?_ ?_
   | refine LeO.bind ?_ (fun _ => ?_)
  ·intro y0 y1 y2 y3
   unfold spec_SplitList.j5
   repeat' first
   | (with_reducible exact ih0 _ _ _ _ _)
   | (with_reducible exact ih1 _ _ _ _ _ _)
   | (with_reducible exact ih2 _ _ _ _ _)
   | (with_reducible exact ih3 _ _ _ _ _ _)
   | (with_reducible exact ih4 _ _ _ _ _ _)
   | (with_reducible exact ih5 _ _ _ _)
   | (with_reducible exact spec_Trim.mono _ _)
   | (with_reducible exact LeO.refl _)
   | (with_reducible exact LeO.none _)
   | (with_reducible refine LeO.ite ?_ ?_)
   | (with_reducible refine LeO.bind ?_ (fun _ => ?_))
   | exact ih0 _ _ _ _ _
   | exact ih1 _ _ _ _ _ _
   | exact ih2 _ _ _ _ _
   | exact ih3 _ _ _ _ _ _
   | exact ih4 _ _ _ _ _ _
   | exact ih5 _ _ _ _
   | exact spec_Trim.mono _ _
   | exact LeO.none _
   | refine LeO.ite ?_ ?_
   | refine LeO.bind ?_ (fun _ => ?_)
theorem spec_SplitList.mono : ∀ a0 k, LeO (spec_SplitList.f k a0) (spec_SplitList.f (k + 1) a0) := by
 intro a0 k
 obtain ⟨ih0, ih1, ih2, ih3, ih4, ih5⟩ := spec_SplitList.mono_l k
 unfold spec_SplitList.f
 repeat' first
   | (with_reducible exact ih0 _ _ _ _ _)
   | (with_reducible exact ih1 _ _ _ _ _ _)
   | (with_reducible exact ih2 _ _ _ _ _)
   | (with_reducible exact ih3 _ _ _ _ _ _)
   | (with_reducible exact ih4 _ _ _ _ _ _)
   | (with_reducible exact ih5 _ _ _ _)
   | (with_reducible exact spec_Trim.mono _ _)
   | (with_reducible exact LeO.refl _)
   | (with_reducible exact LeO.none _)
   | (with_reducible refine LeO.ite ?_ ?_)
   | (with_reducible refine LeO.bind ?_ (fun _ => ?_))
   | exact ih0 _ _ _ _ _
   | exact ih1 _ _ _ _ _ _
   | exact ih2 _ _ _ _ _
   | exact ih3 _ _ _ _ _ _
   | exact ih4 _ _ _ _ _ _
   | exact ih5 _ _ _ _
   | exact spec_Trim.mono _ _
   | exact LeO.none _
   | refine LeO.ite ?_ ?_
   | refine LeO.bind ?_ (fun _ => ?_)
set_option maxHeartbeats 8000000 in
set_option maxRecDepth 100000 in
theorem spec_SplitList.calls (k : Nat) (a0 : ByteArray) (r : List ByteArray) (w : World) (h : spec_SplitList.f k a0 = some r) :
  Calls Tryz.prog 63 #[.string a0] w fun e w' => ∃ v0_ : Value, e = .returned (v0_) ∧ Kd.R Kd.string 9 w' w.heap.size (fun _ => True) v0_ r ∧ Below w.heap.size w w' := by
 have HB := Aside0.mk (Below.refl w.heap.size w)
 have H : (spec_SplitList.l0 k a0 (([] : List ByteArray)) 0 false 0) = some r := h
 clear h
 obtain ⟨y101, hy101⟩ : ∃ y_ : List ByteArray, y_ = (([] : List ByteArray)) := ⟨_, rfl⟩
 replace H : (spec_SplitList.l0 k a0 y101 0 false 0) = some r := by first | (rw [hy101]; with_reducible exact H) | (have H2_ := (Option.bind_some _ _).symm.trans H; rw [hy101]; with_reducible exact H2_) | (have H2_ := (Option.bind_some _ _).symm.trans H; with_reducible exact H2_) | with_reducible exact H | (rw [hy101]; exact H) | exact H
 have Ny101 := Aside0.mk hy101
 clear hy101
 have H' := Aside0.mk H
 clear H
 go_enter Tryz.func63, Tryz.ntmps63
 go_wp2_with (first | ((with_reducible refine gate_dst (N := 9) rfl ?_); refine Kd.R_lit Kd.string _ 9 ?hg (N := 9) ?hd (xs := ([] : List ByteArray)) (inner := []) (ok := fun _ => True) (okp := fun _ => True) ?hr ?hp (fun _ hk => hk) trivial (Below.refl _ _) (Nat.le_refl _) (by simp) ?_; (case hd => rfl); (case hg => rfl); (case hr => first | (go_simp; done) | (go_simp; rfl)); (case hp => exact (Reps.none _ _)); intro v102 w2 ho3 hb hg_ hnew_; clear hg_ hnew_; (first | rw [← Ny101.out] at ho3 | (simp only [Int.reduceToNat] at ho3; rw [← Ny101.out] at ho3)); have n0_ := Aside0.mk (Kd.R_lower ho3 (below_size bq)); have n1_ := Aside0.mk (below_step bq hb); clear HB; have HO103 := n0_; have HB := n1_; clear n0_ n1_; clear hb ho3))
 go_loopg [3, 4, 5, 6] k (fun kq v3 v4 v5 v6 w' => ∃ (x3_1 : List ByteArray) (x4_1 : Int) (x5_1 : Bool) (x6_1 : Int), v4 = .int .i64 x4_1 ∧ v5 = .bool x5_1 ∧ v6 = .int .i64 x6_1 ∧ Aside0 (spec_SplitList.l0 kq a0 x3_1 x4_1 x5_1 x6_1 = some r) ∧ Aside0 (kq ≤ k) ∧ Aside0 (Kd.R Kd.string 9 w' w.heap.size (fun _ => True) v3 x3_1) ∧ Aside0 (Below w.heap.size w w'))
 case atStart => exact ⟨(y101), (0), (false), (0), (by first | rfl | (simp; done) | (simp [*]; done)), (by first | rfl | (simp; done) | (simp [*]; done)), (by first | rfl | (simp; done) | (simp [*]; done)), H', ⟨Nat.le_refl _⟩, ⟨by (with_reducible repeat (first | apply Kd.R_alloc | apply Kd.R_drewN | apply Kd.R_drew)); exact HO103.out⟩, ⟨by repeat (first | (with_reducible first | exact HB.out | apply below_alloc | apply pw_below_drewN | apply below_drew1) | exact HB.out)⟩⟩
 case round =>
  clear H'
  try clear p2
  obtain ⟨x3_1, x4_1, x5_1, x6_1, rfl, rfl, rfl, HA, HK1, HO_3, HB⟩ := hrel
  cases gk with
  | zero => exact absurd HA.out (by simp [spec_SplitList.l0])
  | succ k1 =>
   have H := HA.out
   clear HA
   simp only [spec_SplitList.l0] at H
   by_cases c4 : x6_1 ≤ (a0.size : Int)
   ·rw [if_pos c4] at H
    have c4b0 : decide (x6_1 ≤ (a0.size : Int)) = true := decide_eq_true c4
    clear c4
    have HC5 := Aside0.mk H
    clear H
    go_upto_region 7 with (fail)
    go_cut [25] (fun v25 wc => ∃ (kq : Nat) (x25_4 : Bool), v25 = .bool x25_4 ∧ Aside0 (spec_SplitList.j1 kq a0 x3_1 x4_1 x5_1 x6_1 x25_4 = some r) ∧ Aside0 (kq ≤ k1) ∧ Aside0 (Kd.R Kd.string 9 wc w.heap.size (fun _ => True) u3 x3_1) ∧ Aside0 (Below w.heap.size w wc))
    case first =>
     have H := HC5.out
     clear HC5
     by_cases c6 : x6_1 < (a0.size : Int)
     ·rw [if_pos c6] at H
      have c6b0 : decide (x6_1 < (a0.size : Int)) = true := decide_eq_true c6
      clear c6
      (first | rw [c6b0] | (simp only [i64_w, i32_w]; rw [c6b0]) | skip)
      by_cases c7 : 0 ≤ x6_1
      ·rw [if_pos c7] at H
       have c7b0 : decide (0 ≤ x6_1) = true := decide_eq_true c7
       clear c7
       have H' := Aside0.mk H
       clear H
       have p8 : 0 ≤ (x6_1 : Int) := of_decide_eq_true asm
       have q8 : x6_1 < (a0.size : Int) := of_decide_eq_true asm
       have hx8 := bt_at a0 x6_1
       replace p8 := eq_true p8
       replace q8 := eq_true q8
       go_wp2
       go_meet
       case rel => exact ⟨_, (((bt a0 x6_1) == 34)), (by first | rfl | (simp; done) | (simp [*]; done)), H', ⟨by have := HK1.out; first | omega | exact Nat.le_refl _⟩, ⟨by (with_reducible repeat (first | apply Kd.R_alloc | apply Kd.R_drewN | apply Kd.R_drew)); exact HO_3.out⟩, ⟨by repeat (first | (with_reducible first | exact HB.out | apply below_alloc | apply pw_below_drewN | apply below_drew1) | exact HB.out)⟩⟩
      ·rw [if_neg c7] at H
       exact absurd H (by simp)
     ·rw [if_neg c6] at H
      have c6b0 : decide (x6_1 < (a0.size : Int)) = false := decide_eq_false c6
      clear c6
      (first | rw [c6b0] | (simp only [i64_w, i32_w]; rw [c6b0]) | skip)
      have H' := Aside0.mk H
      clear H
      go_wp2
      go_meet
      case rel => exact ⟨_, (false), (by first | rfl | (simp; done) | (simp [*]; done)), H', ⟨by have := HK1.out; first | omega | exact Nat.le_refl _⟩, ⟨by (with_reducible repeat (first | apply Kd.R_alloc | apply Kd.R_drewN | apply Kd.R_drew)); exact HO_3.out⟩, ⟨by repeat (first | (with_reducible first | exact HB.out | apply below_alloc | apply pw_below_drewN | apply below_drew1) | exact HB.out)⟩⟩
    case rest =>
     clear HC5
     try clear p2
     try clear c4
     try clear c4b0
     try clear c6
     try clear c6b0
     try clear c7
     try clear c7b0
     try clear p8
     try clear q8
     try clear hx8
     try clear p2
     try clear p8
     try clear q8
     obtain ⟨kq, x25_4, rfl, HA, HJ4, HO_3, HB⟩ := hcut
     cases kq with
     | zero => exact absurd HA.out (by simp [spec_SplitList.j1])
     | succ kj4 =>
      have H := HA.out
      clear HA
      simp only [spec_SplitList.j1] at H
      have HC9 := Aside0.mk H
      clear H
      go_upto_if 25 with (fail)
      go_cut [5] (fun v5 wc => ∃ (kq : Nat) (x5_8 : Bool), v5 = .bool x5_8 ∧ Aside0 (spec_SplitList.j2 kq a0 x3_1 x4_1 x5_8 x6_1 = some r) ∧ Aside0 (kq ≤ kj4) ∧ Aside0 (Kd.R Kd.string 9 wc w.heap.size (fun _ => True) u3 x3_1) ∧ Aside0 (Below w.heap.size w wc))
      case first =>
       have H := HC9.out
       clear HC9
       by_cases c10 : x25_4 = true
       ·subst c10
        rw [if_pos rfl] at H
        have H' := Aside0.mk H
        clear H
        go_wp2
        go_meet
        case rel => exact ⟨_, (!x5_1), (by first | rfl | (simp; done) | (simp [*]; done)), H', ⟨by have := HK1.out; have := HJ4.out; first | omega | exact Nat.le_refl _⟩, ⟨by (with_reducible repeat (first | apply Kd.R_alloc | apply Kd.R_drewN | apply Kd.R_drew)); exact HO_3.out⟩, ⟨by repeat (first | (with_reducible first | exact HB.out | apply below_alloc | apply pw_below_drewN | apply below_drew1) | exact HB.out)⟩⟩
       ·replace c10 := Bool.eq_false_iff.mpr c10
        subst c10
        rw [if_neg (show ¬ (false = true) by decide)] at H
        have H' := Aside0.mk H
        clear H
        go_wp2
        go_meet
        case rel => exact ⟨_, (x5_1), (by first | rfl | (simp; done) | (simp [*]; done)), H', ⟨by have := HK1.out; have := HJ4.out; first | omega | exact Nat.le_refl _⟩, ⟨by (with_reducible repeat (first | apply Kd.R_alloc | apply Kd.R_drewN | apply Kd.R_drew)); exact HO_3.out⟩, ⟨by repeat (first | (with_reducible first | exact HB.out | apply below_alloc | apply pw_below_drewN | apply below_drew1) | exact HB.out)⟩⟩
      case rest =>
       clear HC9
       try clear c1
       try clear p2
       try clear c4
       try clear c4b0
       try clear c6
       try clear c6b0
       try clear c7
       try clear c7b0
       try clear p8
       try clear q8
       try clear hx8
       try clear c10
       try clear p2
       try clear p8
       try clear q8
       obtain ⟨kq, x5_8, rfl, HA, HJ8, HO_3, HB⟩ := hcut
       cases kq with
       | zero => exact absurd HA.out (by simp [spec_SplitList.j2])
       | succ kj8 =>
        have H := HA.out
        clear HA
        simp only [spec_SplitList.j2] at H
        have HC11 := Aside0.mk H
        clear H
        go_upto_region 9 with (fail)
        go_cut [40] (fun v40 wc => ∃ (kq : Nat) (x40_10 : Bool), v40 = .bool x40_10 ∧ Aside0 (spec_SplitList.j3 kq a0 x3_1 x4_1 x5_8 x6_1 x40_10 = some r) ∧ Aside0 (kq ≤ kj8) ∧ Aside0 (Kd.R Kd.string 9 wc w.heap.size (fun _ => True) u3 x3_1) ∧ Aside0 (Below w.heap.size w wc))
        case first =>
         have H := HC11.out
         clear HC11
         by_cases c12 : x6_1 < (a0.size : Int)
         ·rw [if_pos c12] at H
          have c12b0 : decide (x6_1 < (a0.size : Int)) = true := decide_eq_true c12
          clear c12
          (first | rw [c12b0] | (simp only [i64_w, i32_w]; rw [c12b0]) | skip)
          by_cases c13 : x5_8 = true
          ·subst c13
           rw [if_pos rfl] at H
           by_cases c14 : 0 ≤ x6_1
           ·rw [if_pos c14] at H
            have c14b0 : decide (0 ≤ x6_1) = true := decide_eq_true c14
            clear c14
            have H' := Aside0.mk H
            clear H
            have p15 : 0 ≤ (x6_1 : Int) := of_decide_eq_true asm
            have q15 : x6_1 < (a0.size : Int) := of_decide_eq_true asm
            have hx15 := bt_at a0 x6_1
            replace p15 := eq_true p15
            replace q15 := eq_true q15
            go_wp2
            go_meet
            case rel => exact ⟨_, (((bt a0 x6_1) == 92)), (by first | rfl | (simp; done) | (simp [*]; done)), H', ⟨by have := HK1.out; have := HJ4.out; have := HJ8.out; first | omega | exact Nat.le_refl _⟩, ⟨by (with_reducible repeat (first | apply Kd.R_alloc | apply Kd.R_drewN | apply Kd.R_drew)); exact HO_3.out⟩, ⟨by repeat (first | (with_reducible first | exact HB.out | apply below_alloc | apply pw_below_drewN | apply below_drew1) | exact HB.out)⟩⟩
           ·rw [if_neg c14] at H
            exact absurd H (by simp)
          ·replace c13 := Bool.eq_false_iff.mpr c13
           subst c13
           rw [if_neg (show ¬ (false = true) by decide)] at H
           have H' := Aside0.mk H
           clear H
           go_wp2
           go_meet
           case rel => exact ⟨_, (false), (by first | rfl | (simp; done) | (simp [*]; done)), H', ⟨by have := HK1.out; have := HJ4.out; have := HJ8.out; first | omega | exact Nat.le_refl _⟩, ⟨by (with_reducible repeat (first | apply Kd.R_alloc | apply Kd.R_drewN | apply Kd.R_drew)); exact HO_3.out⟩, ⟨by repeat (first | (with_reducible first | exact HB.out | apply below_alloc | apply pw_below_drewN | apply below_drew1) | exact HB.out)⟩⟩
         ·rw [if_neg c12] at H
          have c12b0 : decide (x6_1 < (a0.size : Int)) = false := decide_eq_false c12
          clear c12
          (first | rw [c12b0] | (simp only [i64_w, i32_w]; rw [c12b0]) | skip)
          have H' := Aside0.mk H
          clear H
          go_wp2
          go_meet
          case rel => exact ⟨_, (false), (by first | rfl | (simp; done) | (simp [*]; done)), H', ⟨by have := HK1.out; have := HJ4.out; have := HJ8.out; first | omega | exact Nat.le_refl _⟩, ⟨by (with_reducible repeat (first | apply Kd.R_alloc | apply Kd.R_drewN | apply Kd.R_drew)); exact HO_3.out⟩, ⟨by repeat (first | (with_reducible first | exact HB.out | apply below_alloc | apply pw_below_drewN | apply below_drew1) | exact HB.out)⟩⟩
        case rest =>
         clear HC11
         try clear c1
         try clear p1
         try clear q1
         try clear hx1
         try clear p2
         try clear c4
         try clear c4b0
         try clear c6
         try clear c6b0
         try clear c7
         try clear c7b0
         try clear p8
         try clear q8
         try clear hx8
         try clear c10
         try clear c12
         try clear c12b0
         try clear c13
         try clear c14
         try clear c14b0
         try clear p15
         try clear q15
         try clear hx15
         try clear p15
         try clear p2
         try clear p8
         try clear q15
         try clear q8
         obtain ⟨kq, x40_10, rfl, HA, HJ10, HO_3, HB⟩ := hcut
         cases kq with
         | zero => exact absurd HA.out (by simp [spec_SplitList.j3])
         | succ kj10 =>
          have H := HA.out
          clear HA
          simp only [spec_SplitList.j3] at H
          by_cases c16 : x40_10 = true
          ·subst c16
           rw [if_pos rfl] at H
           have H' := Aside0.mk H
           clear H
           go_wp2
           go_roundg kj10
           case measure => have := HK1.out; have := HJ4.out; have := HJ8.out; have := HJ10.out; omega
           case rel => exact ⟨(x3_1), (x4_1), (x5_8), (wrap64 ((wrap64 (x6_1 + 1)) + 1)), (by first | rfl | (simp; done) | (simp [*]; done)), (by first | rfl | (simp; done) | (simp [*]; done)), (by first | rfl | (simp; done) | (simp [*]; done)), H', ⟨by have := HK1.out; have := HJ4.out; have := HJ8.out; have := HJ10.out; omega⟩, ⟨by (with_reducible repeat (first | apply Kd.R_alloc | apply Kd.R_drewN | apply Kd.R_drew)); exact HO_3.out⟩, ⟨by repeat (first | (with_reducible first | exact HB.out | apply below_alloc | apply pw_below_drewN | apply below_drew1) | exact HB.out)⟩⟩
          ·replace c16 := Bool.eq_false_iff.mpr c16
           subst c16
           rw [if_neg (show ¬ (false = true) by decide)] at H
           have HC17 := Aside0.mk H
           clear H
           go_upto_region 11 with (fail)
           go_cut [56] (fun v56 wc => ∃ (kq : Nat) (x56_16 : Bool), v56 = .bool x56_16 ∧ Aside0 (spec_SplitList.j4 kq a0 x3_1 x4_1 x5_8 x6_1 x56_16 = some r) ∧ Aside0 (kq ≤ kj10) ∧ Aside0 (Kd.R Kd.string 9 wc w.heap.size (fun _ => True) u3 x3_1) ∧ Aside0 (Below w.heap.size w wc))
           case first =>
            have H := HC17.out
            clear HC17
            by_cases c18 : x6_1 ≥ (a0.size : Int)
            ·rw [if_pos c18] at H
             have c18b0 : decide ((a0.size : Int) ≤ x6_1) = true := decide_eq_true c18
             clear c18
             (first | rw [c18b0] | (simp only [i64_w, i32_w]; rw [c18b0]) | skip)
             have H' := Aside0.mk H
             clear H
             go_wp2
             go_meet
             case rel => exact ⟨_, (true), (by first | rfl | (simp; done) | (simp [*]; done)), H', ⟨by have := HK1.out; have := HJ4.out; have := HJ8.out; have := HJ10.out; first | omega | exact Nat.le_refl _⟩, ⟨by (with_reducible repeat (first | apply Kd.R_alloc | apply Kd.R_drewN | apply Kd.R_drew)); exact HO_3.out⟩, ⟨by repeat (first | (with_reducible first | exact HB.out | apply below_alloc | apply pw_below_drewN | apply below_drew1) | exact HB.out)⟩⟩
            ·rw [if_neg c18] at H
             have c18b0 : decide ((a0.size : Int) ≤ x6_1) = false := decide_eq_false c18
             clear c18
             (first | rw [c18b0] | (simp only [i64_w, i32_w]; rw [c18b0]) | skip)
             by_cases c19 : 0 ≤ x6_1
             ·rw [if_pos c19] at H
              have c19b0 : decide (0 ≤ x6_1) = true := decide_eq_true c19
              clear c19
              by_cases c20 : x6_1 < (a0.size : Int)
              ·rw [if_pos c20] at H
               have c20b0 : decide (x6_1 < (a0.size : Int)) = true := decide_eq_true c20
               clear c20
               by_cases c22 : (bt a0 x6_1) = 44
               ·rw [if_pos c22] at H
                have c22b0 : ((bt a0 x6_1) == 44) = true := beq_iff_eq.mpr c22
                have c22b1 : ((bt a0 x6_1) != 44) = false := bne_eq_false_iff_eq.mpr c22
                clear c22
                have H' := Aside0.mk H
                clear H
                have p21 : 0 ≤ (x6_1 : Int) := of_decide_eq_true asm
                have q21 : x6_1 < (a0.size : Int) := of_decide_eq_true asm
                have hx21 := bt_at a0 x6_1
                replace p21 := eq_true p21
                replace q21 := eq_true q21
                go_wp2
                go_meet
                case rel => exact ⟨_, (!x5_8), (by first | rfl | (simp; done) | (simp [*]; done)), H', ⟨by have := HK1.out; have := HJ4.out; have := HJ8.out; have := HJ10.out; first | omega | exact Nat.le_refl _⟩, ⟨by (with_reducible repeat (first | apply Kd.R_alloc | apply Kd.R_drewN | apply Kd.R_drew)); exact HO_3.out⟩, ⟨by repeat (first | (with_reducible first | exact HB.out | apply below_alloc | apply pw_below_drewN | apply below_drew1) | exact HB.out)⟩⟩
               ·rw [if_neg c22] at H
                have c22b0 : ((bt a0 x6_1) == 44) = false := beq_eq_false_iff_ne.mpr c22
                have c22b1 : ((bt a0 x6_1) != 44) = true := bne_iff_ne.mpr c22
                have H' := Aside0.mk H
                clear H
                have p21 : 0 ≤ (x6_1 : Int) := of_decide_eq_true asm
                have q21 : x6_1 < (a0.size : Int) := of_decide_eq_true asm
                have hx21 := bt_at a0 x6_1
                replace p21 := eq_true p21
                replace q21 := eq_true q21
                go_wp2
                go_meet
                case rel => exact ⟨_, (false), (by first | rfl | (simp; done) | (simp [*]; done)), H', ⟨by have := HK1.out; have := HJ4.out; have := HJ8.out; have := HJ10.out; first | omega | exact Nat.le_refl _⟩, ⟨by (with_reducible repeat (first | apply Kd.R_alloc | apply Kd.R_drewN | apply Kd.R_drew)); exact HO_3.out⟩, ⟨by repeat (first | (with_reducible first | exact HB.out | apply below_alloc | apply pw_below_drewN | apply below_drew1) | exact HB.out)⟩⟩
              ·rw [if_neg c20] at H
               exact absurd H (by simp)
             ·rw [if_neg c19] at H
              exact absurd H (by simp)
           case rest =>
            clear HC17
            try clear c1
            try clear p1
            try clear q1
            try clear hx1
            try clear c2
            try clear p2
            try clear q2
            try clear hx2
            try clear c4
            try clear c4b0
            try clear c6
            try clear c6b0
            try clear p6
            try clear c7
            try clear c7b0
            try clear p8
            try clear q8
            try clear hx8
            try clear c10
            try clear c12
            try clear c12b0
            try clear c13
            try clear c14
            try clear c14b0
            try clear p15
            try clear q15
            try clear hx15
            try clear c16
            try clear c18
            try clear c18b0
            try clear c19
            try clear c19b0
            try clear c20
            try clear c20b0
            try clear p21
            try clear q21
            try clear hx21
            try clear c22
            try clear c22b0
            try clear c22b1
            try clear p1
            try clear p15
            try clear p2
            try clear p21
            try clear p8
            try clear q1
            try clear q15
            try clear q21
            try clear q8
            obtain ⟨kq, x56_16, rfl, HA, HJ16, HO_3, HB⟩ := hcut
            cases kq with
            | zero => exact absurd HA.out (by simp [spec_SplitList.j4])
            | succ kj16 =>
             have H := HA.out
             clear HA
             simp only [spec_SplitList.j4] at H
             by_cases c23 : x56_16 = true
             ·subst c23
              rw [if_pos rfl] at H
              obtain ⟨ji24, hji24⟩ : ∃ j_ : Int, (mn x6_1 (a0.size : Int)) = j_ := ⟨_, rfl⟩
              replace H : (if 0 ≤ x4_1 then (if x4_1 ≤ (ji24) then (if (ji24) ≤ (a0.size : Int) then ((spec_Trim.f kj16 (a0.extract (x4_1 : Int).toNat ((ji24) : Int).toNat)).bind fun t104 => (if t104.toList = ([] : List UInt8) then (spec_SplitList.l0 kj16 a0 x3_1 (wrap64 (x6_1 + 1)) x5_8 (wrap64 (x6_1 + 1))) else (if x3_1.length < 8796093022208 then (spec_SplitList.l0 kj16 a0 (x3_1 ++ [t104]) (wrap64 (x6_1 + 1)) x5_8 (wrap64 (x6_1 + 1))) else (none)))) else (none)) else (none)) else (none)) = some r := by first | (rw [hji24] at H; exact H) | (simp only [hji24] at H ⊢; exact H)
              have hji24_ : (if (a0.size : Int) < x6_1 then (a0.size : Int) else x6_1) = ji24 := hji24
              by_cases c25 : 0 ≤ x4_1
              ·rw [if_pos c25] at H
               have c25b0 := eq_true c25
               have c25b1 : decide (0 ≤ x4_1) = true := decide_eq_true c25
               clear c25
               by_cases c26 : x4_1 ≤ (ji24)
               ·rw [if_pos c26] at H
                have c26b0 := eq_true c26
                have c26b1 : decide (x4_1 ≤ (ji24)) = true := decide_eq_true c26
                clear c26
                by_cases c27 : (ji24) ≤ (a0.size : Int)
                ·rw [if_pos c27] at H
                 have c27b0 := eq_true c27
                 have c27b1 : decide ((ji24) ≤ (a0.size : Int)) = true := decide_eq_true c27
                 clear c27
                 replace H := Option.bind_eq_some_iff.mp H
                 obtain ⟨t104, A280, H⟩ := H
                 try dsimp only at H
                 have A28 := Aside0.mk A280
                 clear A280
                 by_cases c29 : t104.toList = ([] : List UInt8)
                 ·rw [if_pos c29] at H
                  have c29b0 : (t104.toList == ([] : List UInt8)) = true := beq_iff_eq.mpr c29
                  have c29b1 : (t104.toList != ([] : List UInt8)) = false := bne_eq_false_iff_eq.mpr c29
                  clear c29
                  have H' := Aside0.mk H
                  clear H
                  go_wp2_with (first | ((with_reducible refine gate_callee (f := 107) rfl ?_); refine goesL_ (some 64) rfl rfl Tryz.func107 (by kernel_rfl) rfl #[.string (a0.extract (x4_1 : Int).toNat ((ji24) : Int).toNat)] rfl (by (try simp only [List.map_toArray, List.map_cons, List.map_nil]); first | done | (simp only [hji24]; rfl) | rfl | (simp only [List.length_drop, List.length_take]; rfl)) ?_; (with_reducible refine (spec_Trim.calls kj16 (a0.extract (x4_1 : Int).toNat ((ji24) : Int).toNat) t104 _ A28.out).mono ?_); rintro e w' ⟨rfl, ⟨nd, rfl⟩⟩; refine ⟨_, rfl, ?_⟩))
                  go_roundg kj16
                  case measure => have := HK1.out; have := HJ4.out; have := HJ8.out; have := HJ10.out; have := HJ16.out; omega
                  case rel => exact ⟨(x3_1), (wrap64 (x6_1 + 1)), (x5_8), (wrap64 (x6_1 + 1)), (by first | rfl | (simp; done) | (simp [*]; done)), (by first | rfl | (simp; done) | (simp [*]; done)), (by first | rfl | (simp; done) | (simp [*]; done)), H', ⟨by have := HK1.out; have := HJ4.out; have := HJ8.out; have := HJ10.out; have := HJ16.out; omega⟩, ⟨by (with_reducible repeat (first | apply Kd.R_alloc | apply Kd.R_drewN | apply Kd.R_drew)); exact HO_3.out⟩, ⟨by repeat (first | (with_reducible first | exact HB.out | apply below_alloc | apply pw_below_drewN | apply below_drew1) | exact HB.out)⟩⟩
                 ·rw [if_neg c29] at H
                  have c29b0 : (t104.toList == ([] : List UInt8)) = false := beq_eq_false_iff_ne.mpr c29
                  have c29b1 : (t104.toList != ([] : List UInt8)) = true := bne_iff_ne.mpr c29
                  by_cases c30 : x3_1.length < 8796093022208
                  ·rw [if_pos c30] at H
                   have LMc30 := Aside0.mk c30
                   clear c30
                   obtain ⟨y105, hy105⟩ : ∃ y_ : List ByteArray, y_ = (x3_1 ++ [t104]) := ⟨_, rfl⟩
                   replace H : (spec_SplitList.l0 kj16 a0 y105 (wrap64 (x6_1 + 1)) x5_8 (wrap64 (x6_1 + 1))) = some r := by first | (rw [hy105]; with_reducible exact H) | (have H2_ := (Option.bind_some _ _).symm.trans H; rw [hy105]; with_reducible exact H2_) | (have H2_ := (Option.bind_some _ _).symm.trans H; with_reducible exact H2_) | with_reducible exact H | (rw [hy105]; exact H) | exact H
                   have Ny105 := Aside0.mk hy105
                   clear hy105
                   have H' := Aside0.mk H
                   clear H
                   go_wp2_with (first | ((with_reducible refine gate_callee (f := 107) rfl ?_); refine goesL_ (some 64) rfl rfl Tryz.func107 (by kernel_rfl) rfl #[.string (a0.extract (x4_1 : Int).toNat ((ji24) : Int).toNat)] rfl (by (try simp only [List.map_toArray, List.map_cons, List.map_nil]); first | done | (simp only [hji24]; rfl) | rfl | (simp only [List.length_drop, List.length_take]; rfl)) ?_; (with_reducible refine (spec_Trim.calls kj16 (a0.extract (x4_1 : Int).toNat ((ji24) : Int).toNat) t104 _ A28.out).mono ?_); rintro e w' ⟨rfl, ⟨nd, rfl⟩⟩; refine ⟨_, rfl, ?_⟩) | ((with_reducible refine gate_builtin (b := .append) (xs := #[.tmp 67, .tmp 69]) rfl ?_); at_builtin; refine Kd.R_append Kd.string (w0 := w) w.heap.size rfl (.tmp 67) (.tmp 69) 76 9 (.string ⟨#[]⟩) 16 rfl Tryz.underlying76 info9 rfl (by decide) (by omega) u3 x3_1 t104 [.string t104] (fun _ => True) (fun _ => False) rfl rfl ?aP (fun _ hk => hk.elim) ?aF ?aO ?aB ?aS ?aL ?_; (case aP => exact rfl); (case aB => exact bq); (case aF => exact (fun _ _ => trivial)); (case aO => exact (by (with_reducible repeat (first | apply Kd.R_alloc | apply Kd.R_drewN | apply Kd.R_drew)); exact HO_3.out)); (case aS => exact (below_size bq)); (case aL => have := LMc30.out; omega); intro v106 w31 ho hb hg hat; rw [← Ny105.out] at ho; have n0_ := Aside0.mk (hb); have n1_ := Aside0.mk (ho); clear HB; clear HO_3; have HB := n0_; have HO107 := n1_; clear n0_ n1_; clear ho hb hg hat))
                   go_roundg kj16
                   case measure => have := HK1.out; have := HJ4.out; have := HJ8.out; have := HJ10.out; have := HJ16.out; omega
                   case rel => exact ⟨(y105), (wrap64 (x6_1 + 1)), (x5_8), (wrap64 (x6_1 + 1)), (by first | rfl | (simp; done) | (simp [*]; done)), (by first | rfl | (simp; done) | (simp [*]; done)), (by first | rfl | (simp; done) | (simp [*]; done)), H', ⟨by have := HK1.out; have := HJ4.out; have := HJ8.out; have := HJ10.out; have := HJ16.out; omega⟩, ⟨by (with_reducible repeat (first | apply Kd.R_alloc | apply Kd.R_drewN | apply Kd.R_drew)); exact HO107.out⟩, ⟨by repeat (first | (with_reducible first | exact HB.out | apply below_alloc | apply pw_below_drewN | apply below_drew1) | exact HB.out)⟩⟩
                  ·rw [if_neg c30] at H
                   exact absurd H (by simp)
                ·rw [if_neg c27] at H
                 exact absurd H (by simp)
               ·rw [if_neg c26] at H
                exact absurd H (by simp)
              ·rw [if_neg c25] at H
               exact absurd H (by simp)
             ·replace c23 := Bool.eq_false_iff.mpr c23
              subst c23
              rw [if_neg (show ¬ (false = true) by decide)] at H
              have H' := Aside0.mk H
              clear H
              go_wp2
              go_roundg kj16
              case measure => have := HK1.out; have := HJ4.out; have := HJ8.out; have := HJ10.out; have := HJ16.out; omega
              case rel => exact ⟨(x3_1), (x4_1), (x5_8), (wrap64 (x6_1 + 1)), (by first | rfl | (simp; done) | (simp [*]; done)), (by first | rfl | (simp; done) | (simp [*]; done)), (by first | rfl | (simp; done) | (simp [*]; done)), H', ⟨by have := HK1.out; have := HJ4.out; have := HJ8.out; have := HJ10.out; have := HJ16.out; omega⟩, ⟨by (with_reducible repeat (first | apply Kd.R_alloc | apply Kd.R_drewN | apply Kd.R_drew)); exact HO_3.out⟩, ⟨by repeat (first | (with_reducible first | exact HB.out | apply below_alloc | apply pw_below_drewN | apply below_drew1) | exact HB.out)⟩⟩
   ·rw [if_neg c4] at H
    have c4b0 : decide (x6_1 ≤ (a0.size : Int)) = false := decide_eq_false c4
    clear c4
    have HC32 := Aside0.mk H
    clear H
    go_upto_region 16 with (fail)
    go_cut [79] (fun v79 wc => ∃ (kq : Nat) (x79_31 : Bool), v79 = .bool x79_31 ∧ Aside0 (spec_SplitList.j5 kq a0 x3_1 x4_1 x79_31 = some r) ∧ Aside0 (kq ≤ k1) ∧ Aside0 (Kd.R Kd.string 9 wc w.heap.size (fun _ => True) u3 x3_1) ∧ Aside0 (Below w.heap.size w wc))
    case first =>
     have H := HC32.out
     clear HC32
     by_cases c33 : x4_1 < (a0.size : Int)
     ·rw [if_pos c33] at H
      have c33b0 : decide (x4_1 < (a0.size : Int)) = true := decide_eq_true c33
      clear c33
      (first | rw [c33b0] | (simp only [i64_w, i32_w]; rw [c33b0]) | skip)
      have H' := Aside0.mk H
      clear H
      go_wp2
      go_meet
      case rel => exact ⟨_, (x5_1), (by first | rfl | (simp; done) | (simp [*]; done)), H', ⟨by have := HK1.out; first | omega | exact Nat.le_refl _⟩, ⟨by (with_reducible repeat (first | apply Kd.R_alloc | apply Kd.R_drewN | apply Kd.R_drew)); exact HO_3.out⟩, ⟨by repeat (first | (with_reducible first | exact HB.out | apply below_alloc | apply pw_below_drewN | apply below_drew1) | exact HB.out)⟩⟩
     ·rw [if_neg c33] at H
      have c33b0 : decide (x4_1 < (a0.size : Int)) = false := decide_eq_false c33
      clear c33
      (first | rw [c33b0] | (simp only [i64_w, i32_w]; rw [c33b0]) | skip)
      have H' := Aside0.mk H
      clear H
      go_wp2
      go_meet
      case rel => exact ⟨_, (false), (by first | rfl | (simp; done) | (simp [*]; done)), H', ⟨by have := HK1.out; first | omega | exact Nat.le_refl _⟩, ⟨by (with_reducible repeat (first | apply Kd.R_alloc | apply Kd.R_drewN | apply Kd.R_drew)); exact HO_3.out⟩, ⟨by repeat (first | (with_reducible first | exact HB.out | apply below_alloc | apply pw_below_drewN | apply below_drew1) | exact HB.out)⟩⟩
    case rest =>
     clear HC32
     try clear c1
     try clear p1
     try clear q1
     try clear hx1
     try clear c2
     try clear p2
     try clear q2
     try clear hx2
     try clear c3
     try clear c4
     try clear c4b0
     try clear c6
     try clear c6b0
     try clear p6
     try clear c7
     try clear c7b0
     try clear p8
     try clear q8
     try clear hx8
     try clear c10
     try clear c12
     try clear c12b0
     try clear c13
     try clear c14
     try clear c14b0
     try clear p15
     try clear q15
     try clear hx15
     try clear c16
     try clear c18
     try clear c18b0
     try clear c19
     try clear c19b0
     try clear c20
     try clear c20b0
     try clear p21
     try clear q21
     try clear hx21
     try clear c22
     try clear c22b0
     try clear c22b1
     try clear c23
     try clear c25
     try clear c25b0
     try clear c25b1
     try clear c26
     try clear c26b0
     try clear c26b1
     try clear c27
     try clear c27b0
     try clear c27b1
     try clear c29
     try clear c29b0
     try clear c29b1
     try clear c30
     try clear c33
     try clear c33b0
     try clear p1
     try clear p15
     try clear p2
     try clear p21
     try clear p6
     try clear p8
     try clear q1
     try clear q15
     try clear q2
     try clear q21
     try clear q8
     obtain ⟨kq, x79_31, rfl, HA, HJ31, HO_3, HB⟩ := hcut
     cases kq with
     | zero => exact absurd HA.out (by simp [spec_SplitList.j5])
     | succ kj31 =>
      have H := HA.out
      clear HA
      simp only [spec_SplitList.j5] at H
      by_cases c34 : x79_31 = true
      ·subst c34
       rw [if_pos rfl] at H
       by_cases c35 : 0 ≤ x4_1
       ·rw [if_pos c35] at H
        have c35b0 := eq_true c35
        have c35b1 : decide (0 ≤ x4_1) = true := decide_eq_true c35
        clear c35
        by_cases c36 : x4_1 ≤ (a0.size : Int)
        ·rw [if_pos c36] at H
         have c36b0 := eq_true c36
         have c36b1 : decide (x4_1 ≤ (a0.size : Int)) = true := decide_eq_true c36
         clear c36
         replace H := Option.bind_eq_some_iff.mp H
         obtain ⟨t108, A370, H⟩ := H
         try dsimp only at H
         have A37 := Aside0.mk A370
         clear A370
         by_cases c38 : t108.toList = ([] : List UInt8)
         ·rw [if_pos c38] at H
          have c38b0 : (t108.toList == ([] : List UInt8)) = true := beq_iff_eq.mpr c38
          have c38b1 : (t108.toList != ([] : List UInt8)) = false := bne_eq_false_iff_eq.mpr c38
          clear c38
          obtain rfl := Option.some.inj H
          go_wp2_with (first | ((with_reducible refine gate_callee (f := 107) rfl ?_); refine goesL_ (some 83) rfl rfl Tryz.func107 (by kernel_rfl) rfl #[.string (a0.extract (x4_1 : Int).toNat a0.size)] rfl am ?_; (with_reducible refine (spec_Trim.calls kj31 (a0.extract (x4_1 : Int).toNat a0.size) t108 _ A37.out).mono ?_); rintro e w' ⟨rfl, ⟨nd, rfl⟩⟩; refine ⟨_, rfl, ?_⟩))
          go_ret
          exact ⟨_, by first | rfl | (simp [errW_none, errW_some] <;> rfl) | (simp [*, errW_none, errW_some] <;> rfl), by (with_reducible repeat (first | apply Kd.R_alloc | apply Kd.R_drewN | apply Kd.R_drew)); exact HO_3.out, bq⟩
         ·rw [if_neg c38] at H
          have c38b0 : (t108.toList == ([] : List UInt8)) = false := beq_eq_false_iff_ne.mpr c38
          have c38b1 : (t108.toList != ([] : List UInt8)) = true := bne_iff_ne.mpr c38
          by_cases c39 : x3_1.length < 8796093022208
          ·rw [if_pos c39] at H
           have LMc39 := Aside0.mk c39
           clear c39
           obtain ⟨y109, hy109⟩ : ∃ y_ : List ByteArray, y_ = (x3_1 ++ [t108]) := ⟨_, rfl⟩
           replace H : (some y109) = some r := by first | (rw [hy109]; with_reducible exact H) | (have H2_ := (Option.bind_some _ _).symm.trans H; rw [hy109]; with_reducible exact H2_) | (have H2_ := (Option.bind_some _ _).symm.trans H; with_reducible exact H2_) | with_reducible exact H | (rw [hy109]; exact H) | exact H
           have Ny109 := Aside0.mk hy109
           clear hy109
           obtain rfl := Option.some.inj H
           go_wp2_with (first | ((with_reducible refine gate_callee (f := 107) rfl ?_); refine goesL_ (some 83) rfl rfl Tryz.func107 (by kernel_rfl) rfl #[.string (a0.extract (x4_1 : Int).toNat a0.size)] rfl am ?_; (with_reducible refine (spec_Trim.calls kj31 (a0.extract (x4_1 : Int).toNat a0.size) t108 _ A37.out).mono ?_); rintro e w' ⟨rfl, ⟨nd, rfl⟩⟩; refine ⟨_, rfl, ?_⟩) | ((with_reducible refine gate_builtin (b := .append) (xs := #[.tmp 86, .tmp 88]) rfl ?_); at_builtin; refine Kd.R_append Kd.string (w0 := w) w.heap.size rfl (.tmp 86) (.tmp 88) 76 9 (.string ⟨#[]⟩) 16 rfl Tryz.underlying76 info9 rfl (by decide) (by omega) u3 x3_1 t108 [.string t108] (fun _ => True) (fun _ => False) rfl rfl ?aP (fun _ hk => hk.elim) ?aF ?aO ?aB ?aS ?aL ?_; (case aP => exact rfl); (case aB => exact bq); (case aF => exact (fun _ _ => trivial)); (case aO => exact (by (with_reducible repeat (first | apply Kd.R_alloc | apply Kd.R_drewN | apply Kd.R_drew)); exact HO_3.out)); (case aS => exact (below_size bq)); (case aL => have := LMc39.out; omega); intro v110 w40 ho hb hg hat; rw [← Ny109.out] at ho; have n0_ := Aside0.mk (hb); have n1_ := Aside0.mk (ho); clear HB; clear HO_3; have HB := n0_; have HO111 := n1_; clear n0_ n1_; clear ho hb hg hat))
           go_ret
           exact ⟨_, by first | rfl | (simp [errW_none, errW_some] <;> rfl) | (simp [*, errW_none, errW_some] <;> rfl), by (with_reducible repeat (first | apply Kd.R_alloc | apply Kd.R_drewN | apply Kd.R_drew)); exact HO111.out, bq⟩
          ·rw [if_neg c39] at H
           exact absurd H (by simp)
        ·rw [if_neg c36] at H
         exact absurd H (by simp)
       ·rw [if_neg c35] at H
        exact absurd H (by simp)
      ·replace c34 := Bool.eq_false_iff.mpr c34
       subst c34
       rw [if_neg (show ¬ (false = true) by decide)] at H
       obtain rfl := Option.some.inj H
       go_wp2
       go_ret
       exact ⟨_, by first | rfl | (simp [errW_none, errW_some] <;> rfl) | (simp [*, errW_none, errW_some] <;> rfl), by (with_reducible repeat (first | apply Kd.R_alloc | apply Kd.R_drewN | apply Kd.R_drew)); exact HO_3.out, bq⟩

end Go.Proofs.YtjldfmkpdkhnnaaGreatDoor.QL

namespace Go.Proofs.YtjldfmkpdkhnnaaGreatDoor.Ext
open Go.RowKit Go.Proofs.YtjldfmkpdkhnnaaGreatDoorW.PrintWords Go.Proofs.YtjldfmkpdkhnnaaGreatDoorW.PrintLast Go.Proofs.YtjldfmkpdkhnnaaGreatDoorW.PrintMore Go.Proofs.YtjldfmkpdkhnnaaGreatDoor.Aux Go.Proofs.YtjldfmkpdkhnnaaGreatDoor.Dom Go.Proofs.YtjldfmkpdkhnnaaGreatDoor.Glob
attribute [local go_sem] max2_int min2_int max_two min_two max_three min_three max_four min_four
def spec_l2Token.f (a0 : Int) : Option Bool := if 0 ≤ a0 ∧ a0 < 256 then some (tokC a0) else none
theorem step_val {P : Program} {ops : Array Oper} {Q : Exit → Act → World → Prop} {rest : List Oper} {o : Oper} {a : Act} {w : World} {d : Nat} (v : Value) (hd : o.dst = some d) (hrun : (execOp a.eval o).run P w = .ok (.value v) w) (hw : Region.wanted o (yielded ops a.tmps) = true)
    (h : wpList P ops Q rest ⟨a.tmps.setIfInBounds d v, a.defers⟩ w) : wpList P ops Q (o :: rest) a w := by
  refine wpList_step fun K hK => ?_
  rw [if_pos hw]
  unfold Oper.wp
  rw [hrun, Oper.upon_value]
  refine hK _ _ ?_
  have e : a.put o.dst v = ⟨a.tmps.setIfInBounds d v, a.defers⟩ := by rw [hd]; rfl
  rw [e]; exact h
theorem step_skip {P : Program} {ops : Array Oper} {Q : Exit → Act → World → Prop} {rest : List Oper} {o : Oper} {a : Act} {w : World} {d : Nat} (hd : o.dst = some d) (hw : Region.wanted o (yielded ops a.tmps) = false)
    (h : wpList P ops Q rest ⟨a.tmps.setIfInBounds d undef, a.defers⟩ w) : wpList P ops Q (o :: rest) a w := by
  refine wpList_step fun K hK => ?_
  rw [if_neg (by rw [hw]; decide)]
  refine hK _ _ ?_
  have e : a.put o.dst undef = ⟨a.tmps.setIfInBounds d undef, a.defers⟩ := by rw [hd]; rfl
  rw [e]; exact h
theorem get_set_same (T : Array Value) (d : Nat) (v : Value) (h : d < T.size) : (T.setIfInBounds d v)[d]? = some v := by simp [h]
theorem get_set_other (T : Array Value) (d e : Nat) (v x : Value) (h : T[e]? = some x) (hne : e ≠ d) : (T.setIfInBounds d v)[e]? = some x := by
  rw [Array.getElem?_setIfInBounds_ne (fun hh => hne hh.symm)]; exact h
theorem eval_tmp {T : Array Value} {D : List Deferred} {t : Nat} {v : Value} (h : T[t]? = some v) : Act.eval ⟨T, D⟩ (.tmp t) = v := by
  simp [Act.eval, Array.getD_eq_getD_getElem?, h]
theorem run_move {P : Program} {T : Array Value} {D : List Deferred} {w : World} {o : Oper} {t : Nat} {v : Value} (ho : o.op = .move (.tmp t)) (h : T[t]? = some v) : (execOp (Act.eval ⟨T, D⟩) o).run P w = .ok (.value v) w := by
  have e := eval_tmp (D := D) h
  unfold execOp
  rw [ho]
  simp [e]
theorem run_assign {P : Program} {T : Array Value} {D : List Deferred} {w : World} {o : Oper} {t : Nat} {v : Value} (ho : o.op = .assign (.tmp t)) (h : T[t]? = some v) : (execOp (Act.eval ⟨T, D⟩) o).run P w = .ok (.value v) w := by
  have e := eval_tmp (D := D) h
  unfold execOp
  rw [ho]
  simp [e]
theorem run_pick {P : Program} {T : Array Value} {D : List Deferred} {w : World} {o : Oper} {x : Operand} {y z : Operand} {b : Bool} (ho : o.op = .pick x y z) (h : Act.eval ⟨T, D⟩ x = .bool b) : (execOp (Act.eval ⟨T, D⟩) o).run P w = .ok (.value (if b then Act.eval ⟨T, D⟩ y else Act.eval ⟨T, D⟩ z)) w := by
  unfold execOp
  rw [ho]
  cases b <;> simp [h] <;> rfl
theorem run_eql {T : Array Value} {D : List Deferred} {w : World} {o : Oper} {t : Nat} {c n : Int} (ho : o.op = .binOp .eql 5 (.tmp t) (.const (.int .u8 n)) 5) (h : T[t]? = some (.int .u8 c)) : (execOp (Act.eval ⟨T, D⟩) o).run Tryz.prog w = .ok (.value (.bool (c == n))) w := by
  have e := eval_tmp (D := D) h
  unfold execOp
  rw [ho]
  go_simp
theorem run_geq {T : Array Value} {D : List Deferred} {w : World} {o : Oper} {t : Nat} {c n : Int} (ho : o.op = .binOp .geq 5 (.tmp t) (.const (.int .u8 n)) 5) (h : T[t]? = some (.int .u8 c)) : (execOp (Act.eval ⟨T, D⟩) o).run Tryz.prog w = .ok (.value (.bool (decide (n ≤ c)))) w := by
  have e := eval_tmp (D := D) h
  unfold execOp
  rw [ho]
  go_simp
theorem run_leq {T : Array Value} {D : List Deferred} {w : World} {o : Oper} {t : Nat} {c n : Int} (ho : o.op = .binOp .leq 5 (.tmp t) (.const (.int .u8 n)) 5) (h : T[t]? = some (.int .u8 c)) : (execOp (Act.eval ⟨T, D⟩) o).run Tryz.prog w = .ok (.value (.bool (decide (c ≤ n)))) w := by
  have e := eval_tmp (D := D) h
  unfold execOp
  rw [ho]
  go_simp
theorem yield_of {ops : Array Oper} {T : Array Value} {j s : Nat} {b : Bool} (hj : (ops[j]?).bind (·.dst) = some s) (h : T[s]? = some (.bool b)) : yielded ops T j = some b := by
  simp only [yielded, hj, Option.bind_some, h]
theorem yield_undef {ops : Array Oper} {T : Array Value} {j s : Nat} (hj : (ops[j]?).bind (·.dst) = some s) (h : T[s]? = some undef) : yielded ops T j = none := by
  simp only [yielded, hj, Option.bind_some, h, undef]
theorem want_none {o : Oper} {f : Nat → Option Bool} (h : o.guard = none) : Region.wanted o f = true := by simp only [Region.wanted, h]
theorem want_some {o : Oper} {f : Nat → Option Bool} {j : Nat} {b c : Bool} (h : o.guard = some (j, b)) (hf : f j = some c) : Region.wanted o f = (c == b) := by
  simp only [Region.wanted, h, hf]
  cases b <;> cases c <;> rfl
theorem want_undef {o : Oper} {f : Nat → Option Bool} {j : Nat} {b : Bool} (h : o.guard = some (j, b)) (hf : f j = none) : Region.wanted o f = false := by
  simp only [Region.wanted, h, hf]
  cases b <;> rfl
theorem orBlock {ops : Array Oper} {Q : Exit → Act → World → Prop} {rest : List Oper} {T : Array Value} {D : List Deferred} {w : World} {o1 o2 o3 o4 : Oper} (s j : Nat) (n c : Int) (B : Bool)
    (d1 : o1.dst = some (s + 1)) (g1 : o1.guard = none) (p1 : o1.op = .move (.tmp s))
    (d2 : o2.dst = some (s + 2)) (g2 : o2.guard = some (j, false)) (p2 : o2.op = .move (.tmp 0))
    (d3 : o3.dst = some (s + 3)) (g3 : o3.guard = some (j, false)) (p3 : o3.op = .binOp .eql 5 (.tmp (s + 2)) (.const (.int .u8 n)) 5)
    (d4 : o4.dst = some (s + 4)) (g4 : o4.guard = none) (p4 : o4.op = .pick (.tmp (s + 1)) (.const (.bool true)) (.tmp (s + 3)))
    (hj : (ops[j]?).bind (·.dst) = some (s + 1)) (hN : T.size = 85) (hs : s + 4 < 85) (h0 : T[0]? = some (.int .u8 c)) (hB : T[s]? = some (.bool B)) (hs0 : 0 < s)
    (k : ∀ T' : Array Value, T'.size = 85 → T'[0]? = some (.int .u8 c) → T'[s + 4]? = some (.bool (B || c == n)) → wpList Tryz.prog ops Q rest ⟨T', D⟩ w) :
    wpList Tryz.prog ops Q (o1 :: o2 :: o3 :: o4 :: rest) ⟨T, D⟩ w := by
  refine step_val (.bool B) d1 (run_move p1 hB) (want_none g1) ?_
  have hN1 : (T.setIfInBounds (s + 1) (.bool B)).size = 85 := by simpa using hN
  have z1 := get_set_other T (s + 1) 0 (.bool B) _ h0 (by omega)
  have y1 := get_set_same T (s + 1) (.bool B) (by omega)
  have w1 : yielded ops (T.setIfInBounds (s + 1) (.bool B)) j = some B := yield_of hj y1
  generalize T.setIfInBounds (s + 1) (.bool B) = T1 at hN1 z1 y1 w1
  cases B with
  | true =>
    refine step_skip d2 (by rw [want_some g2 w1]; rfl) ?_
    have hN2 : (T1.setIfInBounds (s + 2) undef).size = 85 := by simpa using hN1
    have z2 := get_set_other T1 (s + 2) 0 undef _ z1 (by omega)
    have y2 := get_set_other T1 (s + 2) (s + 1) undef _ y1 (by omega)
    generalize T1.setIfInBounds (s + 2) undef = T2 at hN2 z2 y2
    refine step_skip d3 (by rw [want_some g3 (yield_of hj y2)]; rfl) ?_
    have hN3 : (T2.setIfInBounds (s + 3) undef).size = 85 := by simpa using hN2
    have z3 := get_set_other T2 (s + 3) 0 undef _ z2 (by omega)
    have y3 := get_set_other T2 (s + 3) (s + 1) undef _ y2 (by omega)
    generalize T2.setIfInBounds (s + 3) undef = T3 at hN3 z3 y3
    refine step_val (.bool true) d4 (run_pick p4 (eval_tmp y3)) (want_none g4) ?_
    exact k _ (by simpa using hN3) (get_set_other _ _ _ _ _ z3 (by omega)) ((get_set_same T3 _ _ (by omega)).trans rfl)
  | false =>
    refine step_val (.int .u8 c) d2 (run_move p2 z1) (by rw [want_some g2 w1]; rfl) ?_
    have hN2 : (T1.setIfInBounds (s + 2) (.int .u8 c)).size = 85 := by simpa using hN1
    have z2 := get_set_other T1 (s + 2) 0 (.int .u8 c) _ z1 (by omega)
    have y2 := get_set_other T1 (s + 2) (s + 1) (.int .u8 c) _ y1 (by omega)
    have x2 := get_set_same T1 (s + 2) (.int .u8 c) (by omega)
    generalize T1.setIfInBounds (s + 2) (.int .u8 c) = T2 at hN2 z2 y2 x2
    refine step_val (.bool (c == n)) d3 (run_eql p3 x2) (by rw [want_some g3 (yield_of hj y2)]; rfl) ?_
    have hN3 : (T2.setIfInBounds (s + 3) (.bool (c == n))).size = 85 := by simpa using hN2
    have z3 := get_set_other T2 (s + 3) 0 (.bool (c == n)) _ z2 (by omega)
    have y3 := get_set_other T2 (s + 3) (s + 1) (.bool (c == n)) _ y2 (by omega)
    have x3 := get_set_same T2 (s + 3) (.bool (c == n)) (by omega)
    generalize T2.setIfInBounds (s + 3) (.bool (c == n)) = T3 at hN3 z3 y3 x3
    have hp := run_pick (P := Tryz.prog) (D := D) (w := w) p4 (eval_tmp y3)
    rw [if_neg (by decide), eval_tmp x3] at hp
    refine step_val (.bool (c == n)) d4 hp (want_none g4) ?_
    exact k _ (by simpa using hN3) (get_set_other _ _ _ _ _ z3 (by omega)) ((get_set_same T3 _ _ (by omega)).trans rfl)
theorem andBlock {ops : Array Oper} {Q : Exit → Act → World → Prop} {rest : List Oper} {T : Array Value} {D : List Deferred} {w : World} {o1 o2 o3 o4 o5 o6 : Oper} (s j : Nat) (lo hi c : Int)
    (d1 : o1.dst = some (s + 1)) (g1 : o1.guard = none) (p1 : o1.op = .move (.tmp 0))
    (d2 : o2.dst = some (s + 2)) (g2 : o2.guard = none) (p2 : o2.op = .binOp .geq 5 (.tmp (s + 1)) (.const (.int .u8 lo)) 5)
    (d3 : o3.dst = some (s + 3)) (g3 : o3.guard = none) (p3 : o3.op = .move (.tmp (s + 2)))
    (d4 : o4.dst = some (s + 4)) (g4 : o4.guard = some (j, true)) (p4 : o4.op = .move (.tmp 0))
    (d5 : o5.dst = some (s + 5)) (g5 : o5.guard = some (j, true)) (p5 : o5.op = .binOp .leq 5 (.tmp (s + 4)) (.const (.int .u8 hi)) 5)
    (d6 : o6.dst = some (s + 6)) (g6 : o6.guard = none) (p6 : o6.op = .pick (.tmp (s + 3)) (.tmp (s + 5)) (.const (.bool false)))
    (hj : (ops[j]?).bind (·.dst) = some (s + 3)) (hN : T.size = 85) (hs : s + 6 < 85) (h0 : T[0]? = some (.int .u8 c))
    (k : ∀ T' : Array Value, T'.size = 85 → T'[0]? = some (.int .u8 c) → T'[s + 6]? = some (.bool (decide (lo ≤ c) && decide (c ≤ hi))) → wpList Tryz.prog ops Q rest ⟨T', D⟩ w) :
    wpList Tryz.prog ops Q (o1 :: o2 :: o3 :: o4 :: o5 :: o6 :: rest) ⟨T, D⟩ w := by
  refine step_val (.int .u8 c) d1 (run_move p1 h0) (want_none g1) ?_
  have hN1 : (T.setIfInBounds (s + 1) (.int .u8 c)).size = 85 := by simpa using hN
  have z1 := get_set_other T (s + 1) 0 (.int .u8 c) _ h0 (by omega)
  have y1 := get_set_same T (s + 1) (.int .u8 c) (by omega)
  generalize T.setIfInBounds (s + 1) (.int .u8 c) = T1 at hN1 z1 y1
  refine step_val (.bool (decide (lo ≤ c))) d2 (run_geq p2 y1) (want_none g2) ?_
  have hN2 : (T1.setIfInBounds (s + 2) (.bool (decide (lo ≤ c)))).size = 85 := by simpa using hN1
  have z2 := get_set_other T1 (s + 2) 0 (.bool (decide (lo ≤ c))) _ z1 (by omega)
  have y2 := get_set_same T1 (s + 2) (.bool (decide (lo ≤ c))) (by omega)
  generalize T1.setIfInBounds (s + 2) (.bool (decide (lo ≤ c))) = T2 at hN2 z2 y2
  refine step_val (.bool (decide (lo ≤ c))) d3 (run_move p3 y2) (want_none g3) ?_
  have hN3 : (T2.setIfInBounds (s + 3) (.bool (decide (lo ≤ c)))).size = 85 := by simpa using hN2
  have z3 := get_set_other T2 (s + 3) 0 (.bool (decide (lo ≤ c))) _ z2 (by omega)
  have y3 := get_set_same T2 (s + 3) (.bool (decide (lo ≤ c))) (by omega)
  generalize T2.setIfInBounds (s + 3) (.bool (decide (lo ≤ c))) = T3 at hN3 z3 y3
  cases hb : decide (lo ≤ c) with
  | false =>
    rw [hb] at y3
    refine step_skip d4 (by rw [want_some g4 (yield_of hj y3)]; rfl) ?_
    have hN4 : (T3.setIfInBounds (s + 4) undef).size = 85 := by simpa using hN3
    have z4 := get_set_other T3 (s + 4) 0 undef _ z3 (by omega)
    have y4 := get_set_other T3 (s + 4) (s + 3) undef _ y3 (by omega)
    generalize T3.setIfInBounds (s + 4) undef = T4 at hN4 z4 y4
    refine step_skip d5 (by rw [want_some g5 (yield_of hj y4)]; rfl) ?_
    have hN5 : (T4.setIfInBounds (s + 5) undef).size = 85 := by simpa using hN4
    have z5 := get_set_other T4 (s + 5) 0 undef _ z4 (by omega)
    have y5 := get_set_other T4 (s + 5) (s + 3) undef _ y4 (by omega)
    generalize T4.setIfInBounds (s + 5) undef = T5 at hN5 z5 y5
    refine step_val (.bool false) d6 (run_pick p6 (eval_tmp y5)) (want_none g6) ?_
    exact k _ (by simpa using hN5) (get_set_other _ _ _ _ _ z5 (by omega)) ((get_set_same T5 _ _ (by omega)).trans (by rw [hb]; rfl))
  | true =>
    rw [hb] at y3
    refine step_val (.int .u8 c) d4 (run_move p4 z3) (by rw [want_some g4 (yield_of hj y3)]; rfl) ?_
    have hN4 : (T3.setIfInBounds (s + 4) (.int .u8 c)).size = 85 := by simpa using hN3
    have z4 := get_set_other T3 (s + 4) 0 (.int .u8 c) _ z3 (by omega)
    have y4 := get_set_other T3 (s + 4) (s + 3) (.int .u8 c) _ y3 (by omega)
    have x4 := get_set_same T3 (s + 4) (.int .u8 c) (by omega)
    generalize T3.setIfInBounds (s + 4) (.int .u8 c) = T4 at hN4 z4 y4 x4
    refine step_val (.bool (decide (c ≤ hi))) d5 (run_leq p5 x4) (by rw [want_some g5 (yield_of hj y4)]; rfl) ?_
    have hN5 : (T4.setIfInBounds (s + 5) (.bool (decide (c ≤ hi)))).size = 85 := by simpa using hN4
    have z5 := get_set_other T4 (s + 5) 0 (.bool (decide (c ≤ hi))) _ z4 (by omega)
    have y5 := get_set_other T4 (s + 5) (s + 3) (.bool (decide (c ≤ hi))) _ y4 (by omega)
    have x5 := get_set_same T4 (s + 5) (.bool (decide (c ≤ hi))) (by omega)
    generalize T4.setIfInBounds (s + 5) (.bool (decide (c ≤ hi))) = T5 at hN5 z5 y5 x5
    have hp := run_pick (P := Tryz.prog) (D := D) (w := w) p6 (eval_tmp y5)
    rw [if_pos rfl, eval_tmp x5] at hp
    refine step_val (.bool (decide (c ≤ hi))) d6 hp (want_none g6) ?_
    exact k _ (by simpa using hN5) (get_set_other _ _ _ _ _ z5 (by omega)) ((get_set_same T5 _ _ (by omega)).trans (by rw [hb]; rfl))
theorem orAndBlock {ops : Array Oper} {Q : Exit → Act → World → Prop} {rest : List Oper} {T : Array Value} {D : List Deferred} {w : World} {o1 o2 o3 o4 o5 o6 o7 o8 : Oper} (s j j2 : Nat) (lo hi c : Int) (B : Bool)
    (d1 : o1.dst = some (s + 1)) (g1 : o1.guard = none) (p1 : o1.op = .move (.tmp s))
    (d2 : o2.dst = some (s + 2)) (g2 : o2.guard = some (j, false)) (p2 : o2.op = .move (.tmp 0))
    (d3 : o3.dst = some (s + 3)) (g3 : o3.guard = some (j, false)) (p3 : o3.op = .binOp .geq 5 (.tmp (s + 2)) (.const (.int .u8 lo)) 5)
    (d4 : o4.dst = some (s + 4)) (g4 : o4.guard = some (j, false)) (p4 : o4.op = .move (.tmp (s + 3)))
    (d5 : o5.dst = some (s + 5)) (g5 : o5.guard = some (j2, true)) (p5 : o5.op = .move (.tmp 0))
    (d6 : o6.dst = some (s + 6)) (g6 : o6.guard = some (j2, true)) (p6 : o6.op = .binOp .leq 5 (.tmp (s + 5)) (.const (.int .u8 hi)) 5)
    (d7 : o7.dst = some (s + 7)) (g7 : o7.guard = some (j, false)) (p7 : o7.op = .pick (.tmp (s + 4)) (.tmp (s + 6)) (.const (.bool false)))
    (d8 : o8.dst = some (s + 8)) (g8 : o8.guard = none) (p8 : o8.op = .pick (.tmp (s + 1)) (.const (.bool true)) (.tmp (s + 7)))
    (hj : (ops[j]?).bind (·.dst) = some (s + 1)) (hj2 : (ops[j2]?).bind (·.dst) = some (s + 4)) (hN : T.size = 85) (hs : s + 8 < 85) (h0 : T[0]? = some (.int .u8 c)) (hB : T[s]? = some (.bool B)) (hs0 : 0 < s)
    (k : ∀ T' : Array Value, T'.size = 85 → T'[0]? = some (.int .u8 c) → T'[s + 8]? = some (.bool (B || (decide (lo ≤ c) && decide (c ≤ hi)))) → wpList Tryz.prog ops Q rest ⟨T', D⟩ w) :
    wpList Tryz.prog ops Q (o1 :: o2 :: o3 :: o4 :: o5 :: o6 :: o7 :: o8 :: rest) ⟨T, D⟩ w := by
  refine step_val (.bool B) d1 (run_move p1 hB) (want_none g1) ?_
  have hN1 : (T.setIfInBounds (s + 1) (.bool B)).size = 85 := by simpa using hN
  have z1 := get_set_other T (s + 1) 0 (.bool B) _ h0 (by omega)
  have y1 := get_set_same T (s + 1) (.bool B) (by omega)
  generalize T.setIfInBounds (s + 1) (.bool B) = T1 at hN1 z1 y1
  cases B with
  | true =>
    refine step_skip d2 (by rw [want_some g2 (yield_of hj y1)]; rfl) ?_
    have hN2 : (T1.setIfInBounds (s + 2) undef).size = 85 := by simpa using hN1
    have z2 := get_set_other T1 (s + 2) 0 undef _ z1 (by omega)
    have y2 := get_set_other T1 (s + 2) (s + 1) undef _ y1 (by omega)
    generalize T1.setIfInBounds (s + 2) undef = T2 at hN2 z2 y2
    refine step_skip d3 (by rw [want_some g3 (yield_of hj y2)]; rfl) ?_
    have hN3 : (T2.setIfInBounds (s + 3) undef).size = 85 := by simpa using hN2
    have z3 := get_set_other T2 (s + 3) 0 undef _ z2 (by omega)
    have y3 := get_set_other T2 (s + 3) (s + 1) undef _ y2 (by omega)
    generalize T2.setIfInBounds (s + 3) undef = T3 at hN3 z3 y3
    refine step_skip d4 (by rw [want_some g4 (yield_of hj y3)]; rfl) ?_
    have hN4 : (T3.setIfInBounds (s + 4) undef).size = 85 := by simpa using hN3
    have z4 := get_set_other T3 (s + 4) 0 undef _ z3 (by omega)
    have y4 := get_set_other T3 (s + 4) (s + 1) undef _ y3 (by omega)
    have x4 := get_set_same T3 (s + 4) undef (by omega)
    generalize T3.setIfInBounds (s + 4) undef = T4 at hN4 z4 y4 x4
    refine step_skip d5 (want_undef g5 (yield_undef hj2 x4)) ?_
    have hN5 : (T4.setIfInBounds (s + 5) undef).size = 85 := by simpa using hN4
    have z5 := get_set_other T4 (s + 5) 0 undef _ z4 (by omega)
    have y5 := get_set_other T4 (s + 5) (s + 1) undef _ y4 (by omega)
    have x5 := get_set_other T4 (s + 5) (s + 4) undef _ x4 (by omega)
    generalize T4.setIfInBounds (s + 5) undef = T5 at hN5 z5 y5 x5
    refine step_skip d6 (want_undef g6 (yield_undef hj2 x5)) ?_
    have hN6 : (T5.setIfInBounds (s + 6) undef).size = 85 := by simpa using hN5
    have z6 := get_set_other T5 (s + 6) 0 undef _ z5 (by omega)
    have y6 := get_set_other T5 (s + 6) (s + 1) undef _ y5 (by omega)
    generalize T5.setIfInBounds (s + 6) undef = T6 at hN6 z6 y6
    refine step_skip d7 (by rw [want_some g7 (yield_of hj y6)]; rfl) ?_
    have hN7 : (T6.setIfInBounds (s + 7) undef).size = 85 := by simpa using hN6
    have z7 := get_set_other T6 (s + 7) 0 undef _ z6 (by omega)
    have y7 := get_set_other T6 (s + 7) (s + 1) undef _ y6 (by omega)
    generalize T6.setIfInBounds (s + 7) undef = T7 at hN7 z7 y7
    refine step_val (.bool true) d8 (run_pick p8 (eval_tmp y7)) (want_none g8) ?_
    exact k _ (by simpa using hN7) (get_set_other _ _ _ _ _ z7 (by omega)) ((get_set_same T7 _ _ (by omega)).trans rfl)
  | false =>
    refine step_val (.int .u8 c) d2 (run_move p2 z1) (by rw [want_some g2 (yield_of hj y1)]; rfl) ?_
    have hN2 : (T1.setIfInBounds (s + 2) (.int .u8 c)).size = 85 := by simpa using hN1
    have z2 := get_set_other T1 (s + 2) 0 (.int .u8 c) _ z1 (by omega)
    have y2 := get_set_other T1 (s + 2) (s + 1) (.int .u8 c) _ y1 (by omega)
    have x2 := get_set_same T1 (s + 2) (.int .u8 c) (by omega)
    generalize T1.setIfInBounds (s + 2) (.int .u8 c) = T2 at hN2 z2 y2 x2
    refine step_val (.bool (decide (lo ≤ c))) d3 (run_geq p3 x2) (by rw [want_some g3 (yield_of hj y2)]; rfl) ?_
    have hN3 : (T2.setIfInBounds (s + 3) (.bool (decide (lo ≤ c)))).size = 85 := by simpa using hN2
    have z3 := get_set_other T2 (s + 3) 0 (.bool (decide (lo ≤ c))) _ z2 (by omega)
    have y3 := get_set_other T2 (s + 3) (s + 1) (.bool (decide (lo ≤ c))) _ y2 (by omega)
    have x3 := get_set_same T2 (s + 3) (.bool (decide (lo ≤ c))) (by omega)
    generalize T2.setIfInBounds (s + 3) (.bool (decide (lo ≤ c))) = T3 at hN3 z3 y3 x3
    refine step_val (.bool (decide (lo ≤ c))) d4 (run_move p4 x3) (by rw [want_some g4 (yield_of hj y3)]; rfl) ?_
    have hN4 : (T3.setIfInBounds (s + 4) (.bool (decide (lo ≤ c)))).size = 85 := by simpa using hN3
    have z4 := get_set_other T3 (s + 4) 0 (.bool (decide (lo ≤ c))) _ z3 (by omega)
    have y4 := get_set_other T3 (s + 4) (s + 1) (.bool (decide (lo ≤ c))) _ y3 (by omega)
    have x4 := get_set_same T3 (s + 4) (.bool (decide (lo ≤ c))) (by omega)
    generalize T3.setIfInBounds (s + 4) (.bool (decide (lo ≤ c))) = T4 at hN4 z4 y4 x4
    cases hb : decide (lo ≤ c) with
    | false =>
      rw [hb] at x4
      refine step_skip d5 (by rw [want_some g5 (yield_of hj2 x4)]; rfl) ?_
      have hN5 : (T4.setIfInBounds (s + 5) undef).size = 85 := by simpa using hN4
      have z5 := get_set_other T4 (s + 5) 0 undef _ z4 (by omega)
      have y5 := get_set_other T4 (s + 5) (s + 1) undef _ y4 (by omega)
      have x5 := get_set_other T4 (s + 5) (s + 4) undef _ x4 (by omega)
      generalize T4.setIfInBounds (s + 5) undef = T5 at hN5 z5 y5 x5
      refine step_skip d6 (by rw [want_some g6 (yield_of hj2 x5)]; rfl) ?_
      have hN6 : (T5.setIfInBounds (s + 6) undef).size = 85 := by simpa using hN5
      have z6 := get_set_other T5 (s + 6) 0 undef _ z5 (by omega)
      have y6 := get_set_other T5 (s + 6) (s + 1) undef _ y5 (by omega)
      have x6 := get_set_other T5 (s + 6) (s + 4) undef _ x5 (by omega)
      generalize T5.setIfInBounds (s + 6) undef = T6 at hN6 z6 y6 x6
      refine step_val (.bool false) d7 (run_pick p7 (eval_tmp x6)) (by rw [want_some g7 (yield_of hj y6)]; rfl) ?_
      have hN7 : (T6.setIfInBounds (s + 7) (.bool false)).size = 85 := by simpa using hN6
      have z7 := get_set_other T6 (s + 7) 0 (.bool false) _ z6 (by omega)
      have y7 := get_set_other T6 (s + 7) (s + 1) (.bool false) _ y6 (by omega)
      have x7 := get_set_same T6 (s + 7) (.bool false) (by omega)
      generalize T6.setIfInBounds (s + 7) (.bool false) = T7 at hN7 z7 y7 x7
      have hp := run_pick (P := Tryz.prog) (D := D) (w := w) p8 (eval_tmp y7)
      rw [if_neg (by decide), eval_tmp x7] at hp
      refine step_val (.bool false) d8 hp (want_none g8) ?_
      exact k _ (by simpa using hN7) (get_set_other _ _ _ _ _ z7 (by omega)) ((get_set_same T7 _ _ (by omega)).trans (by rw [hb]; rfl))
    | true =>
      rw [hb] at x4
      refine step_val (.int .u8 c) d5 (run_move p5 z4) (by rw [want_some g5 (yield_of hj2 x4)]; rfl) ?_
      have hN5 : (T4.setIfInBounds (s + 5) (.int .u8 c)).size = 85 := by simpa using hN4
      have z5 := get_set_other T4 (s + 5) 0 (.int .u8 c) _ z4 (by omega)
      have y5 := get_set_other T4 (s + 5) (s + 1) (.int .u8 c) _ y4 (by omega)
      have x5 := get_set_other T4 (s + 5) (s + 4) (.int .u8 c) _ x4 (by omega)
      have v5 := get_set_same T4 (s + 5) (.int .u8 c) (by omega)
      generalize T4.setIfInBounds (s + 5) (.int .u8 c) = T5 at hN5 z5 y5 x5 v5
      refine step_val (.bool (decide (c ≤ hi))) d6 (run_leq p6 v5) (by rw [want_some g6 (yield_of hj2 x5)]; rfl) ?_
      have hN6 : (T5.setIfInBounds (s + 6) (.bool (decide (c ≤ hi)))).size = 85 := by simpa using hN5
      have z6 := get_set_other T5 (s + 6) 0 (.bool (decide (c ≤ hi))) _ z5 (by omega)
      have y6 := get_set_other T5 (s + 6) (s + 1) (.bool (decide (c ≤ hi))) _ y5 (by omega)
      have x6 := get_set_other T5 (s + 6) (s + 4) (.bool (decide (c ≤ hi))) _ x5 (by omega)
      have v6 := get_set_same T5 (s + 6) (.bool (decide (c ≤ hi))) (by omega)
      generalize T5.setIfInBounds (s + 6) (.bool (decide (c ≤ hi))) = T6 at hN6 z6 y6 x6 v6
      have hq := run_pick (P := Tryz.prog) (D := D) (w := w) p7 (eval_tmp x6)
      rw [if_pos rfl, eval_tmp v6] at hq
      refine step_val (.bool (decide (c ≤ hi))) d7 hq (by rw [want_some g7 (yield_of hj y6)]; rfl) ?_
      have hN7 : (T6.setIfInBounds (s + 7) (.bool (decide (c ≤ hi)))).size = 85 := by simpa using hN6
      have z7 := get_set_other T6 (s + 7) 0 (.bool (decide (c ≤ hi))) _ z6 (by omega)
      have y7 := get_set_other T6 (s + 7) (s + 1) (.bool (decide (c ≤ hi))) _ y6 (by omega)
      have x7 := get_set_same T6 (s + 7) (.bool (decide (c ≤ hi))) (by omega)
      generalize T6.setIfInBounds (s + 7) (.bool (decide (c ≤ hi))) = T7 at hN7 z7 y7 x7
      have hp := run_pick (P := Tryz.prog) (D := D) (w := w) p8 (eval_tmp y7)
      rw [if_neg (by decide), eval_tmp x7] at hp
      refine step_val (.bool (decide (c ≤ hi))) d8 hp (want_none g8) ?_
      exact k _ (by simpa using hN7) (get_set_other _ _ _ _ _ z7 (by omega)) ((get_set_same T7 _ _ (by omega)).trans (by rw [hb]; rfl))

theorem tok_all : ∀ n : Nat, n < 256 → (fun c : Int => (((((((((((((((((decide (97 ≤ c) && decide (c ≤ 122)) || (decide (65 ≤ c) && decide (c ≤ 90))) || (decide (48 ≤ c) && decide (c ≤ 57))) || c == 33) || c == 35) || c == 36) || c == 37) || c == 38) || c == 39) || c == 42) || c == 43) || c == 45) || c == 46) || c == 94) || c == 95) || c == 96) || c == 124) || c == 126) (n : Int) = tokC n := by decide +kernel
set_option maxRecDepth 100000 in
theorem spec_l2Token.calls (a0 : Int) (r : Bool) (w : World) (h : spec_l2Token.f a0 = some r) :
    Calls Tryz.prog 108 #[.int .u8 a0] w fun e w' => e = .returned (.bool r) ∧ Drawn0 w w' := by
  have hr : 0 ≤ a0 ∧ a0 < 256 := by
    unfold spec_l2Token.f at h
    split at h
    · assumption
    · cases h
  unfold spec_l2Token.f at h
  rw [if_pos hr] at h
  obtain rfl := Option.some.inj h
  clear h
  have ht : ((((((((((((((((((decide (97 ≤ a0) && decide (a0 ≤ 122)) || (decide (65 ≤ a0) && decide (a0 ≤ 90))) || (decide (48 ≤ a0) && decide (a0 ≤ 57))) || a0 == 33) || a0 == 35) || a0 == 36) || a0 == 37) || a0 == 38) || a0 == 39) || a0 == 42) || a0 == 43) || a0 == 45) || a0 == 46) || a0 == 94) || a0 == 95) || a0 == 96) || a0 == 124) || a0 == 126) = tokC a0 := byte_all (P := fun c => ((((((((((((((((((decide (97 ≤ c) && decide (c ≤ 122)) || (decide (65 ≤ c) && decide (c ≤ 90))) || (decide (48 ≤ c) && decide (c ≤ 57))) || c == 33) || c == 35) || c == 36) || c == 37) || c == 38) || c == 39) || c == 42) || c == 43) || c == 45) || c == 46) || c == 94) || c == 95) || c == 96) || c == 124) || c == 126) = tokC c) tok_all hr.1 hr.2
  rw [← ht]
  clear ht hr
  go_enter Tryz.func108, Tryz.ntmps108
  refine wp_seq (wp_region_list (step_val (.bool false) rfl rfl rfl ?_))
  refine wp_seq (wp_region_list ?_)
  refine andBlock 2 2 97 122 a0 rfl rfl rfl rfl rfl rfl rfl rfl rfl rfl rfl rfl rfl rfl rfl rfl rfl rfl rfl rfl (by decide) rfl ?_
  intro T1 n1 z1 b1
  refine orAndBlock 8 6 9 65 90 a0 _ rfl rfl rfl rfl rfl rfl rfl rfl rfl rfl rfl rfl rfl rfl rfl rfl rfl rfl rfl rfl rfl rfl rfl rfl rfl rfl n1 (by decide) z1 b1 (by decide) ?_
  intro T2 n2 z2 b2
  refine orAndBlock 16 14 17 48 57 a0 _ rfl rfl rfl rfl rfl rfl rfl rfl rfl rfl rfl rfl rfl rfl rfl rfl rfl rfl rfl rfl rfl rfl rfl rfl rfl rfl n2 (by decide) z2 b2 (by decide) ?_
  intro T3 n3 z3 b3
  refine orBlock 24 22 33 a0 _ rfl rfl rfl rfl rfl rfl rfl rfl rfl rfl rfl rfl rfl n3 (by decide) z3 b3 (by decide) ?_
  intro T4 n4 z4 b4
  refine orBlock 28 26 35 a0 _ rfl rfl rfl rfl rfl rfl rfl rfl rfl rfl rfl rfl rfl n4 (by decide) z4 b4 (by decide) ?_
  intro T5 n5 z5 b5
  refine orBlock 32 30 36 a0 _ rfl rfl rfl rfl rfl rfl rfl rfl rfl rfl rfl rfl rfl n5 (by decide) z5 b5 (by decide) ?_
  intro T6 n6 z6 b6
  refine orBlock 36 34 37 a0 _ rfl rfl rfl rfl rfl rfl rfl rfl rfl rfl rfl rfl rfl n6 (by decide) z6 b6 (by decide) ?_
  intro T7 n7 z7 b7
  refine orBlock 40 38 38 a0 _ rfl rfl rfl rfl rfl rfl rfl rfl rfl rfl rfl rfl rfl n7 (by decide) z7 b7 (by decide) ?_
  intro T8 n8 z8 b8
  refine orBlock 44 42 39 a0 _ rfl rfl rfl rfl rfl rfl rfl rfl rfl rfl rfl rfl rfl n8 (by decide) z8 b8 (by decide) ?_
  intro T9 n9 z9 b9
  refine orBlock 48 46 42 a0 _ rfl rfl rfl rfl rfl rfl rfl rfl rfl rfl rfl rfl rfl n9 (by decide) z9 b9 (by decide) ?_
  intro T10 n10 z10 b10
  refine orBlock 52 50 43 a0 _ rfl rfl rfl rfl rfl rfl rfl rfl rfl rfl rfl rfl rfl n10 (by decide) z10 b10 (by decide) ?_
  intro T11 n11 z11 b11
  refine orBlock 56 54 45 a0 _ rfl rfl rfl rfl rfl rfl rfl rfl rfl rfl rfl rfl rfl n11 (by decide) z11 b11 (by decide) ?_
  intro T12 n12 z12 b12
  refine orBlock 60 58 46 a0 _ rfl rfl rfl rfl rfl rfl rfl rfl rfl rfl rfl rfl rfl n12 (by decide) z12 b12 (by decide) ?_
  intro T13 n13 z13 b13
  refine orBlock 64 62 94 a0 _ rfl rfl rfl rfl rfl rfl rfl rfl rfl rfl rfl rfl rfl n13 (by decide) z13 b13 (by decide) ?_
  intro T14 n14 z14 b14
  refine orBlock 68 66 95 a0 _ rfl rfl rfl rfl rfl rfl rfl rfl rfl rfl rfl rfl rfl n14 (by decide) z14 b14 (by decide) ?_
  intro T15 n15 z15 b15
  refine orBlock 72 70 96 a0 _ rfl rfl rfl rfl rfl rfl rfl rfl rfl rfl rfl rfl rfl n15 (by decide) z15 b15 (by decide) ?_
  intro T16 n16 z16 b16
  refine orBlock 76 74 124 a0 _ rfl rfl rfl rfl rfl rfl rfl rfl rfl rfl rfl rfl rfl n16 (by decide) z16 b16 (by decide) ?_
  intro T17 n17 z17 b17
  refine orBlock 80 78 126 a0 _ rfl rfl rfl rfl rfl rfl rfl rfl rfl rfl rfl rfl rfl n17 (by decide) z17 b17 (by decide) ?_
  intro T18 n18 z18 b18
  generalize hE : ((((((((((((((((((decide (97 ≤ a0) && decide (a0 ≤ 122)) || (decide (65 ≤ a0) && decide (a0 ≤ 90))) || (decide (48 ≤ a0) && decide (a0 ≤ 57))) || a0 == 33) || a0 == 35) || a0 == 36) || a0 == 37) || a0 == 38) || a0 == 39) || a0 == 42) || a0 == 43) || a0 == 45) || a0 == 46) || a0 == 94) || a0 == 95) || a0 == 96) || a0 == 124) || a0 == 126) = BB at b18 ⊢
  refine step_val (.bool BB) rfl (run_assign rfl b18) rfl ?_
  refine wp_ret (bodyPost_ret (v := .bool BB) ((results_tmp rfl _ _ _).trans ?_) rfl ⟨rfl, Drawn0.refl _⟩)
  exact congrArg (fun v => Result.ok v w) (eval_tmp (D := []) (get_set_same T18 2 (.bool BB) (by omega)))

end Go.Proofs.YtjldfmkpdkhnnaaGreatDoor.Ext

namespace Go.Proofs.YtjldfmkpdkhnnaaGreatDoor.QL
open Go.RowKit Go.Proofs.YtjldfmkpdkhnnaaGreatDoorW.PrintWords Go.Proofs.YtjldfmkpdkhnnaaGreatDoorW.PrintLast Go.Proofs.YtjldfmkpdkhnnaaGreatDoorW.PrintMore Go.Proofs.YtjldfmkpdkhnnaaGreatDoor.Aux Go.Proofs.YtjldfmkpdkhnnaaGreatDoor.Dom Go.Proofs.YtjldfmkpdkhnnaaGreatDoor.Ext Go.Proofs.YtjldfmkpdkhnnaaGreatDoor.Glob
attribute [local go_sem] max2_int min2_int max_two min_two max_three min_three max_four min_four   -- for this text's walks alone

def spec_IsTokenText.l0 : Nat → ByteArray → Int → Option (Bool)
 | 0, _, _ => none
 | k + 1, x0, x3 => if x3 < (x0.size : Int) then (if 0 ≤ x3 then ((spec_l2Token.f (bt x0 x3)).bind fun t101 => (if t101 = true then (spec_IsTokenText.l0 k x0 (wrap64 (x3 + 1))) else (some false))) else (none)) else (some (decide ((x0.size : Int) > 0)))
def spec_IsTokenText.f (k : Nat) (a0 : ByteArray) : Option (Bool) := spec_IsTokenText.l0 k a0 0
theorem spec_IsTokenText.mono_l : ∀ k, (∀ y0 y1, LeO (spec_IsTokenText.l0 k y0 y1) (spec_IsTokenText.l0 (k + 1) y0 y1))
 | 0 => fun _ _ r h => by simp [spec_IsTokenText.l0] at h
 | k + 1 => by
  have ih0 := spec_IsTokenText.mono_l k
  ·intro y0 y1
   unfold spec_IsTokenText.l0
   repeat' first
   | (with_reducible exact ih0 _ _)
   | (with_reducible exact LeO.refl _)
   | (with_reducible exact LeO.none _)
   | (with_reducible refine LeO.ite ?_ ?_)
   | (with_reducible refine LeO.bind ?_ (fun _ => ?_))
   | exact ih0 _ _
   | exact LeO.none _
   | refine LeO.ite ?_ ?_
   | refine LeO.bind ?_ (fun _ => ?_)
theorem spec_IsTokenText.mono : ∀ a0 k, LeO (spec_IsTokenText.f k a0) (spec_IsTokenText.f (k + 1) a0) := by
 intro a0 k
 have ih0 := spec_IsTokenText.mono_l k
 unfold spec_IsTokenText.f
 repeat' first
   | (with_reducible exact ih0 _ _)
   | (with_reducible exact LeO.refl _)
   | (with_reducible exact LeO.none _)
   | (with_reducible refine LeO.ite ?_ ?_)
   | (with_reducible refine LeO.bind ?_ (fun _ => ?_))
   | exact ih0 _ _
   | exact LeO.none _
   | refine LeO.ite ?_ ?_
   | refine LeO.bind ?_ (fun _ => ?_)
set_option maxHeartbeats 8000000 in
set_option maxRecDepth 100000 in
theorem spec_IsTokenText.calls (k : Nat) (a0 : ByteArray) (r : Bool) (w : World) (h : spec_IsTokenText.f k a0 = some r) :
  Calls Tryz.prog 64 #[.string a0] w fun e w' => e = .returned (.bool r) ∧ Drawn0 w w' := by
 have H : (spec_IsTokenText.l0 k a0 0) = some r := h
 clear h
 have H' := Aside0.mk H
 clear H
 go_enter Tryz.func64, Tryz.ntmps64
 go_wp2
 go_loopg [3] k (fun kq v3 w' => ∃ (x3_1 : Int), v3 = .int .i64 x3_1 ∧ Aside0 (spec_IsTokenText.l0 kq a0 x3_1 = some r) ∧ Aside0 (kq ≤ k) ∧ Drawn0 w w')
 case atStart => exact ⟨(0), (by first | rfl | (simp; done) | (simp [*]; done)), H', ⟨Nat.le_refl _⟩, by repeat (first | exact Drawn0.refl _ | apply Drawn0.step)⟩
 case round =>
  clear H'
  obtain ⟨x3_1, rfl, HA, HK1, ⟨m1, rfl⟩⟩ := hrel
  cases gk with
  | zero => exact absurd HA.out (by simp [spec_IsTokenText.l0])
  | succ k1 =>
   have H := HA.out
   clear HA
   simp only [spec_IsTokenText.l0] at H
   by_cases c2 : x3_1 < (a0.size : Int)
   ·rw [if_pos c2] at H
    have c2b0 : decide (x3_1 < (a0.size : Int)) = true := decide_eq_true c2
    clear c2
    by_cases c3 : 0 ≤ x3_1
    ·rw [if_pos c3] at H
     have c3b0 : decide (0 ≤ x3_1) = true := decide_eq_true c3
     clear c3
     replace H := Option.bind_eq_some_iff.mp H
     obtain ⟨t101, A50, H⟩ := H
     try dsimp only at H
     have A5 := Aside0.mk A50
     clear A50
     by_cases c6 : t101 = true
     ·subst c6
      rw [if_pos rfl] at H
      have H' := Aside0.mk H
      clear H
      have p4 : 0 ≤ (x3_1 : Int) := of_decide_eq_true asm
      have q4 : x3_1 < (a0.size : Int) := of_decide_eq_true asm
      have hx4 := bt_at a0 x3_1
      replace p4 := eq_true p4
      replace q4 := eq_true q4
      go_wp2_with (first | ((with_reducible refine gate_callee (f := 108) rfl ?_); refine goesL_ (some 13) rfl rfl Tryz.func108 (by kernel_rfl) rfl #[.int .u8 (bt a0 x3_1)] rfl am ?_; (with_reducible refine (spec_l2Token.calls (bt a0 x3_1) true _ A5.out).mono ?_); rintro e w' ⟨rfl, ⟨nd, rfl⟩⟩; refine ⟨_, rfl, ?_⟩))
      go_roundg k1
      case measure => have := HK1.out; omega
      case rel => exact ⟨(wrap64 (x3_1 + 1)), (by first | rfl | (simp; done) | (simp [*]; done)), H', ⟨by have := HK1.out; omega⟩, by repeat (first | exact Drawn0.refl _ | apply Drawn0.step)⟩
     ·replace c6 := Bool.eq_false_iff.mpr c6
      subst c6
      rw [if_neg (show ¬ (false = true) by decide)] at H
      obtain rfl := Option.some.inj H
      have p4 : 0 ≤ (x3_1 : Int) := of_decide_eq_true asm
      have q4 : x3_1 < (a0.size : Int) := of_decide_eq_true asm
      have hx4 := bt_at a0 x3_1
      replace p4 := eq_true p4
      replace q4 := eq_true q4
      go_wp2_with (first | ((with_reducible refine gate_callee (f := 108) rfl ?_); refine goesL_ (some 13) rfl rfl Tryz.func108 (by kernel_rfl) rfl #[.int .u8 (bt a0 x3_1)] rfl am ?_; (with_reducible refine (spec_l2Token.calls (bt a0 x3_1) false _ A5.out).mono ?_); rintro e w' ⟨rfl, ⟨nd, rfl⟩⟩; refine ⟨_, rfl, ?_⟩))
      go_ret
      exact ⟨by first | rfl | (simp; done) | (simp [*]; done) | (simp; generalize ByteArray.toList _ = L_; cases L_ <;> rfl), by repeat (first | exact Drawn0.refl _ | apply Drawn0.step)⟩
    ·rw [if_neg c3] at H
     exact absurd H (by simp)
   ·rw [if_neg c2] at H
    have c2b0 : decide (x3_1 < (a0.size : Int)) = false := decide_eq_false c2
    clear c2
    obtain rfl := Option.some.inj H
    go_wp2
    go_ret
    exact ⟨by first | rfl | (simp; done) | (simp [*]; done) | (simp; generalize ByteArray.toList _ = L_; cases L_ <;> rfl), by repeat (first | exact Drawn0.refl _ | apply Drawn0.step)⟩

end Go.Proofs.YtjldfmkpdkhnnaaGreatDoor.QL

namespace Go.Proofs.YtjldfmkpdkhnnaaGreatDoor.QL
open Go.RowKit Go.Proofs.YtjldfmkpdkhnnaaGreatDoorW.PrintWords Go.Proofs.YtjldfmkpdkhnnaaGreatDoorW.PrintLast Go.Proofs.YtjldfmkpdkhnnaaGreatDoorW.PrintMore Go.Proofs.YtjldfmkpdkhnnaaGreatDoor.Aux Go.Proofs.YtjldfmkpdkhnnaaGreatDoor.Dom Go.Proofs.YtjldfmkpdkhnnaaGreatDoor.Ext Go.Proofs.YtjldfmkpdkhnnaaGreatDoor.Glob
attribute [local go_sem] max2_int min2_int max_two min_two max_three min_three max_four min_four   -- for this text's walks alone

def spec_l7Unquote.f (a0 : ByteArray) : Option (ByteArray) := if (a0.size : Int) ≥ 2 then (if 0 < (a0.size : Int) then (if (bt a0 0) = 34 then (if 0 ≤ (wrap64 ((a0.size : Int) - 1)) then (if (wrap64 ((a0.size : Int) - 1)) < (a0.size : Int) then (if (bt a0 (wrap64 ((a0.size : Int) - 1))) = 34 then (if 1 ≤ (wrap64 ((a0.size : Int) - 1)) then (if (wrap64 ((a0.size : Int) - 1)) ≤ (a0.size : Int) then (some (a0.extract 1 ((wrap64 ((a0.size : Int) - 1)) : Int).toNat)) else (none)) else (none)) else (some a0)) else (none)) else (none)) else (some a0)) else (none)) else (some a0)
set_option maxHeartbeats 8000000 in
set_option maxRecDepth 100000 in
theorem spec_l7Unquote.calls (a0 : ByteArray) (r : ByteArray) (w : World) (h : spec_l7Unquote.f a0 = some r) :
  Calls Tryz.prog 66 #[.string a0] w fun e w' => e = .returned (.string r) ∧ Drawn0 w w' := by
 have H : (if (a0.size : Int) ≥ 2 then (if 0 < (a0.size : Int) then (if (bt a0 0) = 34 then (if 0 ≤ (wrap64 ((a0.size : Int) - 1)) then (if (wrap64 ((a0.size : Int) - 1)) < (a0.size : Int) then (if (bt a0 (wrap64 ((a0.size : Int) - 1))) = 34 then (if 1 ≤ (wrap64 ((a0.size : Int) - 1)) then (if (wrap64 ((a0.size : Int) - 1)) ≤ (a0.size : Int) then (some (a0.extract 1 ((wrap64 ((a0.size : Int) - 1)) : Int).toNat)) else (none)) else (none)) else (some a0)) else (none)) else (none)) else (some a0)) else (none)) else (some a0)) = some r := h
 clear h
 by_cases c2 : (a0.size : Int) ≥ 2
 ·rw [if_pos c2] at H
  have c2b0 : decide (2 ≤ (a0.size : Int)) = true := decide_eq_true c2
  have c2b1 : decide (2 ≤ a0.size) = true := decide_eq_true (by omega)
  clear c2
  by_cases c3 : 0 < (a0.size : Int)
  ·rw [if_pos c3] at H
   have c3b0 : decide (0 < (a0.size : Int)) = true := decide_eq_true c3
   have c3b1 : decide (0 < a0.size) = true := decide_eq_true (by omega)
   clear c3
   by_cases c5 : (bt a0 0) = 34
   ·rw [if_pos c5] at H
    have c5b0 : ((bt a0 0) == 34) = true := beq_iff_eq.mpr c5
    have c5b1 : ((bt a0 0) != 34) = false := bne_eq_false_iff_eq.mpr c5
    clear c5
    obtain ⟨ji6, hji6⟩ : ∃ j_ : Int, (wrap64 ((a0.size : Int) - 1)) = j_ := ⟨_, rfl⟩
    replace H : (if 0 ≤ (ji6) then (if (ji6) < (a0.size : Int) then (if (bt a0 (ji6)) = 34 then (if 1 ≤ (ji6) then (if (ji6) ≤ (a0.size : Int) then (some (a0.extract 1 ((ji6) : Int).toNat)) else (none)) else (none)) else (some a0)) else (none)) else (none)) = some r := by first | (rw [hji6] at H; exact H) | (simp only [hji6] at H ⊢; exact H)
    have hji6w : (IntKind.i64.wrap ((a0.size : Int) - 1)) = ji6 := (i64_w _).trans hji6
    by_cases c7 : 0 ≤ (ji6)
    ·rw [if_pos c7] at H
     have c7b0 : decide (0 ≤ (ji6)) = true := decide_eq_true c7
     clear c7
     by_cases c8 : (ji6) < (a0.size : Int)
     ·rw [if_pos c8] at H
      have c8b0 : decide ((ji6) < (a0.size : Int)) = true := decide_eq_true c8
      clear c8
      by_cases c10 : (bt a0 (ji6)) = 34
      ·rw [if_pos c10] at H
       have c10b0 : ((bt a0 (ji6)) == 34) = true := beq_iff_eq.mpr c10
       have c10b1 : ((bt a0 (ji6)) != 34) = false := bne_eq_false_iff_eq.mpr c10
       clear c10
       by_cases c11 : 1 ≤ (ji6)
       ·rw [if_pos c11] at H
        have c11b0 := eq_true c11
        have c11b1 : decide (1 ≤ (ji6)) = true := decide_eq_true c11
        clear c11
        by_cases c12 : (ji6) ≤ (a0.size : Int)
        ·rw [if_pos c12] at H
         have c12b0 := eq_true c12
         have c12b1 : decide ((ji6) ≤ (a0.size : Int)) = true := decide_eq_true c12
         clear c12
         obtain rfl := Option.some.inj H
         have p4 : 0 ≤ (0 : Int) := (by omega)
         have q4 : 0 < a0.size := (by have : (0 : Int) < (a0.size : Int) := of_decide_eq_true asm; omega)
         have hx4 : ∀ h : 0 < a0.size, ((a0[0]'h).toNat : Int) = bt a0 0 := bt_at a0 0
         clear p4
         have qi4 : (0 < (a0.size : Int)) = True := eq_true (of_decide_eq_true asm)
         replace q4 := eq_true q4
         have p9 : 0 ≤ ((ji6) : Int) := of_decide_eq_true asm
         have q9 : (ji6) < (a0.size : Int) := of_decide_eq_true asm
         have hx9 := bt_at a0 (ji6)
         replace p9 := eq_true p9
         replace q9 := eq_true q9
         go_enter Tryz.func66, Tryz.ntmps66
         go_wp2
         go_ret
         exact ⟨by first | rfl | (simp; done) | (simp only [← hji6] <;> (first | rfl | simp)) | (simp [*]; done) | (simp; generalize ByteArray.toList _ = L_; cases L_ <;> rfl), by repeat (first | exact Drawn0.refl _ | apply Drawn0.step)⟩
        ·rw [if_neg c12] at H
         exact absurd H (by simp)
       ·rw [if_neg c11] at H
        exact absurd H (by simp)
      ·rw [if_neg c10] at H
       have c10b0 : ((bt a0 (ji6)) == 34) = false := beq_eq_false_iff_ne.mpr c10
       have c10b1 : ((bt a0 (ji6)) != 34) = true := bne_iff_ne.mpr c10
       obtain rfl := Option.some.inj H
       have p4 : 0 ≤ (0 : Int) := (by omega)
       have q4 : 0 < a0.size := (by have : (0 : Int) < (a0.size : Int) := of_decide_eq_true asm; omega)
       have hx4 : ∀ h : 0 < a0.size, ((a0[0]'h).toNat : Int) = bt a0 0 := bt_at a0 0
       clear p4
       have qi4 : (0 < (a0.size : Int)) = True := eq_true (of_decide_eq_true asm)
       replace q4 := eq_true q4
       have p9 : 0 ≤ ((ji6) : Int) := of_decide_eq_true asm
       have q9 : (ji6) < (a0.size : Int) := of_decide_eq_true asm
       have hx9 := bt_at a0 (ji6)
       replace p9 := eq_true p9
       replace q9 := eq_true q9
       go_enter Tryz.func66, Tryz.ntmps66
       go_wp2
       go_ret
       exact ⟨by first | rfl | (simp; done) | (simp only [← hji6] <;> (first | rfl | simp)) | (simp [*]; done) | (simp; generalize ByteArray.toList _ = L_; cases L_ <;> rfl), by repeat (first | exact Drawn0.refl _ | apply Drawn0.step)⟩
     ·rw [if_neg c8] at H
      exact absurd H (by simp)
    ·rw [if_neg c7] at H
     exact absurd H (by simp)
   ·rw [if_neg c5] at H
    have c5b0 : ((bt a0 0) == 34) = false := beq_eq_false_iff_ne.mpr c5
    have c5b1 : ((bt a0 0) != 34) = true := bne_iff_ne.mpr c5
    obtain rfl := Option.some.inj H
    have p4 : 0 ≤ (0 : Int) := (by omega)
    have q4 : 0 < a0.size := (by have : (0 : Int) < (a0.size : Int) := of_decide_eq_true asm; omega)
    have hx4 : ∀ h : 0 < a0.size, ((a0[0]'h).toNat : Int) = bt a0 0 := bt_at a0 0
    clear p4
    have qi4 : (0 < (a0.size : Int)) = True := eq_true (of_decide_eq_true asm)
    replace q4 := eq_true q4
    go_enter Tryz.func66, Tryz.ntmps66
    go_wp2
    go_ret
    exact ⟨by first | rfl | (simp; done) | (simp [*]; done) | (simp; generalize ByteArray.toList _ = L_; cases L_ <;> rfl), by repeat (first | exact Drawn0.refl _ | apply Drawn0.step)⟩
  ·rw [if_neg c3] at H
   exact absurd H (by simp)
 ·rw [if_neg c2] at H
  have c2b0 : decide (2 ≤ (a0.size : Int)) = false := decide_eq_false c2
  have c2b1 : decide (2 ≤ a0.size) = false := decide_eq_false (by omega)
  clear c2
  obtain rfl := Option.some.inj H
  go_enter Tryz.func66, Tryz.ntmps66
  go_wp2
  go_ret
  exact ⟨by first | rfl | (simp; done) | (simp [*]; done) | (simp; generalize ByteArray.toList _ = L_; cases L_ <;> rfl), by repeat (first | exact Drawn0.refl _ | apply Drawn0.step)⟩

end Go.Proofs.YtjldfmkpdkhnnaaGreatDoor.QL

namespace Go.Proofs.YtjldfmkpdkhnnaaGreatDoor.QL
open Go.RowKit Go.Proofs.YtjldfmkpdkhnnaaGreatDoorW.PrintWords Go.Proofs.YtjldfmkpdkhnnaaGreatDoorW.PrintLast Go.Proofs.YtjldfmkpdkhnnaaGreatDoorW.PrintMore Go.Proofs.YtjldfmkpdkhnnaaGreatDoor.Aux Go.Proofs.YtjldfmkpdkhnnaaGreatDoor.Dom Go.Proofs.YtjldfmkpdkhnnaaGreatDoor.Ext Go.Proofs.YtjldfmkpdkhnnaaGreatDoor.Glob
attribute [local go_sem] max2_int min2_int max_two min_two max_three min_three max_four min_four   -- for this text's walks alone

mutual
def spec_Directives.l0 : Nat → List (S46) → List ByteArray → Int → Option ((List (S46)))
 | 0, _, _, _ => none
 | k + 1, x3, x6, x7 => if x7 < (x6.length : Int) then (if 0 ≤ x7 then (spec_Directives.l1 k x3 x6 x7 (rdOf ByteArray.empty x6 x7) 0) else (none)) else (some x3)
def spec_Directives.j2 : Nat → List (S46) → List ByteArray → Int → ByteArray → Int → Option ((List (S46)))
 | 0, _, _, _, _, _ => none
 | k + 1, x3, x6, x7, x8, x9 => if 0 ≤ x9 then (if x9 ≤ (x8.size : Int) then ((spec_IsTokenText.f k (x8.extract 0 (x9 : Int).toNat)).bind fun t110 => (if t110 = true then ((spec_Lower.f (x8.extract 0 (x9 : Int).toNat)).bind fun t111 => (if x9 < (x8.size : Int) then (if 0 ≤ (wrap64 (x9 + 1)) then (if (wrap64 (x9 + 1)) ≤ (x8.size : Int) then ((spec_l7Unquote.f (x8.extract ((wrap64 (x9 + 1)) : Int).toNat x8.size)).bind fun t113 => (if x3.length < 4398046511104 then (spec_Directives.l0 k (x3 ++ [(⟨t111, t113⟩ : S46)]) x6 (wrap64 (x7 + 1))) else (none))) else (none)) else (none)) else (if x3.length < 4398046511104 then (spec_Directives.l0 k (x3 ++ [(⟨t111, (⟨#[]⟩ : ByteArray)⟩ : S46)]) x6 (wrap64 (x7 + 1))) else (none)))) else (spec_Directives.l0 k x3 x6 (wrap64 (x7 + 1))))) else (none)) else (none)
def spec_Directives.l1 : Nat → List (S46) → List ByteArray → Int → ByteArray → Int → Option ((List (S46)))
 | 0, _, _, _, _, _ => none
 | k + 1, x3, x6, x7, x8, x9 => if x9 < (x8.size : Int) then (if 0 ≤ x9 then (if (bt x8 x9) = 61 then (spec_Directives.j2 k x3 x6 x7 x8 x9) else (spec_Directives.l1 k x3 x6 x7 x8 (wrap64 (x9 + 1)))) else (none)) else (spec_Directives.j2 k x3 x6 x7 x8 x9)
end
def spec_Directives.f (k : Nat) (l0 : List (S99)) : Option ((List (S46))) := (spec_FieldGet.f k l0 (⟨#[99, 97, 99, 104, 101, 45, 99, 111, 110, 116, 114, 111, 108]⟩ : ByteArray)).bind fun bt104 => ((spec_SplitList.f k bt104.1).bind fun t106 => (spec_Directives.l0 k (([] : List (S46))) t106 0))
theorem spec_Directives.mono_l : ∀ k, (∀ y0 y1 y2, LeO (spec_Directives.l0 k y0 y1 y2) (spec_Directives.l0 (k + 1) y0 y1 y2)) ∧ (∀ y0 y1 y2 y3 y4, LeO (spec_Directives.j2 k y0 y1 y2 y3 y4) (spec_Directives.j2 (k + 1) y0 y1 y2 y3 y4)) ∧ (∀ y0 y1 y2 y3 y4, LeO (spec_Directives.l1 k y0 y1 y2 y3 y4) (spec_Directives.l1 (k + 1) y0 y1 y2 y3 y4))
 | 0 => ⟨fun _ _ _ r h => by simp [spec_Directives.l0] at h, fun _ _ _ _ _ r h => by simp [spec_Directives.j2] at h, fun _ _ _ _ _ r h => by simp [spec_Directives.l1] at h⟩
 | k + 1 => by
  obtain ⟨ih0, ih1, ih2⟩ := spec_Directives.mono_l k
  refine ⟨?_, ?_, ?_⟩
  ·intro y0 y1 y2
   unfold spec_Directives.l0
   repeat' first
   | (with_reducible exact ih0 _ _ _)
   | (with_reducible exact ih1 _ _ _ _ _)
   | (with_reducible exact ih2 _ _ _ _ _)
   | (with_reducible exact spec_FieldGet.mono _ _ _)
   | (with_reducible exact spec_IsTokenText.mono _ _)
   | (with_reducible exact spec_SplitList.mono _ _)
   | (with_reducible exact LeO.refl _)
   | (with_reducible exact LeO.none _)
   | (with_reducible refine LeO.ite ?_ ?_)
   | (with_reducible refine LeO.bind ?_ (fun _ => ?_))
   | exact ih0 _ _ _
   | exact ih1 _ _ _ _ _
   | exact ih2 _ _ _ _ _
   | exact spec_FieldGet.mono _ _ _
   | exact spec_IsTokenText.mono _ _
   | exact spec_SplitList.mono _ _
   | exact LeO.none _
   | refine LeO.ite ?_ ?_
   | refine LeO.bind ?_ (fun _ => ?_)
  ·intro y0 y1 y2 y3 y4
   unfold spec_Directives.j2
   repeat' first
   | (with_reducible exact ih0 _ _ _)
   | (with_reducible exact ih1 _ _ _ _ _)
   | (with_reducible exact ih2 _ _ _ _ _)
   | (with_reducible exact spec_FieldGet.mono _ _ _)
   | (with_reducible exact spec_IsTokenText.mono _ _)
   | (with_reducible exact spec_SplitList.mono _ _)
   | (with_reducible exact LeO.refl _)
   | (with_reducible exact LeO.none _)
   | (with_reducible refine LeO.ite ?_ ?_)
   | (with_reducible refine LeO.bind ?_ (fun _ => ?_))
   | exact ih0 _ _ _
   | exact ih1 _ _ _ _ _
   | exact ih2 _ _ _ _ _
   | exact spec_FieldGet.mono _ _ _
   | exact spec_IsTokenText.mono _ _
   | exact spec_SplitList.mono _ _
   | exact LeO.none _
   | refine LeO.ite ?_ ?_
   | refine LeO.bind ?_ (fun _ => ?_)
  ·intro y0 y1 y2 y3 y4
   unfold spec_Directives.l1
   repeat' first
   | (with_reducible exact ih0 _ _ _)
   | (with_reducible exact ih1 _ _ _ _ _)
   | (with_reducible exact ih2 _ _ _ _ _)
   | (with_reducible exact spec_FieldGet.mono _ _ _)
   | (with_reducible exact spec_IsTokenText.mono _ _)
   | (with_reducible exact spec_SplitList.mono _ _)
   | (with_reducible exact LeO.refl _)
   | (with_reducible exact LeO.none _)
   | (with_reducible refine LeO.ite ?_ ?_)
   | (with_reducible refine LeO.bind ?_ (fun _ => ?_))
   | exact ih0 _ _ _
   | exact ih1 _ _ _ _ _
   | exact ih2 _ _ _ _ _
   | exact spec_FieldGet.mono _ _ _
   | exact spec_IsTokenText.mono _ _
   | exact spec_SplitList.mono _ _
   | exact LeO.none _
   | refine LeO.ite ?_ ?_
   | refine LeO.bind ?_ (fun _ => ?_)
theorem spec_Directives.mono : ∀ a0 k, LeO (spec_Directives.f k a0) (spec_Directives.f (k + 1) a0) := by
 intro a0 k
 obtain ⟨ih0, ih1, ih2⟩ := spec_Directives.mono_l k
 unfold spec_Directives.f
 repeat' first
   | (with_reducible exact ih0 _ _ _)
   | (with_reducible exact ih1 _ _ _ _ _)
   | (with_reducible exact ih2 _ _ _ _ _)
   | (with_reducible exact spec_FieldGet.mono _ _ _)
   | (with_reducible exact spec_IsTokenText.mono _ _)
   | (with_reducible exact spec_SplitList.mono _ _)
   | (with_reducible exact LeO.refl _)
   | (with_reducible exact LeO.none _)
   | (with_reducible refine LeO.ite ?_ ?_)
   | (with_reducible refine LeO.bind ?_ (fun _ => ?_))
   | exact ih0 _ _ _
   | exact ih1 _ _ _ _ _
   | exact ih2 _ _ _ _ _
   | exact spec_FieldGet.mono _ _ _
   | exact spec_IsTokenText.mono _ _
   | exact spec_SplitList.mono _ _
   | exact LeO.none _
   | refine LeO.ite ?_ ?_
   | refine LeO.bind ?_ (fun _ => ?_)
set_option maxHeartbeats 8000000 in
set_option maxRecDepth 100000 in
theorem spec_Directives.calls (k : Nat) (A0 : Option Addr) (c0 : Nat) (l0 : List (S99)) (r : List (S46)) (w : World) (hr0 : Kd.C k99 w A0 l0.length l0) (hc0 : l0.length ≤ c0) (h : spec_Directives.f k l0 = some r) :
  Calls Tryz.prog 26 #[.slice A0 l0.length c0] w fun e w' => ∃ v0_ : Value, e = .returned (v0_) ∧ Kd.R k46 46 w' w.heap.size (fun _ => True) v0_ r ∧ Below w.heap.size w w' := by
 have hu46 := Tryz.underlying46
 have HR0 := Aside0.mk hr0
 have HC0 := Aside0.mk hc0
 clear hr0 hc0
 have HB := Aside0.mk (Below.refl w.heap.size w)
 have H : ((spec_FieldGet.f k l0 (⟨#[99, 97, 99, 104, 101, 45, 99, 111, 110, 116, 114, 111, 108]⟩ : ByteArray)).bind fun bt104 => ((spec_SplitList.f k bt104.1).bind fun t106 => (spec_Directives.l0 k (([] : List (S46))) t106 0))) = some r := h
 clear h
 obtain ⟨y101, hy101⟩ : ∃ y_ : List (S46), y_ = (([] : List (S46))) := ⟨_, rfl⟩
 replace H : ((spec_FieldGet.f k l0 (⟨#[99, 97, 99, 104, 101, 45, 99, 111, 110, 116, 114, 111, 108]⟩ : ByteArray)).bind fun bt104 => ((spec_SplitList.f k bt104.1).bind fun t106 => (spec_Directives.l0 k y101 t106 0))) = some r := by first | (rw [hy101]; with_reducible exact H) | (have H2_ := (Option.bind_some _ _).symm.trans H; rw [hy101]; with_reducible exact H2_) | (have H2_ := (Option.bind_some _ _).symm.trans H; with_reducible exact H2_) | with_reducible exact H | (rw [hy101]; exact H) | exact H
 have Ny101 := Aside0.mk hy101
 clear hy101
 replace H := Option.bind_eq_some_iff.mp H
 obtain ⟨⟨t104, t105⟩, A20, H⟩ := H
 try dsimp only at H
 have A2 := Aside0.mk A20
 clear A20
 replace H := Option.bind_eq_some_iff.mp H
 obtain ⟨t106, A30, H⟩ := H
 try dsimp only at H
 have A3 := Aside0.mk A30
 clear A30
 have H' := Aside0.mk H
 clear H
 go_enter Tryz.func26, Tryz.ntmps26
 go_wp2_with (first | ((with_reducible refine gate_dst (N := 11) rfl ?_); refine Kd.R_lit k46 _ 46 ?hg (N := 11) ?hd (xs := ([] : List (S46))) (inner := []) (ok := fun _ => True) (okp := fun _ => True) ?hr ?hp (fun _ hk => hk) trivial (Below.refl _ _) (Nat.le_refl _) (by simp) ?_; (case hd => rfl); (case hg => rfl); (case hr => first | (go_simp; done) | (go_simp; rfl)); (case hp => exact (Reps.none _ _)); intro v102 w4 ho5 hb hg_ hnew_; clear hg_ hnew_; (first | rw [← Ny101.out] at ho5 | (simp only [Int.reduceToNat] at ho5; rw [← Ny101.out] at ho5)); have n0_ := Aside0.mk (Kd.R_lower ho5 (below_size bq)); have n1_ := Aside0.mk (below_step bq hb); clear HB; have HO103 := n0_; have HB := n1_; clear n0_ n1_; clear hb ho5) | ((with_reducible refine gate_callee (f := 44) rfl ?_); refine goesL_ (some 14) rfl rfl Tryz.func44 (by kernel_rfl) rfl #[.slice A0 l0.length c0, .string (⟨#[99, 97, 99, 104, 101, 45, 99, 111, 110, 116, 114, 111, 108]⟩ : ByteArray)] rfl am ?_; (with_reducible refine (spec_FieldGet.calls k _ _ l0 (⟨#[99, 97, 99, 104, 101, 45, 99, 111, 110, 116, 114, 111, 108]⟩ : ByteArray) t104 t105 _ ?side1 ?side2 A2.out).mono ?_); (case side1 => repeat (first | exact (Kd.C_below HR0.out HB.out) | (with_reducible refine Kd.C_alloc ?_ _) | (with_reducible refine Kd.C_drewN ?_ _) | (with_reducible refine Kd.C_drew ?_))); (case side2 => exact HC0.out); rintro e w' ⟨rfl, ⟨nd, rfl⟩⟩; refine ⟨_, rfl, ?_⟩) | ((with_reducible refine gate_callee (f := 63) rfl ?_); refine goesL_ (some 18) rfl rfl Tryz.func63 (by kernel_rfl) rfl #[.string t104] rfl am ?_; (with_reducible refine (spec_SplitList.calls k t104 t106 _ A3.out).mono ?_); rintro e w6 ⟨v107, rfl, ho0, hb⟩; refine ⟨_, rfl, ?_⟩; have n0_ := Aside0.mk (Kd.R_below (by (with_reducible repeat (first | apply Kd.R_alloc | apply Kd.R_drewN | apply Kd.R_drew)); exact HO103.out) hb); have n1_ := Aside0.mk (Kd.R_lower ho0 (below_size bq)); have n2_ := Aside0.mk (below_step bq hb); clear HO103; clear HB; have HO103 := n0_; have HO108 := n1_; have HB := n2_; clear n0_ n1_ n2_; (try clear hb); (try clear hb2); (try clear hk); (try clear hi); (try clear ho0)))
 go_loopg [3, 7] k (fun kq v3 v7 w' => ∃ (x3_1 : List (S46)) (x7_1 : Int), v7 = .int .i64 x7_1 ∧ Aside0 (spec_Directives.l0 kq x3_1 t106 x7_1 = some r) ∧ Aside0 (kq ≤ k) ∧ Aside0 (Kd.R k46 46 w' w.heap.size (fun _ => True) v3 x3_1) ∧ Aside0 (Kd.R Kd.string 9 w' w.heap.size (fun _ => True) v107 t106) ∧ Aside0 (Below w.heap.size w w'))
 case atStart => exact ⟨(y101), (0), (by first | rfl | (simp; done) | (simp [*]; done)), H', ⟨Nat.le_refl _⟩, ⟨by (with_reducible repeat (first | apply Kd.R_alloc | apply Kd.R_drewN | apply Kd.R_drew)); exact HO103.out⟩, ⟨by (with_reducible repeat (first | apply Kd.R_alloc | apply Kd.R_drewN | apply Kd.R_drew)); exact HO108.out⟩, ⟨by repeat (first | (with_reducible first | exact HB.out | apply below_alloc | apply pw_below_drewN | apply below_drew1) | exact HB.out)⟩⟩
 case round =>
  clear H'
  try clear c2
  try clear p2
  try clear c4
  try clear c6
  obtain ⟨x3_1, x7_1, rfl, HA, HK1, HO_3, HO_6, HB⟩ := hrel
  cases gk with
  | zero => exact absurd HA.out (by simp [spec_Directives.l0])
  | succ k1 =>
   have H := HA.out
   clear HA
   simp only [spec_Directives.l0] at H
   by_cases c7 : x7_1 < (t106.length : Int)
   ·rw [if_pos c7] at H
    have c7b0 : decide (x7_1 < (t106.length : Int)) = true := decide_eq_true c7
    clear c7
    by_cases c8 : 0 ≤ x7_1
    ·rw [if_pos c8] at H
     have c8b0 : decide (0 ≤ x7_1) = true := decide_eq_true c8
     clear c8
     have HC9 := Aside0.mk H
     clear H
     obtain ⟨Ao10, co10, eo10⟩ := Kd.R_slice HO_6.out
     subst eo10
     have p109 : 0 ≤ (x7_1 : Int) := of_decide_eq_true asm
     have q109 : x7_1 < (t106.length : Int) := of_decide_eq_true asm
     obtain ⟨ad109, e109, hx109_0⟩ := Kd.at_string (Kd.R_reads' HO_6.out).2.2 x7_1 p109 q109
     cases e109
     replace p109 := eq_true p109
     replace q109 := eq_true q109
     go_upto_block 2 with (fail)
     go_cut [9] (fun v9 wc => ∃ (kq : Nat) (x9_8 : Int), v9 = .int .i64 x9_8 ∧ Aside0 (spec_Directives.j2 kq x3_1 t106 x7_1 (rdOf ByteArray.empty t106 x7_1) x9_8 = some r) ∧ Aside0 (kq ≤ k1) ∧ Aside0 (Kd.R k46 46 wc w.heap.size (fun _ => True) u3 x3_1) ∧ Aside0 (Kd.R Kd.string 9 wc w.heap.size (fun _ => True) (.slice (some ad109) t106.length co10) t106) ∧ Aside0 (Below w.heap.size w wc))
     case first =>
      have H := HC9.out
      clear HC9
      have H' := Aside0.mk H
      clear H
      go_wp2
      go_loopg [9] k1 (fun kq v9 w' => ∃ (x9_2 : Int), v9 = .int .i64 x9_2 ∧ Aside0 (spec_Directives.l1 kq x3_1 t106 x7_1 (rdOf ByteArray.empty t106 x7_1) x9_2 = some r) ∧ Aside0 (kq ≤ k1) ∧ Aside0 (Kd.R k46 46 w' w.heap.size (fun _ => True) u3 x3_1) ∧ Aside0 (Kd.R Kd.string 9 w' w.heap.size (fun _ => True) (.slice (some ad109) t106.length co10) t106) ∧ Aside0 (Below w.heap.size w w'))
      case atStart => exact ⟨(0), (by first | rfl | (simp; done) | (simp [*]; done)), H', ⟨Nat.le_refl _⟩, ⟨by (with_reducible repeat (first | apply Kd.R_alloc | apply Kd.R_drewN | apply Kd.R_drew)); exact HO_3.out⟩, ⟨by (with_reducible repeat (first | apply Kd.R_alloc | apply Kd.R_drewN | apply Kd.R_drew)); exact HO_6.out⟩, ⟨by repeat (first | (with_reducible first | exact HB.out | apply below_alloc | apply pw_below_drewN | apply below_drew1) | exact HB.out)⟩⟩
      case round =>
       clear H'
       try clear p1
       try clear q1
       try clear hx1
       try clear c2
       try clear p2
       try clear c4
       try clear c6
       try clear c7
       try clear c7b0
       try clear c8
       try clear c8b0
       try clear p10
       try clear q10
       try clear hx10
       try clear hx109_0
       try clear p109
       try clear p2
       try clear q109
       obtain ⟨x9_2, rfl, HA, HK2, HO_3, HO_6, HB⟩ := hrel
       cases gk with
       | zero => exact absurd HA.out (by simp [spec_Directives.l1])
       | succ k2 =>
        have H := HA.out
        clear HA
        simp only [spec_Directives.l1] at H
        by_cases c11 : x9_2 < ((rdOf ByteArray.empty t106 x7_1).size : Int)
        ·rw [if_pos c11] at H
         have c11b0 : decide (x9_2 < ((rdOf ByteArray.empty t106 x7_1).size : Int)) = true := decide_eq_true c11
         clear c11
         (first | rw [c11b0] | (simp only [i64_w, i32_w]; rw [c11b0]) | skip)
         by_cases c12 : 0 ≤ x9_2
         ·rw [if_pos c12] at H
          have c12b0 : decide (0 ≤ x9_2) = true := decide_eq_true c12
          clear c12
          by_cases c14 : (bt (rdOf ByteArray.empty t106 x7_1) x9_2) = 61
          ·rw [if_pos c14] at H
           have c14b0 : ((bt (rdOf ByteArray.empty t106 x7_1) x9_2) == 61) = true := beq_iff_eq.mpr c14
           have c14b1 : ((bt (rdOf ByteArray.empty t106 x7_1) x9_2) != 61) = false := bne_eq_false_iff_eq.mpr c14
           clear c14
           have H' := Aside0.mk H
           clear H
           have p13 : 0 ≤ (x9_2 : Int) := of_decide_eq_true asm
           have q13 : x9_2 < ((rdOf ByteArray.empty t106 x7_1).size : Int) := of_decide_eq_true asm
           have hx13 := bt_at (rdOf ByteArray.empty t106 x7_1) x9_2
           replace p13 := eq_true p13
           replace q13 := eq_true q13
           go_wp2
           go_meet
           case rel => exact ⟨_, (x9_2), (by first | rfl | (simp; done) | (simp [*]; done)), H', ⟨by have := HK1.out; have := HK2.out; first | omega | exact Nat.le_refl _⟩, ⟨by (with_reducible repeat (first | apply Kd.R_alloc | apply Kd.R_drewN | apply Kd.R_drew)); exact HO_3.out⟩, ⟨by (with_reducible repeat (first | apply Kd.R_alloc | apply Kd.R_drewN | apply Kd.R_drew)); exact HO_6.out⟩, ⟨by repeat (first | (with_reducible first | exact HB.out | apply below_alloc | apply pw_below_drewN | apply below_drew1) | exact HB.out)⟩⟩
          ·rw [if_neg c14] at H
           have c14b0 : ((bt (rdOf ByteArray.empty t106 x7_1) x9_2) == 61) = false := beq_eq_false_iff_ne.mpr c14
           have c14b1 : ((bt (rdOf ByteArray.empty t106 x7_1) x9_2) != 61) = true := bne_iff_ne.mpr c14
           have H' := Aside0.mk H
           clear H
           have p13 : 0 ≤ (x9_2 : Int) := of_decide_eq_true asm
           have q13 : x9_2 < ((rdOf ByteArray.empty t106 x7_1).size : Int) := of_decide_eq_true asm
           have hx13 := bt_at (rdOf ByteArray.empty t106 x7_1) x9_2
           replace p13 := eq_true p13
           replace q13 := eq_true q13
           go_wp2
           go_roundg k2
           case measure => have := HK1.out; have := HK2.out; omega
           case rel => exact ⟨(wrap64 (x9_2 + 1)), (by first | rfl | (simp; done) | (simp [*]; done)), H', ⟨by have := HK1.out; have := HK2.out; omega⟩, ⟨by (with_reducible repeat (first | apply Kd.R_alloc | apply Kd.R_drewN | apply Kd.R_drew)); exact HO_3.out⟩, ⟨by (with_reducible repeat (first | apply Kd.R_alloc | apply Kd.R_drewN | apply Kd.R_drew)); exact HO_6.out⟩, ⟨by repeat (first | (with_reducible first | exact HB.out | apply below_alloc | apply pw_below_drewN | apply below_drew1) | exact HB.out)⟩⟩
         ·rw [if_neg c12] at H
          exact absurd H (by simp)
        ·rw [if_neg c11] at H
         have c11b0 : decide (x9_2 < ((rdOf ByteArray.empty t106 x7_1).size : Int)) = false := decide_eq_false c11
         clear c11
         (first | rw [c11b0] | (simp only [i64_w, i32_w]; rw [c11b0]) | skip)
         have H' := Aside0.mk H
         clear H
         go_wp2
         go_meet
         case rel => exact ⟨_, (x9_2), (by first | rfl | (simp; done) | (simp [*]; done)), H', ⟨by have := HK1.out; have := HK2.out; first | omega | exact Nat.le_refl _⟩, ⟨by (with_reducible repeat (first | apply Kd.R_alloc | apply Kd.R_drewN | apply Kd.R_drew)); exact HO_3.out⟩, ⟨by (with_reducible repeat (first | apply Kd.R_alloc | apply Kd.R_drewN | apply Kd.R_drew)); exact HO_6.out⟩, ⟨by repeat (first | (with_reducible first | exact HB.out | apply below_alloc | apply pw_below_drewN | apply below_drew1) | exact HB.out)⟩⟩
     case rest =>
      clear HC9
      try clear c1
      try clear p1
      try clear q1
      try clear hx1
      try clear c2
      try clear p2
      try clear c4
      try clear c6
      try clear p6
      try clear c7
      try clear c7b0
      try clear c8
      try clear c8b0
      try clear p10
      try clear q10
      try clear hx10
      try clear c11
      try clear c11b0
      try clear c12
      try clear c12b0
      try clear p13
      try clear q13
      try clear hx13
      try clear c14
      try clear c14b0
      try clear c14b1
      try clear hx109_0
      try clear p1
      try clear p10
      try clear p109
      try clear p13
      try clear p2
      try clear q1
      try clear q10
      try clear q109
      try clear q13
      obtain ⟨kq, x9_8, rfl, HA, HJ8, HO_3, HO_6, HB⟩ := hcut
      cases kq with
      | zero => exact absurd HA.out (by simp [spec_Directives.j2])
      | succ kj8 =>
       have H := HA.out
       clear HA
       simp only [spec_Directives.j2] at H
       by_cases c15 : 0 ≤ x9_8
       ·rw [if_pos c15] at H
        have c15b0 := eq_true c15
        have c15b1 : decide (0 ≤ x9_8) = true := decide_eq_true c15
        clear c15
        by_cases c16 : x9_8 ≤ ((rdOf ByteArray.empty t106 x7_1).size : Int)
        ·rw [if_pos c16] at H
         have c16b0 := eq_true c16
         have c16b1 : decide (x9_8 ≤ ((rdOf ByteArray.empty t106 x7_1).size : Int)) = true := decide_eq_true c16
         clear c16
         replace H := Option.bind_eq_some_iff.mp H
         obtain ⟨t110, A170, H⟩ := H
         try dsimp only at H
         have A17 := Aside0.mk A170
         clear A170
         by_cases c18 : t110 = true
         ·subst c18
          rw [if_pos rfl] at H
          have c19b0 := eq_true (of_decide_eq_true asm : 0 ≤ x9_8)
          have c20b0 := eq_true (of_decide_eq_true asm : x9_8 ≤ ((rdOf ByteArray.empty t106 x7_1).size : Int))
          replace H := Option.bind_eq_some_iff.mp H
          obtain ⟨t111, A210, H⟩ := H
          try dsimp only at H
          have A21 := Aside0.mk A210
          clear A210
          by_cases c22 : x9_8 < ((rdOf ByteArray.empty t106 x7_1).size : Int)
          ·rw [if_pos c22] at H
           have c22b0 : decide (x9_8 < ((rdOf ByteArray.empty t106 x7_1).size : Int)) = true := decide_eq_true c22
           clear c22
           obtain ⟨ji23, hji23⟩ : ∃ j_ : Int, (wrap64 (x9_8 + 1)) = j_ := ⟨_, rfl⟩
           replace H : (if 0 ≤ (ji23) then (if (ji23) ≤ ((rdOf ByteArray.empty t106 x7_1).size : Int) then ((spec_l7Unquote.f ((rdOf ByteArray.empty t106 x7_1).extract ((ji23) : Int).toNat (rdOf ByteArray.empty t106 x7_1).size)).bind fun t113 => (if x3_1.length < 4398046511104 then (spec_Directives.l0 kj8 (x3_1 ++ [(⟨t111, t113⟩ : S46)]) t106 (wrap64 (x7_1 + 1))) else (none))) else (none)) else (none)) = some r := by first | (rw [hji23] at H; exact H) | (simp only [hji23] at H ⊢; exact H)
           (try rw [hji23] at A17)
           (try rw [hji23] at A21)
           have hji23w : (IntKind.i64.wrap (x9_8 + 1)) = ji23 := (i64_w _).trans hji23
           by_cases c24 : 0 ≤ (ji23)
           ·rw [if_pos c24] at H
            have c24b0 := eq_true c24
            have c24b1 : decide (0 ≤ (ji23)) = true := decide_eq_true c24
            clear c24
            by_cases c25 : (ji23) ≤ ((rdOf ByteArray.empty t106 x7_1).size : Int)
            ·rw [if_pos c25] at H
             have c25b0 := eq_true c25
             have c25b1 : decide ((ji23) ≤ ((rdOf ByteArray.empty t106 x7_1).size : Int)) = true := decide_eq_true c25
             clear c25
             replace H := Option.bind_eq_some_iff.mp H
             obtain ⟨t113, A260, H⟩ := H
             try dsimp only at H
             have A26 := Aside0.mk A260
             clear A260
             by_cases c27 : x3_1.length < 4398046511104
             ·rw [if_pos c27] at H
              have LMc27 := Aside0.mk c27
              clear c27
              obtain ⟨y114, hy114⟩ : ∃ y_ : List (S46), y_ = (x3_1 ++ [(⟨t111, t113⟩ : S46)]) := ⟨_, rfl⟩
              replace H : (spec_Directives.l0 kj8 y114 t106 (wrap64 (x7_1 + 1))) = some r := by first | (rw [hy114]; with_reducible exact H) | (have H2_ := (Option.bind_some _ _).symm.trans H; rw [hy114]; with_reducible exact H2_) | (have H2_ := (Option.bind_some _ _).symm.trans H; with_reducible exact H2_) | with_reducible exact H | (rw [hy114]; exact H) | exact H
              have Ny114 := Aside0.mk hy114
              clear hy114
              have H' := Aside0.mk H
              clear H
              go_wp2_with (first | ((with_reducible refine gate_callee (f := 64) rfl ?_); refine goesL_ (some 44) rfl rfl Tryz.func64 (by kernel_rfl) rfl #[.string ((rdOf ByteArray.empty t106 x7_1).extract 0 (x9_8 : Int).toNat)] rfl am ?_; (with_reducible refine (spec_IsTokenText.calls kj8 ((rdOf ByteArray.empty t106 x7_1).extract 0 (x9_8 : Int).toNat) true _ A17.out).mono ?_); rintro e w' ⟨rfl, ⟨nd, rfl⟩⟩; refine ⟨_, rfl, ?_⟩; (try (rw [drewN_self wc]; generalize hq_ : World.drewN wc _ = wc; have n0_ : Aside0 (Kd.R k46 46 wc w.heap.size (fun _ => True) u3 x3_1) := ⟨by rw [← hq_]; exact (by (with_reducible repeat (first | apply Kd.R_alloc | apply Kd.R_drewN | apply Kd.R_drew)); exact HO_3.out)⟩; have n1_ : Aside0 (Kd.R Kd.string 9 wc w.heap.size (fun _ => True) (.slice (some ad109) t106.length co10) t106) := ⟨by rw [← hq_]; exact (by (with_reducible repeat (first | apply Kd.R_alloc | apply Kd.R_drewN | apply Kd.R_drew)); exact HO_6.out)⟩; have n2_ : Aside0 (Below w.heap.size w wc) := ⟨by rw [← hq_]; exact bq⟩; clear HO_3 HO_6 HB hq_; have HO_3 := n0_; have HO_6 := n1_; have HB := n2_; clear n0_ n1_ n2_))) | ((with_reducible refine gate_callee (f := 65) rfl ?_); refine goesL_ (some 49) rfl rfl Tryz.func65 (by kernel_rfl) rfl #[.string ((rdOf ByteArray.empty t106 x7_1).extract 0 (x9_8 : Int).toNat)] rfl am ?_; (with_reducible refine (spec_Lower.calls ((rdOf ByteArray.empty t106 x7_1).extract 0 (x9_8 : Int).toNat) t111 _ A21.out).mono ?_); rintro e w28 ⟨rfl, hb⟩; refine ⟨_, rfl, ?_⟩; have n0_ := Aside0.mk (Kd.R_below (by (with_reducible repeat (first | apply Kd.R_alloc | apply Kd.R_drewN | apply Kd.R_drew)); exact HO_3.out) hb); have n1_ := Aside0.mk (Kd.R_below (by (with_reducible repeat (first | apply Kd.R_alloc | apply Kd.R_drewN | apply Kd.R_drew)); exact HO_6.out) hb); have n2_ := Aside0.mk (below_step bq hb); clear HO_3; clear HO_6; clear HB; have HO_3 := n0_; have HO_6 := n1_; have HB := n2_; clear n0_ n1_ n2_; (try clear hb); (try clear hb2); (try clear hk); (try clear hi)) | ((with_reducible refine gate_dst (N := 10) rfl ?_); refine box_event ?hg (N := 10) ?hd (cs := #[.string (⟨#[]⟩ : ByteArray), .string (⟨#[]⟩ : ByteArray)]) (t := 46) ?hr ?_; (case hd => rfl); (case hg => rfl); (case hr => first | (go_simp; done) | (go_simp; rfl)); intro gb112 hg w29 hbox hb; have n0_ := Aside0.mk (Kd.R_below (Kd.R_elderB (by (with_reducible repeat (first | apply Kd.R_alloc | apply Kd.R_drewN | apply Kd.R_drew)); exact HO_3.out) gb112 (Nat.le_of_eq hg.symm)) hb); have n1_ := Aside0.mk (Kd.R_below (by (with_reducible repeat (first | apply Kd.R_alloc | apply Kd.R_drewN | apply Kd.R_drew)); exact HO_6.out) hb); have n2_ := Aside0.mk (below_step bq hb); have n3_ := Aside0.mk (hbox); have n4_ := Aside0.mk ((by rw [hg]; exact (below_size bq) : w.heap.size ≤ gb112)); have n5_ := Aside0.mk ((by rw [hg]; exact (below_size bq) : w.heap.size ≤ gb112)); clear HO_3; clear HO_6; clear HB; have HO_3 := n0_; have HO_6 := n1_; have HB := n2_; have BK112 := n3_; have GW112 := n4_; have GE112 := n5_; clear n0_ n1_ n2_ n3_ n4_ n5_; clear hb hbox hg; have hcz30_0 : w29.cell? ⟨gb112, 0, none⟩ = some (.string (⟨#[]⟩ : ByteArray)) := (blk_cell BK112.out 0).trans rfl; have hcz30_1 : w29.cell? ⟨gb112, 1, none⟩ = some (.string (⟨#[]⟩ : ByteArray)) := (blk_cell BK112.out 1).trans rfl; have hfz30_0 := blk_frozen BK112.out 0; have hfz30_1 := blk_frozen BK112.out 1) | ((with_reducible refine gate_callee (f := 66) rfl ?_); refine goesL_ (some 59) rfl rfl Tryz.func66 (by kernel_rfl) rfl #[.string ((rdOf ByteArray.empty t106 x7_1).extract ((ji23) : Int).toNat (rdOf ByteArray.empty t106 x7_1).size)] rfl (by (try simp only [List.map_toArray, List.map_cons, List.map_nil]); first | done | (simp only [hji23]; rfl) | rfl | (simp only [List.length_drop, List.length_take]; rfl)) ?_; (with_reducible refine (spec_l7Unquote.calls ((rdOf ByteArray.empty t106 x7_1).extract ((ji23) : Int).toNat (rdOf ByteArray.empty t106 x7_1).size) t113 _ A26.out).mono ?_); rintro e w' ⟨rfl, ⟨nd, rfl⟩⟩; refine ⟨_, rfl, ?_⟩; have hq1_ : ((w29.setCell ⟨gb112, 0, none⟩ (.string t111)).setCell ⟨gb112, 1, none⟩ (.string (⟨#[]⟩ : ByteArray))).cell? ⟨gb112, 1, none⟩ = some (.string (⟨#[]⟩ : ByteArray)) := by go_simp) | ((with_reducible refine gate_builtin (b := .append) (xs := #[.tmp 61, .tmp 63]) rfl ?_); at_builtin; refine Kd.R_append k46 (w0 := w) w.heap.size rfl (.tmp 61) (.tmp 63) 43 46 (.agg #[(.string ⟨#[]⟩), (.string ⟨#[]⟩)]) 32 rfl Tryz.underlying43 info46 rfl (by decide) (by omega) u3 x3_1 (⟨t111, t113⟩ : S46) [.string t111, .string t113] (fun k_ => k_ ≠ gb112) (fun _ => False) rfl (by first | (go_simp; done) | (go_simp; rfl)) ?aP (fun _ hk => hk.elim) ?aF ?aO ?aB ?aS ?aL ?_; (case aP => exact k46_mkM _ _ _ (⟨t111, t113⟩ : S46)); (case aB => exact (by repeat (first | (with_reducible first | exact HB.out | apply below_alloc | apply pw_below_drewN | apply below_drew1 | refine below_set ?_ GE112.out) | exact HB.out))); (case aF => exact (fun k_ hk => Kd.freshB (g := gb112) (o := .cells #[.string t111, .string t113] 46 (0, 0)) (by (with_reducible repeat (first | refine blk_drewN ?_ _ | refine blk_drew ?_ | refine blk_alloc ?_ _)); refine blk_put (cs := #[.string t111, .string (⟨#[]⟩ : ByteArray)]) ?_ 1 _ rfl; (with_reducible repeat (first | refine blk_drewN ?_ _ | refine blk_drew ?_ | refine blk_alloc ?_ _)); refine blk_put (cs := #[.string t111, .string (⟨#[]⟩ : ByteArray)]) ?_ 1 _ rfl; (with_reducible repeat (first | refine blk_drewN ?_ _ | refine blk_drew ?_ | refine blk_alloc ?_ _)); refine blk_put (cs := #[.string (⟨#[]⟩ : ByteArray), .string (⟨#[]⟩ : ByteArray)]) ?_ 0 _ rfl; (with_reducible repeat (first | refine blk_drewN ?_ _ | refine blk_drew ?_ | refine blk_alloc ?_ _)); exact BK112.out) k_ hk)); (case aO => exact (by (with_reducible repeat (first | apply Kd.R_alloc | apply Kd.R_drewN | apply Kd.R_drew)); exact Kd.R_mono (Kd.R_far (p := ⟨gb112, 1, none⟩) (Kd.R_far (p := ⟨gb112, 1, none⟩) (Kd.R_far (p := ⟨gb112, 0, none⟩) (Kd.R_mono HO_3.out (fun k_ hk => (⟨hk, hk.2⟩ : _ ∧ k_ ≠ gb112))) (fun _ hk => hk.2) (.string t111)) (fun _ hk => hk.2) (.string (⟨#[]⟩ : ByteArray))) (fun _ hk => hk.2) (.string t113)) (fun _ hk => hk.1.2))); (case aS => exact (below_size (by repeat (first | (with_reducible first | exact HB.out | apply below_alloc | apply pw_below_drewN | apply below_drew1 | refine below_set ?_ GE112.out) | exact HB.out)))); (case aL => have := LMc27.out; omega); intro v115 w31 ho hb hg hat; rw [← Ny114.out] at ho; have n0_ := Aside0.mk (Kd.R_over' (by (with_reducible repeat (first | apply Kd.R_alloc | apply Kd.R_drewN | apply Kd.R_drew)); exact (Kd.R_mono (Kd.R_far (p := ⟨gb112, 1, none⟩) (Kd.R_far (p := ⟨gb112, 1, none⟩) (Kd.R_far (p := ⟨gb112, 0, none⟩) (Kd.R_types HO_6.out BK112.out (by decide)) (fun _ hk => hk.2) (.string t111)) (fun _ hk => hk.2) (.string (⟨#[]⟩ : ByteArray))) (fun _ hk => hk.2) (.string t113)) (fun _ h_ => h_.1))) (Kd.R_typed (by (with_reducible repeat (first | apply Kd.R_alloc | apply Kd.R_drewN | apply Kd.R_drew)); exact (Kd.R_mono (Kd.R_far (p := ⟨gb112, 1, none⟩) (Kd.R_far (p := ⟨gb112, 1, none⟩) (Kd.R_far (p := ⟨gb112, 0, none⟩) (Kd.R_mono HO_3.out (fun k_ hk => (⟨hk, hk.2⟩ : _ ∧ k_ ≠ gb112))) (fun _ hk => hk.2) (.string t111)) (fun _ hk => hk.2) (.string (⟨#[]⟩ : ByteArray))) (fun _ hk => hk.2) (.string t113)) (fun _ h_ => h_.1)))) (by decide) hg); have n1_ := Aside0.mk (blk_grown (g := gb112) (o := .cells #[.string t111, .string t113] 46 (0, 0)) (by (with_reducible repeat (first | refine blk_drewN ?_ _ | refine blk_drew ?_ | refine blk_alloc ?_ _)); refine blk_put (cs := #[.string t111, .string (⟨#[]⟩ : ByteArray)]) ?_ 1 _ rfl; (with_reducible repeat (first | refine blk_drewN ?_ _ | refine blk_drew ?_ | refine blk_alloc ?_ _)); refine blk_put (cs := #[.string t111, .string (⟨#[]⟩ : ByteArray)]) ?_ 1 _ rfl; (with_reducible repeat (first | refine blk_drewN ?_ _ | refine blk_drew ?_ | refine blk_alloc ?_ _)); refine blk_put (cs := #[.string (⟨#[]⟩ : ByteArray), .string (⟨#[]⟩ : ByteArray)]) ?_ 0 _ rfl; (with_reducible repeat (first | refine blk_drewN ?_ _ | refine blk_drew ?_ | refine blk_alloc ?_ _)); exact BK112.out) hg (Kd.R_away HO_3.out (fun _ hk => hk.2))); have n2_ := Aside0.mk (hb); have n3_ := Aside0.mk (ho); clear HO_6; clear BK112; clear HB; clear HO_3; have HO_6 := n0_; have BK112 := n1_; have HB := n2_; have HO116 := n3_; clear n0_ n1_ n2_ n3_; clear ho hb hg hat))
              go_roundg kj8
              case measure => have := HK1.out; have := HJ8.out; omega
              case rel => exact ⟨(y114), (wrap64 (x7_1 + 1)), (by first | rfl | (simp; done) | (simp [*]; done)), H', ⟨by have := HK1.out; have := HJ8.out; omega⟩, ⟨by (with_reducible repeat (first | apply Kd.R_alloc | apply Kd.R_drewN | apply Kd.R_drew)); exact Kd.R_mono HO116.out (fun _ hk => trivial)⟩, ⟨by (with_reducible repeat (first | apply Kd.R_alloc | apply Kd.R_drewN | apply Kd.R_drew)); exact HO_6.out⟩, ⟨by repeat (first | (with_reducible first | exact HB.out | apply below_alloc | apply pw_below_drewN | apply below_drew1 | refine below_set ?_ GE112.out) | exact HB.out)⟩⟩
             ·rw [if_neg c27] at H
              exact absurd H (by simp)
            ·rw [if_neg c25] at H
             exact absurd H (by simp)
           ·rw [if_neg c24] at H
            exact absurd H (by simp)
          ·rw [if_neg c22] at H
           have c22b0 : decide (x9_8 < ((rdOf ByteArray.empty t106 x7_1).size : Int)) = false := decide_eq_false c22
           clear c22
           by_cases c32 : x3_1.length < 4398046511104
           ·rw [if_pos c32] at H
            have LMc32 := Aside0.mk c32
            clear c32
            obtain ⟨y117, hy117⟩ : ∃ y_ : List (S46), y_ = (x3_1 ++ [(⟨t111, (⟨#[]⟩ : ByteArray)⟩ : S46)]) := ⟨_, rfl⟩
            replace H : (spec_Directives.l0 kj8 y117 t106 (wrap64 (x7_1 + 1))) = some r := by first | (rw [hy117]; with_reducible exact H) | (have H2_ := (Option.bind_some _ _).symm.trans H; rw [hy117]; with_reducible exact H2_) | (have H2_ := (Option.bind_some _ _).symm.trans H; with_reducible exact H2_) | with_reducible exact H | (rw [hy117]; exact H) | exact H
            have Ny117 := Aside0.mk hy117
            clear hy117
            have H' := Aside0.mk H
            clear H
            go_wp2_with (first | ((with_reducible refine gate_callee (f := 64) rfl ?_); refine goesL_ (some 44) rfl rfl Tryz.func64 (by kernel_rfl) rfl #[.string ((rdOf ByteArray.empty t106 x7_1).extract 0 (x9_8 : Int).toNat)] rfl am ?_; (with_reducible refine (spec_IsTokenText.calls kj8 ((rdOf ByteArray.empty t106 x7_1).extract 0 (x9_8 : Int).toNat) true _ A17.out).mono ?_); rintro e w' ⟨rfl, ⟨nd, rfl⟩⟩; refine ⟨_, rfl, ?_⟩; (try (rw [drewN_self wc]; generalize hq_ : World.drewN wc _ = wc; have n0_ : Aside0 (Kd.R k46 46 wc w.heap.size (fun _ => True) u3 x3_1) := ⟨by rw [← hq_]; exact (by (with_reducible repeat (first | apply Kd.R_alloc | apply Kd.R_drewN | apply Kd.R_drew)); exact HO_3.out)⟩; have n1_ : Aside0 (Kd.R Kd.string 9 wc w.heap.size (fun _ => True) (.slice (some ad109) t106.length co10) t106) := ⟨by rw [← hq_]; exact (by (with_reducible repeat (first | apply Kd.R_alloc | apply Kd.R_drewN | apply Kd.R_drew)); exact HO_6.out)⟩; have n2_ : Aside0 (Below w.heap.size w wc) := ⟨by rw [← hq_]; exact bq⟩; clear HO_3 HO_6 HB hq_; have HO_3 := n0_; have HO_6 := n1_; have HB := n2_; clear n0_ n1_ n2_))) | ((with_reducible refine gate_callee (f := 65) rfl ?_); refine goesL_ (some 49) rfl rfl Tryz.func65 (by kernel_rfl) rfl #[.string ((rdOf ByteArray.empty t106 x7_1).extract 0 (x9_8 : Int).toNat)] rfl am ?_; (with_reducible refine (spec_Lower.calls ((rdOf ByteArray.empty t106 x7_1).extract 0 (x9_8 : Int).toNat) t111 _ A21.out).mono ?_); rintro e w33 ⟨rfl, hb⟩; refine ⟨_, rfl, ?_⟩; have n0_ := Aside0.mk (Kd.R_below (by (with_reducible repeat (first | apply Kd.R_alloc | apply Kd.R_drewN | apply Kd.R_drew)); exact HO_3.out) hb); have n1_ := Aside0.mk (Kd.R_below (by (with_reducible repeat (first | apply Kd.R_alloc | apply Kd.R_drewN | apply Kd.R_drew)); exact HO_6.out) hb); have n2_ := Aside0.mk (below_step bq hb); clear HO_3; clear HO_6; clear HB; have HO_3 := n0_; have HO_6 := n1_; have HB := n2_; clear n0_ n1_ n2_; (try clear hb); (try clear hb2); (try clear hk); (try clear hi)) | ((with_reducible refine gate_dst (N := 10) rfl ?_); refine box_event ?hg (N := 10) ?hd (cs := #[.string (⟨#[]⟩ : ByteArray), .string (⟨#[]⟩ : ByteArray)]) (t := 46) ?hr ?_; (case hd => rfl); (case hg => rfl); (case hr => first | (go_simp; done) | (go_simp; rfl)); intro gb112 hg w34 hbox hb; have n0_ := Aside0.mk (Kd.R_below (Kd.R_elderB (by (with_reducible repeat (first | apply Kd.R_alloc | apply Kd.R_drewN | apply Kd.R_drew)); exact HO_3.out) gb112 (Nat.le_of_eq hg.symm)) hb); have n1_ := Aside0.mk (Kd.R_below (by (with_reducible repeat (first | apply Kd.R_alloc | apply Kd.R_drewN | apply Kd.R_drew)); exact HO_6.out) hb); have n2_ := Aside0.mk (below_step bq hb); have n3_ := Aside0.mk (hbox); have n4_ := Aside0.mk ((by rw [hg]; exact (below_size bq) : w.heap.size ≤ gb112)); have n5_ := Aside0.mk ((by rw [hg]; exact (below_size bq) : w.heap.size ≤ gb112)); clear HO_3; clear HO_6; clear HB; have HO_3 := n0_; have HO_6 := n1_; have HB := n2_; have BK112 := n3_; have GW112 := n4_; have GE112 := n5_; clear n0_ n1_ n2_ n3_ n4_ n5_; clear hb hbox hg; have hcz35_0 : w34.cell? ⟨gb112, 0, none⟩ = some (.string (⟨#[]⟩ : ByteArray)) := (blk_cell BK112.out 0).trans rfl; have hcz35_1 : w34.cell? ⟨gb112, 1, none⟩ = some (.string (⟨#[]⟩ : ByteArray)) := (blk_cell BK112.out 1).trans rfl; have hfz35_0 := blk_frozen BK112.out 0; have hfz35_1 := blk_frozen BK112.out 1) | ((with_reducible refine gate_builtin (b := .append) (xs := #[.tmp 61, .tmp 63]) rfl ?_); at_builtin; refine Kd.R_append k46 (w0 := w) w.heap.size rfl (.tmp 61) (.tmp 63) 43 46 (.agg #[(.string ⟨#[]⟩), (.string ⟨#[]⟩)]) 32 rfl Tryz.underlying43 info46 rfl (by decide) (by omega) u3 x3_1 (⟨t111, (⟨#[]⟩ : ByteArray)⟩ : S46) [.string t111, .string (⟨#[]⟩ : ByteArray)] (fun k_ => k_ ≠ gb112) (fun _ => False) rfl (by first | (go_simp; done) | (go_simp; rfl)) ?aP (fun _ hk => hk.elim) ?aF ?aO ?aB ?aS ?aL ?_; (case aP => exact k46_mkM _ _ _ (⟨t111, (⟨#[]⟩ : ByteArray)⟩ : S46)); (case aB => exact (by repeat (first | (with_reducible first | exact HB.out | apply below_alloc | apply pw_below_drewN | apply below_drew1 | refine below_set ?_ GE112.out) | exact HB.out))); (case aF => exact (fun k_ hk => Kd.freshB (g := gb112) (o := .cells #[.string t111, .string (⟨#[]⟩ : ByteArray)] 46 (0, 0)) (by (with_reducible repeat (first | refine blk_drewN ?_ _ | refine blk_drew ?_ | refine blk_alloc ?_ _)); refine blk_put (cs := #[.string t111, .string (⟨#[]⟩ : ByteArray)]) ?_ 1 _ rfl; (with_reducible repeat (first | refine blk_drewN ?_ _ | refine blk_drew ?_ | refine blk_alloc ?_ _)); refine blk_put (cs := #[.string (⟨#[]⟩ : ByteArray), .string (⟨#[]⟩ : ByteArray)]) ?_ 0 _ rfl; (with_reducible repeat (first | refine blk_drewN ?_ _ | refine blk_drew ?_ | refine blk_alloc ?_ _)); exact BK112.out) k_ hk)); (case aO => exact (by (with_reducible repeat (first | apply Kd.R_alloc | apply Kd.R_drewN | apply Kd.R_drew)); exact Kd.R_mono (Kd.R_far (p := ⟨gb112, 1, none⟩) (Kd.R_far (p := ⟨gb112, 0, none⟩) (Kd.R_mono HO_3.out (fun k_ hk => (⟨hk, hk.2⟩ : _ ∧ k_ ≠ gb112))) (fun _ hk => hk.2) (.string t111)) (fun _ hk => hk.2) (.string (⟨#[]⟩ : ByteArray))) (fun _ hk => hk.1.2))); (case aS => exact (below_size (by repeat (first | (with_reducible first | exact HB.out | apply below_alloc | apply pw_below_drewN | apply below_drew1 | refine below_set ?_ GE112.out) | exact HB.out)))); (case aL => have := LMc32.out; omega); intro v118 w36 ho hb hg hat; rw [← Ny117.out] at ho; have n0_ := Aside0.mk (Kd.R_over' (by (with_reducible repeat (first | apply Kd.R_alloc | apply Kd.R_drewN | apply Kd.R_drew)); exact (Kd.R_mono (Kd.R_far (p := ⟨gb112, 1, none⟩) (Kd.R_far (p := ⟨gb112, 0, none⟩) (Kd.R_types HO_6.out BK112.out (by decide)) (fun _ hk => hk.2) (.string t111)) (fun _ hk => hk.2) (.string (⟨#[]⟩ : ByteArray))) (fun _ h_ => h_.1))) (Kd.R_typed (by (with_reducible repeat (first | apply Kd.R_alloc | apply Kd.R_drewN | apply Kd.R_drew)); exact (Kd.R_mono (Kd.R_far (p := ⟨gb112, 1, none⟩) (Kd.R_far (p := ⟨gb112, 0, none⟩) (Kd.R_mono HO_3.out (fun k_ hk => (⟨hk, hk.2⟩ : _ ∧ k_ ≠ gb112))) (fun _ hk => hk.2) (.string t111)) (fun _ hk => hk.2) (.string (⟨#[]⟩ : ByteArray))) (fun _ h_ => h_.1)))) (by decide) hg); have n1_ := Aside0.mk (blk_grown (g := gb112) (o := .cells #[.string t111, .string (⟨#[]⟩ : ByteArray)] 46 (0, 0)) (by (with_reducible repeat (first | refine blk_drewN ?_ _ | refine blk_drew ?_ | refine blk_alloc ?_ _)); refine blk_put (cs := #[.string t111, .string (⟨#[]⟩ : ByteArray)]) ?_ 1 _ rfl; (with_reducible repeat (first | refine blk_drewN ?_ _ | refine blk_drew ?_ | refine blk_alloc ?_ _)); refine blk_put (cs := #[.string (⟨#[]⟩ : ByteArray), .string (⟨#[]⟩ : ByteArray)]) ?_ 0 _ rfl; (with_reducible repeat (first | refine blk_drewN ?_ _ | refine blk_drew ?_ | refine blk_alloc ?_ _)); exact BK112.out) hg (Kd.R_away HO_3.out (fun _ hk => hk.2))); have n2_ := Aside0.mk (hb); have n3_ := Aside0.mk (ho); clear HO_6; clear BK112; clear HB; clear HO_3; have HO_6 := n0_; have BK112 := n1_; have HB := n2_; have HO119 := n3_; clear n0_ n1_ n2_ n3_; clear ho hb hg hat))
            go_roundg kj8
            case measure => have := HK1.out; have := HJ8.out; omega
            case rel => exact ⟨(y117), (wrap64 (x7_1 + 1)), (by first | rfl | (simp; done) | (simp [*]; done)), H', ⟨by have := HK1.out; have := HJ8.out; omega⟩, ⟨by (with_reducible repeat (first | apply Kd.R_alloc | apply Kd.R_drewN | apply Kd.R_drew)); exact Kd.R_mono HO119.out (fun _ hk => trivial)⟩, ⟨by (with_reducible repeat (first | apply Kd.R_alloc | apply Kd.R_drewN | apply Kd.R_drew)); exact HO_6.out⟩, ⟨by repeat (first | (with_reducible first | exact HB.out | apply below_alloc | apply pw_below_drewN | apply below_drew1 | refine below_set ?_ GE112.out) | exact HB.out)⟩⟩
           ·rw [if_neg c32] at H
            exact absurd H (by simp)
         ·replace c18 := Bool.eq_false_iff.mpr c18
          subst c18
          rw [if_neg (show ¬ (false = true) by decide)] at H
          have H' := Aside0.mk H
          clear H
          go_wp2_with (first | ((with_reducible refine gate_callee (f := 64) rfl ?_); refine goesL_ (some 44) rfl rfl Tryz.func64 (by kernel_rfl) rfl #[.string ((rdOf ByteArray.empty t106 x7_1).extract 0 (x9_8 : Int).toNat)] rfl am ?_; (with_reducible refine (spec_IsTokenText.calls kj8 ((rdOf ByteArray.empty t106 x7_1).extract 0 (x9_8 : Int).toNat) false _ A17.out).mono ?_); rintro e w' ⟨rfl, ⟨nd, rfl⟩⟩; refine ⟨_, rfl, ?_⟩))
          go_roundg kj8
          case measure => have := HK1.out; have := HJ8.out; omega
          case rel => exact ⟨(x3_1), (wrap64 (x7_1 + 1)), (by first | rfl | (simp; done) | (simp [*]; done)), H', ⟨by have := HK1.out; have := HJ8.out; omega⟩, ⟨by (with_reducible repeat (first | apply Kd.R_alloc | apply Kd.R_drewN | apply Kd.R_drew)); exact HO_3.out⟩, ⟨by (with_reducible repeat (first | apply Kd.R_alloc | apply Kd.R_drewN | apply Kd.R_drew)); exact HO_6.out⟩, ⟨by repeat (first | (with_reducible first | exact HB.out | apply below_alloc | apply pw_below_drewN | apply below_drew1) | exact HB.out)⟩⟩
        ·rw [if_neg c16] at H
         exact absurd H (by simp)
       ·rw [if_neg c15] at H
        exact absurd H (by simp)
    ·rw [if_neg c8] at H
     exact absurd H (by simp)
   ·rw [if_neg c7] at H
    have c7b0 : decide (x7_1 < (t106.length : Int)) = false := decide_eq_false c7
    clear c7
    obtain rfl := Option.some.inj H
    obtain ⟨Ao37, co37, eo37⟩ := Kd.R_slice HO_6.out
    subst eo37
    go_wp2
    go_ret
    exact ⟨_, by first | rfl | (simp [errW_none, errW_some] <;> rfl) | (simp [*, errW_none, errW_some] <;> rfl), by (with_reducible repeat (first | apply Kd.R_alloc | apply Kd.R_drewN | apply Kd.R_drew)); exact HO_3.out, bq⟩

end Go.Proofs.YtjldfmkpdkhnnaaGreatDoor.QL

namespace Go.Proofs.YtjldfmkpdkhnnaaGreatDoor.QL
open Go.RowKit Go.Proofs.YtjldfmkpdkhnnaaGreatDoorW.PrintWords Go.Proofs.YtjldfmkpdkhnnaaGreatDoorW.PrintLast Go.Proofs.YtjldfmkpdkhnnaaGreatDoorW.PrintMore Go.Proofs.YtjldfmkpdkhnnaaGreatDoor.Aux Go.Proofs.YtjldfmkpdkhnnaaGreatDoor.Dom Go.Proofs.YtjldfmkpdkhnnaaGreatDoor.Ext Go.Proofs.YtjldfmkpdkhnnaaGreatDoor.Glob
attribute [local go_sem] max2_int min2_int max_two min_two max_three min_three max_four min_four   -- for this text's walks alone

def spec_CcSeconds.l0 : Nat → ByteArray → List (S46) → Int → Bool → Int → Option (Int × Bool)
 | 0, _, _, _, _, _ => none
 | k + 1, x1, x6, x7, x8, x9 => if x9 < (x6.length : Int) then (if 0 ≤ x9 then (if ((rd_T46 x6 x9).f0).toList = x1.toList then ((spec_Seconds.f k ((rd_T46 x6 x9).f1)).bind fun bt106 => (spec_CcSeconds.l0 k x1 x6 (mn x7 bt106.1) true (wrap64 (x9 + 1)))) else (spec_CcSeconds.l0 k x1 x6 x7 x8 (wrap64 (x9 + 1)))) else (none)) else (if x8 = true then (some (x7, true)) else (some (0, false)))
def spec_CcSeconds.f (k : Nat) (l0 : List (S99)) (a1 : ByteArray) : Option (Int × Bool) := (spec_Directives.f k l0).bind fun t101 => (spec_CcSeconds.l0 k a1 t101 2147483648 false 0)
theorem spec_CcSeconds.mono_l : ∀ k, (∀ y0 y1 y2 y3 y4, LeO (spec_CcSeconds.l0 k y0 y1 y2 y3 y4) (spec_CcSeconds.l0 (k + 1) y0 y1 y2 y3 y4))
 | 0 => fun _ _ _ _ _ r h => by simp [spec_CcSeconds.l0] at h
 | k + 1 => by
  have ih0 := spec_CcSeconds.mono_l k
  ·intro y0 y1 y2 y3 y4
   unfold spec_CcSeconds.l0
   repeat' first
   | (with_reducible exact ih0 _ _ _ _ _)
   | (with_reducible exact spec_Directives.mono _ _)
   | (with_reducible exact spec_Seconds.mono _ _)
   | (with_reducible exact LeO.refl _)
   | (with_reducible exact LeO.none _)
   | (with_reducible refine LeO.ite ?_ ?_)
   | (with_reducible refine LeO.bind ?_ (fun _ => ?_))
   | exact ih0 _ _ _ _ _
   | exact spec_Directives.mono _ _
   | exact spec_Seconds.mono _ _
   | exact LeO.none _
   | refine LeO.ite ?_ ?_
   | refine LeO.bind ?_ (fun _ => ?_)
theorem spec_CcSeconds.mono : ∀ a0 a1 k, LeO (spec_CcSeconds.f k a0 a1) (spec_CcSeconds.f (k + 1) a0 a1) := by
 intro a0 a1 k
 have ih0 := spec_CcSeconds.mono_l k
 unfold spec_CcSeconds.f
 repeat' first
   | (with_reducible exact ih0 _ _ _ _ _)
   | (with_reducible exact spec_Directives.mono _ _)
   | (with_reducible exact spec_Seconds.mono _ _)
   | (with_reducible exact LeO.refl _)
   | (with_reducible exact LeO.none _)
   | (with_reducible refine LeO.ite ?_ ?_)
   | (with_reducible refine LeO.bind ?_ (fun _ => ?_))
   | exact ih0 _ _ _ _ _
   | exact spec_Directives.mono _ _
   | exact spec_Seconds.mono _ _
   | exact LeO.none _
   | refine LeO.ite ?_ ?_
   | refine LeO.bind ?_ (fun _ => ?_)
set_option maxHeartbeats 8000000 in
set_option maxRecDepth 100000 in
theorem spec_CcSeconds.calls (k : Nat) (A0 : Option Addr) (c0 : Nat) (l0 : List (S99)) (a1 : ByteArray) (r1 : Int) (r2 : Bool) (w : World) (hr0 : Kd.C k99 w A0 l0.length l0) (hc0 : l0.length ≤ c0) (h : spec_CcSeconds.f k l0 a1 = some (r1, r2)) :
  Calls Tryz.prog 25 #[.slice A0 l0.length c0, .string a1] w fun e w' => e = .returned (.tuple #[.int .i64 r1, .bool r2]) ∧ Below w.heap.size w w' := by
 have HR0 := Aside0.mk hr0
 have HC0 := Aside0.mk hc0
 clear hr0 hc0
 have HB := Aside0.mk (Below.refl w.heap.size w)
 have H : ((spec_Directives.f k l0).bind fun t101 => (spec_CcSeconds.l0 k a1 t101 2147483648 false 0)) = some (r1, r2) := h
 clear h
 replace H := Option.bind_eq_some_iff.mp H
 obtain ⟨t101, A30, H⟩ := H
 try dsimp only at H
 have A3 := Aside0.mk A30
 clear A30
 have H' := Aside0.mk H
 clear H
 go_enter Tryz.func25, Tryz.ntmps25
 go_wp2_with (first | ((with_reducible refine gate_callee (f := 26) rfl ?_); refine goesL_ (some 13) rfl rfl Tryz.func26 (by kernel_rfl) rfl #[.slice A0 l0.length c0] rfl am ?_; (with_reducible refine (spec_Directives.calls k _ _ l0 t101 _ ?side1 ?side2 A3.out).mono ?_); (case side1 => repeat (first | exact HR0.out | (with_reducible refine Kd.C_alloc ?_ _) | (with_reducible refine Kd.C_drewN ?_ _) | (with_reducible refine Kd.C_drew ?_))); (case side2 => exact HC0.out); rintro e w4 ⟨v102, rfl, ho0, hb⟩; refine ⟨_, rfl, ?_⟩; have n0_ := Aside0.mk (Kd.R_lower ho0 (below_size bq)); have n1_ := Aside0.mk (below_step bq hb); clear HB; have HO103 := n0_; have HB := n1_; clear n0_ n1_; (try clear hb); (try clear hb2); (try clear hk); (try clear hi); (try clear ho0)))
 go_loopg [7, 8, 9] k (fun kq v7 v8 v9 w' => ∃ (x7_1 : Int) (x8_1 : Bool) (x9_1 : Int), v7 = .int .i64 x7_1 ∧ v8 = .bool x8_1 ∧ v9 = .int .i64 x9_1 ∧ Aside0 (spec_CcSeconds.l0 kq a1 t101 x7_1 x8_1 x9_1 = some (r1, r2)) ∧ Aside0 (kq ≤ k) ∧ Aside0 (Kd.R k46 46 w' w.heap.size (fun _ => True) v102 t101) ∧ Aside0 (Below w.heap.size w w'))
 case atStart => exact ⟨(2147483648), (false), (0), (by first | rfl | (simp; done) | (simp [*]; done)), (by first | rfl | (simp; done) | (simp [*]; done)), (by first | rfl | (simp; done) | (simp [*]; done)), H', ⟨Nat.le_refl _⟩, ⟨by (with_reducible repeat (first | apply Kd.R_alloc | apply Kd.R_drewN | apply Kd.R_drew)); exact HO103.out⟩, ⟨by repeat (first | (with_reducible first | exact HB.out | apply below_alloc | apply pw_below_drewN | apply below_drew1) | exact HB.out)⟩⟩
 case round =>
  clear H'
  try clear c2
  try clear p2
  obtain ⟨x7_1, x8_1, x9_1, rfl, rfl, rfl, HA, HK1, HO_6, HB⟩ := hrel
  cases gk with
  | zero => exact absurd HA.out (by simp [spec_CcSeconds.l0])
  | succ k1 =>
   have H := HA.out
   clear HA
   simp only [spec_CcSeconds.l0] at H
   by_cases c5 : x9_1 < (t101.length : Int)
   ·rw [if_pos c5] at H
    have c5b0 : decide (x9_1 < (t101.length : Int)) = true := decide_eq_true c5
    clear c5
    by_cases c6 : 0 ≤ x9_1
    ·rw [if_pos c6] at H
     have c6b0 : decide (0 ≤ x9_1) = true := decide_eq_true c6
     clear c6
     by_cases c7 : ((rd_T46 t101 x9_1).f0).toList = a1.toList
     ·rw [if_pos c7] at H
      have c7b0 : (((rd_T46 t101 x9_1).f0).toList == a1.toList) = true := beq_iff_eq.mpr c7
      have c7b1 : (((rd_T46 t101 x9_1).f0).toList != a1.toList) = false := bne_eq_false_iff_eq.mpr c7
      clear c7
      replace H := Option.bind_eq_some_iff.mp H
      obtain ⟨⟨t106, t107⟩, A80, H⟩ := H
      try dsimp only at H
      have A8 := Aside0.mk A80
      clear A80
      obtain ⟨ji9, hji9⟩ : ∃ j_ : Int, (mn x7_1 t106) = j_ := ⟨_, rfl⟩
      replace H : (spec_CcSeconds.l0 k1 a1 t101 ji9 true (wrap64 (x9_1 + 1))) = some (r1, r2) := by first | (rw [hji9] at H; exact H) | (simp only [hji9] at H ⊢; exact H)
      (try rw [hji9] at A8)
      have hji9_ : (if t106 < x7_1 then t106 else x7_1) = ji9 := hji9
      have H' := Aside0.mk H
      clear H
      obtain ⟨Ao10, co10, eo10⟩ := Kd.R_slice HO_6.out
      subst eo10
      have p104 : 0 ≤ (x9_1 : Int) := of_decide_eq_true asm
      have q104 : x9_1 < (t101.length : Int) := of_decide_eq_true asm
      obtain ⟨ad104, e104, hx104_0, hx104_1⟩ := at_T46 (Kd.R_reads' HO_6.out).2.2 x9_1 p104 q104
      cases e104
      replace p104 := eq_true p104
      replace q104 := eq_true q104
      have p105 : 0 ≤ (x9_1 : Int) := of_decide_eq_true asm
      have q105 : x9_1 < (t101.length : Int) := of_decide_eq_true asm
      obtain ⟨ad105, e105, hx105_0, hx105_1⟩ := at_T46 (Kd.R_reads' HO_6.out).2.2 x9_1 p105 q105
      obtain rfl : ad104 = ad105 := (by injection e105)
      replace p105 := eq_true p105
      replace q105 := eq_true q105
      go_wp2_with (first | ((with_reducible refine gate_callee (f := 24) rfl ?_); refine goesL_ (some 33) rfl rfl Tryz.func24 (by kernel_rfl) rfl #[.string ((rd_T46 t101 x9_1).f1)] rfl am ?_; (with_reducible refine (spec_Seconds.calls k1 ((rd_T46 t101 x9_1).f1) t106 t107 _ A8.out).mono ?_); rintro e w11 ⟨rfl, hb⟩; refine ⟨_, rfl, ?_⟩; have n0_ := Aside0.mk (Kd.R_below (by (with_reducible repeat (first | apply Kd.R_alloc | apply Kd.R_drewN | apply Kd.R_drew)); exact HO_6.out) hb); have n1_ := Aside0.mk (below_step bq hb); clear HO_6; clear HB; have HO_6 := n0_; have HB := n1_; clear n0_ n1_; (try clear hb); (try clear hb2); (try clear hk); (try clear hi)))
      go_roundg k1
      case measure => have := HK1.out; omega
      case rel => exact ⟨(ji9), (true), (wrap64 (x9_1 + 1)), (by first | rfl | (simp; done) | (simp only [← hji9] <;> (first | rfl | simp)) | (simp [*]; done)), (by first | rfl | (simp; done) | (simp [*]; done)), (by first | rfl | (simp; done) | (simp [*]; done)), H', ⟨by have := HK1.out; omega⟩, ⟨by (with_reducible repeat (first | apply Kd.R_alloc | apply Kd.R_drewN | apply Kd.R_drew)); exact HO_6.out⟩, ⟨by repeat (first | (with_reducible first | exact HB.out | apply below_alloc | apply pw_below_drewN | apply below_drew1) | exact HB.out)⟩⟩
     ·rw [if_neg c7] at H
      have c7b0 : (((rd_T46 t101 x9_1).f0).toList == a1.toList) = false := beq_eq_false_iff_ne.mpr c7
      have c7b1 : (((rd_T46 t101 x9_1).f0).toList != a1.toList) = true := bne_iff_ne.mpr c7
      have H' := Aside0.mk H
      clear H
      obtain ⟨Ao12, co12, eo12⟩ := Kd.R_slice HO_6.out
      subst eo12
      have p104 : 0 ≤ (x9_1 : Int) := of_decide_eq_true asm
      have q104 : x9_1 < (t101.length : Int) := of_decide_eq_true asm
      obtain ⟨ad104, e104, hx104_0, hx104_1⟩ := at_T46 (Kd.R_reads' HO_6.out).2.2 x9_1 p104 q104
      cases e104
      replace p104 := eq_true p104
      replace q104 := eq_true q104
      go_wp2
      go_roundg k1
      case measure => have := HK1.out; omega
      case rel => exact ⟨(x7_1), (x8_1), (wrap64 (x9_1 + 1)), (by first | rfl | (simp; done) | (simp [*]; done)), (by first | rfl | (simp; done) | (simp [*]; done)), (by first | rfl | (simp; done) | (simp [*]; done)), H', ⟨by have := HK1.out; omega⟩, ⟨by (with_reducible repeat (first | apply Kd.R_alloc | apply Kd.R_drewN | apply Kd.R_drew)); exact HO_6.out⟩, ⟨by repeat (first | (with_reducible first | exact HB.out | apply below_alloc | apply pw_below_drewN | apply below_drew1) | exact HB.out)⟩⟩
    ·rw [if_neg c6] at H
     exact absurd H (by simp)
   ·rw [if_neg c5] at H
    have c5b0 : decide (x9_1 < (t101.length : Int)) = false := decide_eq_false c5
    clear c5
    by_cases c13 : x8_1 = true
    ·subst c13
     rw [if_pos rfl] at H
     simp only [Option.some.injEq, Prod.mk.injEq] at H
     obtain ⟨rfl, rfl⟩ := H
     obtain ⟨Ao14, co14, eo14⟩ := Kd.R_slice HO_6.out
     subst eo14
     go_wp2
     go_ret2
     exact ⟨by first | rfl | (simp [errW_none, errW_some] <;> rfl) | (simp [*, errW_none, errW_some] <;> rfl), bq⟩
    ·replace c13 := Bool.eq_false_iff.mpr c13
     subst c13
     rw [if_neg (show ¬ (false = true) by decide)] at H
     simp only [Option.some.injEq, Prod.mk.injEq] at H
     obtain ⟨rfl, rfl⟩ := H
     obtain ⟨Ao15, co15, eo15⟩ := Kd.R_slice HO_6.out
     subst eo15
     go_wp2
     go_ret2
     exact ⟨by first | rfl | (simp [errW_none, errW_some] <;> rfl) | (simp [*, errW_none, errW_some] <;> rfl), bq⟩

end Go.Proofs.YtjldfmkpdkhnnaaGreatDoor.QL

namespace Go.Proofs.YtjldfmkpdkhnnaaGreatDoor.QL
open Go.RowKit Go.Proofs.YtjldfmkpdkhnnaaGreatDoorW.PrintWords Go.Proofs.YtjldfmkpdkhnnaaGreatDoorW.PrintLast Go.Proofs.YtjldfmkpdkhnnaaGreatDoorW.PrintMore Go.Proofs.YtjldfmkpdkhnnaaGreatDoor.Aux Go.Proofs.YtjldfmkpdkhnnaaGreatDoor.Dom Go.Proofs.YtjldfmkpdkhnnaaGreatDoor.Ext Go.Proofs.YtjldfmkpdkhnnaaGreatDoor.Glob
attribute [local go_sem] max2_int min2_int max_two min_two max_three min_three max_four min_four   -- for this text's walks alone

def spec_Lifetime.j0 : Nat → Int → Int → Bool → Option (Int)
 | 0, _, _, _ => none
 | k + 1, x5, x9, x53 => if x53 = true then (some 0) else (some (mx 0 (wrap64 (x9 - x5))))
def spec_Lifetime.f (k : Nat) (a0_0 : Int) (l0_1 : List (S99)) (a0_2 : ByteArray) : Option (Int) := (spec_CcSeconds.f k l0_1 (⟨#[115, 45, 109, 97, 120, 97, 103, 101]⟩ : ByteArray)).bind fun bt102 => (if bt102.2 = true then (some bt102.1) else ((spec_CcSeconds.f k l0_1 (⟨#[109, 97, 120, 45, 97, 103, 101]⟩ : ByteArray)).bind fun bt104 => (if bt104.2 = true then (some bt104.1) else ((spec_DateOf.f k l0_1 (⟨#[100, 97, 116, 101]⟩ : ByteArray)).bind fun bt106 => ((spec_FieldGet.f k l0_1 (⟨#[101, 120, 112, 105, 114, 101, 115]⟩ : ByteArray)).bind fun bt108 => (if bt108.2 = true then ((spec_DateOf.f k l0_1 (⟨#[101, 120, 112, 105, 114, 101, 115]⟩ : ByteArray)).bind fun bt110 => (if bt110.2 = true then (spec_Lifetime.j0 k bt106.1 bt110.1 (!bt106.2)) else (spec_Lifetime.j0 k bt106.1 bt110.1 true))) else ((spec_DateOf.f k l0_1 (⟨#[108, 97, 115, 116, 45, 109, 111, 100, 105, 102, 105, 101, 100]⟩ : ByteArray)).bind fun bt112 => (if bt106.2 = true then (if bt112.2 = true then (some (wrap64 ((mx 0 (wrap64 (bt106.1 - bt112.1))) / 10))) else (some 0)) else (some 0)))))))))
theorem spec_Lifetime.mono_l : ∀ k, (∀ y0 y1 y2, LeO (spec_Lifetime.j0 k y0 y1 y2) (spec_Lifetime.j0 (k + 1) y0 y1 y2))
 | 0 => fun _ _ _ r h => by simp [spec_Lifetime.j0] at h
 | k + 1 => by
  have ih0 := spec_Lifetime.mono_l k
  ·intro y0 y1 y2
   unfold spec_Lifetime.j0
   repeat' first
   | (with_reducible exact ih0 _ _ _)
   | (with_reducible exact spec_CcSeconds.mono _ _ _)
   | (with_reducible exact spec_DateOf.mono _ _ _)
   | (with_reducible exact spec_FieldGet.mono _ _ _)
   | (with_reducible exact LeO.refl _)
   | (with_reducible exact LeO.none _)
   | (with_reducible refine LeO.ite ?_ ?_)
   | (with_reducible refine LeO.bind ?_ (fun _ => ?_))
   | exact ih0 _ _ _
   | exact spec_CcSeconds.mono _ _ _
   | exact spec_DateOf.mono _ _ _
   | exact spec_FieldGet.mono _ _ _
   | exact LeO.none _
   | refine LeO.ite ?_ ?_
   | refine LeO.bind ?_ (fun _ => ?_)
theorem spec_Lifetime.mono : ∀ a0 a1 a2 k, LeO (spec_Lifetime.f k a0 a1 a2) (spec_Lifetime.f (k + 1) a0 a1 a2) := by
 intro a0 a1 a2 k
 have ih0 := spec_Lifetime.mono_l k
 unfold spec_Lifetime.f
 repeat' first
   | (with_reducible exact ih0 _ _ _)
   | (with_reducible exact spec_CcSeconds.mono _ _ _)
   | (with_reducible exact spec_DateOf.mono _ _ _)
   | (with_reducible exact spec_FieldGet.mono _ _ _)
   | (with_reducible exact LeO.refl _)
   | (with_reducible exact LeO.none _)
   | (with_reducible refine LeO.ite ?_ ?_)
   | (with_reducible refine LeO.bind ?_ (fun _ => ?_))
   | exact ih0 _ _ _
   | exact spec_CcSeconds.mono _ _ _
   | exact spec_DateOf.mono _ _ _
   | exact spec_FieldGet.mono _ _ _
   | exact LeO.none _
   | refine LeO.ite ?_ ?_
   | refine LeO.bind ?_ (fun _ => ?_)
set_option maxHeartbeats 8000000 in
set_option maxRecDepth 100000 in
theorem spec_Lifetime.calls (k : Nat) (a0_0 : Int) (A0_1 : Option Addr) (c0_1 : Nat) (l0_1 : List (S99)) (a0_2 : ByteArray) (r : Int) (w : World) (hr0_1 : Kd.C k99 w A0_1 l0_1.length l0_1) (hc0_1 : l0_1.length ≤ c0_1) (h : spec_Lifetime.f k a0_0 l0_1 a0_2 = some r) :
  Calls Tryz.prog 16 #[.agg #[.int .i64 a0_0, .slice A0_1 l0_1.length c0_1, .string a0_2]] w fun e w' => e = .returned (.int .i64 r) ∧ Below w.heap.size w w' := by
 have hu29 := Tryz.underlying29
 have HR0_1 := Aside0.mk hr0_1
 have HC0_1 := Aside0.mk hc0_1
 clear hr0_1 hc0_1
 have HB := Aside0.mk (Below.refl w.heap.size w)
 have H : ((spec_CcSeconds.f k l0_1 (⟨#[115, 45, 109, 97, 120, 97, 103, 101]⟩ : ByteArray)).bind fun bt102 => (if bt102.2 = true then (some bt102.1) else ((spec_CcSeconds.f k l0_1 (⟨#[109, 97, 120, 45, 97, 103, 101]⟩ : ByteArray)).bind fun bt104 => (if bt104.2 = true then (some bt104.1) else ((spec_DateOf.f k l0_1 (⟨#[100, 97, 116, 101]⟩ : ByteArray)).bind fun bt106 => ((spec_FieldGet.f k l0_1 (⟨#[101, 120, 112, 105, 114, 101, 115]⟩ : ByteArray)).bind fun bt108 => (if bt108.2 = true then ((spec_DateOf.f k l0_1 (⟨#[101, 120, 112, 105, 114, 101, 115]⟩ : ByteArray)).bind fun bt110 => (if bt110.2 = true then (spec_Lifetime.j0 k bt106.1 bt110.1 (!bt106.2)) else (spec_Lifetime.j0 k bt106.1 bt110.1 true))) else ((spec_DateOf.f k l0_1 (⟨#[108, 97, 115, 116, 45, 109, 111, 100, 105, 102, 105, 101, 100]⟩ : ByteArray)).bind fun bt112 => (if bt106.2 = true then (if bt112.2 = true then (some (wrap64 ((mx 0 (wrap64 (bt106.1 - bt112.1))) / 10))) else (some 0)) else (some 0)))))))))) = some r := h
 clear h
 replace H := Option.bind_eq_some_iff.mp H
 obtain ⟨⟨t102, t103⟩, A20, H⟩ := H
 try dsimp only at H
 have A2 := Aside0.mk A20
 clear A20
 by_cases c3 : t103 = true
 ·subst c3
  rw [if_pos rfl] at H
  obtain rfl := Option.some.inj H
  go_enter Tryz.func16, Tryz.ntmps16
  go_wp2_with (first | ((with_reducible refine gate_dst (N := 1) rfl ?_); refine box_event ?hg (N := 1) ?hd (cs := #[.int .i64 a0_0, .slice A0_1 l0_1.length c0_1, .string a0_2]) (t := 29) ?hr ?_; (case hd => rfl); (case hg => rfl); (case hr => first | (go_simp; done) | (go_simp; rfl)); intro gb101 hg w4 hbox hb; have n0_ := Aside0.mk (below_step bq hb); have n1_ := Aside0.mk (hbox); have n2_ := Aside0.mk ((by rw [hg]; exact (below_size bq) : w.heap.size ≤ gb101)); have n3_ := Aside0.mk ((by rw [hg]; exact (below_size bq) : w.heap.size ≤ gb101)); clear HB; have HB := n0_; have BK101 := n1_; have GW101 := n2_; have GE101 := n3_; clear n0_ n1_ n2_ n3_; clear hb hbox hg; have hcz5_0 : w4.cell? ⟨gb101, 0, none⟩ = some (.int .i64 a0_0) := (blk_cell BK101.out 0).trans rfl; have hcz5_1 : w4.cell? ⟨gb101, 1, none⟩ = some (.slice A0_1 l0_1.length c0_1) := (blk_cell BK101.out 1).trans rfl; have hcz5_2 : w4.cell? ⟨gb101, 2, none⟩ = some (.string a0_2) := (blk_cell BK101.out 2).trans rfl; have hfz5_0 := blk_frozen BK101.out 0; have hfz5_1 := blk_frozen BK101.out 1; have hfz5_2 := blk_frozen BK101.out 2) | ((with_reducible refine gate_callee (f := 25) rfl ?_); refine goesL_ (some 16) rfl rfl Tryz.func25 (by kernel_rfl) rfl #[.slice A0_1 l0_1.length c0_1, .string (⟨#[115, 45, 109, 97, 120, 97, 103, 101]⟩ : ByteArray)] rfl am ?_; (with_reducible refine (spec_CcSeconds.calls k _ _ l0_1 (⟨#[115, 45, 109, 97, 120, 97, 103, 101]⟩ : ByteArray) t102 true _ ?side1 ?side2 A2.out).mono ?_); (case side1 => repeat (first | exact (Kd.C_below HR0_1.out HB.out) | (with_reducible refine Kd.C_alloc ?_ _) | (with_reducible refine Kd.C_drewN ?_ _) | (with_reducible refine Kd.C_drew ?_))); (case side2 => exact HC0_1.out); rintro e w6 ⟨rfl, hb⟩; refine ⟨_, rfl, ?_⟩; have n0_ := Aside0.mk (blk_below (g := gb101) (o := .cells #[.int .i64 a0_0, .slice A0_1 l0_1.length c0_1, .string a0_2] 29 (0, 0)) (by (with_reducible repeat (first | refine blk_drewN ?_ _ | refine blk_drew ?_ | refine blk_alloc ?_ _)); exact BK101.out) hb); have n1_ := Aside0.mk (below_step (by repeat (first | (with_reducible first | exact HB.out | apply below_alloc | apply pw_below_drewN | apply below_drew1 | refine below_set ?_ GE101.out) | exact HB.out)) hb); clear BK101; clear HB; have BK101 := n0_; have HB := n1_; clear n0_ n1_; (try clear hb); (try clear hb2); (try clear hk); (try clear hi)))
  go_ret
  exact ⟨by first | rfl | (simp [errW_none, errW_some] <;> rfl) | (simp [*, errW_none, errW_some] <;> rfl), by repeat (first | (with_reducible first | exact HB.out | apply below_alloc | apply pw_below_drewN | apply below_drew1 | refine below_set ?_ GE101.out) | exact HB.out)⟩
 ·replace c3 := Bool.eq_false_iff.mpr c3
  subst c3
  rw [if_neg (show ¬ (false = true) by decide)] at H
  replace H := Option.bind_eq_some_iff.mp H
  obtain ⟨⟨t104, t105⟩, A70, H⟩ := H
  try dsimp only at H
  have A7 := Aside0.mk A70
  clear A70
  by_cases c8 : t105 = true
  ·subst c8
   rw [if_pos rfl] at H
   obtain rfl := Option.some.inj H
   go_enter Tryz.func16, Tryz.ntmps16
   go_wp2_with (first | ((with_reducible refine gate_dst (N := 1) rfl ?_); refine box_event ?hg (N := 1) ?hd (cs := #[.int .i64 a0_0, .slice A0_1 l0_1.length c0_1, .string a0_2]) (t := 29) ?hr ?_; (case hd => rfl); (case hg => rfl); (case hr => first | (go_simp; done) | (go_simp; rfl)); intro gb101 hg w9 hbox hb; have n0_ := Aside0.mk (below_step bq hb); have n1_ := Aside0.mk (hbox); have n2_ := Aside0.mk ((by rw [hg]; exact (below_size bq) : w.heap.size ≤ gb101)); have n3_ := Aside0.mk ((by rw [hg]; exact (below_size bq) : w.heap.size ≤ gb101)); clear HB; have HB := n0_; have BK101 := n1_; have GW101 := n2_; have GE101 := n3_; clear n0_ n1_ n2_ n3_; clear hb hbox hg; have hcz10_0 : w9.cell? ⟨gb101, 0, none⟩ = some (.int .i64 a0_0) := (blk_cell BK101.out 0).trans rfl; have hcz10_1 : w9.cell? ⟨gb101, 1, none⟩ = some (.slice A0_1 l0_1.length c0_1) := (blk_cell BK101.out 1).trans rfl; have hcz10_2 : w9.cell? ⟨gb101, 2, none⟩ = some (.string a0_2) := (blk_cell BK101.out 2).trans rfl; have hfz10_0 := blk_frozen BK101.out 0; have hfz10_1 := blk_frozen BK101.out 1; have hfz10_2 := blk_frozen BK101.out 2) | ((with_reducible refine gate_callee (f := 25) rfl ?_); refine goesL_ (some 16) rfl rfl Tryz.func25 (by kernel_rfl) rfl #[.slice A0_1 l0_1.length c0_1, .string (⟨#[115, 45, 109, 97, 120, 97, 103, 101]⟩ : ByteArray)] rfl am ?_; (with_reducible refine (spec_CcSeconds.calls k _ _ l0_1 (⟨#[115, 45, 109, 97, 120, 97, 103, 101]⟩ : ByteArray) t102 false _ ?side1 ?side2 A2.out).mono ?_); (case side1 => repeat (first | exact (Kd.C_below HR0_1.out HB.out) | (with_reducible refine Kd.C_alloc ?_ _) | (with_reducible refine Kd.C_drewN ?_ _) | (with_reducible refine Kd.C_drew ?_))); (case side2 => exact HC0_1.out); rintro e w11 ⟨rfl, hb⟩; refine ⟨_, rfl, ?_⟩; have n0_ := Aside0.mk (blk_below (g := gb101) (o := .cells #[.int .i64 a0_0, .slice A0_1 l0_1.length c0_1, .string a0_2] 29 (0, 0)) (by (with_reducible repeat (first | refine blk_drewN ?_ _ | refine blk_drew ?_ | refine blk_alloc ?_ _)); exact BK101.out) hb); have n1_ := Aside0.mk (below_step (by repeat (first | (with_reducible first | exact HB.out | apply below_alloc | apply pw_below_drewN | apply below_drew1 | refine below_set ?_ GE101.out) | exact HB.out)) hb); clear BK101; clear HB; have BK101 := n0_; have HB := n1_; clear n0_ n1_; (try clear hb); (try clear hb2); (try clear hk); (try clear hi); have hcz12_0 : w11.cell? ⟨gb101, 0, none⟩ = some (.int .i64 a0_0) := (blk_cell BK101.out 0).trans rfl; have hcz12_1 : w11.cell? ⟨gb101, 1, none⟩ = some (.slice A0_1 l0_1.length c0_1) := (blk_cell BK101.out 1).trans rfl; have hcz12_2 : w11.cell? ⟨gb101, 2, none⟩ = some (.string a0_2) := (blk_cell BK101.out 2).trans rfl; have hfz12_0 := blk_frozen BK101.out 0; have hfz12_1 := blk_frozen BK101.out 1; have hfz12_2 := blk_frozen BK101.out 2) | ((with_reducible refine gate_callee (f := 25) rfl ?_); refine goesL_ (some 24) rfl rfl Tryz.func25 (by kernel_rfl) rfl #[.slice A0_1 l0_1.length c0_1, .string (⟨#[109, 97, 120, 45, 97, 103, 101]⟩ : ByteArray)] rfl am ?_; (with_reducible refine (spec_CcSeconds.calls k _ _ l0_1 (⟨#[109, 97, 120, 45, 97, 103, 101]⟩ : ByteArray) t104 true _ ?side1 ?side2 A7.out).mono ?_); (case side1 => repeat (first | exact (Kd.C_below HR0_1.out HB.out) | (with_reducible refine Kd.C_alloc ?_ _) | (with_reducible refine Kd.C_drewN ?_ _) | (with_reducible refine Kd.C_drew ?_))); (case side2 => exact HC0_1.out); rintro e w13 ⟨rfl, hb⟩; refine ⟨_, rfl, ?_⟩; have n0_ := Aside0.mk (blk_below (g := gb101) (o := .cells #[.int .i64 a0_0, .slice A0_1 l0_1.length c0_1, .string a0_2] 29 (0, 0)) (by (with_reducible repeat (first | refine blk_drewN ?_ _ | refine blk_drew ?_ | refine blk_alloc ?_ _)); exact BK101.out) hb); have n1_ := Aside0.mk (below_step (by repeat (first | (with_reducible first | exact HB.out | apply below_alloc | apply pw_below_drewN | apply below_drew1 | refine below_set ?_ GE101.out) | exact HB.out)) hb); clear BK101; clear HB; have BK101 := n0_; have HB := n1_; clear n0_ n1_; (try clear hb); (try clear hb2); (try clear hk); (try clear hi)))
   go_ret
   exact ⟨by first | rfl | (simp [errW_none, errW_some] <;> rfl) | (simp [*, errW_none, errW_some] <;> rfl), by repeat (first | (with_reducible first | exact HB.out | apply below_alloc | apply pw_below_drewN | apply below_drew1 | refine below_set ?_ GE101.out) | exact HB.out)⟩
  ·replace c8 := Bool.eq_false_iff.mpr c8
   subst c8
   rw [if_neg (show ¬ (false = true) by decide)] at H
   replace H := Option.bind_eq_some_iff.mp H
   obtain ⟨⟨t106, t107⟩, A140, H⟩ := H
   try dsimp only at H
   have A14 := Aside0.mk A140
   clear A140
   replace H := Option.bind_eq_some_iff.mp H
   obtain ⟨⟨t108, t109⟩, A150, H⟩ := H
   try dsimp only at H
   have A15 := Aside0.mk A150
   clear A150
   by_cases c16 : t109 = true
   ·subst c16
    rw [if_pos rfl] at H
    replace H := Option.bind_eq_some_iff.mp H
    obtain ⟨⟨t110, t111⟩, A170, H⟩ := H
    try dsimp only at H
    have A17 := Aside0.mk A170
    clear A170
    have HC18 := Aside0.mk H
    clear H
    go_enter Tryz.func16, Tryz.ntmps16
    go_upto_region 11 with (first | ((with_reducible refine gate_dst (N := 1) rfl ?_); refine box_event ?hg (N := 1) ?hd (cs := #[.int .i64 a0_0, .slice A0_1 l0_1.length c0_1, .string a0_2]) (t := 29) ?hr ?_; (case hd => rfl); (case hg => rfl); (case hr => first | (go_simp; done) | (go_simp; rfl)); intro gb101 hg w19 hbox hb; have n0_ := Aside0.mk (below_step bq hb); have n1_ := Aside0.mk (hbox); have n2_ := Aside0.mk ((by rw [hg]; exact (below_size bq) : w.heap.size ≤ gb101)); have n3_ := Aside0.mk ((by rw [hg]; exact (below_size bq) : w.heap.size ≤ gb101)); clear HB; have HB := n0_; have BK101 := n1_; have GW101 := n2_; have GE101 := n3_; clear n0_ n1_ n2_ n3_; clear hb hbox hg; have hcz20_0 : w19.cell? ⟨gb101, 0, none⟩ = some (.int .i64 a0_0) := (blk_cell BK101.out 0).trans rfl; have hcz20_1 : w19.cell? ⟨gb101, 1, none⟩ = some (.slice A0_1 l0_1.length c0_1) := (blk_cell BK101.out 1).trans rfl; have hcz20_2 : w19.cell? ⟨gb101, 2, none⟩ = some (.string a0_2) := (blk_cell BK101.out 2).trans rfl; have hfz20_0 := blk_frozen BK101.out 0; have hfz20_1 := blk_frozen BK101.out 1; have hfz20_2 := blk_frozen BK101.out 2) | ((with_reducible refine gate_callee (f := 25) rfl ?_); refine goesL_ (some 16) rfl rfl Tryz.func25 (by kernel_rfl) rfl #[.slice A0_1 l0_1.length c0_1, .string (⟨#[115, 45, 109, 97, 120, 97, 103, 101]⟩ : ByteArray)] rfl am ?_; (with_reducible refine (spec_CcSeconds.calls k _ _ l0_1 (⟨#[115, 45, 109, 97, 120, 97, 103, 101]⟩ : ByteArray) t102 false _ ?side1 ?side2 A2.out).mono ?_); (case side1 => repeat (first | exact (Kd.C_below HR0_1.out HB.out) | (with_reducible refine Kd.C_alloc ?_ _) | (with_reducible refine Kd.C_drewN ?_ _) | (with_reducible refine Kd.C_drew ?_))); (case side2 => exact HC0_1.out); rintro e w21 ⟨rfl, hb⟩; refine ⟨_, rfl, ?_⟩; have n0_ := Aside0.mk (blk_below (g := gb101) (o := .cells #[.int .i64 a0_0, .slice A0_1 l0_1.length c0_1, .string a0_2] 29 (0, 0)) (by (with_reducible repeat (first | refine blk_drewN ?_ _ | refine blk_drew ?_ | refine blk_alloc ?_ _)); exact BK101.out) hb); have n1_ := Aside0.mk (below_step (by repeat (first | (with_reducible first | exact HB.out | apply below_alloc | apply pw_below_drewN | apply below_drew1 | refine below_set ?_ GE101.out) | exact HB.out)) hb); clear BK101; clear HB; have BK101 := n0_; have HB := n1_; clear n0_ n1_; (try clear hb); (try clear hb2); (try clear hk); (try clear hi); have hcz22_0 : w21.cell? ⟨gb101, 0, none⟩ = some (.int .i64 a0_0) := (blk_cell BK101.out 0).trans rfl; have hcz22_1 : w21.cell? ⟨gb101, 1, none⟩ = some (.slice A0_1 l0_1.length c0_1) := (blk_cell BK101.out 1).trans rfl; have hcz22_2 : w21.cell? ⟨gb101, 2, none⟩ = some (.string a0_2) := (blk_cell BK101.out 2).trans rfl; have hfz22_0 := blk_frozen BK101.out 0; have hfz22_1 := blk_frozen BK101.out 1; have hfz22_2 := blk_frozen BK101.out 2) | ((with_reducible refine gate_callee (f := 25) rfl ?_); refine goesL_ (some 24) rfl rfl Tryz.func25 (by kernel_rfl) rfl #[.slice A0_1 l0_1.length c0_1, .string (⟨#[109, 97, 120, 45, 97, 103, 101]⟩ : ByteArray)] rfl am ?_; (with_reducible refine (spec_CcSeconds.calls k _ _ l0_1 (⟨#[109, 97, 120, 45, 97, 103, 101]⟩ : ByteArray) t104 false _ ?side1 ?side2 A7.out).mono ?_); (case side1 => repeat (first | exact (Kd.C_below HR0_1.out HB.out) | (with_reducible refine Kd.C_alloc ?_ _) | (with_reducible refine Kd.C_drewN ?_ _) | (with_reducible refine Kd.C_drew ?_))); (case side2 => exact HC0_1.out); rintro e w23 ⟨rfl, hb⟩; refine ⟨_, rfl, ?_⟩; have n0_ := Aside0.mk (blk_below (g := gb101) (o := .cells #[.int .i64 a0_0, .slice A0_1 l0_1.length c0_1, .string a0_2] 29 (0, 0)) (by (with_reducible repeat (first | refine blk_drewN ?_ _ | refine blk_drew ?_ | refine blk_alloc ?_ _)); exact BK101.out) hb); have n1_ := Aside0.mk (below_step (by repeat (first | (with_reducible first | exact HB.out | apply below_alloc | apply pw_below_drewN | apply below_drew1 | refine below_set ?_ GE101.out) | exact HB.out)) hb); clear BK101; clear HB; have BK101 := n0_; have HB := n1_; clear n0_ n1_; (try clear hb); (try clear hb2); (try clear hk); (try clear hi); have hcz24_0 : w23.cell? ⟨gb101, 0, none⟩ = some (.int .i64 a0_0) := (blk_cell BK101.out 0).trans rfl; have hcz24_1 : w23.cell? ⟨gb101, 1, none⟩ = some (.slice A0_1 l0_1.length c0_1) := (blk_cell BK101.out 1).trans rfl; have hcz24_2 : w23.cell? ⟨gb101, 2, none⟩ = some (.string a0_2) := (blk_cell BK101.out 2).trans rfl; have hfz24_0 := blk_frozen BK101.out 0; have hfz24_1 := blk_frozen BK101.out 1; have hfz24_2 := blk_frozen BK101.out 2) | ((with_reducible refine gate_callee (f := 45) rfl ?_); refine goesL_ (some 32) rfl rfl Tryz.func45 (by kernel_rfl) rfl #[.slice A0_1 l0_1.length c0_1, .string (⟨#[100, 97, 116, 101]⟩ : ByteArray)] rfl am ?_; (with_reducible refine (spec_DateOf.calls k _ _ l0_1 (⟨#[100, 97, 116, 101]⟩ : ByteArray) t106 t107 _ ?side1 ?side2 A14.out).mono ?_); (case side1 => repeat (first | exact (Kd.C_below HR0_1.out HB.out) | (with_reducible refine Kd.C_alloc ?_ _) | (with_reducible refine Kd.C_drewN ?_ _) | (with_reducible refine Kd.C_drew ?_))); (case side2 => exact HC0_1.out); rintro e w25 ⟨rfl, hb⟩; refine ⟨_, rfl, ?_⟩; have n0_ := Aside0.mk (blk_below (g := gb101) (o := .cells #[.int .i64 a0_0, .slice A0_1 l0_1.length c0_1, .string a0_2] 29 (0, 0)) (by (with_reducible repeat (first | refine blk_drewN ?_ _ | refine blk_drew ?_ | refine blk_alloc ?_ _)); exact BK101.out) hb); have n1_ := Aside0.mk (below_step (by repeat (first | (with_reducible first | exact HB.out | apply below_alloc | apply pw_below_drewN | apply below_drew1 | refine below_set ?_ GE101.out) | exact HB.out)) hb); clear BK101; clear HB; have BK101 := n0_; have HB := n1_; clear n0_ n1_; (try clear hb); (try clear hb2); (try clear hk); (try clear hi); have hcz26_0 : w25.cell? ⟨gb101, 0, none⟩ = some (.int .i64 a0_0) := (blk_cell BK101.out 0).trans rfl; have hcz26_1 : w25.cell? ⟨gb101, 1, none⟩ = some (.slice A0_1 l0_1.length c0_1) := (blk_cell BK101.out 1).trans rfl; have hcz26_2 : w25.cell? ⟨gb101, 2, none⟩ = some (.string a0_2) := (blk_cell BK101.out 2).trans rfl; have hfz26_0 := blk_frozen BK101.out 0; have hfz26_1 := blk_frozen BK101.out 1; have hfz26_2 := blk_frozen BK101.out 2) | ((with_reducible refine gate_callee (f := 44) rfl ?_); refine goesL_ (some 38) rfl rfl Tryz.func44 (by kernel_rfl) rfl #[.slice A0_1 l0_1.length c0_1, .string (⟨#[101, 120, 112, 105, 114, 101, 115]⟩ : ByteArray)] rfl am ?_; (with_reducible refine (spec_FieldGet.calls k _ _ l0_1 (⟨#[101, 120, 112, 105, 114, 101, 115]⟩ : ByteArray) t108 true _ ?side1 ?side2 A15.out).mono ?_); (case side1 => repeat (first | exact (Kd.C_below HR0_1.out HB.out) | (with_reducible refine Kd.C_alloc ?_ _) | (with_reducible refine Kd.C_drewN ?_ _) | (with_reducible refine Kd.C_drew ?_))); (case side2 => exact HC0_1.out); rintro e w' ⟨rfl, ⟨nd, rfl⟩⟩; refine ⟨_, rfl, ?_⟩) | ((with_reducible refine gate_callee (f := 45) rfl ?_); refine goesL_ (some 45) rfl rfl Tryz.func45 (by kernel_rfl) rfl #[.slice A0_1 l0_1.length c0_1, .string (⟨#[101, 120, 112, 105, 114, 101, 115]⟩ : ByteArray)] rfl am ?_; (with_reducible refine (spec_DateOf.calls k _ _ l0_1 (⟨#[101, 120, 112, 105, 114, 101, 115]⟩ : ByteArray) t110 t111 _ ?side1 ?side2 A17.out).mono ?_); (case side1 => repeat (first | exact (Kd.C_below HR0_1.out (by repeat (first | (with_reducible first | exact HB.out | apply below_alloc | apply pw_below_drewN | apply below_drew1 | refine below_set ?_ GE101.out) | exact HB.out))) | (with_reducible refine Kd.C_alloc ?_ _) | (with_reducible refine Kd.C_drewN ?_ _) | (with_reducible refine Kd.C_drew ?_))); (case side2 => exact HC0_1.out); rintro e w27 ⟨rfl, hb⟩; refine ⟨_, rfl, ?_⟩; have n0_ := Aside0.mk (blk_below (g := gb101) (o := .cells #[.int .i64 a0_0, .slice A0_1 l0_1.length c0_1, .string a0_2] 29 (0, 0)) (by (with_reducible repeat (first | refine blk_drewN ?_ _ | refine blk_drew ?_ | refine blk_alloc ?_ _)); exact BK101.out) hb); have n1_ := Aside0.mk (below_step (by repeat (first | (with_reducible first | exact HB.out | apply below_alloc | apply pw_below_drewN | apply below_drew1 | refine below_set ?_ GE101.out) | exact HB.out)) hb); clear BK101; clear HB; have BK101 := n0_; have HB := n1_; clear n0_ n1_; (try clear hb); (try clear hb2); (try clear hk); (try clear hi)))
    (try simp only [Act.put, List.setIfInBounds_toArray, List.set_cons_zero, List.set_cons_succ])
    go_cut [53] (fun v53 wc => ∃ (kq : Nat) (x53_17 : Bool), v53 = .bool x53_17 ∧ Aside0 (spec_Lifetime.j0 kq t106 t110 x53_17 = some r) ∧ Aside0 (kq ≤ k) ∧ Aside0 (wc.heap[gb101]? = some (.cells #[.int .i64 a0_0, (.slice A0_1 l0_1.length c0_1), .string a0_2] 29 (0, 0))) ∧ Aside0 (Below w.heap.size w wc))
    case first =>
     have H := HC18.out
     clear HC18
     by_cases c28 : t111 = true
     ·subst c28
      rw [if_pos rfl] at H
      have H' := Aside0.mk H
      clear H
      go_wp2
      go_meet
      case rel => exact ⟨_, (!t107), (by first | rfl | (simp; done) | (simp [*]; done)), H', ⟨by first | omega | exact Nat.le_refl _⟩, ⟨by (with_reducible repeat (first | refine blk_drewN ?_ _ | refine blk_drew ?_ | refine blk_alloc ?_ _)); exact BK101.out⟩, ⟨by repeat (first | (with_reducible first | exact HB.out | apply below_alloc | apply pw_below_drewN | apply below_drew1 | refine below_set ?_ GE101.out) | exact HB.out)⟩⟩
     ·replace c28 := Bool.eq_false_iff.mpr c28
      subst c28
      rw [if_neg (show ¬ (false = true) by decide)] at H
      have H' := Aside0.mk H
      clear H
      go_wp2
      go_meet
      case rel => exact ⟨_, (true), (by first | rfl | (simp; done) | (simp [*]; done)), H', ⟨by first | omega | exact Nat.le_refl _⟩, ⟨by (with_reducible repeat (first | refine blk_drewN ?_ _ | refine blk_drew ?_ | refine blk_alloc ?_ _)); exact BK101.out⟩, ⟨by repeat (first | (with_reducible first | exact HB.out | apply below_alloc | apply pw_below_drewN | apply below_drew1 | refine below_set ?_ GE101.out) | exact HB.out)⟩⟩
    case rest =>
     clear HC18
     try clear c1
     try clear c2
     try clear p2
     try clear c3
     try clear c4
     try clear p6
     try clear c8
     try clear c16
     try clear c25
     try clear c28
     try clear hcz10_0
     try clear hcz10_1
     try clear hcz10_2
     try clear hcz12_0
     try clear hcz12_1
     try clear hcz12_2
     try clear hcz20_0
     try clear hcz20_1
     try clear hcz20_2
     try clear hcz22_0
     try clear hcz22_1
     try clear hcz22_2
     try clear hcz24_0
     try clear hcz24_1
     try clear hcz24_2
     try clear hcz26_0
     try clear hcz26_1
     try clear hcz26_2
     try clear hcz5_0
     try clear hcz5_1
     try clear hcz5_2
     try clear hfz10_0
     try clear hfz10_1
     try clear hfz10_2
     try clear hfz12_0
     try clear hfz12_1
     try clear hfz12_2
     try clear hfz20_0
     try clear hfz20_1
     try clear hfz20_2
     try clear hfz22_0
     try clear hfz22_1
     try clear hfz22_2
     try clear hfz24_0
     try clear hfz24_1
     try clear hfz24_2
     try clear hfz26_0
     try clear hfz26_1
     try clear hfz26_2
     try clear hfz5_0
     try clear hfz5_1
     try clear hfz5_2
     obtain ⟨kq, x53_17, rfl, HA, HJ17, BK101, HB⟩ := hcut
     cases kq with
     | zero => exact absurd HA.out (by simp [spec_Lifetime.j0])
     | succ kj17 =>
      have H := HA.out
      clear HA
      simp only [spec_Lifetime.j0] at H
      by_cases c29 : x53_17 = true
      ·subst c29
       rw [if_pos rfl] at H
       obtain rfl := Option.some.inj H
       go_wp2
       go_ret
       exact ⟨by first | rfl | (simp [errW_none, errW_some] <;> rfl) | (simp [*, errW_none, errW_some] <;> rfl), by repeat (first | (with_reducible first | exact HB.out | apply below_alloc | apply pw_below_drewN | apply below_drew1 | refine below_set ?_ GE101.out) | exact HB.out)⟩
      ·replace c29 := Bool.eq_false_iff.mpr c29
       subst c29
       rw [if_neg (show ¬ (false = true) by decide)] at H
       obtain ⟨ji30, hji30⟩ : ∃ j_ : Int, (mx 0 (wrap64 (t110 - t106))) = j_ := ⟨_, rfl⟩
       replace H : (some ji30) = some r := by first | (rw [hji30] at H; exact H) | (simp only [hji30] at H ⊢; exact H)
       have hji30_ : (if 0 < (wrap64 (t110 - t106)) then (wrap64 (t110 - t106)) else 0) = ji30 := hji30
       obtain rfl := Option.some.inj H
       go_wp2
       go_ret
       exact ⟨by first | rfl | (have hq_ := Int.tdiv_eq_ediv_of_nonneg (b := 10) hji30l; first | (rw [hq_]; rfl) | (simp [errW_none, errW_some, hq_] <;> rfl)) | (simp [errW_none, errW_some] <;> rfl) | (simp only [← hji30]; first | rfl | (simp [errW_none, errW_some] <;> rfl)) | (simp [*, errW_none, errW_some] <;> rfl), by repeat (first | (with_reducible first | exact HB.out | apply below_alloc | apply pw_below_drewN | apply below_drew1 | refine below_set ?_ GE101.out) | exact HB.out)⟩
   ·replace c16 := Bool.eq_false_iff.mpr c16
    subst c16
    rw [if_neg (show ¬ (false = true) by decide)] at H
    replace H := Option.bind_eq_some_iff.mp H
    obtain ⟨⟨t112, t113⟩, A310, H⟩ := H
    try dsimp only at H
    have A31 := Aside0.mk A310
    clear A310
    by_cases c32 : t107 = true
    ·subst c32
     rw [if_pos rfl] at H
     by_cases c33 : t113 = true
     ·subst c33
      rw [if_pos rfl] at H
      obtain ⟨ji34, hji34⟩ : ∃ j_ : Int, (mx 0 (wrap64 (t106 - t112))) = j_ := ⟨_, rfl⟩
      replace H : (some (wrap64 ((ji34) / 10))) = some r := by first | (rw [hji34] at H; exact H) | (simp only [hji34] at H ⊢; exact H)
      (try rw [hji34] at A2)
      (try rw [hji34] at A7)
      (try rw [hji34] at A14)
      (try rw [hji34] at A15)
      (try rw [hji34] at A31)
      (try (have hji34l : 0 ≤ ji34 := by (rw [← hji34]; unfold mx; (repeat' split) <;> omega)))
      (try (have hji34m : 0 ≤ ji34 := by omega))
      have hji34_ : (if 0 < (wrap64 (t106 - t112)) then (wrap64 (t106 - t112)) else 0) = ji34 := hji34
      obtain rfl := Option.some.inj H
      go_enter Tryz.func16, Tryz.ntmps16
      go_wp2_with (first | ((with_reducible refine gate_dst (N := 1) rfl ?_); refine box_event ?hg (N := 1) ?hd (cs := #[.int .i64 a0_0, .slice A0_1 l0_1.length c0_1, .string a0_2]) (t := 29) ?hr ?_; (case hd => rfl); (case hg => rfl); (case hr => first | (go_simp; done) | (go_simp; rfl)); intro gb101 hg w35 hbox hb; have n0_ := Aside0.mk (below_step bq hb); have n1_ := Aside0.mk (hbox); have n2_ := Aside0.mk ((by rw [hg]; exact (below_size bq) : w.heap.size ≤ gb101)); have n3_ := Aside0.mk ((by rw [hg]; exact (below_size bq) : w.heap.size ≤ gb101)); clear HB; have HB := n0_; have BK101 := n1_; have GW101 := n2_; have GE101 := n3_; clear n0_ n1_ n2_ n3_; clear hb hbox hg; have hcz36_0 : w35.cell? ⟨gb101, 0, none⟩ = some (.int .i64 a0_0) := (blk_cell BK101.out 0).trans rfl; have hcz36_1 : w35.cell? ⟨gb101, 1, none⟩ = some (.slice A0_1 l0_1.length c0_1) := (blk_cell BK101.out 1).trans rfl; have hcz36_2 : w35.cell? ⟨gb101, 2, none⟩ = some (.string a0_2) := (blk_cell BK101.out 2).trans rfl; have hfz36_0 := blk_frozen BK101.out 0; have hfz36_1 := blk_frozen BK101.out 1; have hfz36_2 := blk_frozen BK101.out 2) | ((with_reducible refine gate_callee (f := 25) rfl ?_); refine goesL_ (some 16) rfl rfl Tryz.func25 (by kernel_rfl) rfl #[.slice A0_1 l0_1.length c0_1, .string (⟨#[115, 45, 109, 97, 120, 97, 103, 101]⟩ : ByteArray)] rfl am ?_; (with_reducible refine (spec_CcSeconds.calls k _ _ l0_1 (⟨#[115, 45, 109, 97, 120, 97, 103, 101]⟩ : ByteArray) t102 false _ ?side1 ?side2 A2.out).mono ?_); (case side1 => repeat (first | exact (Kd.C_below HR0_1.out HB.out) | (with_reducible refine Kd.C_alloc ?_ _) | (with_reducible refine Kd.C_drewN ?_ _) | (with_reducible refine Kd.C_drew ?_))); (case side2 => exact HC0_1.out); rintro e w37 ⟨rfl, hb⟩; refine ⟨_, rfl, ?_⟩; have n0_ := Aside0.mk (blk_below (g := gb101) (o := .cells #[.int .i64 a0_0, .slice A0_1 l0_1.length c0_1, .string a0_2] 29 (0, 0)) (by (with_reducible repeat (first | refine blk_drewN ?_ _ | refine blk_drew ?_ | refine blk_alloc ?_ _)); exact BK101.out) hb); have n1_ := Aside0.mk (below_step (by repeat (first | (with_reducible first | exact HB.out | apply below_alloc | apply pw_below_drewN | apply below_drew1 | refine below_set ?_ GE101.out) | exact HB.out)) hb); clear BK101; clear HB; have BK101 := n0_; have HB := n1_; clear n0_ n1_; (try clear hb); (try clear hb2); (try clear hk); (try clear hi); have hcz38_0 : w37.cell? ⟨gb101, 0, none⟩ = some (.int .i64 a0_0) := (blk_cell BK101.out 0).trans rfl; have hcz38_1 : w37.cell? ⟨gb101, 1, none⟩ = some (.slice A0_1 l0_1.length c0_1) := (blk_cell BK101.out 1).trans rfl; have hcz38_2 : w37.cell? ⟨gb101, 2, none⟩ = some (.string a0_2) := (blk_cell BK101.out 2).trans rfl; have hfz38_0 := blk_frozen BK101.out 0; have hfz38_1 := blk_frozen BK101.out 1; have hfz38_2 := blk_frozen BK101.out 2) | ((with_reducible refine gate_callee (f := 25) rfl ?_); refine goesL_ (some 24) rfl rfl Tryz.func25 (by kernel_rfl) rfl #[.slice A0_1 l0_1.length c0_1, .string (⟨#[109, 97, 120, 45, 97, 103, 101]⟩ : ByteArray)] rfl am ?_; (with_reducible refine (spec_CcSeconds.calls k _ _ l0_1 (⟨#[109, 97, 120, 45, 97, 103, 101]⟩ : ByteArray) t104 false _ ?side1 ?side2 A7.out).mono ?_); (case side1 => repeat (first | exact (Kd.C_below HR0_1.out HB.out) | (with_reducible refine Kd.C_alloc ?_ _) | (with_reducible refine Kd.C_drewN ?_ _) | (with_reducible refine Kd.C_drew ?_))); (case side2 => exact HC0_1.out); rintro e w39 ⟨rfl, hb⟩; refine ⟨_, rfl, ?_⟩; have n0_ := Aside0.mk (blk_below (g := gb101) (o := .cells #[.int .i64 a0_0, .slice A0_1 l0_1.length c0_1, .string a0_2] 29 (0, 0)) (by (with_reducible repeat (first | refine blk_drewN ?_ _ | refine blk_drew ?_ | refine blk_alloc ?_ _)); exact BK101.out) hb); have n1_ := Aside0.mk (below_step (by repeat (first | (with_reducible first | exact HB.out | apply below_alloc | apply pw_below_drewN | apply below_drew1 | refine below_set ?_ GE101.out) | exact HB.out)) hb); clear BK101; clear HB; have BK101 := n0_; have HB := n1_; clear n0_ n1_; (try clear hb); (try clear hb2); (try clear hk); (try clear hi); have hcz40_0 : w39.cell? ⟨gb101, 0, none⟩ = some (.int .i64 a0_0) := (blk_cell BK101.out 0).trans rfl; have hcz40_1 : w39.cell? ⟨gb101, 1, none⟩ = some (.slice A0_1 l0_1.length c0_1) := (blk_cell BK101.out 1).trans rfl; have hcz40_2 : w39.cell? ⟨gb101, 2, none⟩ = some (.string a0_2) := (blk_cell BK101.out 2).trans rfl; have hfz40_0 := blk_frozen BK101.out 0; have hfz40_1 := blk_frozen BK101.out 1; have hfz40_2 := blk_frozen BK101.out 2) | ((with_reducible refine gate_callee (f := 45) rfl ?_); refine goesL_ (some 32) rfl rfl Tryz.func45 (by kernel_rfl) rfl #[.slice A0_1 l0_1.length c0_1, .string (⟨#[100, 97, 116, 101]⟩ : ByteArray)] rfl am ?_; (with_reducible refine (spec_DateOf.calls k _ _ l0_1 (⟨#[100, 97, 116, 101]⟩ : ByteArray) t106 true _ ?side1 ?side2 A14.out).mono ?_); (case side1 => repeat (first | exact (Kd.C_below HR0_1.out HB.out) | (with_reducible refine Kd.C_alloc ?_ _) | (with_reducible refine Kd.C_drewN ?_ _) | (with_reducible refine Kd.C_drew ?_))); (case side2 => exact HC0_1.out); rintro e w41 ⟨rfl, hb⟩; refine ⟨_, rfl, ?_⟩; have n0_ := Aside0.mk (blk_below (g := gb101) (o := .cells #[.int .i64 a0_0, .slice A0_1 l0_1.length c0_1, .string a0_2] 29 (0, 0)) (by (with_reducible repeat (first | refine blk_drewN ?_ _ | refine blk_drew ?_ | refine blk_alloc ?_ _)); exact BK101.out) hb); have n1_ := Aside0.mk (below_step (by repeat (first | (with_reducible first | exact HB.out | apply below_alloc | apply pw_below_drewN | apply below_drew1 | refine below_set ?_ GE101.out) | exact HB.out)) hb); clear BK101; clear HB; have BK101 := n0_; have HB := n1_; clear n0_ n1_; (try clear hb); (try clear hb2); (try clear hk); (try clear hi); have hcz42_0 : w41.cell? ⟨gb101, 0, none⟩ = some (.int .i64 a0_0) := (blk_cell BK101.out 0).trans rfl; have hcz42_1 : w41.cell? ⟨gb101, 1, none⟩ = some (.slice A0_1 l0_1.length c0_1) := (blk_cell BK101.out 1).trans rfl; have hcz42_2 : w41.cell? ⟨gb101, 2, none⟩ = some (.string a0_2) := (blk_cell BK101.out 2).trans rfl; have hfz42_0 := blk_frozen BK101.out 0; have hfz42_1 := blk_frozen BK101.out 1; have hfz42_2 := blk_frozen BK101.out 2) | ((with_reducible refine gate_callee (f := 44) rfl ?_); refine goesL_ (some 38) rfl rfl Tryz.func44 (by kernel_rfl) rfl #[.slice A0_1 l0_1.length c0_1, .string (⟨#[101, 120, 112, 105, 114, 101, 115]⟩ : ByteArray)] rfl am ?_; (with_reducible refine (spec_FieldGet.calls k _ _ l0_1 (⟨#[101, 120, 112, 105, 114, 101, 115]⟩ : ByteArray) t108 false _ ?side1 ?side2 A15.out).mono ?_); (case side1 => repeat (first | exact (Kd.C_below HR0_1.out HB.out) | (with_reducible refine Kd.C_alloc ?_ _) | (with_reducible refine Kd.C_drewN ?_ _) | (with_reducible refine Kd.C_drew ?_))); (case side2 => exact HC0_1.out); rintro e w' ⟨rfl, ⟨nd, rfl⟩⟩; refine ⟨_, rfl, ?_⟩) | ((with_reducible refine gate_callee (f := 45) rfl ?_); refine goesL_ (some 61) rfl rfl Tryz.func45 (by kernel_rfl) rfl #[.slice A0_1 l0_1.length c0_1, .string (⟨#[108, 97, 115, 116, 45, 109, 111, 100, 105, 102, 105, 101, 100]⟩ : ByteArray)] rfl am ?_; (with_reducible refine (spec_DateOf.calls k _ _ l0_1 (⟨#[108, 97, 115, 116, 45, 109, 111, 100, 105, 102, 105, 101, 100]⟩ : ByteArray) t112 true _ ?side1 ?side2 A31.out).mono ?_); (case side1 => repeat (first | exact (Kd.C_below HR0_1.out (by repeat (first | (with_reducible first | exact HB.out | apply below_alloc | apply pw_below_drewN | apply below_drew1 | refine below_set ?_ GE101.out) | exact HB.out))) | (with_reducible refine Kd.C_alloc ?_ _) | (with_reducible refine Kd.C_drewN ?_ _) | (with_reducible refine Kd.C_drew ?_))); (case side2 => exact HC0_1.out); rintro e w43 ⟨rfl, hb⟩; refine ⟨_, rfl, ?_⟩; have n0_ := Aside0.mk (blk_below (g := gb101) (o := .cells #[.int .i64 a0_0, .slice A0_1 l0_1.length c0_1, .string a0_2] 29 (0, 0)) (by (with_reducible repeat (first | refine blk_drewN ?_ _ | refine blk_drew ?_ | refine blk_alloc ?_ _)); exact BK101.out) hb); have n1_ := Aside0.mk (below_step (by repeat (first | (with_reducible first | exact HB.out | apply below_alloc | apply pw_below_drewN | apply below_drew1 | refine below_set ?_ GE101.out) | exact HB.out)) hb); clear BK101; clear HB; have BK101 := n0_; have HB := n1_; clear n0_ n1_; (try clear hb); (try clear hb2); (try clear hk); (try clear hi)))
      go_ret
      exact ⟨by first | rfl | (have hq_ := Int.tdiv_eq_ediv_of_nonneg (b := 10) hji34l; first | (rw [hq_]; rfl) | (simp [errW_none, errW_some, hq_] <;> rfl)) | (simp [errW_none, errW_some] <;> rfl) | (simp only [← hji34]; first | rfl | (simp [errW_none, errW_some] <;> rfl)) | (simp [*, errW_none, errW_some] <;> rfl), by repeat (first | (with_reducible first | exact HB.out | apply below_alloc | apply pw_below_drewN | apply below_drew1 | refine below_set ?_ GE101.out) | exact HB.out)⟩
     ·replace c33 := Bool.eq_false_iff.mpr c33
      subst c33
      rw [if_neg (show ¬ (false = true) by decide)] at H
      obtain rfl := Option.some.inj H
      go_enter Tryz.func16, Tryz.ntmps16
      go_wp2_with (first | ((with_reducible refine gate_dst (N := 1) rfl ?_); refine box_event ?hg (N := 1) ?hd (cs := #[.int .i64 a0_0, .slice A0_1 l0_1.length c0_1, .string a0_2]) (t := 29) ?hr ?_; (case hd => rfl); (case hg => rfl); (case hr => first | (go_simp; done) | (go_simp; rfl)); intro gb101 hg w44 hbox hb; have n0_ := Aside0.mk (below_step bq hb); have n1_ := Aside0.mk (hbox); have n2_ := Aside0.mk ((by rw [hg]; exact (below_size bq) : w.heap.size ≤ gb101)); have n3_ := Aside0.mk ((by rw [hg]; exact (below_size bq) : w.heap.size ≤ gb101)); clear HB; have HB := n0_; have BK101 := n1_; have GW101 := n2_; have GE101 := n3_; clear n0_ n1_ n2_ n3_; clear hb hbox hg; have hcz45_0 : w44.cell? ⟨gb101, 0, none⟩ = some (.int .i64 a0_0) := (blk_cell BK101.out 0).trans rfl; have hcz45_1 : w44.cell? ⟨gb101, 1, none⟩ = some (.slice A0_1 l0_1.length c0_1) := (blk_cell BK101.out 1).trans rfl; have hcz45_2 : w44.cell? ⟨gb101, 2, none⟩ = some (.string a0_2) := (blk_cell BK101.out 2).trans rfl; have hfz45_0 := blk_frozen BK101.out 0; have hfz45_1 := blk_frozen BK101.out 1; have hfz45_2 := blk_frozen BK101.out 2) | ((with_reducible refine gate_callee (f := 25) rfl ?_); refine goesL_ (some 16) rfl rfl Tryz.func25 (by kernel_rfl) rfl #[.slice A0_1 l0_1.length c0_1, .string (⟨#[115, 45, 109, 97, 120, 97, 103, 101]⟩ : ByteArray)] rfl am ?_; (with_reducible refine (spec_CcSeconds.calls k _ _ l0_1 (⟨#[115, 45, 109, 97, 120, 97, 103, 101]⟩ : ByteArray) t102 false _ ?side1 ?side2 A2.out).mono ?_); (case side1 => repeat (first | exact (Kd.C_below HR0_1.out HB.out) | (with_reducible refine Kd.C_alloc ?_ _) | (with_reducible refine Kd.C_drewN ?_ _) | (with_reducible refine Kd.C_drew ?_))); (case side2 => exact HC0_1.out); rintro e w46 ⟨rfl, hb⟩; refine ⟨_, rfl, ?_⟩; have n0_ := Aside0.mk (blk_below (g := gb101) (o := .cells #[.int .i64 a0_0, .slice A0_1 l0_1.length c0_1, .string a0_2] 29 (0, 0)) (by (with_reducible repeat (first | refine blk_drewN ?_ _ | refine blk_drew ?_ | refine blk_alloc ?_ _)); exact BK101.out) hb); have n1_ := Aside0.mk (below_step (by repeat (first | (with_reducible first | exact HB.out | apply below_alloc | apply pw_below_drewN | apply below_drew1 | refine below_set ?_ GE101.out) | exact HB.out)) hb); clear BK101; clear HB; have BK101 := n0_; have HB := n1_; clear n0_ n1_; (try clear hb); (try clear hb2); (try clear hk); (try clear hi); have hcz47_0 : w46.cell? ⟨gb101, 0, none⟩ = some (.int .i64 a0_0) := (blk_cell BK101.out 0).trans rfl; have hcz47_1 : w46.cell? ⟨gb101, 1, none⟩ = some (.slice A0_1 l0_1.length c0_1) := (blk_cell BK101.out 1).trans rfl; have hcz47_2 : w46.cell? ⟨gb101, 2, none⟩ = some (.string a0_2) := (blk_cell BK101.out 2).trans rfl; have hfz47_0 := blk_frozen BK101.out 0; have hfz47_1 := blk_frozen BK101.out 1; have hfz47_2 := blk_frozen BK101.out 2) | ((with_reducible refine gate_callee (f := 25) rfl ?_); refine goesL_ (some 24) rfl rfl Tryz.func25 (by kernel_rfl) rfl #[.slice A0_1 l0_1.length c0_1, .string (⟨#[109, 97, 120, 45, 97, 103, 101]⟩ : ByteArray)] rfl am ?_; (with_reducible refine (spec_CcSeconds.calls k _ _ l0_1 (⟨#[109, 97, 120, 45, 97, 103, 101]⟩ : ByteArray) t104 false _ ?side1 ?side2 A7.out).mono ?_); (case side1 => repeat (first | exact (Kd.C_below HR0_1.out HB.out) | (with_reducible refine Kd.C_alloc ?_ _) | (with_reducible refine Kd.C_drewN ?_ _) | (with_reducible refine Kd.C_drew ?_))); (case side2 => exact HC0_1.out); rintro e w48 ⟨rfl, hb⟩; refine ⟨_, rfl, ?_⟩; have n0_ := Aside0.mk (blk_below (g := gb101) (o := .cells #[.int .i64 a0_0, .slice A0_1 l0_1.length c0_1, .string a0_2] 29 (0, 0)) (by (with_reducible repeat (first | refine blk_drewN ?_ _ | refine blk_drew ?_ | refine blk_alloc ?_ _)); exact BK101.out) hb); have n1_ := Aside0.mk (below_step (by repeat (first | (with_reducible first | exact HB.out | apply below_alloc | apply pw_below_drewN | apply below_drew1 | refine below_set ?_ GE101.out) | exact HB.out)) hb); clear BK101; clear HB; have BK101 := n0_; have HB := n1_; clear n0_ n1_; (try clear hb); (try clear hb2); (try clear hk); (try clear hi); have hcz49_0 : w48.cell? ⟨gb101, 0, none⟩ = some (.int .i64 a0_0) := (blk_cell BK101.out 0).trans rfl; have hcz49_1 : w48.cell? ⟨gb101, 1, none⟩ = some (.slice A0_1 l0_1.length c0_1) := (blk_cell BK101.out 1).trans rfl; have hcz49_2 : w48.cell? ⟨gb101, 2, none⟩ = some (.string a0_2) := (blk_cell BK101.out 2).trans rfl; have hfz49_0 := blk_frozen BK101.out 0; have hfz49_1 := blk_frozen BK101.out 1; have hfz49_2 := blk_frozen BK101.out 2) | ((with_reducible refine gate_callee (f := 45) rfl ?_); refine goesL_ (some 32) rfl rfl Tryz.func45 (by kernel_rfl) rfl #[.slice A0_1 l0_1.length c0_1, .string (⟨#[100, 97, 116, 101]⟩ : ByteArray)] rfl am ?_; (with_reducible refine (spec_DateOf.calls k _ _ l0_1 (⟨#[100, 97, 116, 101]⟩ : ByteArray) t106 true _ ?side1 ?side2 A14.out).mono ?_); (case side1 => repeat (first | exact (Kd.C_below HR0_1.out HB.out) | (with_reducible refine Kd.C_alloc ?_ _) | (with_reducible refine Kd.C_drewN ?_ _) | (with_reducible refine Kd.C_drew ?_))); (case side2 => exact HC0_1.out); rintro e w50 ⟨rfl, hb⟩; refine ⟨_, rfl, ?_⟩; have n0_ := Aside0.mk (blk_below (g := gb101) (o := .cells #[.int .i64 a0_0, .slice A0_1 l0_1.length c0_1, .string a0_2] 29 (0, 0)) (by (with_reducible repeat (first | refine blk_drewN ?_ _ | refine blk_drew ?_ | refine blk_alloc ?_ _)); exact BK101.out) hb); have n1_ := Aside0.mk (below_step (by repeat (first | (with_reducible first | exact HB.out | apply below_alloc | apply pw_below_drewN | apply below_drew1 | refine below_set ?_ GE101.out) | exact HB.out)) hb); clear BK101; clear HB; have BK101 := n0_; have HB := n1_; clear n0_ n1_; (try clear hb); (try clear hb2); (try clear hk); (try clear hi); have hcz51_0 : w50.cell? ⟨gb101, 0, none⟩ = some (.int .i64 a0_0) := (blk_cell BK101.out 0).trans rfl; have hcz51_1 : w50.cell? ⟨gb101, 1, none⟩ = some (.slice A0_1 l0_1.length c0_1) := (blk_cell BK101.out 1).trans rfl; have hcz51_2 : w50.cell? ⟨gb101, 2, none⟩ = some (.string a0_2) := (blk_cell BK101.out 2).trans rfl; have hfz51_0 := blk_frozen BK101.out 0; have hfz51_1 := blk_frozen BK101.out 1; have hfz51_2 := blk_frozen BK101.out 2) | ((with_reducible refine gate_callee (f := 44) rfl ?_); refine goesL_ (some 38) rfl rfl Tryz.func44 (by kernel_rfl) rfl #[.slice A0_1 l0_1.length c0_1, .string (⟨#[101, 120, 112, 105, 114, 101, 115]⟩ : ByteArray)] rfl am ?_; (with_reducible refine (spec_FieldGet.calls k _ _ l0_1 (⟨#[101, 120, 112, 105, 114, 101, 115]⟩ : ByteArray) t108 false _ ?side1 ?side2 A15.out).mono ?_); (case side1 => repeat (first | exact (Kd.C_below HR0_1.out HB.out) | (with_reducible refine Kd.C_alloc ?_ _) | (with_reducible refine Kd.C_drewN ?_ _) | (with_reducible refine Kd.C_drew ?_))); (case side2 => exact HC0_1.out); rintro e w' ⟨rfl, ⟨nd, rfl⟩⟩; refine ⟨_, rfl, ?_⟩) | ((with_reducible refine gate_callee (f := 45) rfl ?_); refine goesL_ (some 61) rfl rfl Tryz.func45 (by kernel_rfl) rfl #[.slice A0_1 l0_1.length c0_1, .string (⟨#[108, 97, 115, 116, 45, 109, 111, 100, 105, 102, 105, 101, 100]⟩ : ByteArray)] rfl am ?_; (with_reducible refine (spec_DateOf.calls k _ _ l0_1 (⟨#[108, 97, 115, 116, 45, 109, 111, 100, 105, 102, 105, 101, 100]⟩ : ByteArray) t112 false _ ?side1 ?side2 A31.out).mono ?_); (case side1 => repeat (first | exact (Kd.C_below HR0_1.out (by repeat (first | (with_reducible first | exact HB.out | apply below_alloc | apply pw_below_drewN | apply below_drew1 | refine below_set ?_ GE101.out) | exact HB.out))) | (with_reducible refine Kd.C_alloc ?_ _) | (with_reducible refine Kd.C_drewN ?_ _) | (with_reducible refine Kd.C_drew ?_))); (case side2 => exact HC0_1.out); rintro e w52 ⟨rfl, hb⟩; refine ⟨_, rfl, ?_⟩; have n0_ := Aside0.mk (blk_below (g := gb101) (o := .cells #[.int .i64 a0_0, .slice A0_1 l0_1.length c0_1, .string a0_2] 29 (0, 0)) (by (with_reducible repeat (first | refine blk_drewN ?_ _ | refine blk_drew ?_ | refine blk_alloc ?_ _)); exact BK101.out) hb); have n1_ := Aside0.mk (below_step (by repeat (first | (with_reducible first | exact HB.out | apply below_alloc | apply pw_below_drewN | apply below_drew1 | refine below_set ?_ GE101.out) | exact HB.out)) hb); clear BK101; clear HB; have BK101 := n0_; have HB := n1_; clear n0_ n1_; (try clear hb); (try clear hb2); (try clear hk); (try clear hi)))
      go_ret
      exact ⟨by first | rfl | (simp [errW_none, errW_some] <;> rfl) | (simp [*, errW_none, errW_some] <;> rfl), by repeat (first | (with_reducible first | exact HB.out | apply below_alloc | apply pw_below_drewN | apply below_drew1 | refine below_set ?_ GE101.out) | exact HB.out)⟩
    ·replace c32 := Bool.eq_false_iff.mpr c32
     subst c32
     rw [if_neg (show ¬ (false = true) by decide)] at H
     obtain rfl := Option.some.inj H
     go_enter Tryz.func16, Tryz.ntmps16
     go_wp2_with (first | ((with_reducible refine gate_dst (N := 1) rfl ?_); refine box_event ?hg (N := 1) ?hd (cs := #[.int .i64 a0_0, .slice A0_1 l0_1.length c0_1, .string a0_2]) (t := 29) ?hr ?_; (case hd => rfl); (case hg => rfl); (case hr => first | (go_simp; done) | (go_simp; rfl)); intro gb101 hg w53 hbox hb; have n0_ := Aside0.mk (below_step bq hb); have n1_ := Aside0.mk (hbox); have n2_ := Aside0.mk ((by rw [hg]; exact (below_size bq) : w.heap.size ≤ gb101)); have n3_ := Aside0.mk ((by rw [hg]; exact (below_size bq) : w.heap.size ≤ gb101)); clear HB; have HB := n0_; have BK101 := n1_; have GW101 := n2_; have GE101 := n3_; clear n0_ n1_ n2_ n3_; clear hb hbox hg; have hcz54_0 : w53.cell? ⟨gb101, 0, none⟩ = some (.int .i64 a0_0) := (blk_cell BK101.out 0).trans rfl; have hcz54_1 : w53.cell? ⟨gb101, 1, none⟩ = some (.slice A0_1 l0_1.length c0_1) := (blk_cell BK101.out 1).trans rfl; have hcz54_2 : w53.cell? ⟨gb101, 2, none⟩ = some (.string a0_2) := (blk_cell BK101.out 2).trans rfl; have hfz54_0 := blk_frozen BK101.out 0; have hfz54_1 := blk_frozen BK101.out 1; have hfz54_2 := blk_frozen BK101.out 2) | ((with_reducible refine gate_callee (f := 25) rfl ?_); refine goesL_ (some 16) rfl rfl Tryz.func25 (by kernel_rfl) rfl #[.slice A0_1 l0_1.length c0_1, .string (⟨#[115, 45, 109, 97, 120, 97, 103, 101]⟩ : ByteArray)] rfl am ?_; (with_reducible refine (spec_CcSeconds.calls k _ _ l0_1 (⟨#[115, 45, 109, 97, 120, 97, 103, 101]⟩ : ByteArray) t102 false _ ?side1 ?side2 A2.out).mono ?_); (case side1 => repeat (first | exact (Kd.C_below HR0_1.out HB.out) | (with_reducible refine Kd.C_alloc ?_ _) | (with_reducible refine Kd.C_drewN ?_ _) | (with_reducible refine Kd.C_drew ?_))); (case side2 => exact HC0_1.out); rintro e w55 ⟨rfl, hb⟩; refine ⟨_, rfl, ?_⟩; have n0_ := Aside0.mk (blk_below (g := gb101) (o := .cells #[.int .i64 a0_0, .slice A0_1 l0_1.length c0_1, .string a0_2] 29 (0, 0)) (by (with_reducible repeat (first | refine blk_drewN ?_ _ | refine blk_drew ?_ | refine blk_alloc ?_ _)); exact BK101.out) hb); have n1_ := Aside0.mk (below_step (by repeat (first | (with_reducible first | exact HB.out | apply below_alloc | apply pw_below_drewN | apply below_drew1 | refine below_set ?_ GE101.out) | exact HB.out)) hb); clear BK101; clear HB; have BK101 := n0_; have HB := n1_; clear n0_ n1_; (try clear hb); (try clear hb2); (try clear hk); (try clear hi); have hcz56_0 : w55.cell? ⟨gb101, 0, none⟩ = some (.int .i64 a0_0) := (blk_cell BK101.out 0).trans rfl; have hcz56_1 : w55.cell? ⟨gb101, 1, none⟩ = some (.slice A0_1 l0_1.length c0_1) := (blk_cell BK101.out 1).trans rfl; have hcz56_2 : w55.cell? ⟨gb101, 2, none⟩ = some (.string a0_2) := (blk_cell BK101.out 2).trans rfl; have hfz56_0 := blk_frozen BK101.out 0; have hfz56_1 := blk_frozen BK101.out 1; have hfz56_2 := blk_frozen BK101.out 2) | ((with_reducible refine gate_callee (f := 25) rfl ?_); refine goesL_ (some 24) rfl rfl Tryz.func25 (by kernel_rfl) rfl #[.slice A0_1 l0_1.length c0_1, .string (⟨#[109, 97, 120, 45, 97, 103, 101]⟩ : ByteArray)] rfl am ?_; (with_reducible refine (spec_CcSeconds.calls k _ _ l0_1 (⟨#[109, 97, 120, 45, 97, 103, 101]⟩ : ByteArray) t104 false _ ?side1 ?side2 A7.out).mono ?_); (case side1 => repeat (first | exact (Kd.C_below HR0_1.out HB.out) | (with_reducible refine Kd.C_alloc ?_ _) | (with_reducible refine Kd.C_drewN ?_ _) | (with_reducible refine Kd.C_drew ?_))); (case side2 => exact HC0_1.out); rintro e w57 ⟨rfl, hb⟩; refine ⟨_, rfl, ?_⟩; have n0_ := Aside0.mk (blk_below (g := gb101) (o := .cells #[.int .i64 a0_0, .slice A0_1 l0_1.length c0_1, .string a0_2] 29 (0, 0)) (by (with_reducible repeat (first | refine blk_drewN ?_ _ | refine blk_drew ?_ | refine blk_alloc ?_ _)); exact BK101.out) hb); have n1_ := Aside0.mk (below_step (by repeat (first | (with_reducible first | exact HB.out | apply below_alloc | apply pw_below_drewN | apply below_drew1 | refine below_set ?_ GE101.out) | exact HB.out)) hb); clear BK101; clear HB; have BK101 := n0_; have HB := n1_; clear n0_ n1_; (try clear hb); (try clear hb2); (try clear hk); (try clear hi); have hcz58_0 : w57.cell? ⟨gb101, 0, none⟩ = some (.int .i64 a0_0) := (blk_cell BK101.out 0).trans rfl; have hcz58_1 : w57.cell? ⟨gb101, 1, none⟩ = some (.slice A0_1 l0_1.length c0_1) := (blk_cell BK101.out 1).trans rfl; have hcz58_2 : w57.cell? ⟨gb101, 2, none⟩ = some (.string a0_2) := (blk_cell BK101.out 2).trans rfl; have hfz58_0 := blk_frozen BK101.out 0; have hfz58_1 := blk_frozen BK101.out 1; have hfz58_2 := blk_frozen BK101.out 2) | ((with_reducible refine gate_callee (f := 45) rfl ?_); refine goesL_ (some 32) rfl rfl Tryz.func45 (by kernel_rfl) rfl #[.slice A0_1 l0_1.length c0_1, .string (⟨#[100, 97, 116, 101]⟩ : ByteArray)] rfl am ?_; (with_reducible refine (spec_DateOf.calls k _ _ l0_1 (⟨#[100, 97, 116, 101]⟩ : ByteArray) t106 false _ ?side1 ?side2 A14.out).mono ?_); (case side1 => repeat (first | exact (Kd.C_below HR0_1.out HB.out) | (with_reducible refine Kd.C_alloc ?_ _) | (with_reducible refine Kd.C_drewN ?_ _) | (with_reducible refine Kd.C_drew ?_))); (case side2 => exact HC0_1.out); rintro e w59 ⟨rfl, hb⟩; refine ⟨_, rfl, ?_⟩; have n0_ := Aside0.mk (blk_below (g := gb101) (o := .cells #[.int .i64 a0_0, .slice A0_1 l0_1.length c0_1, .string a0_2] 29 (0, 0)) (by (with_reducible repeat (first | refine blk_drewN ?_ _ | refine blk_drew ?_ | refine blk_alloc ?_ _)); exact BK101.out) hb); have n1_ := Aside0.mk (below_step (by repeat (first | (with_reducible first | exact HB.out | apply below_alloc | apply pw_below_drewN | apply below_drew1 | refine below_set ?_ GE101.out) | exact HB.out)) hb); clear BK101; clear HB; have BK101 := n0_; have HB := n1_; clear n0_ n1_; (try clear hb); (try clear hb2); (try clear hk); (try clear hi); have hcz60_0 : w59.cell? ⟨gb101, 0, none⟩ = some (.int .i64 a0_0) := (blk_cell BK101.out 0).trans rfl; have hcz60_1 : w59.cell? ⟨gb101, 1, none⟩ = some (.slice A0_1 l0_1.length c0_1) := (blk_cell BK101.out 1).trans rfl; have hcz60_2 : w59.cell? ⟨gb101, 2, none⟩ = some (.string a0_2) := (blk_cell BK101.out 2).trans rfl; have hfz60_0 := blk_frozen BK101.out 0; have hfz60_1 := blk_frozen BK101.out 1; have hfz60_2 := blk_frozen BK101.out 2) | ((with_reducible refine gate_callee (f := 44) rfl ?_); refine goesL_ (some 38) rfl rfl Tryz.func44 (by kernel_rfl) rfl #[.slice A0_1 l0_1.length c0_1, .string (⟨#[101, 120, 112, 105, 114, 101, 115]⟩ : ByteArray)] rfl am ?_; (with_reducible refine (spec_FieldGet.calls k _ _ l0_1 (⟨#[101, 120, 112, 105, 114, 101, 115]⟩ : ByteArray) t108 false _ ?side1 ?side2 A15.out).mono ?_); (case side1 => repeat (first | exact (Kd.C_below HR0_1.out HB.out) | (with_reducible refine Kd.C_alloc ?_ _) | (with_reducible refine Kd.C_drewN ?_ _) | (with_reducible refine Kd.C_drew ?_))); (case side2 => exact HC0_1.out); rintro e w' ⟨rfl, ⟨nd, rfl⟩⟩; refine ⟨_, rfl, ?_⟩) | ((with_reducible refine gate_callee (f := 45) rfl ?_); refine goesL_ (some 61) rfl rfl Tryz.func45 (by kernel_rfl) rfl #[.slice A0_1 l0_1.length c0_1, .string (⟨#[108, 97, 115, 116, 45, 109, 111, 100, 105, 102, 105, 101, 100]⟩ : ByteArray)] rfl am ?_; (with_reducible refine (spec_DateOf.calls k _ _ l0_1 (⟨#[108, 97, 115, 116, 45, 109, 111, 100, 105, 102, 105, 101, 100]⟩ : ByteArray) t112 t113 _ ?side1 ?side2 A31.out).mono ?_); (case side1 => repeat (first | exact (Kd.C_below HR0_1.out (by repeat (first | (with_reducible first | exact HB.out | apply below_alloc | apply pw_below_drewN | apply below_drew1 | refine below_set ?_ GE101.out) | exact HB.out))) | (with_reducible refine Kd.C_alloc ?_ _) | (with_reducible refine Kd.C_drewN ?_ _) | (with_reducible refine Kd.C_drew ?_))); (case side2 => exact HC0_1.out); rintro e w61 ⟨rfl, hb⟩; refine ⟨_, rfl, ?_⟩; have n0_ := Aside0.mk (blk_below (g := gb101) (o := .cells #[.int .i64 a0_0, .slice A0_1 l0_1.length c0_1, .string a0_2] 29 (0, 0)) (by (with_reducible repeat (first | refine blk_drewN ?_ _ | refine blk_drew ?_ | refine blk_alloc ?_ _)); exact BK101.out) hb); have n1_ := Aside0.mk (below_step (by repeat (first | (with_reducible first | exact HB.out | apply below_alloc | apply pw_below_drewN | apply below_drew1 | refine below_set ?_ GE101.out) | exact HB.out)) hb); clear BK101; clear HB; have BK101 := n0_; have HB := n1_; clear n0_ n1_; (try clear hb); (try clear hb2); (try clear hk); (try clear hi)))
     go_ret
     exact ⟨by first | rfl | (simp [errW_none, errW_some] <;> rfl) | (simp [*, errW_none, errW_some] <;> rfl), by repeat (first | (with_reducible first | exact HB.out | apply below_alloc | apply pw_below_drewN | apply below_drew1 | refine below_set ?_ GE101.out) | exact HB.out)⟩

end Go.Proofs.YtjldfmkpdkhnnaaGreatDoor.QL

namespace Go.Proofs
open Go.Shelf
def Tryz.lays156_ren : Go.Shelf.Ren := ⟨fun | 156 => 95 | 165 => 139 | 166 => 140 | 169 => 141 | 240 => 174 | 241 => 175 | 276 => 199 | 277 => 200 | n => n, fun | 31 => 76 | 9 => 9 | 3 => 3 | 4 => 4 | 0 => 0 | 20 => 20 | 72 => 140 | 76 => 113 | 70 => 138 | 37 => 37 | 75 => 112 | 127 => 159 | 164 => 173 | 5 => 5 | 80 => 142 | n => n, fun | n => n⟩
theorem Tryz.lays156 : Go.Proofs.Lays.n156 Tryz.prog Tryz.lays156_ren := {
  mixed := by kernel_rfl
  f156 := Tryz.func95.trans (congrArg some (by kernel_rfl))
  f165 := Tryz.func139.trans (congrArg some (by kernel_rfl))
  f166 := Tryz.func140.trans (congrArg some (by kernel_rfl))
  f169 := Tryz.func141.trans (congrArg some (by kernel_rfl))
  f240 := Tryz.func174.trans (congrArg some (by kernel_rfl))
  f241 := Tryz.func175.trans (congrArg some (by kernel_rfl))
  f276 := Tryz.func199.trans (congrArg some (by kernel_rfl))
  f277 := Tryz.func200.trans (congrArg some (by kernel_rfl))
  t0 := Tryz.underlying0
  a0 := Tryz.isAgg0
  z0 := Tryz.sizeOf0
  v0 := Tryz.zeroValue0
  t3 := Tryz.underlying3
  a3 := Tryz.isAgg3
  z3 := Tryz.sizeOf3
  v3 := Tryz.zeroValue3
  t4 := Tryz.underlying4
  a4 := Tryz.isAgg4
  z4 := Tryz.sizeOf4
  v4 := Tryz.zeroValue4
  t9 := Tryz.underlying9
  a9 := Tryz.isAgg9
  z9 := Tryz.sizeOf9
  v9 := Tryz.zeroValue9
  t20 := Tryz.underlying20
  a20 := Tryz.isAgg20
  z20 := Tryz.sizeOf20
  v20 := Tryz.zeroValue20
  t31 := Tryz.underlying76
  a31 := Tryz.isAgg76
  z31 := Tryz.sizeOf76
  v31 := Tryz.zeroValue76
  t37 := Tryz.underlying37
  a37 := Tryz.isAgg37
  z37 := Tryz.sizeOf37
  v37 := Tryz.zeroValue37
  t70 := Tryz.underlying138
  a70 := Tryz.isAgg138
  z70 := Tryz.sizeOf138
  v70 := Tryz.zeroValue138
  t72 := Tryz.underlying140
  a72 := Tryz.isAgg140
  z72 := Tryz.sizeOf140
  v72 := Tryz.zeroValue140
  t75 := Tryz.underlying112
  a75 := Tryz.isAgg112
  z75 := Tryz.sizeOf112
  v75 := Tryz.zeroValue112
  t76 := Tryz.underlying113
  a76 := Tryz.isAgg113
  z76 := Tryz.sizeOf113
  v76 := Tryz.zeroValue113
  t127 := Tryz.underlying159
  a127 := Tryz.isAgg159
  z127 := Tryz.sizeOf159
  v127 := Tryz.zeroValue159
  t164 := Tryz.underlying173
  a164 := Tryz.isAgg173
  z164 := Tryz.sizeOf173
  v164 := Tryz.zeroValue173 }
theorem Tryz.Builder_Extra_156 : Builder.Extra Tryz.prog Tryz.lays156_ren := {
  sizeBuilder := by kernel_rfl
  liesBuilder := by kernel_rfl
  t5 := Tryz.underlying5
  a5 := Tryz.isAgg5
  z5 := Tryz.sizeOf5
  v5 := Tryz.zeroValue5
  infoByte := by kernel_rfl
  cellsByte := by kernel_rfl
  sizeByte := by kernel_rfl
  neB5 := by decide }
open Go.RowKit in
theorem Tryz.strings_Join_none (a : Option Addr) (c : Nat) (sep : ByteArray) (w : World) :
    Calls Tryz.prog 95 #[.slice a 0 c, .string sep] w fun e w' => e = .returned (.string ⟨#[]⟩) ∧ w' = w := Any.strings_Join_none Tryz.lays156 Tryz.Builder_Extra_156 a c sep w
open Go.RowKit in
theorem Tryz.strings_Join (bk o c : Nat) (xs : List ByteArray) (sep : ByteArray) (w : World) (hcells : ∀ (j : Nat) x, xs[j]? = some x → w.cell? ⟨bk, o + j, none⟩ = some (.string x)) (hbk : bk < w.heap.size) (hN : xs.length ≤ 140737488355328) (hcap : xs.length ≤ c) (hlen : (Lib.join (xs.map (·.data.toList)) sep.data.toList).length ≤ 140737488355328) :
    Calls Tryz.prog 95 #[.slice (some ⟨bk, o, none⟩) xs.length c, .string sep] w fun e w' => e = .returned (.string ⟨(Lib.join (xs.map (·.data.toList)) sep.data.toList).toArray⟩) ∧ Below w.heap.size w w' := Any.strings_Join Tryz.lays156 Tryz.Builder_Extra_156 bk o c xs sep w hcells hbk hN hcap hlen
def Tryz.lays161_ren : Go.Shelf.Ren := ⟨fun | 161 => 96 | 231 => 142 | 227 => 143 | 233 => 144 | 235 => 145 | 228 => 161 | 197 => 176 | 151 => 177 | 260 => 201 | 152 => 159 | 137 => 105 | 119 => 192 | 224 => 187 | 225 => 186 | 217 => 150 | 266 => 189 | n => n, fun | 9 => 9 | 4 => 4 | 3 => 3 | 5 => 5 | 117 => 146 | 116 => 145 | 0 => 0 | 124 => 149 | 105 => 160 | 21 => 21 | 119 => 190 | 46 => 151 | 139 => 193 | 138 => 192 | n => n, fun | 3 => 3 | 4 => 4 | n => n⟩
theorem Tryz.lays161 : Go.Proofs.Lays.n161 Tryz.prog Tryz.lays161_ren := {
  mixed := by kernel_rfl
  f119 := Tryz.func192.trans (congrArg some (by kernel_rfl))
  f137 := Tryz.func105.trans (congrArg some (by kernel_rfl))
  f151 := Tryz.func177.trans (congrArg some (by kernel_rfl))
  f152 := Tryz.func159.trans (congrArg some (by kernel_rfl))
  f161 := Tryz.func96.trans (congrArg some (by kernel_rfl))
  f197 := Tryz.func176.trans (congrArg some (by kernel_rfl))
  f217 := Tryz.func150.trans (congrArg some (by kernel_rfl))
  f224 := Tryz.func187.trans (congrArg some (by kernel_rfl))
  f225 := Tryz.func186.trans (congrArg some (by kernel_rfl))
  f227 := Tryz.func143.trans (congrArg some (by kernel_rfl))
  f228 := Tryz.func161.trans (congrArg some (by kernel_rfl))
  f231 := Tryz.func142.trans (congrArg some (by kernel_rfl))
  f233 := Tryz.func144.trans (congrArg some (by kernel_rfl))
  f235 := Tryz.func145.trans (congrArg some (by kernel_rfl))
  f260 := Tryz.func201.trans (congrArg some (by kernel_rfl))
  f266 := Tryz.func189.trans (congrArg some (by kernel_rfl))
  t0 := Tryz.underlying0
  a0 := Tryz.isAgg0
  z0 := Tryz.sizeOf0
  v0 := Tryz.zeroValue0
  t3 := Tryz.underlying3
  a3 := Tryz.isAgg3
  z3 := Tryz.sizeOf3
  v3 := Tryz.zeroValue3
  t4 := Tryz.underlying4
  a4 := Tryz.isAgg4
  z4 := Tryz.sizeOf4
  v4 := Tryz.zeroValue4
  t5 := Tryz.underlying5
  a5 := Tryz.isAgg5
  z5 := Tryz.sizeOf5
  v5 := Tryz.zeroValue5
  t9 := Tryz.underlying9
  a9 := Tryz.isAgg9
  z9 := Tryz.sizeOf9
  v9 := Tryz.zeroValue9
  t21 := Tryz.underlying21
  a21 := Tryz.isAgg21
  z21 := Tryz.sizeOf21
  v21 := Tryz.zeroValue21
  t46 := Tryz.underlying151
  a46 := Tryz.isAgg151
  z46 := Tryz.sizeOf151
  v46 := Tryz.zeroValue151
  t105 := Tryz.underlying160
  a105 := Tryz.isAgg160
  z105 := Tryz.sizeOf160
  v105 := Tryz.zeroValue160
  t116 := Tryz.underlying145
  a116 := Tryz.isAgg145
  z116 := Tryz.sizeOf145
  t117 := Tryz.underlying146
  a117 := Tryz.isAgg146
  z117 := Tryz.sizeOf146
  v117 := Tryz.zeroValue146
  t119 := Tryz.underlying190
  a119 := Tryz.isAgg190
  z119 := Tryz.sizeOf190
  t124 := Tryz.underlying149
  a124 := Tryz.isAgg149
  z124 := Tryz.sizeOf149
  v124 := Tryz.zeroValue149
  t138 := Tryz.underlying192
  a138 := Tryz.isAgg192
  z138 := Tryz.sizeOf192
  v138 := Tryz.zeroValue192
  t139 := Tryz.underlying193
  a139 := Tryz.isAgg193
  z139 := Tryz.sizeOf193
  v139 := Tryz.zeroValue193
  g3 := by kernel_rfl
  g4 := by kernel_rfl }
open Go.RowKit in
theorem Tryz.strings_TrimLeft_one (s : ByteArray) (c : UInt8) (hc : c.toNat < 128) (w : World) :
    Calls Tryz.prog 96 #[.string s, .string ⟨#[c]⟩] w fun e w' => e = .returned (.string ⟨(Lib.trimLeftB s.data.toList c).toArray⟩) ∧ w' = w := Any.strings_TrimLeft_one Tryz.lays161 s c hc w
def Tryz.lays160_ren : Go.Shelf.Ren := ⟨fun | 160 => 148 | 232 => 183 | 231 => 142 | 227 => 143 | 234 => 184 | 233 => 144 | 236 => 185 | 235 => 145 | 228 => 161 | 271 => 205 | 151 => 177 | 197 => 176 | 120 => 215 | 152 => 159 | 260 => 201 | 137 => 105 | 119 => 192 | 224 => 187 | 225 => 186 | 217 => 150 | 266 => 189 | n => n, fun | 9 => 9 | 4 => 4 | 3 => 3 | 5 => 5 | 117 => 146 | 116 => 145 | 0 => 0 | 124 => 149 | 21 => 21 | 105 => 160 | 46 => 151 | 119 => 190 | 139 => 193 | 138 => 192 | n => n, fun | 3 => 3 | 4 => 4 | n => n⟩
theorem Tryz.lays160 : Go.Proofs.Lays.n160 Tryz.prog Tryz.lays160_ren := {
  mixed := by kernel_rfl
  f119 := Tryz.func192.trans (congrArg some (by kernel_rfl))
  f120 := Tryz.func215.trans (congrArg some (by kernel_rfl))
  f137 := Tryz.func105.trans (congrArg some (by kernel_rfl))
  f151 := Tryz.func177.trans (congrArg some (by kernel_rfl))
  f152 := Tryz.func159.trans (congrArg some (by kernel_rfl))
  f160 := Tryz.func148.trans (congrArg some (by kernel_rfl))
  f197 := Tryz.func176.trans (congrArg some (by kernel_rfl))
  f217 := Tryz.func150.trans (congrArg some (by kernel_rfl))
  f224 := Tryz.func187.trans (congrArg some (by kernel_rfl))
  f225 := Tryz.func186.trans (congrArg some (by kernel_rfl))
  f227 := Tryz.func143.trans (congrArg some (by kernel_rfl))
  f228 := Tryz.func161.trans (congrArg some (by kernel_rfl))
  f231 := Tryz.func142.trans (congrArg some (by kernel_rfl))
  f232 := Tryz.func183.trans (congrArg some (by kernel_rfl))
  f233 := Tryz.func144.trans (congrArg some (by kernel_rfl))
  f234 := Tryz.func184.trans (congrArg some (by kernel_rfl))
  f235 := Tryz.func145.trans (congrArg some (by kernel_rfl))
  f236 := Tryz.func185.trans (congrArg some (by kernel_rfl))
  f260 := Tryz.func201.trans (congrArg some (by kernel_rfl))
  f266 := Tryz.func189.trans (congrArg some (by kernel_rfl))
  f271 := Tryz.func205.trans (congrArg some (by kernel_rfl))
  t0 := Tryz.underlying0
  a0 := Tryz.isAgg0
  z0 := Tryz.sizeOf0
  v0 := Tryz.zeroValue0
  t3 := Tryz.underlying3
  a3 := Tryz.isAgg3
  z3 := Tryz.sizeOf3
  v3 := Tryz.zeroValue3
  t4 := Tryz.underlying4
  a4 := Tryz.isAgg4
  z4 := Tryz.sizeOf4
  v4 := Tryz.zeroValue4
  t5 := Tryz.underlying5
  a5 := Tryz.isAgg5
  z5 := Tryz.sizeOf5
  v5 := Tryz.zeroValue5
  t9 := Tryz.underlying9
  a9 := Tryz.isAgg9
  z9 := Tryz.sizeOf9
  v9 := Tryz.zeroValue9
  t21 := Tryz.underlying21
  a21 := Tryz.isAgg21
  z21 := Tryz.sizeOf21
  v21 := Tryz.zeroValue21
  t46 := Tryz.underlying151
  a46 := Tryz.isAgg151
  z46 := Tryz.sizeOf151
  v46 := Tryz.zeroValue151
  t105 := Tryz.underlying160
  a105 := Tryz.isAgg160
  z105 := Tryz.sizeOf160
  v105 := Tryz.zeroValue160
  t116 := Tryz.underlying145
  a116 := Tryz.isAgg145
  z116 := Tryz.sizeOf145
  t117 := Tryz.underlying146
  a117 := Tryz.isAgg146
  z117 := Tryz.sizeOf146
  v117 := Tryz.zeroValue146
  t119 := Tryz.underlying190
  a119 := Tryz.isAgg190
  z119 := Tryz.sizeOf190
  t124 := Tryz.underlying149
  a124 := Tryz.isAgg149
  z124 := Tryz.sizeOf149
  v124 := Tryz.zeroValue149
  t138 := Tryz.underlying192
  a138 := Tryz.isAgg192
  z138 := Tryz.sizeOf192
  v138 := Tryz.zeroValue192
  t139 := Tryz.underlying193
  a139 := Tryz.isAgg193
  z139 := Tryz.sizeOf193
  v139 := Tryz.zeroValue193
  g3 := by kernel_rfl
  g4 := by kernel_rfl }
def Tryz.lays137_ren : Go.Shelf.Ren := ⟨fun | 137 => 105 | 217 => 150 | 266 => 189 | n => n, fun | 9 => 9 | 5 => 5 | 3 => 3 | n => n, fun | n => n⟩
theorem Tryz.lays137 : Go.Proofs.Lays.n137 Tryz.prog Tryz.lays137_ren := {
  mixed := by kernel_rfl
  f137 := Tryz.func105.trans (congrArg some (by kernel_rfl))
  f217 := Tryz.func150.trans (congrArg some (by kernel_rfl))
  f266 := Tryz.func189.trans (congrArg some (by kernel_rfl))
  t3 := Tryz.underlying3
  a3 := Tryz.isAgg3
  z3 := Tryz.sizeOf3
  v3 := Tryz.zeroValue3
  t5 := Tryz.underlying5
  a5 := Tryz.isAgg5
  z5 := Tryz.sizeOf5
  v5 := Tryz.zeroValue5
  t9 := Tryz.underlying9
  a9 := Tryz.isAgg9
  z9 := Tryz.sizeOf9
  v9 := Tryz.zeroValue9 }
open Go.RowKit in
theorem Tryz.strings_IndexByte (s : ByteArray) (c : Int) (w : World) :
    Calls Tryz.prog 105 #[.string s, .int .u8 c] w fun e w' => e = .returned (.int .i64 (Lib.indexByte s.data.toList c.toNat.toUInt8)) ∧ w' = w := Any.strings_IndexByte Tryz.lays137 s c w
def Tryz.lays145_ren : Go.Shelf.Ren := ⟨fun | 145 => 59 | 220 => 103 | 219 => 149 | 217 => 150 | 225 => 186 | 224 => 187 | 267 => 188 | 266 => 189 | 314 => 206 | n => n, fun | 9 => 9 | 4 => 4 | 59 => 82 | 3 => 3 | 5 => 5 | 46 => 151 | 146 => 183 | 51 => 182 | n => n, fun | 1 => 0 | n => n⟩
theorem Tryz.lays145 : Go.Proofs.Lays.n145 Tryz.prog Tryz.lays145_ren := {
  mixed := by kernel_rfl
  f145 := Tryz.func59.trans (congrArg some (by kernel_rfl))
  f217 := Tryz.func150.trans (congrArg some (by kernel_rfl))
  f219 := Tryz.func149.trans (congrArg some (by kernel_rfl))
  f220 := Tryz.func103.trans (congrArg some (by kernel_rfl))
  f224 := Tryz.func187.trans (congrArg some (by kernel_rfl))
  f225 := Tryz.func186.trans (congrArg some (by kernel_rfl))
  f266 := Tryz.func189.trans (congrArg some (by kernel_rfl))
  f267 := Tryz.func188.trans (congrArg some (by kernel_rfl))
  f314 := Tryz.func206.trans (congrArg some (by kernel_rfl))
  t3 := Tryz.underlying3
  a3 := Tryz.isAgg3
  z3 := Tryz.sizeOf3
  v3 := Tryz.zeroValue3
  t4 := Tryz.underlying4
  a4 := Tryz.isAgg4
  z4 := Tryz.sizeOf4
  v4 := Tryz.zeroValue4
  t5 := Tryz.underlying5
  a5 := Tryz.isAgg5
  z5 := Tryz.sizeOf5
  v5 := Tryz.zeroValue5
  t9 := Tryz.underlying9
  a9 := Tryz.isAgg9
  z9 := Tryz.sizeOf9
  v9 := Tryz.zeroValue9
  t46 := Tryz.underlying151
  a46 := Tryz.isAgg151
  z46 := Tryz.sizeOf151
  v46 := Tryz.zeroValue151
  t51 := Tryz.underlying182
  a51 := Tryz.isAgg182
  z51 := Tryz.sizeOf182
  v51 := Tryz.zeroValue182
  t59 := Tryz.underlying82
  a59 := Tryz.isAgg82
  z59 := Tryz.sizeOf82
  v59 := Tryz.zeroValue82
  t146 := Tryz.underlying183
  a146 := Tryz.isAgg183
  z146 := Tryz.sizeOf183
  v146 := Tryz.zeroValue183
  g1 := by kernel_rfl }
open Go.RowKit Go.Lib in
theorem Tryz.strings_Cut (s sep : ByteArray) (m : Int) (w : World) (hs : s.size < 4294967281) (hm : w.cell? ⟨0, 0, none⟩ = some (.int .i64 m)) :
    Calls Tryz.prog 59 #[.string s, .string sep] w fun e w' => e = .returned (.tuple #[.string ⟨(Lib.cut s.data.toList sep.data.toList).1.toArray⟩, .string ⟨(Lib.cut s.data.toList sep.data.toList).2.1.toArray⟩, .bool (Lib.cut s.data.toList sep.data.toList).2.2]) ∧ ∃ n, w' = w.drewN n := Any.strings_Cut Tryz.lays145 s sep m w hs hm
def Tryz.lays146_ren : Go.Shelf.Ren := ⟨fun | 146 => 133 | 221 => 170 | 268 => 196 | 138 => 197 | 143 => 158 | 195 => 211 | 197 => 176 | 218 => 212 | 219 => 149 | 260 => 201 | 217 => 150 | 225 => 186 | 224 => 187 | 267 => 188 | 266 => 189 | 314 => 206 | n => n, fun | 9 => 9 | 31 => 76 | 3 => 3 | 4 => 4 | 0 => 0 | 105 => 160 | 21 => 21 | 5 => 5 | 46 => 151 | 119 => 190 | 139 => 193 | 138 => 192 | 146 => 183 | 51 => 182 | n => n, fun | 1 => 0 | 3 => 3 | 4 => 4 | n => n⟩
theorem Tryz.lays146 : Go.Proofs.Lays.n146 Tryz.prog Tryz.lays146_ren := {
  mixed := by kernel_rfl
  f138 := Tryz.func197.trans (congrArg some (by kernel_rfl))
  f143 := Tryz.func158.trans (congrArg some (by kernel_rfl))
  f146 := Tryz.func133.trans (congrArg some (by kernel_rfl))
  f195 := Tryz.func211.trans (congrArg some (by kernel_rfl))
  f197 := Tryz.func176.trans (congrArg some (by kernel_rfl))
  f217 := Tryz.func150.trans (congrArg some (by kernel_rfl))
  f218 := Tryz.func212.trans (congrArg some (by kernel_rfl))
  f219 := Tryz.func149.trans (congrArg some (by kernel_rfl))
  f221 := Tryz.func170.trans (congrArg some (by kernel_rfl))
  f224 := Tryz.func187.trans (congrArg some (by kernel_rfl))
  f225 := Tryz.func186.trans (congrArg some (by kernel_rfl))
  f260 := Tryz.func201.trans (congrArg some (by kernel_rfl))
  f266 := Tryz.func189.trans (congrArg some (by kernel_rfl))
  f267 := Tryz.func188.trans (congrArg some (by kernel_rfl))
  f268 := Tryz.func196.trans (congrArg some (by kernel_rfl))
  f314 := Tryz.func206.trans (congrArg some (by kernel_rfl))
  t0 := Tryz.underlying0
  a0 := Tryz.isAgg0
  z0 := Tryz.sizeOf0
  v0 := Tryz.zeroValue0
  t3 := Tryz.underlying3
  a3 := Tryz.isAgg3
  z3 := Tryz.sizeOf3
  v3 := Tryz.zeroValue3
  t4 := Tryz.underlying4
  a4 := Tryz.isAgg4
  z4 := Tryz.sizeOf4
  v4 := Tryz.zeroValue4
  t5 := Tryz.underlying5
  a5 := Tryz.isAgg5
  z5 := Tryz.sizeOf5
  v5 := Tryz.zeroValue5
  t9 := Tryz.underlying9
  a9 := Tryz.isAgg9
  z9 := Tryz.sizeOf9
  v9 := Tryz.zeroValue9
  t21 := Tryz.underlying21
  a21 := Tryz.isAgg21
  z21 := Tryz.sizeOf21
  v21 := Tryz.zeroValue21
  t31 := Tryz.underlying76
  a31 := Tryz.isAgg76
  z31 := Tryz.sizeOf76
  v31 := Tryz.zeroValue76
  t46 := Tryz.underlying151
  a46 := Tryz.isAgg151
  z46 := Tryz.sizeOf151
  v46 := Tryz.zeroValue151
  t51 := Tryz.underlying182
  a51 := Tryz.isAgg182
  z51 := Tryz.sizeOf182
  v51 := Tryz.zeroValue182
  t105 := Tryz.underlying160
  a105 := Tryz.isAgg160
  z105 := Tryz.sizeOf160
  v105 := Tryz.zeroValue160
  t119 := Tryz.underlying190
  a119 := Tryz.isAgg190
  z119 := Tryz.sizeOf190
  t138 := Tryz.underlying192
  a138 := Tryz.isAgg192
  z138 := Tryz.sizeOf192
  v138 := Tryz.zeroValue192
  t139 := Tryz.underlying193
  a139 := Tryz.isAgg193
  z139 := Tryz.sizeOf193
  v139 := Tryz.zeroValue193
  t146 := Tryz.underlying183
  a146 := Tryz.isAgg183
  z146 := Tryz.sizeOf183
  v146 := Tryz.zeroValue183
  g1 := by kernel_rfl
  g3 := by kernel_rfl
  g4 := by kernel_rfl }
open Go.RowKit Go.Lib in
theorem Tryz.strings_Split (s sep : ByteArray) (m : Int) (w : World) (hs : s.size < 4294967281) (hm : w.cell? ⟨0, 0, none⟩ = some (.int .i64 m)) (h1 : 1 ≤ sep.size) :
    Calls Tryz.prog 133 #[.string s, .string sep] w fun e w' =>
      e = .returned (.slice (some ⟨w.heap.size, 0, none⟩) (Lib.countB s sep + 1) (Lib.countB s sep + 1)) ∧ w' = w.alloc (.cells ((Lib.splitB sep 0 (Lib.countB s sep) s).map Value.string).toArray 9) := Any.strings_Split Tryz.lays146 (by kernel_rfl) s sep m w hs hm h1
end Go.Proofs

namespace Go.Proofs.YtjldfmkpdkhnnaaGreatDoor.Ext
open Go.RowKit Go.Proofs.YtjldfmkpdkhnnaaGreatDoorW.PrintWords Go.Proofs.YtjldfmkpdkhnnaaGreatDoorW.PrintLast Go.Proofs.YtjldfmkpdkhnnaaGreatDoorW.PrintMore Go.Proofs.YtjldfmkpdkhnnaaGreatDoor.Aux Go.Proofs.YtjldfmkpdkhnnaaGreatDoor.Dom Go.Proofs.YtjldfmkpdkhnnaaGreatDoor.Glob
attribute [local go_sem] max2_int min2_int max_two min_two max_three min_three max_four min_four
def strings_Join.f (a0 : List ByteArray) (a1 : ByteArray) : Option (ByteArray) := if a0.length ≤ 8796093022208 ∧ (joinB a1 a0).size ≤ 8796093022208 then some (joinB a1 a0) else none
theorem strings_Join.calls (A0 : Option Addr) (c0 : Nat) (a0 : List ByteArray) (a1 : ByteArray) (r : ByteArray) (w : World) (hC : Kd.string.C w A0 a0.length a0) (hc : a0.length ≤ c0) (h : strings_Join.f a0 a1 = some r) :
    Calls Tryz.prog 95 #[.slice A0 a0.length c0, .string a1] w fun e w' => e = .returned (.string r) ∧ Below w.heap.size w w' := by
  have hs : a0.length ≤ 8796093022208 ∧ (joinB a1 a0).size ≤ 8796093022208 := by
    unfold strings_Join.f at h
    split at h
    · assumption
    · cases h
  unfold strings_Join.f at h
  rw [if_pos hs] at h
  have h := Option.some.inj h
  subst h
  cases a0 with
  | nil =>
    refine (Tryz.strings_Join_none A0 c0 a1 w).mono ?_
    rintro e w' ⟨rfl, rfl⟩
    exact ⟨rfl, Below.refl _ _⟩
  | cons x r =>
    obtain ⟨g, o, rfl, hsz, hcell⟩ := row_form hC
    have hlen : (Lib.join ((x :: r).map (·.data.toList)) a1.data.toList).length ≤ 140737488355328 := by
      have e := joinB_lib a1 (x :: r)
      have e2 : (joinB a1 (x :: r)).size = (Lib.join ((x :: r).map (·.data.toList)) a1.data.toList).length := by rw [← e]; simp [ByteArray.size]
      omega
    refine (Tryz.strings_Join g o c0 (x :: r) a1 w hcell hsz (by omega) hc hlen).mono ?_
    rintro e w' ⟨rfl, hb⟩
    exact ⟨by rw [joinB_lib], hb⟩

end Go.Proofs.YtjldfmkpdkhnnaaGreatDoor.Ext

namespace Go.Proofs.YtjldfmkpdkhnnaaGreatDoor.QL
open Go.RowKit Go.Proofs.YtjldfmkpdkhnnaaGreatDoorW.PrintWords Go.Proofs.YtjldfmkpdkhnnaaGreatDoorW.PrintLast Go.Proofs.YtjldfmkpdkhnnaaGreatDoorW.PrintMore Go.Proofs.YtjldfmkpdkhnnaaGreatDoor.Aux Go.Proofs.YtjldfmkpdkhnnaaGreatDoor.Dom Go.Proofs.YtjldfmkpdkhnnaaGreatDoor.Ext Go.Proofs.YtjldfmkpdkhnnaaGreatDoor.Glob
attribute [local go_sem] max2_int min2_int max_two min_two max_three min_three max_four min_four   -- for this text's walks alone

def impl_FieldGet.l0 : Nat → ByteArray → List ByteArray → List (S99) → Int → Int → Option (ByteArray × Bool)
 | 0, _, _, _, _, _ => none
 | k + 1, x1, x6, x10, x11, x12 => if x12 < x11 then (if 0 ≤ x12 then (if x12 < (x10.length : Int) then (if ((rd_T99 x10 x12).f0).toList = x1.toList then (if x6.length < 8796093022208 then (impl_FieldGet.l0 k x1 (x6 ++ [(rd_T99 x10 x12).f1]) x10 x11 (wrap64 (x12 + 1))) else (none)) else (impl_FieldGet.l0 k x1 x6 x10 x11 (wrap64 (x12 + 1)))) else (none)) else (none)) else ((strings_Join.f x6 (⟨#[44, 32]⟩ : ByteArray)).bind fun t109 => (some (t109, decide ((x6.length : Int) > 0))))
def impl_FieldGet.f (k : Nat) (l0 : List (S99)) (a1 : ByteArray) : Option (ByteArray × Bool) := impl_FieldGet.l0 k a1 (([] : List ByteArray)) l0 (l0.length : Int) 0
theorem impl_FieldGet.mono_l : ∀ k, (∀ y0 y1 y2 y3 y4, LeO (impl_FieldGet.l0 k y0 y1 y2 y3 y4) (impl_FieldGet.l0 (k + 1) y0 y1 y2 y3 y4))
 | 0 => fun _ _ _ _ _ r h => by simp [impl_FieldGet.l0] at h
 | k + 1 => by
  have ih0 := impl_FieldGet.mono_l k
  ·intro y0 y1 y2 y3 y4
   unfold impl_FieldGet.l0
   repeat' first
   | (with_reducible exact ih0 _ _ _ _ _)
   | (with_reducible exact LeO.refl _)
   | (with_reducible exact LeO.none _)
   | (with_reducible refine LeO.ite ?_ ?_)
   | (with_reducible refine LeO.bind ?_ (fun _ => ?_))
   | exact ih0 _ _ _ _ _
   | exact LeO.none _
   | refine LeO.ite ?_ ?_
   | refine LeO.bind ?_ (fun _ => ?_)
theorem impl_FieldGet.mono : ∀ a0 a1 k, LeO (impl_FieldGet.f k a0 a1) (impl_FieldGet.f (k + 1) a0 a1) := by
 intro a0 a1 k
 have ih0 := impl_FieldGet.mono_l k
 unfold impl_FieldGet.f
 repeat' first
   | (with_reducible exact ih0 _ _ _ _ _)
   | (with_reducible exact LeO.refl _)
   | (with_reducible exact LeO.none _)
   | (with_reducible refine LeO.ite ?_ ?_)
   | (with_reducible refine LeO.bind ?_ (fun _ => ?_))
   | exact ih0 _ _ _ _ _
   | exact LeO.none _
   | refine LeO.ite ?_ ?_
   | refine LeO.bind ?_ (fun _ => ?_)
set_option maxHeartbeats 8000000 in
set_option maxRecDepth 100000 in
theorem impl_FieldGet.calls (k : Nat) (A0 : Option Addr) (c0 : Nat) (l0 : List (S99)) (a1 : ByteArray) (r1 : ByteArray) (r2 : Bool) (w : World) (hr0 : Kd.C k99 w A0 l0.length l0) (hc0 : l0.length ≤ c0) (h : impl_FieldGet.f k l0 a1 = some (r1, r2)) :
  Calls Tryz.prog 51 #[.slice A0 l0.length c0, .string a1] w fun e w' => e = .returned (.tuple #[.string r1, .bool r2]) ∧ Below w.heap.size w w' := by
 have hu99 := Tryz.underlying99
 have HR0 := Aside0.mk hr0
 have HC0 := Aside0.mk hc0
 clear hr0 hc0
 have HB := Aside0.mk (Below.refl w.heap.size w)
 have H : (impl_FieldGet.l0 k a1 (([] : List ByteArray)) l0 (l0.length : Int) 0) = some (r1, r2) := h
 clear h
 obtain ⟨y101, hy101⟩ : ∃ y_ : List ByteArray, y_ = (([] : List ByteArray)) := ⟨_, rfl⟩
 replace H : (impl_FieldGet.l0 k a1 y101 l0 (l0.length : Int) 0) = some (r1, r2) := by first | (rw [hy101]; with_reducible exact H) | (have H2_ := (Option.bind_some _ _).symm.trans H; rw [hy101]; with_reducible exact H2_) | (have H2_ := (Option.bind_some _ _).symm.trans H; with_reducible exact H2_) | with_reducible exact H | (rw [hy101]; exact H) | exact H
 have Ny101 := Aside0.mk hy101
 clear hy101
 have H' := Aside0.mk H
 clear H
 go_enter Tryz.func51, Tryz.ntmps51
 go_wp2_with (first | ((with_reducible refine gate_dst (N := 9) rfl ?_); refine Kd.R_lit Kd.string _ 9 ?hg (N := 9) ?hd (xs := ([] : List ByteArray)) (inner := []) (ok := fun _ => True) (okp := fun _ => True) ?hr ?hp (fun _ hk => hk) trivial (Below.refl _ _) (Nat.le_refl _) (by simp) ?_; (case hd => rfl); (case hg => rfl); (case hr => first | (go_simp; done) | (go_simp; rfl)); (case hp => exact (Reps.none _ _)); intro v102 w3 ho4 hb hg_ hnew_; clear hg_ hnew_; (first | rw [← Ny101.out] at ho4 | (simp only [Int.reduceToNat] at ho4; rw [← Ny101.out] at ho4)); have n0_ := Aside0.mk (Kd.R_lower ho4 (below_size bq)); have n1_ := Aside0.mk (below_step bq hb); clear HB; have HO103 := n0_; have HB := n1_; clear n0_ n1_; clear hb ho4))
 go_loopg [6, 12] k (fun kq v6 v12 w' => ∃ (x6_1 : List ByteArray) (x12_1 : Int), v12 = .int .i64 x12_1 ∧ Aside0 (impl_FieldGet.l0 kq a1 x6_1 l0 (l0.length : Int) x12_1 = some (r1, r2)) ∧ Aside0 (kq ≤ k) ∧ Aside0 (Kd.R Kd.string 9 w' w.heap.size (fun _ => True) v6 x6_1) ∧ Aside0 (Below w.heap.size w w'))
 case atStart => exact ⟨(y101), (0), (by first | rfl | (simp; done) | (simp [*]; done)), H', ⟨Nat.le_refl _⟩, ⟨by (with_reducible repeat (first | apply Kd.R_alloc | apply Kd.R_drewN | apply Kd.R_drew)); exact HO103.out⟩, ⟨by repeat (first | (with_reducible first | exact HB.out | apply below_alloc | apply pw_below_drewN | apply below_drew1) | exact HB.out)⟩⟩
 case round =>
  clear H'
  try clear p2
  obtain ⟨x6_1, x12_1, rfl, HA, HK1, HO_6, HB⟩ := hrel
  cases gk with
  | zero => exact absurd HA.out (by simp [impl_FieldGet.l0])
  | succ k1 =>
   have H := HA.out
   clear HA
   simp only [impl_FieldGet.l0] at H
   by_cases c5 : x12_1 < (l0.length : Int)
   ·rw [if_pos c5] at H
    have c5b0 : decide (x12_1 < (l0.length : Int)) = true := decide_eq_true c5
    clear c5
    by_cases c6 : 0 ≤ x12_1
    ·rw [if_pos c6] at H
     have c6b0 : decide (0 ≤ x12_1) = true := decide_eq_true c6
     clear c6
     by_cases c7 : x12_1 < (l0.length : Int)
     ·rw [if_pos c7] at H
      have c7b0 : decide (x12_1 < (l0.length : Int)) = true := decide_eq_true c7
      clear c7
      by_cases c8 : ((rd_T99 l0 x12_1).f0).toList = a1.toList
      ·rw [if_pos c8] at H
       have c8b0 : (((rd_T99 l0 x12_1).f0).toList == a1.toList) = true := beq_iff_eq.mpr c8
       have c8b1 : (((rd_T99 l0 x12_1).f0).toList != a1.toList) = false := bne_eq_false_iff_eq.mpr c8
       clear c8
       by_cases c9 : x6_1.length < 8796093022208
       ·rw [if_pos c9] at H
        have LMc9 := Aside0.mk c9
        clear c9
        obtain ⟨y106, hy106⟩ : ∃ y_ : List ByteArray, y_ = (x6_1 ++ [(rd_T99 l0 x12_1).f1]) := ⟨_, rfl⟩
        replace H : (impl_FieldGet.l0 k1 a1 y106 l0 (l0.length : Int) (wrap64 (x12_1 + 1))) = some (r1, r2) := by first | (rw [hy106]; with_reducible exact H) | (have H2_ := (Option.bind_some _ _).symm.trans H; rw [hy106]; with_reducible exact H2_) | (have H2_ := (Option.bind_some _ _).symm.trans H; with_reducible exact H2_) | with_reducible exact H | (rw [hy106]; exact H) | exact H
        have Ny106 := Aside0.mk hy106
        clear hy106
        have H' := Aside0.mk H
        clear H
        have p104 : 0 ≤ (x12_1 : Int) := of_decide_eq_true asm
        have q104 : x12_1 < (l0.length : Int) := of_decide_eq_true asm
        obtain ⟨ad104, e104, hx104_0, hx104_1⟩ := at_T99 HR0.out x12_1 p104 q104
        cases e104
        replace hx104_0 := (HB.out.cell (World.block_lt_of_cell? w _ hx104_0)).trans hx104_0
        replace hx104_1 := (HB.out.cell (World.block_lt_of_cell? w _ hx104_1)).trans hx104_1
        replace p104 := eq_true p104
        replace q104 := eq_true q104
        go_wp2_with (first | ((with_reducible refine gate_dst (N := 8) rfl ?_); refine box_event ?hg (N := 8) ?hd (cs := #[.string (⟨#[]⟩ : ByteArray), .string (⟨#[]⟩ : ByteArray)]) (t := 99) ?hr ?_; (case hd => rfl); (case hg => rfl); (case hr => first | (go_simp; done) | (go_simp; rfl)); intro gb105 hg w10 hbox hb; have n0_ := Aside0.mk (Kd.R_below (by (with_reducible repeat (first | apply Kd.R_alloc | apply Kd.R_drewN | apply Kd.R_drew)); exact HO_6.out) hb); have n1_ := Aside0.mk (below_step bq hb); have n2_ := Aside0.mk (hbox); have n3_ := Aside0.mk ((by rw [hg]; exact (below_size bq) : w.heap.size ≤ gb105)); have n4_ := Aside0.mk ((by rw [hg]; exact (below_size bq) : w.heap.size ≤ gb105)); clear HO_6; clear HB; have HO_6 := n0_; have HB := n1_; have BK105 := n2_; have GW105 := n3_; have GE105 := n4_; clear n0_ n1_ n2_ n3_ n4_; clear hb hbox hg; have hcz11_0 : w10.cell? ⟨gb105, 0, none⟩ = some (.string (⟨#[]⟩ : ByteArray)) := (blk_cell BK105.out 0).trans rfl; have hcz11_1 : w10.cell? ⟨gb105, 1, none⟩ = some (.string (⟨#[]⟩ : ByteArray)) := (blk_cell BK105.out 1).trans rfl; have hfz11_0 := blk_frozen BK105.out 0; have hfz11_1 := blk_frozen BK105.out 1) | ((with_reducible refine gate_builtin (b := .append) (xs := #[.tmp 20, .tmp 23]) rfl ?_); at_builtin; refine Kd.R_append Kd.string (w0 := w) w.heap.size rfl (.tmp 20) (.tmp 23) 76 9 (.string ⟨#[]⟩) 16 rfl Tryz.underlying76 info9 rfl (by decide) (by omega) u6 x6_1 ((rd_T99 l0 x12_1).f1) [.string ((rd_T99 l0 x12_1).f1)] (fun _ => True) (fun _ => False) rfl (by first | (go_simp; done) | (go_simp; rfl)) ?aP (fun _ hk => hk.elim) ?aF ?aO ?aB ?aS ?aL ?_; (case aP => exact rfl); (case aB => exact (by repeat (first | (with_reducible first | exact HB.out | apply below_alloc | apply pw_below_drewN | apply below_drew1 | refine below_set ?_ GE105.out) | exact HB.out))); (case aF => exact (fun _ _ => trivial)); (case aO => exact (by (with_reducible repeat (first | apply Kd.R_alloc | apply Kd.R_drewN | apply Kd.R_drew)); exact Kd.R_mono (Kd.R_far (p := ⟨gb105, 1, none⟩) (Kd.R_far (p := ⟨gb105, 0, none⟩) (Kd.R_types HO_6.out BK105.out (by decide)) (fun _ hk => hk.2) (.string ((rd_T99 l0 x12_1).f0))) (fun _ hk => hk.2) (.string ((rd_T99 l0 x12_1).f1))) (fun _ hk => trivial))); (case aS => exact (below_size (by repeat (first | (with_reducible first | exact HB.out | apply below_alloc | apply pw_below_drewN | apply below_drew1 | refine below_set ?_ GE105.out) | exact HB.out)))); (case aL => have := LMc9.out; omega); intro v107 w12 ho hb hg hat; rw [← Ny106.out] at ho; have n0_ := Aside0.mk (blk_grown (g := gb105) (o := .cells #[.string ((rd_T99 l0 x12_1).f0), .string ((rd_T99 l0 x12_1).f1)] 99 (0, 0)) (by (with_reducible repeat (first | refine blk_drewN ?_ _ | refine blk_drew ?_ | refine blk_alloc ?_ _)); refine blk_put (cs := #[.string ((rd_T99 l0 x12_1).f0), .string (⟨#[]⟩ : ByteArray)]) ?_ 1 _ rfl; (with_reducible repeat (first | refine blk_drewN ?_ _ | refine blk_drew ?_ | refine blk_alloc ?_ _)); refine blk_put (cs := #[.string (⟨#[]⟩ : ByteArray), .string (⟨#[]⟩ : ByteArray)]) ?_ 0 _ rfl; (with_reducible repeat (first | refine blk_drewN ?_ _ | refine blk_drew ?_ | refine blk_alloc ?_ _)); exact BK105.out) hg (Kd.R_ne HO_6.out BK105.out (by decide))); have n1_ := Aside0.mk (hb); have n2_ := Aside0.mk (ho); clear BK105; clear HB; clear HO_6; have BK105 := n0_; have HB := n1_; have HO108 := n2_; clear n0_ n1_ n2_; clear ho hb hg hat))
        go_roundg k1
        case measure => have := HK1.out; omega
        case rel => exact ⟨(y106), (wrap64 (x12_1 + 1)), (by first | rfl | (simp; done) | (simp [*]; done)), H', ⟨by have := HK1.out; omega⟩, ⟨by (with_reducible repeat (first | apply Kd.R_alloc | apply Kd.R_drewN | apply Kd.R_drew)); exact HO108.out⟩, ⟨by repeat (first | (with_reducible first | exact HB.out | apply below_alloc | apply pw_below_drewN | apply below_drew1 | refine below_set ?_ GE105.out) | exact HB.out)⟩⟩
       ·rw [if_neg c9] at H
        exact absurd H (by simp)
      ·rw [if_neg c8] at H
       have c8b0 : (((rd_T99 l0 x12_1).f0).toList == a1.toList) = false := beq_eq_false_iff_ne.mpr c8
       have c8b1 : (((rd_T99 l0 x12_1).f0).toList != a1.toList) = true := bne_iff_ne.mpr c8
       have H' := Aside0.mk H
       clear H
       have p104 : 0 ≤ (x12_1 : Int) := of_decide_eq_true asm
       have q104 : x12_1 < (l0.length : Int) := of_decide_eq_true asm
       obtain ⟨ad104, e104, hx104_0, hx104_1⟩ := at_T99 HR0.out x12_1 p104 q104
       cases e104
       replace hx104_0 := (HB.out.cell (World.block_lt_of_cell? w _ hx104_0)).trans hx104_0
       replace hx104_1 := (HB.out.cell (World.block_lt_of_cell? w _ hx104_1)).trans hx104_1
       replace p104 := eq_true p104
       replace q104 := eq_true q104
       go_wp2_with (first | ((with_reducible refine gate_dst (N := 8) rfl ?_); refine box_event ?hg (N := 8) ?hd (cs := #[.string (⟨#[]⟩ : ByteArray), .string (⟨#[]⟩ : ByteArray)]) (t := 99) ?hr ?_; (case hd => rfl); (case hg => rfl); (case hr => first | (go_simp; done) | (go_simp; rfl)); intro gb105 hg w13 hbox hb; have n0_ := Aside0.mk (Kd.R_below (by (with_reducible repeat (first | apply Kd.R_alloc | apply Kd.R_drewN | apply Kd.R_drew)); exact HO_6.out) hb); have n1_ := Aside0.mk (below_step bq hb); have n2_ := Aside0.mk (hbox); have n3_ := Aside0.mk ((by rw [hg]; exact (below_size bq) : w.heap.size ≤ gb105)); have n4_ := Aside0.mk ((by rw [hg]; exact (below_size bq) : w.heap.size ≤ gb105)); clear HO_6; clear HB; have HO_6 := n0_; have HB := n1_; have BK105 := n2_; have GW105 := n3_; have GE105 := n4_; clear n0_ n1_ n2_ n3_ n4_; clear hb hbox hg; have hcz14_0 : w13.cell? ⟨gb105, 0, none⟩ = some (.string (⟨#[]⟩ : ByteArray)) := (blk_cell BK105.out 0).trans rfl; have hcz14_1 : w13.cell? ⟨gb105, 1, none⟩ = some (.string (⟨#[]⟩ : ByteArray)) := (blk_cell BK105.out 1).trans rfl; have hfz14_0 := blk_frozen BK105.out 0; have hfz14_1 := blk_frozen BK105.out 1))
       go_roundg k1
       case measure => have := HK1.out; omega
       case rel => exact ⟨(x6_1), (wrap64 (x12_1 + 1)), (by first | rfl | (simp; done) | (simp [*]; done)), H', ⟨by have := HK1.out; omega⟩, ⟨by (with_reducible repeat (first | apply Kd.R_alloc | apply Kd.R_drewN | apply Kd.R_drew)); exact Kd.R_mono (Kd.R_far (p := ⟨gb105, 1, none⟩) (Kd.R_far (p := ⟨gb105, 0, none⟩) (Kd.R_types HO_6.out BK105.out (by decide)) (fun _ hk => hk.2) (.string ((rd_T99 l0 x12_1).f0))) (fun _ hk => hk.2) (.string ((rd_T99 l0 x12_1).f1))) (fun _ hk => trivial)⟩, ⟨by repeat (first | (with_reducible first | exact HB.out | apply below_alloc | apply pw_below_drewN | apply below_drew1 | refine below_set ?_ GE105.out) | exact HB.out)⟩⟩
     ·rw [if_neg c7] at H
      exact absurd H (by simp)
    ·rw [if_neg c6] at H
     exact absurd H (by simp)
   ·rw [if_neg c5] at H
    have c5b0 : decide (x12_1 < (l0.length : Int)) = false := decide_eq_false c5
    clear c5
    replace H := Option.bind_eq_some_iff.mp H
    obtain ⟨t109, A150, H⟩ := H
    try dsimp only at H
    have A15 := Aside0.mk A150
    clear A150
    simp only [Option.some.injEq, Prod.mk.injEq] at H
    obtain ⟨rfl, rfl⟩ := H
    obtain ⟨Ao16, co16, eo16⟩ := Kd.R_slice HO_6.out
    subst eo16
    go_wp2_with (first | ((with_reducible refine gate_callee (f := 95) rfl ?_); refine goesL_ (some 27) rfl rfl Tryz.func95 (by kernel_rfl) rfl #[.slice Ao16 x6_1.length co16, .string (⟨#[44, 32]⟩ : ByteArray)] rfl am ?_; (with_reducible refine (strings_Join.calls _ _ x6_1 (⟨#[44, 32]⟩ : ByteArray) t109 _ ?side1 ?side2 A15.out).mono ?_); (case side1 => repeat (first | exact (Kd.R_reads' HO_6.out).2.2 | (with_reducible refine Kd.C_alloc ?_ _) | (with_reducible refine Kd.C_drewN ?_ _) | (with_reducible refine Kd.C_drew ?_))); (case side2 => exact (Kd.R_reads' HO_6.out).2.1); rintro e w17 ⟨rfl, hb⟩; refine ⟨_, rfl, ?_⟩; have n0_ := Aside0.mk (Kd.R_below (by (with_reducible repeat (first | apply Kd.R_alloc | apply Kd.R_drewN | apply Kd.R_drew)); exact HO_6.out) hb); have n1_ := Aside0.mk (below_step bq hb); clear HO_6; clear HB; have HO_6 := n0_; have HB := n1_; clear n0_ n1_; (try clear hb); (try clear hb2); (try clear hk); (try clear hi)))
    go_ret2
    exact ⟨by first | rfl | (simp [errW_none, errW_some] <;> rfl) | (simp [*, errW_none, errW_some] <;> rfl), bq⟩

end Go.Proofs.YtjldfmkpdkhnnaaGreatDoor.QL

namespace Go.Proofs.YtjldfmkpdkhnnaaGreatDoor.Ext
open Go.RowKit Go.Proofs.YtjldfmkpdkhnnaaGreatDoorW.PrintWords Go.Proofs.YtjldfmkpdkhnnaaGreatDoorW.PrintLast Go.Proofs.YtjldfmkpdkhnnaaGreatDoorW.PrintMore Go.Proofs.YtjldfmkpdkhnnaaGreatDoor.Aux Go.Proofs.YtjldfmkpdkhnnaaGreatDoor.Dom Go.Proofs.YtjldfmkpdkhnnaaGreatDoor.Glob
attribute [local go_sem] max2_int min2_int max_two min_two max_three min_three max_four min_four
def strings_Split.f (a0 : ByteArray) (a1 : ByteArray) : Option (List ByteArray) := if a0.size ≤ 8388608 ∧ a1 = ⟨#[32]⟩ then some ((splC 32 (bytesOf a0)).map strOfNums) else none
theorem strings_Split.calls (a0 : ByteArray) (a1 : ByteArray) (r : List ByteArray) (w : World) (hGMax : GMax w) (h : strings_Split.f a0 a1 = some r) :
    Calls Tryz.prog 133 #[.string a0, .string a1] w fun e w' => ∃ v0_ : Value, e = .returned (v0_) ∧ Kd.R Kd.string 9 w' w.heap.size (fun _ => True) v0_ r ∧ Below w.heap.size w w' := by
  have hs : a0.size ≤ 8388608 ∧ a1 = ⟨#[32]⟩ := by
    unfold strings_Split.f at h
    split at h
    · assumption
    · cases h
  unfold strings_Split.f at h
  rw [if_pos hs] at h
  have h := Option.some.inj h
  subst h
  obtain ⟨h1, rfl⟩ := hs
  obtain ⟨m, hm⟩ := hGMax
  have hl := splC_length (bytesOf a0) 32
  rw [bytesOf_length] at hl
  refine (Tryz.strings_Split a0 ⟨#[32]⟩ m w (by omega) hm (by decide)).mono ?_
  rintro e w' ⟨rfl, rfl⟩
  have e1 := splC_lib a0
  have e2 : Lib.countB a0 ⟨#[32]⟩ + 1 = ((splC 32 (bytesOf a0)).map strOfNums).length := by rw [← e1]; exact (Lib.splitB_all ⟨#[32]⟩ (by decide) 0 _ a0 rfl).symm
  rw [e1, e2]
  exact ⟨_, rfl, Kd.R_of_own (own_lit_of (enc := Value.string) w w.heap.size 9 ((splC 32 (bytesOf a0)).map strOfNums) (Nat.le_refl _) (by rw [List.length_map]; omega)) (fun _ _ => trivial), below_alloc (Below.refl _ _) _⟩

end Go.Proofs.YtjldfmkpdkhnnaaGreatDoor.Ext

namespace Go.Proofs.YtjldfmkpdkhnnaaGreatDoor.QL
open Go.RowKit Go.Proofs.YtjldfmkpdkhnnaaGreatDoorW.PrintWords Go.Proofs.YtjldfmkpdkhnnaaGreatDoorW.PrintLast Go.Proofs.YtjldfmkpdkhnnaaGreatDoorW.PrintMore Go.Proofs.YtjldfmkpdkhnnaaGreatDoor.Aux Go.Proofs.YtjldfmkpdkhnnaaGreatDoor.Dom Go.Proofs.YtjldfmkpdkhnnaaGreatDoor.Ext Go.Proofs.YtjldfmkpdkhnnaaGreatDoor.Glob
attribute [local go_sem] max2_int min2_int max_two min_two max_three min_three max_four min_four   -- for this text's walks alone

def impl_in.f (a0 : Int) (a1 : Int) (a2 : Int) : Option (Bool) := if a0 ≥ a1 then (some (decide (a0 ≤ a2))) else (some false)
set_option maxHeartbeats 8000000 in
set_option maxRecDepth 100000 in
theorem impl_in.calls (a0 : Int) (a1 : Int) (a2 : Int) (r : Bool) (w : World) (h : impl_in.f a0 a1 a2 = some r) :
  Calls Tryz.prog 124 #[.int .i64 a0, .int .i64 a1, .int .i64 a2] w fun e w' => e = .returned (.bool r) ∧ Drawn0 w w' := by
 have H : (if a0 ≥ a1 then (some (decide (a0 ≤ a2))) else (some false)) = some r := h
 clear h
 by_cases c4 : a0 ≥ a1
 ·rw [if_pos c4] at H
  have c4b0 : decide (a1 ≤ a0) = true := decide_eq_true c4
  clear c4
  obtain rfl := Option.some.inj H
  go_enter Tryz.func124, Tryz.ntmps124
  go_wp2
  go_ret
  exact ⟨by first | rfl | (simp; done) | (simp [*]; done) | (simp; generalize ByteArray.toList _ = L_; cases L_ <;> rfl), by repeat (first | exact Drawn0.refl _ | apply Drawn0.step)⟩
 ·rw [if_neg c4] at H
  have c4b0 : decide (a1 ≤ a0) = false := decide_eq_false c4
  clear c4
  obtain rfl := Option.some.inj H
  go_enter Tryz.func124, Tryz.ntmps124
  go_wp2
  go_ret
  exact ⟨by first | rfl | (simp; done) | (simp [*]; done) | (simp; generalize ByteArray.toList _ = L_; cases L_ <;> rfl), by repeat (first | exact Drawn0.refl _ | apply Drawn0.step)⟩

end Go.Proofs.YtjldfmkpdkhnnaaGreatDoor.QL

namespace Go.Proofs.YtjldfmkpdkhnnaaGreatDoor.QL
open Go.RowKit Go.Proofs.YtjldfmkpdkhnnaaGreatDoorW.PrintWords Go.Proofs.YtjldfmkpdkhnnaaGreatDoorW.PrintLast Go.Proofs.YtjldfmkpdkhnnaaGreatDoorW.PrintMore Go.Proofs.YtjldfmkpdkhnnaaGreatDoor.Aux Go.Proofs.YtjldfmkpdkhnnaaGreatDoor.Dom Go.Proofs.YtjldfmkpdkhnnaaGreatDoor.Ext Go.Proofs.YtjldfmkpdkhnnaaGreatDoor.Glob
attribute [local go_sem] max2_int min2_int max_two min_two max_three min_three max_four min_four   -- for this text's walks alone

def impl_IsLeap.f (a0 : Int) : Option (Bool) := if (Int.tmod a0 4) = 0 then (if (Int.tmod a0 100) = 0 then (some ((Int.tmod a0 400) == 0)) else (some true)) else (some ((Int.tmod a0 400) == 0))
set_option maxHeartbeats 8000000 in
set_option maxRecDepth 100000 in
theorem impl_IsLeap.calls (a0 : Int) (r : Bool) (w : World) (h : impl_IsLeap.f a0 = some r) :
  Calls Tryz.prog 198 #[.int .i64 a0] w fun e w' => e = .returned (.bool r) ∧ Drawn0 w w' := by
 have H : (if (Int.tmod a0 4) = 0 then (if (Int.tmod a0 100) = 0 then (some ((Int.tmod a0 400) == 0)) else (some true)) else (some ((Int.tmod a0 400) == 0))) = some r := h
 clear h
 by_cases c2 : (Int.tmod a0 4) = 0
 ·rw [if_pos c2] at H
  have c2b0 : ((Int.tmod a0 4) == 0) = true := beq_iff_eq.mpr c2
  have c2b1 : ((Int.tmod a0 4) != 0) = false := bne_eq_false_iff_eq.mpr c2
  clear c2
  by_cases c3 : (Int.tmod a0 100) = 0
  ·rw [if_pos c3] at H
   have c3b0 : ((Int.tmod a0 100) == 0) = true := beq_iff_eq.mpr c3
   have c3b1 : ((Int.tmod a0 100) != 0) = false := bne_eq_false_iff_eq.mpr c3
   clear c3
   obtain rfl := Option.some.inj H
   go_enter Tryz.func198, Tryz.ntmps198
   go_wp2
   go_ret
   exact ⟨by first | rfl | (simp; done) | (simp [*]; done) | (simp; generalize ByteArray.toList _ = L_; cases L_ <;> rfl), by repeat (first | exact Drawn0.refl _ | apply Drawn0.step)⟩
  ·rw [if_neg c3] at H
   have c3b0 : ((Int.tmod a0 100) == 0) = false := beq_eq_false_iff_ne.mpr c3
   have c3b1 : ((Int.tmod a0 100) != 0) = true := bne_iff_ne.mpr c3
   obtain rfl := Option.some.inj H
   go_enter Tryz.func198, Tryz.ntmps198
   go_wp2
   go_ret
   exact ⟨by first | rfl | (simp; done) | (simp [*]; done) | (simp; generalize ByteArray.toList _ = L_; cases L_ <;> rfl), by repeat (first | exact Drawn0.refl _ | apply Drawn0.step)⟩
 ·rw [if_neg c2] at H
  have c2b0 : ((Int.tmod a0 4) == 0) = false := beq_eq_false_iff_ne.mpr c2
  have c2b1 : ((Int.tmod a0 4) != 0) = true := bne_iff_ne.mpr c2
  obtain rfl := Option.some.inj H
  go_enter Tryz.func198, Tryz.ntmps198
  go_wp2
  go_ret
  exact ⟨by first | rfl | (simp; done) | (simp [*]; done) | (simp; generalize ByteArray.toList _ = L_; cases L_ <;> rfl), by repeat (first | exact Drawn0.refl _ | apply Drawn0.step)⟩

end Go.Proofs.YtjldfmkpdkhnnaaGreatDoor.QL

