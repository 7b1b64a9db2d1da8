-- Written by this session's own program (a turn of the kit's print, with contracts of the session's own where the print has none).
import Derived.Test.YtjldfmkpdkhnnaaDoorProg
import Derived.Below
import Derived.Deep.Draws
import Derived.Deep.AppendLies
import Derived.Maps.AppendAt
import Derived.OwnWalk
import Derived.Laws.BytesArg
import Derived.Laws.MakeOwn
import Derived.Laws.OwnMore
import Derived.Deep.OwnRows
import Derived.Tactics
import Derived.Lib.ConvBytes
import Derived.Laws.Slices
import Derived.WalkKit
import Derived.KernelRfl
import Derived.RowKit3
import Derived.Deep.LoopGhost
import Derived.Deep.QuietTactic
import Derived.BigQuiet
import Derived.WideLaws
import Derived.Deep.DeepCutAuto
import Derived.Deep.CutBlock
import Derived.Deep.RegionHeld3
import Derived.Laws.Rows
import Derived.Lib.AppendStr
import Derived.ArgAppend
import Derived.Laws.IdiomCopy
import Derived.OrdersHeld
import Derived.Laws.BitsLemmas
import Derived.RowKit
import Derived.Test.YtjldfmkpdkhnnaaDoorBas
import Derived.Test.YtjldfmkpdkhnnaaDoorSq
import Derived.Test.YtjldfmkpdkhnnaaDoorExt
import Derived.Test.YtjldfmkpdkhnnaaDoorWWords
import Derived.Test.YtjldfmkpdkhnnaaDoorWLast
import Derived.Test.YtjldfmkpdkhnnaaDoorWTab
import Derived.Test.YtjldfmkpdkhnnaaDoorWFour
import Derived.Test.YtjldfmkpdkhnnaaDoorWQPut
import Derived.Test.YtjldfmkpdkhnnaaDoorWApart
import Derived.Test.YtjldfmkpdkhnnaaDoorWArr
import Derived.Test.YtjldfmkpdkhnnaaDoorWZeros
import Derived.Test.YtjldfmkpdkhnnaaDoorWFoot
import Derived.Test.YtjldfmkpdkhnnaaDoorWKept
import Derived.Test.YtjldfmkpdkhnnaaDoorWShare
import Derived.Test.YtjldfmkpdkhnnaaDoorWN
import Derived.Test.YtjldfmkpdkhnnaaDoorWFootNe
import Derived.Test.YtjldfmkpdkhnnaaDoorWAt
import Derived.Test.YtjldfmkpdkhnnaaDoorWEqStruct
import Derived.Test.YtjldfmkpdkhnnaaDoorWRepsOne
import Derived.Test.YtjldfmkpdkhnnaaDoorWInv
import Derived.Test.YtjldfmkpdkhnnaaDoorWInvWords
import Derived.Test.YtjldfmkpdkhnnaaDoorWGuard
import Derived.Test.YtjldfmkpdkhnnaaDoorWNEv
import Derived.Test.YtjldfmkpdkhnnaaDoorWMore
import Derived.Shelf.SlicesQ.IndexFunc
import Derived.Test.YtjldfmkpdkhnnaaDoorGlob
import Derived.Test.YtjldfmkpdkhnnaaDoorEstrconvItoa
import Derived.Test.YtjldfmkpdkhnnaaDoorEstrconvAtoi
import Derived.Test.YtjldfmkpdkhnnaaDoorEstringsSplit
namespace Go.Proofs.YtjldfmkpdkhnnaaDoor.QL
open Go.RowKit Go.Proofs.YtjldfmkpdkhnnaaDoorW.PrintWords Go.Proofs.YtjldfmkpdkhnnaaDoorW.PrintLast Go.Proofs.YtjldfmkpdkhnnaaDoorW.PrintMore Go.Proofs.YtjldfmkpdkhnnaaDoor.Aux Go.Proofs.YtjldfmkpdkhnnaaDoor.Dom Go.Proofs.YtjldfmkpdkhnnaaDoor.Ext Go.Proofs.YtjldfmkpdkhnnaaDoor.Glob
attribute [local go_sem] max2_int min2_int max_two min_two max_three min_three max_four min_four   -- for this text's walks alone
set_option linter.unusedVariables false
set_option linter.unusedSimpArgs false



def errW : Option Int → Value
 | none => .nilIface
 | some c => .iface 0 (.int .i64 c)
theorem errW_none : errW none = .nilIface := rfl
theorem errW_some (c : Int) : errW (some c) = .iface 0 (.int .i64 c) := rfl

theorem info3 : (Tryd.prog.info? 3).map (fun i => (i.zero, i.size, i.bytes)) = some (some (.int .i64 0), 1, 8) := by kernel_rfl
theorem info5 : (Tryd.prog.info? 5).map (fun i => (i.zero, i.size, i.bytes)) = some (some (.int .u8 0), 1, 1) := by kernel_rfl
theorem info9 : (Tryd.prog.info? 9).map (fun i => (i.zero, i.size, i.bytes)) = some (some (.string ⟨#[]⟩), 1, 16) := by kernel_rfl
theorem info49 : (Tryd.prog.info? 49).map (fun i => (i.zero, i.size, i.bytes)) = some (some (.agg #[(.string ⟨#[]⟩), (.string ⟨#[]⟩)]), 2, 32) := by kernel_rfl
theorem info69 : (Tryd.prog.info? 69).map (fun i => (i.zero, i.size, i.bytes)) = some (some (.agg #[(.string ⟨#[]⟩), (.string ⟨#[]⟩)]), 2, 32) := by kernel_rfl
-- the values' own types
/-! #### struct type 66 -/
structure S66 where
 f0 : ByteArray
 f1 : ByteArray
def z66 : S66 := ⟨(⟨#[]⟩ : ByteArray), (⟨#[]⟩ : ByteArray)⟩
def k66 : Kd S66 := Kd.iso (Kd.pair Kd.string Kd.string) (fun x : S66 => (x.f0, x.f1))
theorem k66_open {w : World} {x : S66} {cs : List Value} (h : k66.K w x cs) : cs = [.string x.f0, .string x.f1] := by
 obtain ⟨_, _, rfl, rfl, rfl⟩ := h
 exact rfl
theorem k66_openM {w : World} {base : Nat} {ok : Nat → Prop} {x : S66} {cs : List Value} (h : k66.M w base ok x cs) : cs = [.string x.f0, .string x.f1] := by
 obtain ⟨_, _, rfl, rfl, rfl⟩ := h
 exact rfl
theorem k66_mk (w : World) (x : S66)  : k66.K w x [.string x.f0, .string x.f1] := ⟨[.string x.f0], [.string x.f1], rfl, rfl, rfl⟩
theorem k66_mkM (w : World) (base : Nat) (ok : Nat → Prop) (x : S66)  : k66.M w base ok x [.string x.f0, .string x.f1] := ⟨[.string x.f0], [.string x.f1], rfl, rfl, rfl⟩
def rd_T66 (xs : List S66) (i : Int) : S66 := xs.getD i.toNat z66
theorem at_T66 {w : World} {A : Option Addr} {n : Nat} {xs : List S66} (h : Kd.C k66 w A n xs) (i : Int) (h0 : 0 ≤ i) (h1 : i < n) : ∃ ad , A = some ad ∧ w.cell? (ad.add (i.toNat * 2)) = some (.string (rd_T66 xs i).f0) ∧ w.cell? ⟨(ad.add (i.toNat * 2)).block, (ad.add (i.toNat * 2)).off + 1, none⟩ = some (.string (rd_T66 xs i).f1) := by
 obtain ⟨ad, c, e, _, hK, hc0⟩ := Kd.C_get h z66 i h0 h1
 have hc : ∀ j u, c[j]? = some u → w.cell? (ad.add (i.toNat * 2 + j)) = some u := hc0
 obtain rfl := k66_open hK
 exact ⟨ad, e, hc 0 _ rfl, by rw [← add_field _ _ 1 (by omega)]; exact hc 1 _ rfl⟩

/-! #### struct type 49 -/
structure S49 where
 f0 : ByteArray
 f1 : ByteArray
def z49 : S49 := ⟨(⟨#[]⟩ : ByteArray), (⟨#[]⟩ : ByteArray)⟩
def k49 : Kd S49 := Kd.iso (Kd.pair Kd.string Kd.string) (fun x : S49 => (x.f0, x.f1))
theorem k49_open {w : World} {x : S49} {cs : List Value} (h : k49.K w x cs) : cs = [.string x.f0, .string x.f1] := by
 obtain ⟨_, _, rfl, rfl, rfl⟩ := h
 exact rfl
theorem k49_openM {w : World} {base : Nat} {ok : Nat → Prop} {x : S49} {cs : List Value} (h : k49.M w base ok x cs) : cs = [.string x.f0, .string x.f1] := by
 obtain ⟨_, _, rfl, rfl, rfl⟩ := h
 exact rfl
theorem k49_mk (w : World) (x : S49)  : k49.K w x [.string x.f0, .string x.f1] := ⟨[.string x.f0], [.string x.f1], rfl, rfl, rfl⟩
theorem k49_mkM (w : World) (base : Nat) (ok : Nat → Prop) (x : S49)  : k49.M w base ok x [.string x.f0, .string x.f1] := ⟨[.string x.f0], [.string x.f1], rfl, rfl, rfl⟩
def rd_T49 (xs : List S49) (i : Int) : S49 := xs.getD i.toNat z49
theorem at_T49 {w : World} {A : Option Addr} {n : Nat} {xs : List S49} (h : Kd.C k49 w A n xs) (i : Int) (h0 : 0 ≤ i) (h1 : i < n) : ∃ ad , A = some ad ∧ w.cell? (ad.add (i.toNat * 2)) = some (.string (rd_T49 xs i).f0) ∧ w.cell? ⟨(ad.add (i.toNat * 2)).block, (ad.add (i.toNat * 2)).off + 1, none⟩ = some (.string (rd_T49 xs i).f1) := by
 obtain ⟨ad, c, e, _, hK, hc0⟩ := Kd.C_get h z49 i h0 h1
 have hc : ∀ j u, c[j]? = some u → w.cell? (ad.add (i.toNat * 2 + j)) = some u := hc0
 obtain rfl := k49_open hK
 exact ⟨ad, e, hc 0 _ rfl, by rw [← add_field _ _ 1 (by omega)]; exact hc 1 _ rfl⟩

/-! #### struct type 69 -/
structure S69 where
 f0 : ByteArray
 f1 : ByteArray
def z69 : S69 := ⟨(⟨#[]⟩ : ByteArray), (⟨#[]⟩ : ByteArray)⟩
def k69 : Kd S69 := Kd.iso (Kd.pair Kd.string Kd.string) (fun x : S69 => (x.f0, x.f1))
theorem k69_open {w : World} {x : S69} {cs : List Value} (h : k69.K w x cs) : cs = [.string x.f0, .string x.f1] := by
 obtain ⟨_, _, rfl, rfl, rfl⟩ := h
 exact rfl
theorem k69_openM {w : World} {base : Nat} {ok : Nat → Prop} {x : S69} {cs : List Value} (h : k69.M w base ok x cs) : cs = [.string x.f0, .string x.f1] := by
 obtain ⟨_, _, rfl, rfl, rfl⟩ := h
 exact rfl
theorem k69_mk (w : World) (x : S69)  : k69.K w x [.string x.f0, .string x.f1] := ⟨[.string x.f0], [.string x.f1], rfl, rfl, rfl⟩
theorem k69_mkM (w : World) (base : Nat) (ok : Nat → Prop) (x : S69)  : k69.M w base ok x [.string x.f0, .string x.f1] := ⟨[.string x.f0], [.string x.f1], rfl, rfl, rfl⟩
def rd_T69 (xs : List S69) (i : Int) : S69 := xs.getD i.toNat z69
theorem at_T69 {w : World} {A : Option Addr} {n : Nat} {xs : List S69} (h : Kd.C k69 w A n xs) (i : Int) (h0 : 0 ≤ i) (h1 : i < n) : ∃ ad , A = some ad ∧ w.cell? (ad.add (i.toNat * 2)) = some (.string (rd_T69 xs i).f0) ∧ w.cell? ⟨(ad.add (i.toNat * 2)).block, (ad.add (i.toNat * 2)).off + 1, none⟩ = some (.string (rd_T69 xs i).f1) := by
 obtain ⟨ad, c, e, _, hK, hc0⟩ := Kd.C_get h z69 i h0 h1
 have hc : ∀ j u, c[j]? = some u → w.cell? (ad.add (i.toNat * 2 + j)) = some u := hc0
 obtain rfl := k69_open hK
 exact ⟨ad, e, hc 0 _ rfl, by rw [← add_field _ _ 1 (by omega)]; exact hc 1 _ rfl⟩

def rd_L6 (xs : List (List ByteArray)) (i : Int) : (List ByteArray) := xs.getD i.toNat ([] : List ByteArray)
theorem at_L6 {w : World} {A : Option Addr} {n : Nat} {xs : List (List ByteArray)} (h : Kd.C (Kd.slice 9 Kd.string) w A n xs) (i : Int) (h0 : 0 ≤ i) (h1 : i < n) : ∃ ad A0 c0, A = some ad ∧ w.cell? (ad.add i.toNat) = some (.slice A0 (rd_L6 xs i).length c0) ∧ (rd_L6 xs i).length ≤ c0 ∧ Kd.string.C w A0 (rd_L6 xs i).length (rd_L6 xs i) := by
 obtain ⟨ad, c, e, _, hK, hc0⟩ := Kd.C_get h ([] : List ByteArray) i h0 h1
 have hc : ∀ j u, c[j]? = some u → w.cell? (ad.add (i.toNat * 1 + j)) = some u := hc0
 obtain ⟨A0, c0, rfl, l0, g0⟩ := hK
 exact ⟨ad, A0, c0, e, by have hq := hc 0 _ rfl; rwa [Nat.mul_one, Nat.add_zero] at hq, l0, g0⟩

def rd_L8 (xs : List (List S49)) (i : Int) : (List S49) := xs.getD i.toNat ([] : List S49)
theorem at_L8 {w : World} {A : Option Addr} {n : Nat} {xs : List (List S49)} (h : Kd.C (Kd.slice 49 k49) w A n xs) (i : Int) (h0 : 0 ≤ i) (h1 : i < n) : ∃ ad A0 c0, A = some ad ∧ w.cell? (ad.add i.toNat) = some (.slice A0 (rd_L8 xs i).length c0) ∧ (rd_L8 xs i).length ≤ c0 ∧ k49.C w A0 (rd_L8 xs i).length (rd_L8 xs i) := by
 obtain ⟨ad, c, e, _, hK, hc0⟩ := Kd.C_get h ([] : List S49) i h0 h1
 have hc : ∀ j u, c[j]? = some u → w.cell? (ad.add (i.toNat * 1 + j)) = some u := hc0
 obtain ⟨A0, c0, rfl, l0, g0⟩ := hK
 exact ⟨ad, A0, c0, e, by have hq := hc 0 _ rfl; rwa [Nat.mul_one, Nat.add_zero] at hq, l0, g0⟩

end Go.Proofs.YtjldfmkpdkhnnaaDoor.QL

namespace Go.Proofs.YtjldfmkpdkhnnaaDoor.QL
open Go.RowKit Go.Proofs.YtjldfmkpdkhnnaaDoorW.PrintWords Go.Proofs.YtjldfmkpdkhnnaaDoorW.PrintLast Go.Proofs.YtjldfmkpdkhnnaaDoorW.PrintMore Go.Proofs.YtjldfmkpdkhnnaaDoor.Aux Go.Proofs.YtjldfmkpdkhnnaaDoor.Dom Go.Proofs.YtjldfmkpdkhnnaaDoor.Ext Go.Proofs.YtjldfmkpdkhnnaaDoor.Glob
attribute [local go_sem] max2_int min2_int max_two min_two max_three min_three max_four min_four   -- for this text's walks alone
set_option linter.unusedVariables false
set_option linter.unusedSimpArgs false

/-! ### laws_big: function 13 -/
def laws_big.f (l0 : List Int) : Option (Bool) := some (decide ((l0.length : Int) > 1048576))
set_option maxHeartbeats 8000000 in
set_option maxRecDepth 100000 in
theorem laws_big.calls (A0 : Option Addr) (c0 : Nat) (l0 : List Int) (r : Bool) (w : World) (hr0 : Kd.C (Kd.int .u8) w A0 l0.length l0) (hc0 : l0.length ≤ c0) (h : laws_big.f l0 = some r) :
  Calls Tryd.prog 13 #[.slice A0 l0.length c0] w fun e w' => e = .returned (.bool r) ∧ Drawn0 w w' := by
 have HR0 := Aside0.mk hr0
 have HC0 := Aside0.mk hc0
 clear hr0 hc0
 have H : (some (decide ((l0.length : Int) > 1048576))) = some r := h
 clear h
 obtain rfl := Option.some.inj H
 go_enter Tryd.func13, Tryd.ntmps13
 go_wp2
 go_ret
 exact ⟨by first | rfl | (simp; done) | (simp [*]; done) | (simp; generalize ByteArray.toList _ = L_; cases L_ <;> rfl), by repeat (first | exact Drawn0.refl _ | apply Drawn0.step)⟩

end Go.Proofs.YtjldfmkpdkhnnaaDoor.QL

namespace Go.Proofs.YtjldfmkpdkhnnaaDoor.QL
open Go.RowKit Go.Proofs.YtjldfmkpdkhnnaaDoorW.PrintWords Go.Proofs.YtjldfmkpdkhnnaaDoorW.PrintLast Go.Proofs.YtjldfmkpdkhnnaaDoorW.PrintMore Go.Proofs.YtjldfmkpdkhnnaaDoor.Aux Go.Proofs.YtjldfmkpdkhnnaaDoor.Dom Go.Proofs.YtjldfmkpdkhnnaaDoor.Ext Go.Proofs.YtjldfmkpdkhnnaaDoor.Glob
attribute [local go_sem] max2_int min2_int max_two min_two max_three min_three max_four min_four   -- for this text's walks alone
set_option linter.unusedVariables false
set_option linter.unusedSimpArgs false

/-- A state of type 110 at block g of W; what its slices lead to came in by w0. -/
def IsS110 (w0 W : World) (g : Nat) (f0 : List Int) (f1 : Int) (f2 : Int) : Prop := ∃ A0 c0, W.heap[g]? = some (.cells #[.slice A0 f0.length c0, .int .i64 f1, .int .i64 f2] 110 (0, 0)) ∧ w0.heap.size ≤ g ∧ Kd.C (Kd.int .u8) w0 A0 f0.length f0
theorem IsS110.grown {w0 W : World} {g : Nat} {f0 : List Int} {f1 : Int} {f2 : Int} {W1 : World} {row : Option Nat} (h : IsS110 w0 W g f0 f1 f2) (hw : W.grownBy W1 row) (hne : some g ≠ row) : IsS110 w0 W1 g f0 f1 f2 := by
 obtain ⟨A0, c0, hb, hg, hr0⟩ := h
 exact ⟨A0, c0, blk_grown hb hw hne, hg, hr0⟩
theorem IsS110.own_neN {w0 W : World} {g : Nat} {f0 : List Int} {f1 : Int} {f2 : Int} {α : Type} {d : Kd α} {e : Nat} {base : Nat} {ok : Nat → Prop} {v : Value} {xs : List α} (h : IsS110 w0 W g f0 f1 f2) (ho : Kd.N d e W base ok v xs) (ht : e ≠ 110) : some g ≠ v.ownBlock := by
 obtain ⟨A0, c0, hb, hg, hr0⟩ := h
 exact Kd.N_ne ho hb ht
theorem IsS110.fresh {w0 W : World} {g : Nat} {f0 : List Int} {f1 : Int} {f2 : Int} (h : IsS110 w0 W g f0 f1 f2) : ∀ k, W.heap.size ≤ k → k ≠ g := by
 obtain ⟨A0, c0, hb, hg, hr0⟩ := h
 exact Kd.freshB hb
theorem IsS110.kept {w0 W : World} {g : Nat} {f0 : List Int} {f1 : Int} {f2 : Int} {W1 : World} {S : Nat → Prop} (h : IsS110 w0 W g f0 f1 f2) (hk : Kept W W1 S) (hne : ¬ S g) : IsS110 w0 W1 g f0 f1 f2 := by
 obtain ⟨A0, c0, hb, hg, hr0⟩ := h
 exact ⟨A0, c0, blk_kept hb hk hne, hg, hr0⟩
theorem IsS110.below {w0 W : World} {g : Nat} {f0 : List Int} {f1 : Int} {f2 : Int} {W1 : World} (h : IsS110 w0 W g f0 f1 f2) (hw : Below W.heap.size W W1) : IsS110 w0 W1 g f0 f1 f2 := h.grown (grown_of_below hw none) (by simp)
theorem IsS110.alloc {w0 W : World} {g : Nat} {f0 : List Int} {f1 : Int} {f2 : Int} (h : IsS110 w0 W g f0 f1 f2) (o : Obj) : IsS110 w0 (W.alloc o) g f0 f1 f2 := h.below (below_alloc (Below.refl _ _) o)
theorem IsS110.drewN {w0 W : World} {g : Nat} {f0 : List Int} {f1 : Int} {f2 : Int} (h : IsS110 w0 W g f0 f1 f2) (m : Nat) : IsS110 w0 (W.drewN m) g f0 f1 f2 := h
theorem IsS110.drew {w0 W : World} {g : Nat} {f0 : List Int} {f1 : Int} {f2 : Int} (h : IsS110 w0 W g f0 f1 f2) : IsS110 w0 W.drew g f0 f1 f2 := h
theorem IsS110.at_ {w0 W : World} {g : Nat} {f0 : List Int} {f1 : Int} {f2 : Int} {w' : World} {m : Nat} (hq : W.drewN m = w') (h : IsS110 w0 W g f0 f1 f2) : IsS110 w0 w' g f0 f1 f2 := by subst hq; exact IsS110.drewN h m
theorem IsS110.apart {w0 W : World} {g : Nat} {f0 : List Int} {f1 : Int} {f2 : Int} {α : Type} {d : Kd α} {e : Nat} {base : Nat} {ok : Nat → Prop} {v : Value} {xs : List α} (h : IsS110 w0 W g f0 f1 f2) (ho : d.R e W base ok v xs) (ht : ∀ q, q ∈ e :: d.E → q ≠ 110) : d.R e W base (fun k => ok k ∧ k ≠ g) v xs := by
 obtain ⟨A0, c0, hb, hg, hr0⟩ := h
 exact Kd.R_types ho hb ht
theorem IsS110.own_ne {w0 W : World} {g : Nat} {f0 : List Int} {f1 : Int} {f2 : Int} {α : Type} {d : Kd α} {e : Nat} {base : Nat} {ok : Nat → Prop} {v : Value} {xs : List α} (h : IsS110 w0 W g f0 f1 f2) (ho : d.R e W base ok v xs) (ht : e ≠ 110) : some g ≠ v.ownBlock := by
 obtain ⟨A0, c0, hb, hg, hr0⟩ := h
 exact Kd.R_ne ho hb ht
theorem IsS110.apartQ {w0 W : World} {g : Nat} {f0 : List Int} {f1 : Int} {f2 : Int} {α : Type} {d : Kd α} {e : Nat} {base : Nat} {ok : Nat → Prop} {v : Value} {xs : List α} (h : IsS110 w0 W g f0 f1 f2) (ho : d.Q e W base ok v xs) (ht : ∀ q, q ∈ e :: d.E → q ≠ 110) : d.Q e W base (fun k => ok k ∧ k ≠ g) v xs := by
 obtain ⟨A0, c0, hb, hg, hr0⟩ := h
 exact Kd.Q_types ho hb ht
theorem IsS110.own_neQ {w0 W : World} {g : Nat} {f0 : List Int} {f1 : Int} {f2 : Int} {α : Type} {d : Kd α} {e : Nat} {base : Nat} {ok : Nat → Prop} {v : Value} {xs : List α} (h : IsS110 w0 W g f0 f1 f2) (ho : d.Q e W base ok v xs) (ht : e ≠ 110) : some g ≠ v.ownBlock := by
 obtain ⟨A0, c0, hb, hg, hr0⟩ := h
 exact Kd.Q_ne ho hb ht
theorem IsS110.apartS {w0 W : World} {g : Nat} {f0 : List Int} {f1 : Int} {f2 : Int} {α : Type} {d : Kd α} {e : Nat} {base : Nat} {ok : Nat → Prop} {v : Value} {xs : List α} (h : IsS110 w0 W g f0 f1 f2) (ho : d.S e W base ok v xs) (ht : ∀ q, q ∈ e :: d.E → q ≠ 110) : d.S e W base (fun k => ok k ∧ k ≠ g) v xs := by
 obtain ⟨A0, c0, hb, hg, hr0⟩ := h
 exact Kd.S_types ho hb ht
theorem IsS110.own_neS {w0 W : World} {g : Nat} {f0 : List Int} {f1 : Int} {f2 : Int} {α : Type} {d : Kd α} {e : Nat} {base : Nat} {ok : Nat → Prop} {v : Value} {xs : List α} (h : IsS110 w0 W g f0 f1 f2) (ho : d.S e W base ok v xs) (ht : e ≠ 110) : some g ≠ v.ownBlock := by
 obtain ⟨A0, c0, hb, hg, hr0⟩ := h
 exact Kd.S_ne ho hb ht
theorem IsS110.lt {w0 W : World} {g : Nat} {f0 : List Int} {f1 : Int} {f2 : Int} (h : IsS110 w0 W g f0 f1 f2) : g < W.heap.size := by
 obtain ⟨A0, c0, hb, hg, hr0⟩ := h
 exact blk_lt hb
theorem IsS110.ge {w0 W : World} {g : Nat} {f0 : List Int} {f1 : Int} {f2 : Int} (h : IsS110 w0 W g f0 f1 f2) : w0.heap.size ≤ g := by
 obtain ⟨A0, c0, hb, hg, hr0⟩ := h
 exact hg
theorem IsS110.ne_blk {w0 W : World} {g : Nat} {f0 : List Int} {f1 : Int} {f2 : Int} {a : Nat} {cs : Array Value} {t : TypeId} {fr : Nat × Nat} (h : IsS110 w0 W g f0 f1 f2) (hb2 : W.heap[a]? = some (.cells cs t fr)) (ht : t ≠ 110) : g ≠ a := by
 obtain ⟨A0, c0, hb, hg, hr0⟩ := h
 rintro rfl
 rw [hb] at hb2
 injection hb2 with hb2
 injection hb2 with _ ht2
 exact ht ht2.symm
theorem IsS110.far {w0 W : World} {g : Nat} {f0 : List Int} {f1 : Int} {f2 : Int} {p : Addr} (h : IsS110 w0 W g f0 f1 f2) (hne : g ≠ p.block) (u : Value) : IsS110 w0 (W.setCell p u) g f0 f1 f2 := by
 obtain ⟨A0, c0, hb, hg, hr0⟩ := h
 exact ⟨A0, c0, blk_far hb hne u, hg, hr0⟩
theorem cellS110_0 {W : World} {g : Nat} {A0 : Option Addr} {c0 : Nat} {f0 : List Int} {f1 : Int} {f2 : Int} (h : W.heap[g]? = some (.cells #[.slice A0 f0.length c0, .int .i64 f1, .int .i64 f2] 110 (0, 0))) : W.cell? ⟨g, 0, none⟩ = some (.slice A0 f0.length c0) := (blk_cell h 0).trans rfl
theorem cellS110_1 {W : World} {g : Nat} {A0 : Option Addr} {c0 : Nat} {f0 : List Int} {f1 : Int} {f2 : Int} (h : W.heap[g]? = some (.cells #[.slice A0 f0.length c0, .int .i64 f1, .int .i64 f2] 110 (0, 0))) : W.cell? ⟨g, 1, none⟩ = some (.int .i64 f1) := (blk_cell h 1).trans rfl
theorem IsS110.set_1 {w0 W : World} {g : Nat} {f0 : List Int} {f1 : Int} {f2 : Int} (h : IsS110 w0 W g f0 f1 f2) (x : Int) : IsS110 w0 (W.setCell ⟨g, 1, none⟩ (.int .i64 x)) g f0 x f2 := by
 obtain ⟨A0, c0, hb, hg, hr0⟩ := h
 exact ⟨A0, c0, by simpa using blk_set hb 1 (.int .i64 x), hg, hr0⟩
theorem cellS110_2 {W : World} {g : Nat} {A0 : Option Addr} {c0 : Nat} {f0 : List Int} {f1 : Int} {f2 : Int} (h : W.heap[g]? = some (.cells #[.slice A0 f0.length c0, .int .i64 f1, .int .i64 f2] 110 (0, 0))) : W.cell? ⟨g, 2, none⟩ = some (.int .i64 f2) := (blk_cell h 2).trans rfl
theorem IsS110.set_2 {w0 W : World} {g : Nat} {f0 : List Int} {f1 : Int} {f2 : Int} (h : IsS110 w0 W g f0 f1 f2) (x : Int) : IsS110 w0 (W.setCell ⟨g, 2, none⟩ (.int .i64 x)) g f0 f1 x := by
 obtain ⟨A0, c0, hb, hg, hr0⟩ := h
 exact ⟨A0, c0, by simpa using blk_set hb 2 (.int .i64 x), hg, hr0⟩
theorem IsS110.new (w0 W : World) (A0 : Option Addr) (c0 : Nat) (f0 : List Int) (f1 : Int) (f2 : Int) (hB : Below w0.heap.size w0 W) (hr0 : Kd.C (Kd.int .u8) w0 A0 f0.length f0) : IsS110 w0 (W.alloc (.cells #[.slice A0 f0.length c0, .int .i64 f1, .int .i64 f2] 110)) W.heap.size f0 f1 f2 := ⟨A0, c0, by simpa using heap_alloc_new W _, hB.size, hr0⟩

/-! ### spec_l1New: function 57 -/
def spec_l1New.l0 : Nat → List Int → Int → Int → Option (List Int × Int × Int)
 | 0, _, _, _ => none
 | k + 1, x0, x3, x4 => if x4 < (x0.length : Int) then (if x4 < 4000 then (if 0 ≤ x4 then (spec_l1New.l0 k x0 (Go.bits .and .i64 (wrap64 ((wrap64 ((wrap64 (x3 * 131)) + (wrap64 (rd x0 x4)))) + 7)) 1073741823) (wrap64 (x4 + 1))) else (none)) else (some (x0, 0, x3))) else (some (x0, 0, x3))
def spec_l1New.f (k : Nat) (l0 : List Int) : Option (List Int × Int × Int) := spec_l1New.l0 k l0 (wrap64 (10101 + (l0.length : Int))) 0
theorem spec_l1New.mono_l : ∀ k, (∀ y0 y1 y2, LeO (spec_l1New.l0 k y0 y1 y2) (spec_l1New.l0 (k + 1) y0 y1 y2))
 | 0 => fun _ _ _ r h => by simp [spec_l1New.l0] at h
 | k + 1 => by
  have ih0 := spec_l1New.mono_l k
  ·intro y0 y1 y2
   unfold spec_l1New.l0
   repeat' first
   | (with_reducible exact ih0 _ _ _)
   | (with_reducible exact LeO.refl _)
   | (with_reducible exact LeO.none _)
   | (with_reducible refine LeO.ite ?_ ?_)
   | (with_reducible refine LeO.bind ?_ (fun _ => ?_))
   | exact ih0 _ _ _
   | exact LeO.none _
   | refine LeO.ite ?_ ?_
   | refine LeO.bind ?_ (fun _ => ?_)
theorem spec_l1New.mono : ∀ a0 k, LeO (spec_l1New.f k a0) (spec_l1New.f (k + 1) a0) := by
 intro a0 k
 have ih0 := spec_l1New.mono_l k
 unfold spec_l1New.f
 repeat' first
   | (with_reducible exact ih0 _ _ _)
   | (with_reducible exact LeO.refl _)
   | (with_reducible exact LeO.none _)
   | (with_reducible refine LeO.ite ?_ ?_)
   | (with_reducible refine LeO.bind ?_ (fun _ => ?_))
   | exact ih0 _ _ _
   | exact LeO.none _
   | refine LeO.ite ?_ ?_
   | refine LeO.bind ?_ (fun _ => ?_)
set_option maxHeartbeats 8000000 in
set_option maxRecDepth 100000 in
theorem spec_l1New.calls (k : Nat) (A0 : Option Addr) (c0 : Nat) (l0 : List Int) (r1 : List Int) (r2 : Int) (r3 : Int) (w0 w : World) (hB : Below w0.heap.size w0 w) (hr0 : Kd.C (Kd.int .u8) w0 A0 l0.length l0) (hc0 : l0.length ≤ c0) (h : spec_l1New.f k l0 = some (r1, r2, r3)) :
  Calls Tryd.prog 57 #[.slice A0 l0.length c0] w fun e w' => ∃ g_ : Nat, e = .returned (.pointer (some ⟨g_, 0, none⟩)) ∧ IsS110 w0 w' g_ r1 r2 r3 ∧ Below w0.heap.size w0 w' ∧ Below w.heap.size w w' := by
 have hu110 := Tryd.underlying110
 have HR0 := Aside0.mk hr0
 have HC0 := Aside0.mk hc0
 clear hr0 hc0
 have HBW := Aside0.mk (Below.refl w.heap.size w)
 have HW0 := Aside0.mk hB.size
 have HB := Aside0.mk hB
 clear hB
 have H : (spec_l1New.l0 k l0 (wrap64 (10101 + (l0.length : Int))) 0) = some (r1, r2, r3) := h
 clear h
 have H' := Aside0.mk H
 clear H
 go_enter Tryd.func57, Tryd.ntmps57
 go_wp2
 go_loopg [3, 4] k (fun kq v3 v4 w' => ∃ (x3_1 : Int) (x4_1 : Int), v3 = .int .i64 x3_1 ∧ v4 = .int .i64 x4_1 ∧ Aside0 (spec_l1New.l0 kq l0 x3_1 x4_1 = some (r1, r2, r3)) ∧ Aside0 (kq ≤ k) ∧ Aside0 (Below w0.heap.size w0 w') ∧ Aside0 (Below w.heap.size w w'))
 case atStart => exact ⟨(wrap64 (10101 + (l0.length : Int))), (0), (by first | rfl | (simp; done) | (simp [*]; done)), (by first | rfl | (simp; done) | (simp [*]; done)), H', ⟨Nat.le_refl _⟩, ⟨by repeat (first | (with_reducible first | exact HB.out | apply below_alloc | apply pw_below_drewN | apply below_drew1) | exact HB.out)⟩, ⟨by repeat (first | (with_reducible first | exact HBW.out | apply below_alloc | apply pw_below_drewN | apply below_drew1) | exact HBW.out)⟩⟩
 case round =>
  clear H'
  clear HBW HB
  obtain ⟨x3_1, x4_1, rfl, rfl, HA, HK1, HB, HBW⟩ := hrel
  cases gk with
  | zero => exact absurd HA.out (by simp [spec_l1New.l0])
  | succ k1 =>
   have H := HA.out
   clear HA
   simp only [spec_l1New.l0] at H
   by_cases c2 : x4_1 < (l0.length : Int)
   ·rw [if_pos c2] at H
    have c2b0 : decide (x4_1 < (l0.length : Int)) = true := decide_eq_true c2
    clear c2
    by_cases c3 : x4_1 < 4000
    ·rw [if_pos c3] at H
     have c3b0 : decide (x4_1 < 4000) = true := decide_eq_true c3
     clear c3
     by_cases c4 : 0 ≤ x4_1
     ·rw [if_pos c4] at H
      have c4b0 : decide (0 ≤ x4_1) = true := decide_eq_true c4
      clear c4
      have H' := Aside0.mk H
      clear H
      have p101 : 0 ≤ (x4_1 : Int) := of_decide_eq_true asm
      have q101 : x4_1 < (l0.length : Int) := of_decide_eq_true asm
      obtain ⟨ad101, e101, hx101_0⟩ := Kd.at_int HR0.out x4_1 p101 q101
      cases e101
      replace hx101_0 := pw_cell_below HB.out hx101_0
      replace p101 := eq_true p101
      replace q101 := eq_true q101
      go_wp2
      go_roundg k1
      case measure => have := HK1.out; omega
      case rel => exact ⟨(Go.bits .and .i64 (wrap64 ((wrap64 ((wrap64 (x3_1 * 131)) + (wrap64 (rd l0 x4_1)))) + 7)) 1073741823), (wrap64 (x4_1 + 1)), (by first | rfl | (simp; done) | (simp [*]; done)), (by first | rfl | (simp; done) | (simp [*]; done)), H', ⟨by have := HK1.out; omega⟩, ⟨by repeat (first | (with_reducible first | exact HB.out | apply below_alloc | apply pw_below_drewN | apply below_drew1) | exact HB.out)⟩, ⟨by repeat (first | (with_reducible first | exact HBW.out | apply below_alloc | apply pw_below_drewN | apply below_drew1) | exact HBW.out)⟩⟩
     ·rw [if_neg c4] at H
      exact absurd H (by simp)
    ·rw [if_neg c3] at H
     have c3b0 : decide (x4_1 < 4000) = false := decide_eq_false c3
     clear c3
     simp only [Option.some.injEq, Prod.mk.injEq] at H
     obtain ⟨rfl, rfl, rfl⟩ := H
     go_wp2_with (first | ((with_reducible refine gate_dst (N := 31) rfl ?_); refine box_event ?hg (N := 31) ?hd (cs := #[.slice A0 l0.length c0, .int .i64 0, .int .i64 x3_1]) (t := 110) ?hr ?_; (case hd => rfl); (case hg => rfl); (case hr => first | (go_simp; done) | (go_simp; rfl)); intro gb102 hg w5 hbox hb; have n0_ := Aside0.mk (below_step HBW.out hb); have n1_ := Aside0.mk (below_step bq hb); have n2_ := Aside0.mk (hbox); have n3_ := Aside0.mk ((by rw [hg]; exact (below_size (by repeat (first | (with_reducible first | exact HBW.out | apply below_alloc | apply pw_below_drewN | apply below_drew1) | exact HBW.out))) : w.heap.size ≤ gb102)); have n4_ := Aside0.mk ((Nat.le_trans HW0.out (by rw [hg]; exact (below_size (by repeat (first | (with_reducible first | exact HBW.out | apply below_alloc | apply pw_below_drewN | apply below_drew1) | exact HBW.out))) : w.heap.size ≤ gb102) : w0.heap.size ≤ gb102)); clear HBW; clear HB; have HBW := n0_; have HB := n1_; have BK102 := n2_; have GW102 := n3_; have GE102 := n4_; clear n0_ n1_ n2_ n3_ n4_; clear hb hbox hg))
     go_ret
     exact ⟨_, rfl, (show IsS110 w0 _ gb102 l0 0 x3_1 from ⟨_, _, by (with_reducible repeat (first | refine blk_drewN ?_ _ | refine blk_drew ?_ | refine blk_alloc ?_ _)); exact BK102.out, GE102.out, HR0.out⟩), by repeat (first | (with_reducible first | exact HB.out | apply below_alloc | apply pw_below_drewN | apply below_drew1 | refine below_set ?_ GE102.out) | exact HB.out), by repeat (first | (with_reducible first | exact HBW.out | apply below_alloc | apply pw_below_drewN | apply below_drew1 | refine below_set ?_ GW102.out) | exact HBW.out)⟩
   ·rw [if_neg c2] at H
    have c2b0 : decide (x4_1 < (l0.length : Int)) = false := decide_eq_false c2
    clear c2
    simp only [Option.some.injEq, Prod.mk.injEq] at H
    obtain ⟨rfl, rfl, rfl⟩ := H
    go_wp2_with (first | ((with_reducible refine gate_dst (N := 31) rfl ?_); refine box_event ?hg (N := 31) ?hd (cs := #[.slice A0 l0.length c0, .int .i64 0, .int .i64 x3_1]) (t := 110) ?hr ?_; (case hd => rfl); (case hg => rfl); (case hr => first | (go_simp; done) | (go_simp; rfl)); intro gb103 hg w6 hbox hb; have n0_ := Aside0.mk (below_step HBW.out hb); have n1_ := Aside0.mk (below_step bq hb); have n2_ := Aside0.mk (hbox); have n3_ := Aside0.mk ((by rw [hg]; exact (below_size (by repeat (first | (with_reducible first | exact HBW.out | apply below_alloc | apply pw_below_drewN | apply below_drew1) | exact HBW.out))) : w.heap.size ≤ gb103)); have n4_ := Aside0.mk ((Nat.le_trans HW0.out (by rw [hg]; exact (below_size (by repeat (first | (with_reducible first | exact HBW.out | apply below_alloc | apply pw_below_drewN | apply below_drew1) | exact HBW.out))) : w.heap.size ≤ gb103) : w0.heap.size ≤ gb103)); clear HBW; clear HB; have HBW := n0_; have HB := n1_; have BK103 := n2_; have GW103 := n3_; have GE103 := n4_; clear n0_ n1_ n2_ n3_ n4_; clear hb hbox hg))
    go_ret
    exact ⟨_, rfl, (show IsS110 w0 _ gb103 l0 0 x3_1 from ⟨_, _, by (with_reducible repeat (first | refine blk_drewN ?_ _ | refine blk_drew ?_ | refine blk_alloc ?_ _)); exact BK103.out, GE103.out, HR0.out⟩), by repeat (first | (with_reducible first | exact HB.out | apply below_alloc | apply pw_below_drewN | apply below_drew1 | refine below_set ?_ GE103.out) | exact HB.out), by repeat (first | (with_reducible first | exact HBW.out | apply below_alloc | apply pw_below_drewN | apply below_drew1 | refine below_set ?_ GW103.out) | exact HBW.out)⟩

end Go.Proofs.YtjldfmkpdkhnnaaDoor.QL

namespace Go.Proofs.YtjldfmkpdkhnnaaDoor.QL
open Go.RowKit Go.Proofs.YtjldfmkpdkhnnaaDoorW.PrintWords Go.Proofs.YtjldfmkpdkhnnaaDoorW.PrintLast Go.Proofs.YtjldfmkpdkhnnaaDoorW.PrintMore Go.Proofs.YtjldfmkpdkhnnaaDoor.Aux Go.Proofs.YtjldfmkpdkhnnaaDoor.Dom Go.Proofs.YtjldfmkpdkhnnaaDoor.Ext Go.Proofs.YtjldfmkpdkhnnaaDoor.Glob
attribute [local go_sem] max2_int min2_int max_two min_two max_three min_three max_four min_four   -- for this text's walks alone
set_option linter.unusedVariables false
set_option linter.unusedSimpArgs false

/-! ### spec_l1Byte: function 101 -/
def spec_l1Byte.f (s0_0 : List Int) (s0_1 : Int) (s0_2 : Int) : Option (Int × Int × Int) := if s0_1 < (s0_0.length : Int) then (if 0 ≤ s0_1 then (some (Go.bits .and .i64 (wrap64 ((Go.bits .and .i64 (Go.bits .xor .i64 ((wrap64 ((wrap64 (s0_2 * 6364136223846793005)) + 1442695040888963407)) / 8589934592) ((wrap64 ((wrap64 (s0_2 * 6364136223846793005)) + 1442695040888963407)) / 35184372088832)) 255) + (wrap64 (rd s0_0 s0_1)))) 255, wrap64 (s0_1 + 1), wrap64 ((wrap64 (s0_2 * 6364136223846793005)) + 1442695040888963407))) else (none)) else (some (Go.bits .and .i64 (Go.bits .xor .i64 ((wrap64 ((wrap64 (s0_2 * 6364136223846793005)) + 1442695040888963407)) / 8589934592) ((wrap64 ((wrap64 (s0_2 * 6364136223846793005)) + 1442695040888963407)) / 35184372088832)) 255, s0_1, wrap64 ((wrap64 (s0_2 * 6364136223846793005)) + 1442695040888963407)))
set_option maxHeartbeats 8000000 in
set_option maxRecDepth 100000 in
theorem spec_l1Byte.calls (g : Nat) (s0_0 : List Int) (s0_1 : Int) (s0_2 : Int) (r1 : Int) (r2 : Int) (r3 : Int) (w0 w : World) (hI : IsS110 w0 w g s0_0 s0_1 s0_2) (hB : Below w0.heap.size w0 w) (h : spec_l1Byte.f s0_0 s0_1 s0_2 = some (r1, r2, r3)) :
  Calls Tryd.prog 101 #[.pointer (some ⟨g, 0, none⟩)] w fun e w' => e = .returned (.int .i64 r1) ∧ IsS110 w0 w' g s0_0 r2 r3 ∧ Below w0.heap.size w0 w' ∧ KeepBut w w' g none := by
 have HI0 := Aside0.mk hI
 have HK := Aside0.mk (KeepBut.refl w g none)
 have HL := Aside0.mk hB.size
 clear hI
 have HW0 := Aside0.mk hB.size
 have HB := Aside0.mk hB
 clear hB
 have H : (if s0_1 < (s0_0.length : Int) then (if 0 ≤ s0_1 then (some (Go.bits .and .i64 (wrap64 ((Go.bits .and .i64 (Go.bits .xor .i64 ((wrap64 ((wrap64 (s0_2 * 6364136223846793005)) + 1442695040888963407)) / 8589934592) ((wrap64 ((wrap64 (s0_2 * 6364136223846793005)) + 1442695040888963407)) / 35184372088832)) 255) + (wrap64 (rd s0_0 s0_1)))) 255, wrap64 (s0_1 + 1), wrap64 ((wrap64 (s0_2 * 6364136223846793005)) + 1442695040888963407))) else (none)) else (some (Go.bits .and .i64 (Go.bits .xor .i64 ((wrap64 ((wrap64 (s0_2 * 6364136223846793005)) + 1442695040888963407)) / 8589934592) ((wrap64 ((wrap64 (s0_2 * 6364136223846793005)) + 1442695040888963407)) / 35184372088832)) 255, s0_1, wrap64 ((wrap64 (s0_2 * 6364136223846793005)) + 1442695040888963407)))) = some (r1, r2, r3) := h
 clear h
 by_cases c2 : s0_1 < (s0_0.length : Int)
 ·rw [if_pos c2] at H
  have c2b0 : decide (s0_1 < (s0_0.length : Int)) = true := decide_eq_true c2
  clear c2
  by_cases c3 : 0 ≤ s0_1
  ·rw [if_pos c3] at H
   have c3b0 : decide (0 ≤ s0_1) = true := decide_eq_true c3
   clear c3
   simp only [Option.some.injEq, Prod.mk.injEq] at H
   obtain ⟨rfl, rfl, rfl⟩ := H
   obtain ⟨ASz4_0, cSz4_0, HGz4, hgz4, HSz4_0⟩ := HI0.out
   have hcz4_0 := cellS110_0 HGz4
   have hcz4_1 := cellS110_1 HGz4
   have hcz4_2 := cellS110_2 HGz4
   have hfz4_1 := blk_frozen HGz4 1
   have hfz4_2 := blk_frozen HGz4 2
   clear HGz4 hgz4
   have p101 : 0 ≤ (s0_1 : Int) := of_decide_eq_true asm
   have q101 : s0_1 < (s0_0.length : Int) := of_decide_eq_true asm
   obtain ⟨ad101, e101, hx101_0⟩ := Kd.at_int HSz4_0 s0_1 p101 q101
   cases e101
   have hn101_0 : ad101.block ≠ g := Nat.ne_of_lt (Nat.lt_of_lt_of_le (by have := World.block_lt_of_cell? _ _ hx101_0; first | rwa [add_block] at this | exact this) (IsS110.ge HI0.out))
   replace hx101_0 := pw_cell_below HB.out hx101_0
   replace hx101_0 := (cell_far (p := ⟨g, 2, none⟩) (by first | (rw [add_block]; exact hn101_0) | (show (Addr.add _ _).block ≠ _; rw [add_block]; exact hn101_0) | exact hn101_0) (.int .i64 (wrap64 ((wrap64 (s0_2 * 6364136223846793005)) + 1442695040888963407)))).trans hx101_0
   (try have hy101_0 := fun (n_ : Nat) => (show (((w.drewN n_).setCell ⟨g, 2, none⟩ (.int .i64 (wrap64 ((wrap64 (s0_2 * 6364136223846793005)) + 1442695040888963407))))).cell? _ = some _ from hx101_0))
   clear hn101_0
   replace p101 := eq_true p101
   replace q101 := eq_true q101
   go_enter Tryd.func101, Tryd.ntmps101
   go_wp2
   repeat (go_quiet (fail); try go_wp2)
   go_ret
   exact ⟨by first | rfl | (simp [errW_none, errW_some] <;> rfl) | (simp [*, errW_none, errW_some] <;> rfl), by repeat (first | (with_reducible first | exact HI0.out | apply IsS110.alloc | apply IsS110.drewN | apply IsS110.drew | apply IsS110.set_1 | apply IsS110.set_2) | exact HI0.out), by repeat (first | (with_reducible first | exact HB.out | apply below_alloc | apply pw_below_drewN | apply below_drew1 | refine below_set ?_ (IsS110.ge HI0.out)) | exact HB.out), by repeat (first | (with_reducible first | exact HK.out | apply KeepBut.set_ | apply keep_drewN | apply keep_drew | apply keep_alloc) | exact HK.out)⟩
  ·rw [if_neg c3] at H
   exact absurd H (by simp)
 ·rw [if_neg c2] at H
  have c2b0 : decide (s0_1 < (s0_0.length : Int)) = false := decide_eq_false c2
  clear c2
  simp only [Option.some.injEq, Prod.mk.injEq] at H
  obtain ⟨rfl, rfl, rfl⟩ := H
  obtain ⟨ASz5_0, cSz5_0, HGz5, hgz5, HSz5_0⟩ := HI0.out
  have hcz5_0 := cellS110_0 HGz5
  have hcz5_1 := cellS110_1 HGz5
  have hcz5_2 := cellS110_2 HGz5
  have hfz5_1 := blk_frozen HGz5 1
  have hfz5_2 := blk_frozen HGz5 2
  clear HGz5 hgz5
  go_enter Tryd.func101, Tryd.ntmps101
  go_wp2
  repeat (go_quiet (fail); try go_wp2)
  go_ret
  exact ⟨by first | rfl | (simp [errW_none, errW_some] <;> rfl) | (simp [*, errW_none, errW_some] <;> rfl), by repeat (first | (with_reducible first | exact HI0.out | apply IsS110.alloc | apply IsS110.drewN | apply IsS110.drew | apply IsS110.set_1 | apply IsS110.set_2) | exact HI0.out), by repeat (first | (with_reducible first | exact HB.out | apply below_alloc | apply pw_below_drewN | apply below_drew1 | refine below_set ?_ (IsS110.ge HI0.out)) | exact HB.out), by repeat (first | (with_reducible first | exact HK.out | apply KeepBut.set_ | apply keep_drewN | apply keep_drew | apply keep_alloc) | exact HK.out)⟩

end Go.Proofs.YtjldfmkpdkhnnaaDoor.QL

namespace Go.Proofs.YtjldfmkpdkhnnaaDoor.QL
open Go.RowKit Go.Proofs.YtjldfmkpdkhnnaaDoorW.PrintWords Go.Proofs.YtjldfmkpdkhnnaaDoorW.PrintLast Go.Proofs.YtjldfmkpdkhnnaaDoorW.PrintMore Go.Proofs.YtjldfmkpdkhnnaaDoor.Aux Go.Proofs.YtjldfmkpdkhnnaaDoor.Dom Go.Proofs.YtjldfmkpdkhnnaaDoor.Ext Go.Proofs.YtjldfmkpdkhnnaaDoor.Glob
attribute [local go_sem] max2_int min2_int max_two min_two max_three min_three max_four min_four   -- for this text's walks alone
set_option linter.unusedVariables false
set_option linter.unusedSimpArgs false

/-! ### spec_l1Below: function 89 -/
def spec_l1Below.f (s0_0 : List Int) (s0_1 : Int) (s0_2 : Int) (a1 : Int) : Option (Int × Int × Int) := if a1 ≤ 0 then (some (0, s0_1, s0_2)) else (if a1 ≤ 256 then ((spec_l1Byte.f s0_0 s0_1 s0_2).bind fun bt101 => (if a1 = 0 then (none) else (some (Int.tmod bt101.1 a1, bt101.2.1, bt101.2.2)))) else ((spec_l1Byte.f s0_0 s0_1 s0_2).bind fun bt104 => ((spec_l1Byte.f s0_0 bt104.2.1 bt104.2.2).bind fun bt107 => ((spec_l1Byte.f s0_0 bt107.2.1 bt107.2.2).bind fun bt110 => ((spec_l1Byte.f s0_0 bt110.2.1 bt110.2.2).bind fun bt113 => (if a1 = 0 then (none) else (some (Int.tmod (wrap64 ((wrap64 ((wrap64 ((wrap64 (bt104.1 * 16777216)) + (wrap64 (bt107.1 * 65536)))) + (wrap64 (bt110.1 * 256)))) + bt113.1)) a1, bt113.2.1, bt113.2.2))))))))
set_option maxHeartbeats 8000000 in
set_option maxRecDepth 100000 in
theorem spec_l1Below.calls (g : Nat) (s0_0 : List Int) (s0_1 : Int) (s0_2 : Int) (a1 : Int) (r1 : Int) (r2 : Int) (r3 : Int) (w0 w : World) (hI : IsS110 w0 w g s0_0 s0_1 s0_2) (hB : Below w0.heap.size w0 w) (h : spec_l1Below.f s0_0 s0_1 s0_2 a1 = some (r1, r2, r3)) :
  Calls Tryd.prog 89 #[.pointer (some ⟨g, 0, none⟩), .int .i64 a1] w fun e w' => e = .returned (.int .i64 r1) ∧ IsS110 w0 w' g s0_0 r2 r3 ∧ Below w0.heap.size w0 w' ∧ KeepBut w w' g none := by
 have HI0 := Aside0.mk hI
 have HK := Aside0.mk (KeepBut.refl w g none)
 have HL := Aside0.mk hB.size
 clear hI
 have HW0 := Aside0.mk hB.size
 have HB := Aside0.mk hB
 clear hB
 have H : (if a1 ≤ 0 then (some (0, s0_1, s0_2)) else (if a1 ≤ 256 then ((spec_l1Byte.f s0_0 s0_1 s0_2).bind fun bt101 => (if a1 = 0 then (none) else (some (Int.tmod bt101.1 a1, bt101.2.1, bt101.2.2)))) else ((spec_l1Byte.f s0_0 s0_1 s0_2).bind fun bt104 => ((spec_l1Byte.f s0_0 bt104.2.1 bt104.2.2).bind fun bt107 => ((spec_l1Byte.f s0_0 bt107.2.1 bt107.2.2).bind fun bt110 => ((spec_l1Byte.f s0_0 bt110.2.1 bt110.2.2).bind fun bt113 => (if a1 = 0 then (none) else (some (Int.tmod (wrap64 ((wrap64 ((wrap64 ((wrap64 (bt104.1 * 16777216)) + (wrap64 (bt107.1 * 65536)))) + (wrap64 (bt110.1 * 256)))) + bt113.1)) a1, bt113.2.1, bt113.2.2))))))))) = some (r1, r2, r3) := h
 clear h
 by_cases c3 : a1 ≤ 0
 ·rw [if_pos c3] at H
  have c3b0 : decide (a1 ≤ 0) = true := decide_eq_true c3
  clear c3
  simp only [Option.some.injEq, Prod.mk.injEq] at H
  obtain ⟨rfl, rfl, rfl⟩ := H
  go_enter Tryd.func89, Tryd.ntmps89
  go_wp2
  go_ret
  exact ⟨by first | rfl | (simp [errW_none, errW_some] <;> rfl) | (simp [*, errW_none, errW_some] <;> rfl), by repeat (first | (with_reducible first | exact HI0.out | apply IsS110.alloc | apply IsS110.drewN | apply IsS110.drew | apply IsS110.set_1 | apply IsS110.set_2) | exact HI0.out), by repeat (first | (with_reducible first | exact HB.out | apply below_alloc | apply pw_below_drewN | apply below_drew1 | refine below_set ?_ (IsS110.ge HI0.out)) | exact HB.out), by repeat (first | (with_reducible first | exact HK.out | apply KeepBut.set_ | apply keep_drewN | apply keep_drew | apply keep_alloc) | exact HK.out)⟩
 ·rw [if_neg c3] at H
  have c3b0 : decide (a1 ≤ 0) = false := decide_eq_false c3
  clear c3
  by_cases c4 : a1 ≤ 256
  ·rw [if_pos c4] at H
   have c4b0 : decide (a1 ≤ 256) = true := decide_eq_true c4
   clear c4
   replace H := Option.bind_eq_some_iff.mp H
   obtain ⟨⟨t101, t102, t103⟩, A50, H⟩ := H
   try dsimp only at H
   have A5 := Aside0.mk A50
   clear A50
   by_cases c6 : a1 = 0
   ·rw [if_pos c6] at H
    exact absurd H (by simp)
   ·rw [if_neg c6] at H
    have c6b0 : (a1 == 0) = false := beq_eq_false_iff_ne.mpr c6
    have c6b1 : (a1 != 0) = true := bne_iff_ne.mpr c6
    simp only [Option.some.injEq, Prod.mk.injEq] at H
    obtain ⟨rfl, rfl, rfl⟩ := H
    go_enter Tryd.func89, Tryd.ntmps89
    go_wp2_with (first | ((with_reducible refine gate_callee (f := 101) rfl ?_); refine goesL_ (some 14) rfl rfl Tryd.func101 (by kernel_rfl) rfl #[.pointer (some ⟨g, 0, none⟩)] rfl am ?_; (with_reducible refine (spec_l1Byte.calls g s0_0 s0_1 s0_2 t101 t102 t103 w0 _ ?side1 ?side2 A5.out).mono ?_); (case side1 => repeat (first | (with_reducible first | exact HI0.out | apply IsS110.alloc | apply IsS110.drewN | apply IsS110.drew | apply IsS110.set_1 | apply IsS110.set_2) | exact HI0.out)); (case side2 => repeat (first | (with_reducible first | exact HB.out | apply below_alloc | apply pw_below_drewN | apply below_drew1 | refine below_set ?_ (IsS110.ge HI0.out)) | exact HB.out)); rintro e w7 ⟨rfl, hi, hb, hk⟩; refine ⟨_, rfl, ?_⟩; have n0_ := Aside0.mk (KeepBut.trans (by repeat (first | (with_reducible first | exact HK.out | apply KeepBut.set_ | apply keep_drewN | apply keep_drew | apply keep_alloc) | exact HK.out)) hk (.inl rfl)); have n1_ := Aside0.mk (hb); have n2_ := Aside0.mk (hi); clear HK; clear HB; clear HI0; have HK := n0_; have HB := n1_; have HI0 := n2_; clear n0_ n1_ n2_; (try clear hb); (try clear hb2); (try clear hk); (try clear hi)))
    go_ret
    exact ⟨by first | rfl | (simp [errW_none, errW_some] <;> rfl) | (simp [*, errW_none, errW_some] <;> rfl), by repeat (first | (with_reducible first | exact HI0.out | apply IsS110.alloc | apply IsS110.drewN | apply IsS110.drew | apply IsS110.set_1 | apply IsS110.set_2) | exact HI0.out), by repeat (first | (with_reducible first | exact HB.out | apply below_alloc | apply pw_below_drewN | apply below_drew1 | refine below_set ?_ (IsS110.ge HI0.out)) | exact HB.out), by repeat (first | (with_reducible first | exact HK.out | apply KeepBut.set_ | apply keep_drewN | apply keep_drew | apply keep_alloc) | exact HK.out)⟩
  ·rw [if_neg c4] at H
   have c4b0 : decide (a1 ≤ 256) = false := decide_eq_false c4
   clear c4
   replace H := Option.bind_eq_some_iff.mp H
   obtain ⟨⟨t104, t105, t106⟩, A80, H⟩ := H
   try dsimp only at H
   have A8 := Aside0.mk A80
   clear A80
   replace H := Option.bind_eq_some_iff.mp H
   obtain ⟨⟨t107, t108, t109⟩, A90, H⟩ := H
   try dsimp only at H
   have A9 := Aside0.mk A90
   clear A90
   replace H := Option.bind_eq_some_iff.mp H
   obtain ⟨⟨t110, t111, t112⟩, A100, H⟩ := H
   try dsimp only at H
   have A10 := Aside0.mk A100
   clear A100
   replace H := Option.bind_eq_some_iff.mp H
   obtain ⟨⟨t113, t114, t115⟩, A110, H⟩ := H
   try dsimp only at H
   have A11 := Aside0.mk A110
   clear A110
   by_cases c12 : a1 = 0
   ·rw [if_pos c12] at H
    exact absurd H (by simp)
   ·rw [if_neg c12] at H
    have c12b0 : (a1 == 0) = false := beq_eq_false_iff_ne.mpr c12
    have c12b1 : (a1 != 0) = true := bne_iff_ne.mpr c12
    simp only [Option.some.injEq, Prod.mk.injEq] at H
    obtain ⟨rfl, rfl, rfl⟩ := H
    go_enter Tryd.func89, Tryd.ntmps89
    go_wp2_with (first | ((with_reducible refine gate_callee (f := 101) rfl ?_); refine goesL_ (some 18) rfl rfl Tryd.func101 (by kernel_rfl) rfl #[.pointer (some ⟨g, 0, none⟩)] rfl am ?_; (with_reducible refine (spec_l1Byte.calls g s0_0 s0_1 s0_2 t104 t105 t106 w0 _ ?side1 ?side2 A8.out).mono ?_); (case side1 => repeat (first | (with_reducible first | exact HI0.out | apply IsS110.alloc | apply IsS110.drewN | apply IsS110.drew | apply IsS110.set_1 | apply IsS110.set_2) | exact HI0.out)); (case side2 => repeat (first | (with_reducible first | exact HB.out | apply below_alloc | apply pw_below_drewN | apply below_drew1 | refine below_set ?_ (IsS110.ge HI0.out)) | exact HB.out)); rintro e w13 ⟨rfl, hi, hb, hk⟩; refine ⟨_, rfl, ?_⟩; have n0_ := Aside0.mk (KeepBut.trans (by repeat (first | (with_reducible first | exact HK.out | apply KeepBut.set_ | apply keep_drewN | apply keep_drew | apply keep_alloc) | exact HK.out)) hk (.inl rfl)); have n1_ := Aside0.mk (hb); have n2_ := Aside0.mk (hi); clear HK; clear HB; clear HI0; have HK := n0_; have HB := n1_; have HI0 := n2_; clear n0_ n1_ n2_; (try clear hb); (try clear hb2); (try clear hk); (try clear hi)) | ((with_reducible refine gate_callee (f := 101) rfl ?_); refine goesL_ (some 20) rfl rfl Tryd.func101 (by kernel_rfl) rfl #[.pointer (some ⟨g, 0, none⟩)] rfl am ?_; (with_reducible refine (spec_l1Byte.calls g s0_0 t105 t106 t107 t108 t109 w0 _ ?side1 ?side2 A9.out).mono ?_); (case side1 => repeat (first | (with_reducible first | exact HI0.out | apply IsS110.alloc | apply IsS110.drewN | apply IsS110.drew | apply IsS110.set_1 | apply IsS110.set_2) | exact HI0.out)); (case side2 => repeat (first | (with_reducible first | exact HB.out | apply below_alloc | apply pw_below_drewN | apply below_drew1 | refine below_set ?_ (IsS110.ge HI0.out)) | exact HB.out)); rintro e w14 ⟨rfl, hi, hb, hk⟩; refine ⟨_, rfl, ?_⟩; have n0_ := Aside0.mk (KeepBut.trans (by repeat (first | (with_reducible first | exact HK.out | apply KeepBut.set_ | apply keep_drewN | apply keep_drew | apply keep_alloc) | exact HK.out)) hk (.inl rfl)); have n1_ := Aside0.mk (hb); have n2_ := Aside0.mk (hi); clear HK; clear HB; clear HI0; have HK := n0_; have HB := n1_; have HI0 := n2_; clear n0_ n1_ n2_; (try clear hb); (try clear hb2); (try clear hk); (try clear hi)) | ((with_reducible refine gate_callee (f := 101) rfl ?_); refine goesL_ (some 22) rfl rfl Tryd.func101 (by kernel_rfl) rfl #[.pointer (some ⟨g, 0, none⟩)] rfl am ?_; (with_reducible refine (spec_l1Byte.calls g s0_0 t108 t109 t110 t111 t112 w0 _ ?side1 ?side2 A10.out).mono ?_); (case side1 => repeat (first | (with_reducible first | exact HI0.out | apply IsS110.alloc | apply IsS110.drewN | apply IsS110.drew | apply IsS110.set_1 | apply IsS110.set_2) | exact HI0.out)); (case side2 => repeat (first | (with_reducible first | exact HB.out | apply below_alloc | apply pw_below_drewN | apply below_drew1 | refine below_set ?_ (IsS110.ge HI0.out)) | exact HB.out)); rintro e w15 ⟨rfl, hi, hb, hk⟩; refine ⟨_, rfl, ?_⟩; have n0_ := Aside0.mk (KeepBut.trans (by repeat (first | (with_reducible first | exact HK.out | apply KeepBut.set_ | apply keep_drewN | apply keep_drew | apply keep_alloc) | exact HK.out)) hk (.inl rfl)); have n1_ := Aside0.mk (hb); have n2_ := Aside0.mk (hi); clear HK; clear HB; clear HI0; have HK := n0_; have HB := n1_; have HI0 := n2_; clear n0_ n1_ n2_; (try clear hb); (try clear hb2); (try clear hk); (try clear hi)) | ((with_reducible refine gate_callee (f := 101) rfl ?_); refine goesL_ (some 24) rfl rfl Tryd.func101 (by kernel_rfl) rfl #[.pointer (some ⟨g, 0, none⟩)] rfl am ?_; (with_reducible refine (spec_l1Byte.calls g s0_0 t111 t112 t113 t114 t115 w0 _ ?side1 ?side2 A11.out).mono ?_); (case side1 => repeat (first | (with_reducible first | exact HI0.out | apply IsS110.alloc | apply IsS110.drewN | apply IsS110.drew | apply IsS110.set_1 | apply IsS110.set_2) | exact HI0.out)); (case side2 => repeat (first | (with_reducible first | exact HB.out | apply below_alloc | apply pw_below_drewN | apply below_drew1 | refine below_set ?_ (IsS110.ge HI0.out)) | exact HB.out)); rintro e w16 ⟨rfl, hi, hb, hk⟩; refine ⟨_, rfl, ?_⟩; have n0_ := Aside0.mk (KeepBut.trans (by repeat (first | (with_reducible first | exact HK.out | apply KeepBut.set_ | apply keep_drewN | apply keep_drew | apply keep_alloc) | exact HK.out)) hk (.inl rfl)); have n1_ := Aside0.mk (hb); have n2_ := Aside0.mk (hi); clear HK; clear HB; clear HI0; have HK := n0_; have HB := n1_; have HI0 := n2_; clear n0_ n1_ n2_; (try clear hb); (try clear hb2); (try clear hk); (try clear hi)))
    go_ret
    exact ⟨by first | rfl | (simp [errW_none, errW_some] <;> rfl) | (simp [*, errW_none, errW_some] <;> rfl), by repeat (first | (with_reducible first | exact HI0.out | apply IsS110.alloc | apply IsS110.drewN | apply IsS110.drew | apply IsS110.set_1 | apply IsS110.set_2) | exact HI0.out), by repeat (first | (with_reducible first | exact HB.out | apply below_alloc | apply pw_below_drewN | apply below_drew1 | refine below_set ?_ (IsS110.ge HI0.out)) | exact HB.out), by repeat (first | (with_reducible first | exact HK.out | apply KeepBut.set_ | apply keep_drewN | apply keep_drew | apply keep_alloc) | exact HK.out)⟩

end Go.Proofs.YtjldfmkpdkhnnaaDoor.QL

namespace Go.Proofs.YtjldfmkpdkhnnaaDoor.QL
open Go.RowKit Go.Proofs.YtjldfmkpdkhnnaaDoorW.PrintWords Go.Proofs.YtjldfmkpdkhnnaaDoorW.PrintLast Go.Proofs.YtjldfmkpdkhnnaaDoorW.PrintMore Go.Proofs.YtjldfmkpdkhnnaaDoor.Aux Go.Proofs.YtjldfmkpdkhnnaaDoor.Dom Go.Proofs.YtjldfmkpdkhnnaaDoor.Ext Go.Proofs.YtjldfmkpdkhnnaaDoor.Glob
attribute [local go_sem] max2_int min2_int max_two min_two max_three min_three max_four min_four   -- for this text's walks alone
set_option linter.unusedVariables false
set_option linter.unusedSimpArgs false

/-! ### spec_l1PickInt: function 88 -/
def spec_l1PickInt.f (s0_0 : List Int) (s0_1 : Int) (s0_2 : Int) (l1 : List Int) : Option (Int × Int × Int) := (spec_l1Below.f s0_0 s0_1 s0_2 (l1.length : Int)).bind fun bt101 => (if 0 ≤ bt101.1 then (if bt101.1 < (l1.length : Int) then (some (rd l1 bt101.1, bt101.2.1, bt101.2.2)) else (none)) else (none))
set_option maxHeartbeats 8000000 in
set_option maxRecDepth 100000 in
theorem spec_l1PickInt.calls (g : Nat) (s0_0 : List Int) (s0_1 : Int) (s0_2 : Int) (A1 : Option Addr) (c1 : Nat) (l1 : List Int) (r1 : Int) (r2 : Int) (r3 : Int) (w0 w : World) (hI : IsS110 w0 w g s0_0 s0_1 s0_2) (hB : Below w0.heap.size w0 w) (hr1 : Kd.C (Kd.int .i64) w A1 l1.length l1) (hc1 : l1.length ≤ c1) (hf1 : ∀ ad, A1 = some ad → 0 < l1.length → ad.block ≠ g) (h : spec_l1PickInt.f s0_0 s0_1 s0_2 l1 = some (r1, r2, r3)) :
  Calls Tryd.prog 88 #[.pointer (some ⟨g, 0, none⟩), .slice A1 l1.length c1] w fun e w' => e = .returned (.int .i64 r1) ∧ IsS110 w0 w' g s0_0 r2 r3 ∧ Below w0.heap.size w0 w' ∧ KeepBut w w' g none := by
 have HR1 := Aside0.mk hr1
 have HC1 := Aside0.mk hc1
 clear hr1 hc1
 have HI0 := Aside0.mk hI
 have HK := Aside0.mk (KeepBut.refl w g none)
 have HL := Aside0.mk hB.size
 clear hI
 have HW0 := Aside0.mk hB.size
 have HB := Aside0.mk hB
 clear hB
 have H : ((spec_l1Below.f s0_0 s0_1 s0_2 (l1.length : Int)).bind fun bt101 => (if 0 ≤ bt101.1 then (if bt101.1 < (l1.length : Int) then (some (rd l1 bt101.1, bt101.2.1, bt101.2.2)) else (none)) else (none))) = some (r1, r2, r3) := h
 clear h
 replace H := Option.bind_eq_some_iff.mp H
 obtain ⟨⟨t101, t102, t103⟩, A30, H⟩ := H
 try dsimp only at H
 have A3 := Aside0.mk A30
 clear A30
 by_cases c4 : 0 ≤ t101
 ·rw [if_pos c4] at H
  have c4b0 : decide (0 ≤ t101) = true := decide_eq_true c4
  clear c4
  by_cases c5 : t101 < (l1.length : Int)
  ·rw [if_pos c5] at H
   have c5b0 : decide (t101 < (l1.length : Int)) = true := decide_eq_true c5
   clear c5
   simp only [Option.some.injEq, Prod.mk.injEq] at H
   obtain ⟨rfl, rfl, rfl⟩ := H
   go_enter Tryd.func88, Tryd.ntmps88
   go_wp2_with (first | ((with_reducible refine gate_callee (f := 89) rfl ?_); refine goesL_ (some 9) rfl rfl Tryd.func89 (by kernel_rfl) rfl #[.pointer (some ⟨g, 0, none⟩), .int .i64 (l1.length : Int)] rfl am ?_; (with_reducible refine (spec_l1Below.calls g s0_0 s0_1 s0_2 (l1.length : Int) t101 t102 t103 w0 _ ?side1 ?side2 A3.out).mono ?_); (case side1 => repeat (first | (with_reducible first | exact HI0.out | apply IsS110.alloc | apply IsS110.drewN | apply IsS110.drew | apply IsS110.set_1 | apply IsS110.set_2) | exact HI0.out)); (case side2 => repeat (first | (with_reducible first | exact HB.out | apply below_alloc | apply pw_below_drewN | apply below_drew1 | refine below_set ?_ (IsS110.ge HI0.out)) | exact HB.out)); rintro e w6 ⟨rfl, hi, hb, hk⟩; refine ⟨_, rfl, ?_⟩; have n0_ := Aside0.mk (KeepBut.trans (by repeat (first | (with_reducible first | exact HK.out | apply KeepBut.set_ | apply keep_drewN | apply keep_drew | apply keep_alloc) | exact HK.out)) hk (.inl rfl)); have n1_ := Aside0.mk (hb); have n2_ := Aside0.mk (hi); clear HK; clear HB; clear HI0; have HK := n0_; have HB := n1_; have HI0 := n2_; clear n0_ n1_ n2_; (try clear hb); (try clear hb2); (try clear hk); (try clear hi); have p104 : 0 ≤ (t101 : Int) := of_decide_eq_true asm; have q104 : t101 < (l1.length : Int) := of_decide_eq_true asm; obtain ⟨ad104, e104, hx104_0⟩ := Kd.at_int HR1.out t101 p104 q104; cases e104; replace hx104_0 := keep_cell HK.out hx104_0 (by first | (rw [add_block]; exact hf1 _ rfl (by omega)) | exact hf1 _ rfl (by omega) | exact hf1 ad104 rfl (by omega)); replace p104 := eq_true p104; replace q104 := eq_true q104))
   go_ret
   exact ⟨by first | rfl | (simp [errW_none, errW_some] <;> rfl) | (simp [*, errW_none, errW_some] <;> rfl), by repeat (first | (with_reducible first | exact HI0.out | apply IsS110.alloc | apply IsS110.drewN | apply IsS110.drew | apply IsS110.set_1 | apply IsS110.set_2) | exact HI0.out), by repeat (first | (with_reducible first | exact HB.out | apply below_alloc | apply pw_below_drewN | apply below_drew1 | refine below_set ?_ (IsS110.ge HI0.out)) | exact HB.out), by repeat (first | (with_reducible first | exact HK.out | apply KeepBut.set_ | apply keep_drewN | apply keep_drew | apply keep_alloc) | exact HK.out)⟩
  ·rw [if_neg c5] at H
   exact absurd H (by simp)
 ·rw [if_neg c4] at H
  exact absurd H (by simp)

end Go.Proofs.YtjldfmkpdkhnnaaDoor.QL

namespace Go.Proofs.YtjldfmkpdkhnnaaDoor.QL
open Go.RowKit Go.Proofs.YtjldfmkpdkhnnaaDoorW.PrintWords Go.Proofs.YtjldfmkpdkhnnaaDoorW.PrintLast Go.Proofs.YtjldfmkpdkhnnaaDoorW.PrintMore Go.Proofs.YtjldfmkpdkhnnaaDoor.Aux Go.Proofs.YtjldfmkpdkhnnaaDoor.Dom Go.Proofs.YtjldfmkpdkhnnaaDoor.Ext Go.Proofs.YtjldfmkpdkhnnaaDoor.Glob
attribute [local go_sem] max2_int min2_int max_two min_two max_three min_three max_four min_four   -- for this text's walks alone
set_option linter.unusedVariables false
set_option linter.unusedSimpArgs false

/-! ### spec_l4Sec: function 80 -/
def spec_l4Sec.f (s0_0 : List Int) (s0_1 : Int) (s0_2 : Int) : Option (Int × Int × Int) := (spec_l1Below.f s0_0 s0_1 s0_2 2000000).bind fun bt101 => ((spec_l1Below.f s0_0 bt101.2.1 bt101.2.2 3000000).bind fun bt104 => ((spec_l1PickInt.f s0_0 bt104.2.1 bt104.2.2 (([0, 59, 60, 86399, 86400, 951782400, 951868799, 1078012800, 1583020799, 2000000000, 2000000001, (-1), wrap64 (bt101.1 * 997), wrap64 (bt104.1 * 641)] : List Int))).bind fun bt110 => (some (bt110.1, bt110.2.1, bt110.2.2))))
set_option maxHeartbeats 8000000 in
set_option maxRecDepth 100000 in
theorem spec_l4Sec.calls (g : Nat) (s0_0 : List Int) (s0_1 : Int) (s0_2 : Int) (r1 : Int) (r2 : Int) (r3 : Int) (w0 w : World) (hI : IsS110 w0 w g s0_0 s0_1 s0_2) (hB : Below w0.heap.size w0 w) (h : spec_l4Sec.f s0_0 s0_1 s0_2 = some (r1, r2, r3)) :
  Calls Tryd.prog 80 #[.pointer (some ⟨g, 0, none⟩)] w fun e w' => e = .returned (.int .i64 r1) ∧ IsS110 w0 w' g s0_0 r2 r3 ∧ Below w0.heap.size w0 w' ∧ KeepBut w w' g none := by
 have HI0 := Aside0.mk hI
 have HK := Aside0.mk (KeepBut.refl w g none)
 have HL := Aside0.mk hB.size
 clear hI
 have HW0 := Aside0.mk hB.size
 have HB := Aside0.mk hB
 clear hB
 have H : ((spec_l1Below.f s0_0 s0_1 s0_2 2000000).bind fun bt101 => ((spec_l1Below.f s0_0 bt101.2.1 bt101.2.2 3000000).bind fun bt104 => ((spec_l1PickInt.f s0_0 bt104.2.1 bt104.2.2 (([0, 59, 60, 86399, 86400, 951782400, 951868799, 1078012800, 1583020799, 2000000000, 2000000001, (-1), wrap64 (bt101.1 * 997), wrap64 (bt104.1 * 641)] : List Int))).bind fun bt110 => (some (bt110.1, bt110.2.1, bt110.2.2))))) = some (r1, r2, r3) := h
 clear h
 replace H := Option.bind_eq_some_iff.mp H
 obtain ⟨⟨t101, t102, t103⟩, A20, H⟩ := H
 try dsimp only at H
 have A2 := Aside0.mk A20
 clear A20
 replace H := Option.bind_eq_some_iff.mp H
 obtain ⟨⟨t104, t105, t106⟩, A30, H⟩ := H
 try dsimp only at H
 have A3 := Aside0.mk A30
 clear A30
 obtain ⟨y107, hy107⟩ : ∃ y_ : List Int, y_ = (([0, 59, 60, 86399, 86400, 951782400, 951868799, 1078012800, 1583020799, 2000000000, 2000000001, (-1), wrap64 (t101 * 997), wrap64 (t104 * 641)] : List Int)) := ⟨_, rfl⟩
 replace H : ((spec_l1PickInt.f s0_0 t105 t106 y107).bind fun bt110 => (some (bt110.1, bt110.2.1, bt110.2.2))) = some (r1, r2, r3) := by first | (rw [hy107]; with_reducible exact H) | (have H2_ := (Option.bind_some _ _).symm.trans H; rw [hy107]; with_reducible exact H2_) | (have H2_ := (Option.bind_some _ _).symm.trans H; with_reducible exact H2_) | with_reducible exact H | (rw [hy107]; exact H) | exact H
 have Ny107 := Aside0.mk hy107
 clear hy107
 replace H := Option.bind_eq_some_iff.mp H
 obtain ⟨⟨t110, t111, t112⟩, A40, H⟩ := H
 try dsimp only at H
 have A4 := Aside0.mk A40
 clear A40
 simp only [Option.some.injEq, Prod.mk.injEq] at H
 obtain ⟨rfl, rfl, rfl⟩ := H
 go_enter Tryd.func80, Tryd.ntmps80
 go_wp2_with (first | ((with_reducible refine gate_callee (f := 89) rfl ?_); refine goesL_ (some 5) rfl rfl Tryd.func89 (by kernel_rfl) rfl #[.pointer (some ⟨g, 0, none⟩), .int .i64 2000000] rfl am ?_; (with_reducible refine (spec_l1Below.calls g s0_0 s0_1 s0_2 2000000 t101 t102 t103 w0 _ ?side1 ?side2 A2.out).mono ?_); (case side1 => repeat (first | (with_reducible first | exact HI0.out | apply IsS110.alloc | apply IsS110.drewN | apply IsS110.drew | apply IsS110.set_1 | apply IsS110.set_2) | exact HI0.out)); (case side2 => repeat (first | (with_reducible first | exact HB.out | apply below_alloc | apply pw_below_drewN | apply below_drew1 | refine below_set ?_ (IsS110.ge HI0.out)) | exact HB.out)); rintro e w5 ⟨rfl, hi, hb, hk⟩; refine ⟨_, rfl, ?_⟩; have n0_ := Aside0.mk (KeepBut.trans (by repeat (first | (with_reducible first | exact HK.out | apply KeepBut.set_ | apply keep_drewN | apply keep_drew | apply keep_alloc) | exact HK.out)) hk (.inl rfl)); have n1_ := Aside0.mk (hb); have n2_ := Aside0.mk (hi); clear HK; clear HB; clear HI0; have HK := n0_; have HB := n1_; have HI0 := n2_; clear n0_ n1_ n2_; (try clear hb); (try clear hb2); (try clear hk); (try clear hi)) | ((with_reducible refine gate_callee (f := 89) rfl ?_); refine goesL_ (some 8) rfl rfl Tryd.func89 (by kernel_rfl) rfl #[.pointer (some ⟨g, 0, none⟩), .int .i64 3000000] rfl am ?_; (with_reducible refine (spec_l1Below.calls g s0_0 t102 t103 3000000 t104 t105 t106 w0 _ ?side1 ?side2 A3.out).mono ?_); (case side1 => repeat (first | (with_reducible first | exact HI0.out | apply IsS110.alloc | apply IsS110.drewN | apply IsS110.drew | apply IsS110.set_1 | apply IsS110.set_2) | exact HI0.out)); (case side2 => repeat (first | (with_reducible first | exact HB.out | apply below_alloc | apply pw_below_drewN | apply below_drew1 | refine below_set ?_ (IsS110.ge HI0.out)) | exact HB.out)); rintro e w6 ⟨rfl, hi, hb, hk⟩; refine ⟨_, rfl, ?_⟩; have n0_ := Aside0.mk (KeepBut.trans (by repeat (first | (with_reducible first | exact HK.out | apply KeepBut.set_ | apply keep_drewN | apply keep_drew | apply keep_alloc) | exact HK.out)) hk (.inl rfl)); have n1_ := Aside0.mk (hb); have n2_ := Aside0.mk (hi); clear HK; clear HB; clear HI0; have HK := n0_; have HB := n1_; have HI0 := n2_; clear n0_ n1_ n2_; (try clear hb); (try clear hb2); (try clear hk); (try clear hi)) | ((with_reducible refine gate_dst (N := 10) rfl ?_); refine Kd.R_lit (Kd.int .i64) _ 3 ?hg (N := 10) ?hd (xs := ([0, 59, 60, 86399, 86400, 951782400, 951868799, 1078012800, 1583020799, 2000000000, 2000000001, (-1), wrap64 (t101 * 997), wrap64 (t104 * 641)] : List Int)) (inner := [.int .i64 0, .int .i64 59, .int .i64 60, .int .i64 86399, .int .i64 86400, .int .i64 951782400, .int .i64 951868799, .int .i64 1078012800, .int .i64 1583020799, .int .i64 2000000000, .int .i64 2000000001, .int .i64 (-1), .int .i64 (wrap64 (t101 * 997)), .int .i64 (wrap64 (t104 * 641))]) (ok := fun _ => True) (okp := fun _ => True) ?hr ?hp (fun _ hk => hk) trivial (Below.refl _ _) (Nat.le_refl _) (by simp) ?_; (case hd => rfl); (case hg => rfl); (case hr => first | (go_simp; done) | (go_simp; rfl)); (case hp => exact (Reps.one (show Kd.M (Kd.int .i64) _ _ _ 0 [.int .i64 0] from rfl) (Reps.one (show Kd.M (Kd.int .i64) _ _ _ 59 [.int .i64 59] from rfl) (Reps.one (show Kd.M (Kd.int .i64) _ _ _ 60 [.int .i64 60] from rfl) (Reps.one (show Kd.M (Kd.int .i64) _ _ _ 86399 [.int .i64 86399] from rfl) (Reps.one (show Kd.M (Kd.int .i64) _ _ _ 86400 [.int .i64 86400] from rfl) (Reps.one (show Kd.M (Kd.int .i64) _ _ _ 951782400 [.int .i64 951782400] from rfl) (Reps.one (show Kd.M (Kd.int .i64) _ _ _ 951868799 [.int .i64 951868799] from rfl) (Reps.one (show Kd.M (Kd.int .i64) _ _ _ 1078012800 [.int .i64 1078012800] from rfl) (Reps.one (show Kd.M (Kd.int .i64) _ _ _ 1583020799 [.int .i64 1583020799] from rfl) (Reps.one (show Kd.M (Kd.int .i64) _ _ _ 2000000000 [.int .i64 2000000000] from rfl) (Reps.one (show Kd.M (Kd.int .i64) _ _ _ 2000000001 [.int .i64 2000000001] from rfl) (Reps.one (show Kd.M (Kd.int .i64) _ _ _ (-1) [.int .i64 (-1)] from rfl) (Reps.one (show Kd.M (Kd.int .i64) _ _ _ (wrap64 (t101 * 997)) [.int .i64 (wrap64 (t101 * 997))] from rfl) (Reps.one (show Kd.M (Kd.int .i64) _ _ _ (wrap64 (t104 * 641)) [.int .i64 (wrap64 (t104 * 641))] from rfl) (Reps.none _ _)))))))))))))))); intro v108 w7 ho8 hb hg_ hnew_; clear hg_ hnew_; (first | rw [← Ny107.out] at ho8 | (simp only [Int.reduceToNat] at ho8; rw [← Ny107.out] at ho8)); have n0_ := Aside0.mk (Kd.R_lower ho8 (keep_size (w := w) (g := g) (row := none) (by repeat (first | (with_reducible first | exact HK.out | apply KeepBut.set_ | apply keep_drewN | apply keep_drew | apply keep_alloc) | exact HK.out)))); have n1_ := Aside0.mk (IsS110.below (by repeat (first | (with_reducible first | exact HI0.out | apply IsS110.alloc | apply IsS110.drewN | apply IsS110.drew | apply IsS110.set_1 | apply IsS110.set_2) | exact HI0.out)) hb); have n2_ := Aside0.mk (KeepBut.trans (by repeat (first | (with_reducible first | exact HK.out | apply KeepBut.set_ | apply keep_drewN | apply keep_drew | apply keep_alloc) | exact HK.out)) (KeepBut.of_below hb g none) (.inl rfl)); have n3_ := Aside0.mk (below_step (by repeat (first | (with_reducible first | exact HB.out | apply below_alloc | apply pw_below_drewN | apply below_drew1 | refine below_set ?_ (IsS110.ge HI0.out)) | exact HB.out)) hb); clear HI0; clear HK; clear HB; have HO109 := n0_; have HI0 := n1_; have HK := n2_; have HB := n3_; clear n0_ n1_ n2_ n3_; clear hb ho8; obtain ⟨Ao9, co9, eo9⟩ := Kd.R_slice HO109.out; subst eo9) | ((with_reducible refine gate_callee (f := 88) rfl ?_); refine goesL_ (some 11) rfl rfl Tryd.func88 (by kernel_rfl) rfl #[.pointer (some ⟨g, 0, none⟩), .slice Ao9 y107.length co9] rfl am ?_; (with_reducible refine (spec_l1PickInt.calls g s0_0 t105 t106 _ _ y107 t110 t111 t112 w0 _ ?side1 ?side2 ?side3 ?side4 ?side5 A4.out).mono ?_); (case side1 => repeat (first | (with_reducible first | exact HI0.out | apply IsS110.alloc | apply IsS110.drewN | apply IsS110.drew | apply IsS110.set_1 | apply IsS110.set_2) | exact HI0.out)); (case side2 => repeat (first | (with_reducible first | exact HB.out | apply below_alloc | apply pw_below_drewN | apply below_drew1 | refine below_set ?_ (IsS110.ge HI0.out)) | exact HB.out)); (case side3 => repeat (first | exact (Kd.R_reads' HO109.out).2.2 | (with_reducible refine Kd.C_alloc ?_ _) | (with_reducible refine Kd.C_drewN ?_ _) | (with_reducible refine Kd.C_drew ?_))); (case side4 => exact (Kd.R_reads' HO109.out).2.1); (case side5 => exact far_slice (IsS110.own_ne HI0.out HO109.out (by decide))); rintro e w10 ⟨rfl, hi, hb, hk⟩; refine ⟨_, rfl, ?_⟩; have n0_ := Aside0.mk (Kd.R_mono (Kd.R_keep (IsS110.apart (show IsS110 w0 _ g s0_0 t105 t106 from by repeat (first | (with_reducible first | exact HI0.out | apply IsS110.alloc | apply IsS110.drewN | apply IsS110.drew | apply IsS110.set_1 | apply IsS110.set_2) | exact HI0.out)) (by (with_reducible repeat (first | apply Kd.R_alloc | apply Kd.R_drewN | apply Kd.R_drew)); exact HO109.out) (by decide)) hk (fun _ h => h.2)) (fun _ h => h.1)); have n1_ := Aside0.mk (KeepBut.trans (by repeat (first | (with_reducible first | exact HK.out | apply KeepBut.set_ | apply keep_drewN | apply keep_drew | apply keep_alloc) | exact HK.out)) hk (.inl rfl)); have n2_ := Aside0.mk (hb); have n3_ := Aside0.mk (hi); clear HO109; clear HK; clear HB; clear HI0; have HO109 := n0_; have HK := n1_; have HB := n2_; have HI0 := n3_; clear n0_ n1_ n2_ n3_; (try clear hb); (try clear hb2); (try clear hk); (try clear hi)))
 go_ret
 exact ⟨by first | rfl | (simp [errW_none, errW_some] <;> rfl) | (simp [*, errW_none, errW_some] <;> rfl), by repeat (first | (with_reducible first | exact HI0.out | apply IsS110.alloc | apply IsS110.drewN | apply IsS110.drew | apply IsS110.set_1 | apply IsS110.set_2) | exact HI0.out), by repeat (first | (with_reducible first | exact HB.out | apply below_alloc | apply pw_below_drewN | apply below_drew1 | refine below_set ?_ (IsS110.ge HI0.out)) | exact HB.out), by repeat (first | (with_reducible first | exact HK.out | apply KeepBut.set_ | apply keep_drewN | apply keep_drew | apply keep_alloc) | exact HK.out)⟩

end Go.Proofs.YtjldfmkpdkhnnaaDoor.QL

namespace Go.Proofs.YtjldfmkpdkhnnaaDoor.QL
open Go.RowKit Go.Proofs.YtjldfmkpdkhnnaaDoorW.PrintWords Go.Proofs.YtjldfmkpdkhnnaaDoorW.PrintLast Go.Proofs.YtjldfmkpdkhnnaaDoorW.PrintMore Go.Proofs.YtjldfmkpdkhnnaaDoor.Aux Go.Proofs.YtjldfmkpdkhnnaaDoor.Dom Go.Proofs.YtjldfmkpdkhnnaaDoor.Ext Go.Proofs.YtjldfmkpdkhnnaaDoor.Glob
attribute [local go_sem] max2_int min2_int max_two min_two max_three min_three max_four min_four   -- for this text's walks alone
set_option linter.unusedVariables false
set_option linter.unusedSimpArgs false

/-! ### spec_DrawShowDate: function 35 -/
def spec_DrawShowDate.f (k : Nat) (l0 : List Int) : Option (Int) := (spec_l1New.f k l0).bind fun bt101 => ((spec_l4Sec.f bt101.1 bt101.2.1 bt101.2.2).bind fun bt105 => (some bt105.1))
theorem spec_DrawShowDate.mono : ∀ a0 k, LeO (spec_DrawShowDate.f k a0) (spec_DrawShowDate.f (k + 1) a0) := by
 intro a0 k
 unfold spec_DrawShowDate.f
 repeat' first
   | (with_reducible exact spec_l1New.mono _ _)
   | (with_reducible exact LeO.refl _)
   | (with_reducible exact LeO.none _)
   | (with_reducible refine LeO.ite ?_ ?_)
   | (with_reducible refine LeO.bind ?_ (fun _ => ?_))
   | exact spec_l1New.mono _ _
   | exact LeO.none _
   | refine LeO.ite ?_ ?_
   | refine LeO.bind ?_ (fun _ => ?_)
set_option maxHeartbeats 8000000 in
set_option maxRecDepth 100000 in
theorem spec_DrawShowDate.calls (k : Nat) (A0 : Option Addr) (c0 : Nat) (l0 : List Int) (r : Int) (w : World) (hr0 : Kd.C (Kd.int .u8) w A0 l0.length l0) (hc0 : l0.length ≤ c0) (h : spec_DrawShowDate.f k l0 = some r) :
  Calls Tryd.prog 35 #[.slice A0 l0.length c0] w fun e w' => e = .returned (.int .i64 r) ∧ Below w.heap.size w w' := by
 have HR0 := Aside0.mk hr0
 have HC0 := Aside0.mk hc0
 clear hr0 hc0
 have HB := Aside0.mk (Below.refl w.heap.size w)
 have H : ((spec_l1New.f k l0).bind fun bt101 => ((spec_l4Sec.f bt101.1 bt101.2.1 bt101.2.2).bind fun bt105 => (some bt105.1))) = some r := h
 clear h
 replace H := Option.bind_eq_some_iff.mp H
 obtain ⟨⟨t101, t102, t103⟩, A20, H⟩ := H
 try dsimp only at H
 have A2 := Aside0.mk A20
 clear A20
 replace H := Option.bind_eq_some_iff.mp H
 obtain ⟨⟨t105, t106, t107⟩, A30, H⟩ := H
 try dsimp only at H
 have A3 := Aside0.mk A30
 clear A30
 obtain rfl := Option.some.inj H
 go_enter Tryd.func35, Tryd.ntmps35
 go_wp2_with (first | ((with_reducible refine gate_callee (f := 57) rfl ?_); refine goesL_ (some 5) rfl rfl Tryd.func57 (by kernel_rfl) rfl #[.slice A0 l0.length c0] rfl am ?_; (with_reducible refine (spec_l1New.calls k _ _ l0 t101 t102 t103 w _ ?side1 ?side2 ?side3 A2.out).mono ?_); (case side1 => repeat (first | (with_reducible first | exact HB.out | apply below_alloc | apply pw_below_drewN | apply below_drew1) | exact HB.out)); (case side2 => exact HR0.out); (case side3 => exact HC0.out); rintro e w4 ⟨g104, rfl, hi, hb, hb2⟩; refine ⟨_, rfl, ?_⟩; have n0_ := Aside0.mk (hb); have n1_ := Aside0.mk (hi); clear HB; have HB := n0_; have HI104 := n1_; clear n0_ n1_; (try clear hb); (try clear hb2); (try clear hk); (try clear hi)) | ((with_reducible refine gate_callee (f := 80) rfl ?_); refine goesL_ (some 7) rfl rfl Tryd.func80 (by kernel_rfl) rfl #[.pointer (some ⟨g104, 0, none⟩)] rfl am ?_; (with_reducible refine (spec_l4Sec.calls g104 t101 t102 t103 t105 t106 t107 w _ ?side1 ?side2 A3.out).mono ?_); (case side1 => repeat (first | (with_reducible first | exact HI104.out | apply IsS110.alloc | apply IsS110.drewN | apply IsS110.drew | apply IsS110.set_1 | apply IsS110.set_2) | exact HI104.out)); (case side2 => repeat (first | (with_reducible first | exact HB.out | apply below_alloc | apply pw_below_drewN | apply below_drew1 | refine below_set ?_ (IsS110.ge HI104.out)) | exact HB.out)); rintro e w5 ⟨rfl, hi, hb, hk⟩; refine ⟨_, rfl, ?_⟩; have n0_ := Aside0.mk (hb); have n1_ := Aside0.mk (hi); clear HB; clear HI104; have HB := n0_; have HI104 := n1_; clear n0_ n1_; (try clear hb); (try clear hb2); (try clear hk); (try clear hi)))
 go_ret
 exact ⟨by first | rfl | (simp [errW_none, errW_some] <;> rfl) | (simp [*, errW_none, errW_some] <;> rfl), by repeat (first | (with_reducible first | exact HB.out | apply below_alloc | apply pw_below_drewN | apply below_drew1 | refine below_set ?_ (IsS110.ge HI104.out)) | exact HB.out)⟩

end Go.Proofs.YtjldfmkpdkhnnaaDoor.QL

namespace Go.Proofs.YtjldfmkpdkhnnaaDoor.QL
open Go.RowKit Go.Proofs.YtjldfmkpdkhnnaaDoorW.PrintWords Go.Proofs.YtjldfmkpdkhnnaaDoorW.PrintLast Go.Proofs.YtjldfmkpdkhnnaaDoorW.PrintMore Go.Proofs.YtjldfmkpdkhnnaaDoor.Aux Go.Proofs.YtjldfmkpdkhnnaaDoor.Dom Go.Proofs.YtjldfmkpdkhnnaaDoor.Ext Go.Proofs.YtjldfmkpdkhnnaaDoor.Glob
attribute [local go_sem] max2_int min2_int max_two min_two max_three min_three max_four min_four   -- for this text's walks alone
set_option linter.unusedVariables false
set_option linter.unusedSimpArgs false

/-! ### impl_in: function 60 -/
def impl_in.f (a0 : Int) (a1 : Int) (a2 : Int) : Option (Bool) := if a0 ≥ a1 then (some (decide (a0 ≤ a2))) else (some false)
set_option maxHeartbeats 8000000 in
set_option maxRecDepth 100000 in
theorem impl_in.calls (a0 : Int) (a1 : Int) (a2 : Int) (r : Bool) (w : World) (h : impl_in.f a0 a1 a2 = some r) :
  Calls Tryd.prog 60 #[.int .i64 a0, .int .i64 a1, .int .i64 a2] w fun e w' => e = .returned (.bool r) ∧ Drawn0 w w' := by
 have H : (if a0 ≥ a1 then (some (decide (a0 ≤ a2))) else (some false)) = some r := h
 clear h
 by_cases c4 : a0 ≥ a1
 ·rw [if_pos c4] at H
  have c4b0 : decide (a1 ≤ a0) = true := decide_eq_true c4
  clear c4
  obtain rfl := Option.some.inj H
  go_enter Tryd.func60, Tryd.ntmps60
  go_wp2
  go_ret
  exact ⟨by first | rfl | (simp; done) | (simp [*]; done) | (simp; generalize ByteArray.toList _ = L_; cases L_ <;> rfl), by repeat (first | exact Drawn0.refl _ | apply Drawn0.step)⟩
 ·rw [if_neg c4] at H
  have c4b0 : decide (a1 ≤ a0) = false := decide_eq_false c4
  clear c4
  obtain rfl := Option.some.inj H
  go_enter Tryd.func60, Tryd.ntmps60
  go_wp2
  go_ret
  exact ⟨by first | rfl | (simp; done) | (simp [*]; done) | (simp; generalize ByteArray.toList _ = L_; cases L_ <;> rfl), by repeat (first | exact Drawn0.refl _ | apply Drawn0.step)⟩

end Go.Proofs.YtjldfmkpdkhnnaaDoor.QL

namespace Go.Proofs.YtjldfmkpdkhnnaaDoor.QL
open Go.RowKit Go.Proofs.YtjldfmkpdkhnnaaDoorW.PrintWords Go.Proofs.YtjldfmkpdkhnnaaDoorW.PrintLast Go.Proofs.YtjldfmkpdkhnnaaDoorW.PrintMore Go.Proofs.YtjldfmkpdkhnnaaDoor.Aux Go.Proofs.YtjldfmkpdkhnnaaDoor.Dom Go.Proofs.YtjldfmkpdkhnnaaDoor.Ext Go.Proofs.YtjldfmkpdkhnnaaDoor.Glob
attribute [local go_sem] max2_int min2_int max_two min_two max_three min_three max_four min_four   -- for this text's walks alone
set_option linter.unusedVariables false
set_option linter.unusedSimpArgs false

/-! ### impl_IsLeap: function 118 -/
def impl_IsLeap.f (a0 : Int) : Option (Bool) := if (Int.tmod a0 4) = 0 then (if (Int.tmod a0 100) = 0 then (some ((Int.tmod a0 400) == 0)) else (some true)) else (some ((Int.tmod a0 400) == 0))
set_option maxHeartbeats 8000000 in
set_option maxRecDepth 100000 in
theorem impl_IsLeap.calls (a0 : Int) (r : Bool) (w : World) (h : impl_IsLeap.f a0 = some r) :
  Calls Tryd.prog 118 #[.int .i64 a0] w fun e w' => e = .returned (.bool r) ∧ Drawn0 w w' := by
 have H : (if (Int.tmod a0 4) = 0 then (if (Int.tmod a0 100) = 0 then (some ((Int.tmod a0 400) == 0)) else (some true)) else (some ((Int.tmod a0 400) == 0))) = some r := h
 clear h
 by_cases c2 : (Int.tmod a0 4) = 0
 ·rw [if_pos c2] at H
  have c2b0 : ((Int.tmod a0 4) == 0) = true := beq_iff_eq.mpr c2
  have c2b1 : ((Int.tmod a0 4) != 0) = false := bne_eq_false_iff_eq.mpr c2
  clear c2
  by_cases c3 : (Int.tmod a0 100) = 0
  ·rw [if_pos c3] at H
   have c3b0 : ((Int.tmod a0 100) == 0) = true := beq_iff_eq.mpr c3
   have c3b1 : ((Int.tmod a0 100) != 0) = false := bne_eq_false_iff_eq.mpr c3
   clear c3
   obtain rfl := Option.some.inj H
   go_enter Tryd.func118, Tryd.ntmps118
   go_wp2
   go_ret
   exact ⟨by first | rfl | (simp; done) | (simp [*]; done) | (simp; generalize ByteArray.toList _ = L_; cases L_ <;> rfl), by repeat (first | exact Drawn0.refl _ | apply Drawn0.step)⟩
  ·rw [if_neg c3] at H
   have c3b0 : ((Int.tmod a0 100) == 0) = false := beq_eq_false_iff_ne.mpr c3
   have c3b1 : ((Int.tmod a0 100) != 0) = true := bne_iff_ne.mpr c3
   obtain rfl := Option.some.inj H
   go_enter Tryd.func118, Tryd.ntmps118
   go_wp2
   go_ret
   exact ⟨by first | rfl | (simp; done) | (simp [*]; done) | (simp; generalize ByteArray.toList _ = L_; cases L_ <;> rfl), by repeat (first | exact Drawn0.refl _ | apply Drawn0.step)⟩
 ·rw [if_neg c2] at H
  have c2b0 : ((Int.tmod a0 4) == 0) = false := beq_eq_false_iff_ne.mpr c2
  have c2b1 : ((Int.tmod a0 4) != 0) = true := bne_iff_ne.mpr c2
  obtain rfl := Option.some.inj H
  go_enter Tryd.func118, Tryd.ntmps118
  go_wp2
  go_ret
  exact ⟨by first | rfl | (simp; done) | (simp [*]; done) | (simp; generalize ByteArray.toList _ = L_; cases L_ <;> rfl), by repeat (first | exact Drawn0.refl _ | apply Drawn0.step)⟩

end Go.Proofs.YtjldfmkpdkhnnaaDoor.QL

namespace Go.Proofs.YtjldfmkpdkhnnaaDoor.QL
open Go.RowKit Go.Proofs.YtjldfmkpdkhnnaaDoorW.PrintWords Go.Proofs.YtjldfmkpdkhnnaaDoorW.PrintLast Go.Proofs.YtjldfmkpdkhnnaaDoorW.PrintMore Go.Proofs.YtjldfmkpdkhnnaaDoor.Aux Go.Proofs.YtjldfmkpdkhnnaaDoor.Dom Go.Proofs.YtjldfmkpdkhnnaaDoor.Ext Go.Proofs.YtjldfmkpdkhnnaaDoor.Glob
attribute [local go_sem] max2_int min2_int max_two min_two max_three min_three max_four min_four   -- for this text's walks alone
set_option linter.unusedVariables false
set_option linter.unusedSimpArgs false

/-! ### impl_yearDays: function 81 -/
def impl_yearDays.f (a0 : Int) : Option (Int) := (impl_IsLeap.f a0).bind fun t101 => (if t101 = true then (some 366) else (some 365))
set_option maxHeartbeats 8000000 in
set_option maxRecDepth 100000 in
theorem impl_yearDays.calls (a0 : Int) (r : Int) (w : World) (h : impl_yearDays.f a0 = some r) :
  Calls Tryd.prog 81 #[.int .i64 a0] w fun e w' => e = .returned (.int .i64 r) ∧ Drawn0 w w' := by
 have H : ((impl_IsLeap.f a0).bind fun t101 => (if t101 = true then (some 366) else (some 365))) = some r := h
 clear h
 replace H := Option.bind_eq_some_iff.mp H
 obtain ⟨t101, A20, H⟩ := H
 try dsimp only at H
 have A2 := Aside0.mk A20
 clear A20
 by_cases c3 : t101 = true
 ·subst c3
  rw [if_pos rfl] at H
  obtain rfl := Option.some.inj H
  go_enter Tryd.func81, Tryd.ntmps81
  go_wp2_with (first | ((with_reducible refine gate_callee (f := 118) rfl ?_); refine goesL_ (some 4) rfl rfl Tryd.func118 (by kernel_rfl) rfl #[.int .i64 a0] rfl am ?_; (with_reducible refine (impl_IsLeap.calls a0 true _ A2.out).mono ?_); rintro e w' ⟨rfl, ⟨nd, rfl⟩⟩; refine ⟨_, rfl, ?_⟩))
  go_ret
  exact ⟨by first | rfl | (simp; done) | (simp [*]; done) | (simp; generalize ByteArray.toList _ = L_; cases L_ <;> rfl), by repeat (first | exact Drawn0.refl _ | apply Drawn0.step)⟩
 ·replace c3 := Bool.eq_false_iff.mpr c3
  subst c3
  rw [if_neg (show ¬ (false = true) by decide)] at H
  obtain rfl := Option.some.inj H
  go_enter Tryd.func81, Tryd.ntmps81
  go_wp2_with (first | ((with_reducible refine gate_callee (f := 118) rfl ?_); refine goesL_ (some 4) rfl rfl Tryd.func118 (by kernel_rfl) rfl #[.int .i64 a0] rfl am ?_; (with_reducible refine (impl_IsLeap.calls a0 false _ A2.out).mono ?_); rintro e w' ⟨rfl, ⟨nd, rfl⟩⟩; refine ⟨_, rfl, ?_⟩))
  go_ret
  exact ⟨by first | rfl | (simp; done) | (simp [*]; done) | (simp; generalize ByteArray.toList _ = L_; cases L_ <;> rfl), by repeat (first | exact Drawn0.refl _ | apply Drawn0.step)⟩

end Go.Proofs.YtjldfmkpdkhnnaaDoor.QL

namespace Go.Proofs.YtjldfmkpdkhnnaaDoor.QL
open Go.RowKit Go.Proofs.YtjldfmkpdkhnnaaDoorW.PrintWords Go.Proofs.YtjldfmkpdkhnnaaDoorW.PrintLast Go.Proofs.YtjldfmkpdkhnnaaDoorW.PrintMore Go.Proofs.YtjldfmkpdkhnnaaDoor.Aux Go.Proofs.YtjldfmkpdkhnnaaDoor.Dom Go.Proofs.YtjldfmkpdkhnnaaDoor.Ext Go.Proofs.YtjldfmkpdkhnnaaDoor.Glob
attribute [local go_sem] max2_int min2_int max_two min_two max_three min_three max_four min_four   -- for this text's walks alone
set_option linter.unusedVariables false
set_option linter.unusedSimpArgs false

/-! ### impl_monthDays: function 82 -/
def impl_monthDays.f (a0 : Int) (a1 : Int) : Option (Int) := if a1 = 2 then ((impl_IsLeap.f a0).bind fun t101 => (if t101 = true then (some 29) else ((some (([31, 28, 31, 30, 31, 30, 31, 31, 30, 31, 30, 31] : List Int) : List Int)).bind fun y102 => (if 0 ≤ (wrap64 (a1 - 1)) then (if (wrap64 (a1 - 1)) < (y102.length : Int) then (some (rd y102 (wrap64 (a1 - 1)))) else (none)) else (none))))) else ((some (([31, 28, 31, 30, 31, 30, 31, 31, 30, 31, 30, 31] : List Int) : List Int)).bind fun y106 => (if 0 ≤ (wrap64 (a1 - 1)) then (if (wrap64 (a1 - 1)) < (y106.length : Int) then (some (rd y106 (wrap64 (a1 - 1)))) else (none)) else (none)))
set_option maxHeartbeats 8000000 in
set_option maxRecDepth 100000 in
theorem impl_monthDays.calls (a0 : Int) (a1 : Int) (r : Int) (w : World) (h : impl_monthDays.f a0 a1 = some r) :
  Calls Tryd.prog 82 #[.int .i64 a0, .int .i64 a1] w fun e w' => e = .returned (.int .i64 r) ∧ Below w.heap.size w w' := by
 have HB := Aside0.mk (Below.refl w.heap.size w)
 have H : (if a1 = 2 then ((impl_IsLeap.f a0).bind fun t101 => (if t101 = true then (some 29) else ((some (([31, 28, 31, 30, 31, 30, 31, 31, 30, 31, 30, 31] : List Int) : List Int)).bind fun y102 => (if 0 ≤ (wrap64 (a1 - 1)) then (if (wrap64 (a1 - 1)) < (y102.length : Int) then (some (rd y102 (wrap64 (a1 - 1)))) else (none)) else (none))))) else ((some (([31, 28, 31, 30, 31, 30, 31, 31, 30, 31, 30, 31] : List Int) : List Int)).bind fun y106 => (if 0 ≤ (wrap64 (a1 - 1)) then (if (wrap64 (a1 - 1)) < (y106.length : Int) then (some (rd y106 (wrap64 (a1 - 1)))) else (none)) else (none)))) = some r := h
 clear h
 by_cases c3 : a1 = 2
 ·rw [if_pos c3] at H
  have c3b0 : (a1 == 2) = true := beq_iff_eq.mpr c3
  have c3b1 : (a1 != 2) = false := bne_eq_false_iff_eq.mpr c3
  clear c3
  replace H := Option.bind_eq_some_iff.mp H
  obtain ⟨t101, A40, H⟩ := H
  try dsimp only at H
  have A4 := Aside0.mk A40
  clear A40
  by_cases c5 : t101 = true
  ·subst c5
   rw [if_pos rfl] at H
   obtain rfl := Option.some.inj H
   go_enter Tryd.func82, Tryd.ntmps82
   go_wp2_with (first | (go_at_call 118; (with_reducible refine (impl_IsLeap.calls a0 true _ A4.out).mono ?_); rintro e w' ⟨rfl, ⟨nd, rfl⟩⟩))
   go_ret
   exact ⟨by first | rfl | (simp [errW_none, errW_some] <;> rfl) | (simp [*, errW_none, errW_some] <;> rfl), bq⟩
  ·replace c5 := Bool.eq_false_iff.mpr c5
   subst c5
   rw [if_neg (show ¬ (false = true) by decide)] at H
   obtain ⟨y102, hy102⟩ : ∃ y_ : List Int, y_ = (([31, 28, 31, 30, 31, 30, 31, 31, 30, 31, 30, 31] : List Int)) := ⟨_, rfl⟩
   replace H : (if 0 ≤ (wrap64 (a1 - 1)) then (if (wrap64 (a1 - 1)) < (y102.length : Int) then (some (rd y102 (wrap64 (a1 - 1)))) else (none)) else (none)) = some r := by first | (rw [hy102]; with_reducible exact H) | (have H2_ := (Option.bind_some _ _).symm.trans H; rw [hy102]; with_reducible exact H2_) | (have H2_ := (Option.bind_some _ _).symm.trans H; with_reducible exact H2_) | with_reducible exact H | (rw [hy102]; exact H) | exact H
   have Ny102 := Aside0.mk hy102
   clear hy102
   obtain ⟨ji6, hji6⟩ : ∃ j_ : Int, (wrap64 (a1 - 1)) = j_ := ⟨_, rfl⟩
   replace H : (if 0 ≤ (ji6) then (if (ji6) < (y102.length : Int) then (some (rd y102 (ji6))) else (none)) else (none)) = some r := by first | (rw [hji6] at H; exact H) | (simp only [hji6] at H ⊢; exact H)
   (try rw [hji6] at A4)
   have hji6w : (IntKind.i64.wrap (a1 - 1)) = ji6 := (i64_w _).trans hji6
   by_cases c7 : 0 ≤ (ji6)
   ·rw [if_pos c7] at H
    have c7b0 : decide (0 ≤ (ji6)) = true := decide_eq_true c7
    clear c7
    by_cases c8 : (ji6) < (y102.length : Int)
    ·rw [if_pos c8] at H
     have c8b0 : decide ((ji6) < (y102.length : Int)) = true := decide_eq_true c8
     clear c8
     obtain rfl := Option.some.inj H
     go_enter Tryd.func82, Tryd.ntmps82
     go_wp2_with (first | (go_at_call 118; (with_reducible refine (impl_IsLeap.calls a0 false _ A4.out).mono ?_); rintro e w' ⟨rfl, ⟨nd, rfl⟩⟩) | ((with_reducible refine gate_dst (N := 11) rfl ?_); refine Kd.R_lit (Kd.int .i64) _ 3 ?hg (N := 11) ?hd (xs := ([31, 28, 31, 30, 31, 30, 31, 31, 30, 31, 30, 31] : List Int)) (inner := [.int .i64 31, .int .i64 28, .int .i64 31, .int .i64 30, .int .i64 31, .int .i64 30, .int .i64 31, .int .i64 31, .int .i64 30, .int .i64 31, .int .i64 30, .int .i64 31]) (ok := fun _ => True) (okp := fun _ => True) ?hr ?hp (fun _ hk => hk) trivial (Below.refl _ _) (Nat.le_refl _) (by simp) ?_; (case hd => rfl); (case hg => rfl); (case hr => first | (go_simp; done) | (go_simp; rfl)); (case hp => exact (Reps.one (show Kd.M (Kd.int .i64) _ _ _ 31 [.int .i64 31] from rfl) (Reps.one (show Kd.M (Kd.int .i64) _ _ _ 28 [.int .i64 28] from rfl) (Reps.one (show Kd.M (Kd.int .i64) _ _ _ 31 [.int .i64 31] from rfl) (Reps.one (show Kd.M (Kd.int .i64) _ _ _ 30 [.int .i64 30] from rfl) (Reps.one (show Kd.M (Kd.int .i64) _ _ _ 31 [.int .i64 31] from rfl) (Reps.one (show Kd.M (Kd.int .i64) _ _ _ 30 [.int .i64 30] from rfl) (Reps.one (show Kd.M (Kd.int .i64) _ _ _ 31 [.int .i64 31] from rfl) (Reps.one (show Kd.M (Kd.int .i64) _ _ _ 31 [.int .i64 31] from rfl) (Reps.one (show Kd.M (Kd.int .i64) _ _ _ 30 [.int .i64 30] from rfl) (Reps.one (show Kd.M (Kd.int .i64) _ _ _ 31 [.int .i64 31] from rfl) (Reps.one (show Kd.M (Kd.int .i64) _ _ _ 30 [.int .i64 30] from rfl) (Reps.one (show Kd.M (Kd.int .i64) _ _ _ 31 [.int .i64 31] from rfl) (Reps.none _ _)))))))))))))); intro v103 w9 ho10 hb hg_ hnew_; clear hg_ hnew_; (first | rw [← Ny102.out] at ho10 | (simp only [Int.reduceToNat] at ho10; rw [← Ny102.out] at ho10)); have n0_ := Aside0.mk (Kd.R_lower ho10 (below_size bq)); have n1_ := Aside0.mk (below_step bq hb); clear HB; have HO104 := n0_; have HB := n1_; clear n0_ n1_; clear hb ho10; obtain ⟨Ao11, co11, eo11⟩ := Kd.R_slice HO104.out; subst eo11; have p105 : 0 ≤ ((ji6) : Int) := of_decide_eq_true asm; have q105 : (ji6) < (y102.length : Int) := of_decide_eq_true asm; obtain ⟨ad105, e105, hx105_0⟩ := Kd.at_int (Kd.R_reads' HO104.out).2.2 (ji6) p105 q105; cases e105; replace p105 := eq_true p105; replace q105 := eq_true q105))
     go_ret
     exact ⟨by first | rfl | (simp [errW_none, errW_some] <;> rfl) | (simp only [← hji6]; first | rfl | (simp [errW_none, errW_some] <;> rfl)) | (simp [*, errW_none, errW_some] <;> rfl), bq⟩
    ·rw [if_neg c8] at H
     exact absurd H (by simp)
   ·rw [if_neg c7] at H
    exact absurd H (by simp)
 ·rw [if_neg c3] at H
  have c3b0 : (a1 == 2) = false := beq_eq_false_iff_ne.mpr c3
  have c3b1 : (a1 != 2) = true := bne_iff_ne.mpr c3
  obtain ⟨y106, hy106⟩ : ∃ y_ : List Int, y_ = (([31, 28, 31, 30, 31, 30, 31, 31, 30, 31, 30, 31] : List Int)) := ⟨_, rfl⟩
  replace H : (if 0 ≤ (wrap64 (a1 - 1)) then (if (wrap64 (a1 - 1)) < (y106.length : Int) then (some (rd y106 (wrap64 (a1 - 1)))) else (none)) else (none)) = some r := by first | (rw [hy106]; with_reducible exact H) | (have H2_ := (Option.bind_some _ _).symm.trans H; rw [hy106]; with_reducible exact H2_) | (have H2_ := (Option.bind_some _ _).symm.trans H; with_reducible exact H2_) | with_reducible exact H | (rw [hy106]; exact H) | exact H
  have Ny106 := Aside0.mk hy106
  clear hy106
  obtain ⟨ji12, hji12⟩ : ∃ j_ : Int, (wrap64 (a1 - 1)) = j_ := ⟨_, rfl⟩
  replace H : (if 0 ≤ (ji12) then (if (ji12) < (y106.length : Int) then (some (rd y106 (ji12))) else (none)) else (none)) = some r := by first | (rw [hji12] at H; exact H) | (simp only [hji12] at H ⊢; exact H)
  have hji12w : (IntKind.i64.wrap (a1 - 1)) = ji12 := (i64_w _).trans hji12
  by_cases c13 : 0 ≤ (ji12)
  ·rw [if_pos c13] at H
   have c13b0 : decide (0 ≤ (ji12)) = true := decide_eq_true c13
   clear c13
   by_cases c14 : (ji12) < (y106.length : Int)
   ·rw [if_pos c14] at H
    have c14b0 : decide ((ji12) < (y106.length : Int)) = true := decide_eq_true c14
    clear c14
    obtain rfl := Option.some.inj H
    go_enter Tryd.func82, Tryd.ntmps82
    go_wp2_with (first | ((with_reducible refine gate_dst (N := 11) rfl ?_); refine Kd.R_lit (Kd.int .i64) _ 3 ?hg (N := 11) ?hd (xs := ([31, 28, 31, 30, 31, 30, 31, 31, 30, 31, 30, 31] : List Int)) (inner := [.int .i64 31, .int .i64 28, .int .i64 31, .int .i64 30, .int .i64 31, .int .i64 30, .int .i64 31, .int .i64 31, .int .i64 30, .int .i64 31, .int .i64 30, .int .i64 31]) (ok := fun _ => True) (okp := fun _ => True) ?hr ?hp (fun _ hk => hk) trivial (Below.refl _ _) (Nat.le_refl _) (by simp) ?_; (case hd => rfl); (case hg => rfl); (case hr => first | (go_simp; done) | (go_simp; rfl)); (case hp => exact (Reps.one (show Kd.M (Kd.int .i64) _ _ _ 31 [.int .i64 31] from rfl) (Reps.one (show Kd.M (Kd.int .i64) _ _ _ 28 [.int .i64 28] from rfl) (Reps.one (show Kd.M (Kd.int .i64) _ _ _ 31 [.int .i64 31] from rfl) (Reps.one (show Kd.M (Kd.int .i64) _ _ _ 30 [.int .i64 30] from rfl) (Reps.one (show Kd.M (Kd.int .i64) _ _ _ 31 [.int .i64 31] from rfl) (Reps.one (show Kd.M (Kd.int .i64) _ _ _ 30 [.int .i64 30] from rfl) (Reps.one (show Kd.M (Kd.int .i64) _ _ _ 31 [.int .i64 31] from rfl) (Reps.one (show Kd.M (Kd.int .i64) _ _ _ 31 [.int .i64 31] from rfl) (Reps.one (show Kd.M (Kd.int .i64) _ _ _ 30 [.int .i64 30] from rfl) (Reps.one (show Kd.M (Kd.int .i64) _ _ _ 31 [.int .i64 31] from rfl) (Reps.one (show Kd.M (Kd.int .i64) _ _ _ 30 [.int .i64 30] from rfl) (Reps.one (show Kd.M (Kd.int .i64) _ _ _ 31 [.int .i64 31] from rfl) (Reps.none _ _)))))))))))))); intro v107 w15 ho16 hb hg_ hnew_; clear hg_ hnew_; (first | rw [← Ny106.out] at ho16 | (simp only [Int.reduceToNat] at ho16; rw [← Ny106.out] at ho16)); have n0_ := Aside0.mk (Kd.R_lower ho16 (below_size bq)); have n1_ := Aside0.mk (below_step bq hb); clear HB; have HO108 := n0_; have HB := n1_; clear n0_ n1_; clear hb ho16; obtain ⟨Ao17, co17, eo17⟩ := Kd.R_slice HO108.out; subst eo17; have p109 : 0 ≤ ((ji12) : Int) := of_decide_eq_true asm; have q109 : (ji12) < (y106.length : Int) := of_decide_eq_true asm; obtain ⟨ad109, e109, hx109_0⟩ := Kd.at_int (Kd.R_reads' HO108.out).2.2 (ji12) p109 q109; cases e109; replace p109 := eq_true p109; replace q109 := eq_true q109))
    go_ret
    exact ⟨by first | rfl | (simp [errW_none, errW_some] <;> rfl) | (simp only [← hji12]; first | rfl | (simp [errW_none, errW_some] <;> rfl)) | (simp [*, errW_none, errW_some] <;> rfl), bq⟩
   ·rw [if_neg c14] at H
    exact absurd H (by simp)
  ·rw [if_neg c13] at H
   exact absurd H (by simp)

end Go.Proofs.YtjldfmkpdkhnnaaDoor.QL

namespace Go.Proofs.YtjldfmkpdkhnnaaDoor.QL
open Go.RowKit Go.Proofs.YtjldfmkpdkhnnaaDoorW.PrintWords Go.Proofs.YtjldfmkpdkhnnaaDoorW.PrintLast Go.Proofs.YtjldfmkpdkhnnaaDoorW.PrintMore Go.Proofs.YtjldfmkpdkhnnaaDoor.Aux Go.Proofs.YtjldfmkpdkhnnaaDoor.Dom Go.Proofs.YtjldfmkpdkhnnaaDoor.Ext Go.Proofs.YtjldfmkpdkhnnaaDoor.Glob
attribute [local go_sem] max2_int min2_int max_two min_two max_three min_three max_four min_four   -- for this text's walks alone
set_option linter.unusedVariables false
set_option linter.unusedSimpArgs false

/-! ### impl_two: function 83 -/
def impl_two.f (a0 : Int) : Option (ByteArray) := (strconv_Itoa.f (wrap64 (100 + a0))).bind fun t101 => (if 1 ≤ (t101.size : Int) then (some (t101.extract 1 t101.size)) else (none))
set_option maxHeartbeats 8000000 in
set_option maxRecDepth 100000 in
theorem impl_two.calls (a0 : Int) (r : ByteArray) (w : World) (hGPow : GPow w) (h : impl_two.f a0 = some r) :
  Calls Tryd.prog 83 #[.int .i64 a0] w fun e w' => e = .returned (.string r) ∧ Below w.heap.size w w' := by
 have HGPow := Aside0.mk hGPow
 clear hGPow
 have HB := Aside0.mk (Below.refl w.heap.size w)
 have H : ((strconv_Itoa.f (wrap64 (100 + a0))).bind fun t101 => (if 1 ≤ (t101.size : Int) then (some (t101.extract 1 t101.size)) else (none))) = some r := h
 clear h
 replace H := Option.bind_eq_some_iff.mp H
 obtain ⟨t101, A20, H⟩ := H
 try dsimp only at H
 have A2 := Aside0.mk A20
 clear A20
 by_cases c3 : 1 ≤ (t101.size : Int)
 ·rw [if_pos c3] at H
  have c3b0 := eq_true c3
  have c3b1 : decide (1 ≤ (t101.size : Int)) = true := decide_eq_true c3
  clear c3
  obtain rfl := Option.some.inj H
  go_enter Tryd.func83, Tryd.ntmps83
  go_wp2_with (first | ((with_reducible refine gate_callee (f := 62) rfl ?_); refine goesL_ (some 5) rfl rfl Tryd.func62 (by kernel_rfl) rfl #[.int .i64 (wrap64 (100 + a0))] rfl am ?_; (with_reducible refine (strconv_Itoa.calls (wrap64 (100 + a0)) t101 _ ?side1 A2.out).mono ?_); (case side1 => refine GPow.of_below HGPow.out ?_; repeat (first | (with_reducible first | exact HB.out | apply below_alloc | apply pw_below_drewN | apply below_drew1) | exact HB.out)); rintro e w4 ⟨rfl, hb⟩; refine ⟨_, rfl, ?_⟩; have n0_ := Aside0.mk (below_step bq hb); clear HB; have HB := n0_; clear n0_; (try clear hb); (try clear hb2); (try clear hk); (try clear hi)))
  go_ret
  exact ⟨by first | rfl | (simp [errW_none, errW_some] <;> rfl) | (simp [*, errW_none, errW_some] <;> rfl), bq⟩
 ·rw [if_neg c3] at H
  exact absurd H (by simp)

end Go.Proofs.YtjldfmkpdkhnnaaDoor.QL

namespace Go.Proofs.YtjldfmkpdkhnnaaDoor.QL
open Go.RowKit Go.Proofs.YtjldfmkpdkhnnaaDoorW.PrintWords Go.Proofs.YtjldfmkpdkhnnaaDoorW.PrintLast Go.Proofs.YtjldfmkpdkhnnaaDoorW.PrintMore Go.Proofs.YtjldfmkpdkhnnaaDoor.Aux Go.Proofs.YtjldfmkpdkhnnaaDoor.Dom Go.Proofs.YtjldfmkpdkhnnaaDoor.Ext Go.Proofs.YtjldfmkpdkhnnaaDoor.Glob
attribute [local go_sem] max2_int min2_int max_two min_two max_three min_three max_four min_four   -- for this text's walks alone
set_option linter.unusedVariables false
set_option linter.unusedSimpArgs false

/-! ### impl_months: function 84 -/
def impl_months.f  : Option (List ByteArray) := some (([(⟨#[74, 97, 110]⟩ : ByteArray), (⟨#[70, 101, 98]⟩ : ByteArray), (⟨#[77, 97, 114]⟩ : ByteArray), (⟨#[65, 112, 114]⟩ : ByteArray), (⟨#[77, 97, 121]⟩ : ByteArray), (⟨#[74, 117, 110]⟩ : ByteArray), (⟨#[74, 117, 108]⟩ : ByteArray), (⟨#[65, 117, 103]⟩ : ByteArray), (⟨#[83, 101, 112]⟩ : ByteArray), (⟨#[79, 99, 116]⟩ : ByteArray), (⟨#[78, 111, 118]⟩ : ByteArray), (⟨#[68, 101, 99]⟩ : ByteArray)] : List ByteArray))
set_option maxHeartbeats 8000000 in
set_option maxRecDepth 100000 in
theorem impl_months.calls  (r : List ByteArray) (w : World) (h : impl_months.f  = some r) :
  Calls Tryd.prog 84 #[] w fun e w' => ∃ v0_ : Value, e = .returned (v0_) ∧ Kd.R Kd.string 9 w' w.heap.size (fun _ => True) v0_ r ∧ Below w.heap.size w w' := by
 have HB := Aside0.mk (Below.refl w.heap.size w)
 have H : (some (([(⟨#[74, 97, 110]⟩ : ByteArray), (⟨#[70, 101, 98]⟩ : ByteArray), (⟨#[77, 97, 114]⟩ : ByteArray), (⟨#[65, 112, 114]⟩ : ByteArray), (⟨#[77, 97, 121]⟩ : ByteArray), (⟨#[74, 117, 110]⟩ : ByteArray), (⟨#[74, 117, 108]⟩ : ByteArray), (⟨#[65, 117, 103]⟩ : ByteArray), (⟨#[83, 101, 112]⟩ : ByteArray), (⟨#[79, 99, 116]⟩ : ByteArray), (⟨#[78, 111, 118]⟩ : ByteArray), (⟨#[68, 101, 99]⟩ : ByteArray)] : List ByteArray))) = some r := h
 clear h
 obtain ⟨y101, hy101⟩ : ∃ y_ : List ByteArray, y_ = (([(⟨#[74, 97, 110]⟩ : ByteArray), (⟨#[70, 101, 98]⟩ : ByteArray), (⟨#[77, 97, 114]⟩ : ByteArray), (⟨#[65, 112, 114]⟩ : ByteArray), (⟨#[77, 97, 121]⟩ : ByteArray), (⟨#[74, 117, 110]⟩ : ByteArray), (⟨#[74, 117, 108]⟩ : ByteArray), (⟨#[65, 117, 103]⟩ : ByteArray), (⟨#[83, 101, 112]⟩ : ByteArray), (⟨#[79, 99, 116]⟩ : ByteArray), (⟨#[78, 111, 118]⟩ : ByteArray), (⟨#[68, 101, 99]⟩ : ByteArray)] : List ByteArray)) := ⟨_, rfl⟩
 replace H : (some y101) = some r := by first | (rw [hy101]; with_reducible exact H) | (have H2_ := (Option.bind_some _ _).symm.trans H; rw [hy101]; with_reducible exact H2_) | (have H2_ := (Option.bind_some _ _).symm.trans H; with_reducible exact H2_) | with_reducible exact H | (rw [hy101]; exact H) | exact H
 have Ny101 := Aside0.mk hy101
 clear hy101
 obtain rfl := Option.some.inj H
 go_enter Tryd.func84, Tryd.ntmps84
 go_wp2_with (first | ((with_reducible refine gate_dst (N := 1) rfl ?_); refine Kd.R_lit Kd.string _ 9 ?hg (N := 1) ?hd (xs := ([(⟨#[74, 97, 110]⟩ : ByteArray), (⟨#[70, 101, 98]⟩ : ByteArray), (⟨#[77, 97, 114]⟩ : ByteArray), (⟨#[65, 112, 114]⟩ : ByteArray), (⟨#[77, 97, 121]⟩ : ByteArray), (⟨#[74, 117, 110]⟩ : ByteArray), (⟨#[74, 117, 108]⟩ : ByteArray), (⟨#[65, 117, 103]⟩ : ByteArray), (⟨#[83, 101, 112]⟩ : ByteArray), (⟨#[79, 99, 116]⟩ : ByteArray), (⟨#[78, 111, 118]⟩ : ByteArray), (⟨#[68, 101, 99]⟩ : ByteArray)] : List ByteArray)) (inner := [.string (⟨#[74, 97, 110]⟩ : ByteArray), .string (⟨#[70, 101, 98]⟩ : ByteArray), .string (⟨#[77, 97, 114]⟩ : ByteArray), .string (⟨#[65, 112, 114]⟩ : ByteArray), .string (⟨#[77, 97, 121]⟩ : ByteArray), .string (⟨#[74, 117, 110]⟩ : ByteArray), .string (⟨#[74, 117, 108]⟩ : ByteArray), .string (⟨#[65, 117, 103]⟩ : ByteArray), .string (⟨#[83, 101, 112]⟩ : ByteArray), .string (⟨#[79, 99, 116]⟩ : ByteArray), .string (⟨#[78, 111, 118]⟩ : ByteArray), .string (⟨#[68, 101, 99]⟩ : ByteArray)]) (ok := fun _ => True) (okp := fun _ => True) ?hr ?hp (fun _ hk => hk) trivial (Below.refl _ _) (Nat.le_refl _) (by simp) ?_; (case hd => rfl); (case hg => rfl); (case hr => first | (go_simp; done) | (go_simp; rfl)); (case hp => exact (Reps.one (show Kd.M Kd.string _ _ _ (⟨#[74, 97, 110]⟩ : ByteArray) [.string (⟨#[74, 97, 110]⟩ : ByteArray)] from rfl) (Reps.one (show Kd.M Kd.string _ _ _ (⟨#[70, 101, 98]⟩ : ByteArray) [.string (⟨#[70, 101, 98]⟩ : ByteArray)] from rfl) (Reps.one (show Kd.M Kd.string _ _ _ (⟨#[77, 97, 114]⟩ : ByteArray) [.string (⟨#[77, 97, 114]⟩ : ByteArray)] from rfl) (Reps.one (show Kd.M Kd.string _ _ _ (⟨#[65, 112, 114]⟩ : ByteArray) [.string (⟨#[65, 112, 114]⟩ : ByteArray)] from rfl) (Reps.one (show Kd.M Kd.string _ _ _ (⟨#[77, 97, 121]⟩ : ByteArray) [.string (⟨#[77, 97, 121]⟩ : ByteArray)] from rfl) (Reps.one (show Kd.M Kd.string _ _ _ (⟨#[74, 117, 110]⟩ : ByteArray) [.string (⟨#[74, 117, 110]⟩ : ByteArray)] from rfl) (Reps.one (show Kd.M Kd.string _ _ _ (⟨#[74, 117, 108]⟩ : ByteArray) [.string (⟨#[74, 117, 108]⟩ : ByteArray)] from rfl) (Reps.one (show Kd.M Kd.string _ _ _ (⟨#[65, 117, 103]⟩ : ByteArray) [.string (⟨#[65, 117, 103]⟩ : ByteArray)] from rfl) (Reps.one (show Kd.M Kd.string _ _ _ (⟨#[83, 101, 112]⟩ : ByteArray) [.string (⟨#[83, 101, 112]⟩ : ByteArray)] from rfl) (Reps.one (show Kd.M Kd.string _ _ _ (⟨#[79, 99, 116]⟩ : ByteArray) [.string (⟨#[79, 99, 116]⟩ : ByteArray)] from rfl) (Reps.one (show Kd.M Kd.string _ _ _ (⟨#[78, 111, 118]⟩ : ByteArray) [.string (⟨#[78, 111, 118]⟩ : ByteArray)] from rfl) (Reps.one (show Kd.M Kd.string _ _ _ (⟨#[68, 101, 99]⟩ : ByteArray) [.string (⟨#[68, 101, 99]⟩ : ByteArray)] from rfl) (Reps.none _ _)))))))))))))); intro v102 w1 ho2 hb hg_ hnew_; clear hg_ hnew_; (first | rw [← Ny101.out] at ho2 | (simp only [Int.reduceToNat] at ho2; rw [← Ny101.out] at ho2)); have n0_ := Aside0.mk (Kd.R_lower ho2 (below_size bq)); have n1_ := Aside0.mk (below_step bq hb); clear HB; have HO103 := n0_; have HB := n1_; clear n0_ n1_; clear hb ho2))
 go_ret
 exact ⟨_, by first | rfl | (simp [errW_none, errW_some] <;> rfl) | (simp [*, errW_none, errW_some] <;> rfl), by (with_reducible repeat (first | apply Kd.R_alloc | apply Kd.R_drewN | apply Kd.R_drew)); exact HO103.out, bq⟩

end Go.Proofs.YtjldfmkpdkhnnaaDoor.QL

namespace Go.Proofs.YtjldfmkpdkhnnaaDoor.QL
open Go.RowKit Go.Proofs.YtjldfmkpdkhnnaaDoorW.PrintWords Go.Proofs.YtjldfmkpdkhnnaaDoorW.PrintLast Go.Proofs.YtjldfmkpdkhnnaaDoorW.PrintMore Go.Proofs.YtjldfmkpdkhnnaaDoor.Aux Go.Proofs.YtjldfmkpdkhnnaaDoor.Dom Go.Proofs.YtjldfmkpdkhnnaaDoor.Ext Go.Proofs.YtjldfmkpdkhnnaaDoor.Glob
attribute [local go_sem] max2_int min2_int max_two min_two max_three min_three max_four min_four   -- for this text's walks alone
set_option linter.unusedVariables false
set_option linter.unusedSimpArgs false

/-! ### impl_ShowDate: function 36 -/
mutual
def impl_ShowDate.l0 : Nat → Int → Int → ByteArray → Int → Int → Option (ByteArray)
 | 0, _, _, _, _, _ => none
 | k + 1, x3, x4, x5, x6, x7 => (impl_yearDays.f x6).bind fun t106 => (if x3 ≥ t106 then ((impl_yearDays.f x6).bind fun t107 => (impl_ShowDate.l0 k (wrap64 (x3 - t107)) x4 x5 (wrap64 (x6 + 1)) x7)) else (impl_ShowDate.l1 k x3 x4 x5 x6 x7))
def impl_ShowDate.l1 : Nat → Int → Int → ByteArray → Int → Int → Option (ByteArray)
 | 0, _, _, _, _, _ => none
 | k + 1, x3, x4, x5, x6, x7 => (impl_monthDays.f x6 x7).bind fun t108 => (if x3 ≥ t108 then ((impl_monthDays.f x6 x7).bind fun t109 => (impl_ShowDate.l1 k (wrap64 (x3 - t109)) x4 x5 x6 (wrap64 (x7 + 1)))) else (if x5.size + 2 ≤ 9223372036854775807 then ((impl_two.f (wrap64 (x3 + 1))).bind fun t110 => (if (x5 ++ (⟨#[44, 32]⟩ : ByteArray)).size + t110.size ≤ 9223372036854775807 then (if ((x5 ++ (⟨#[44, 32]⟩ : ByteArray)) ++ t110).size + 1 ≤ 9223372036854775807 then ((impl_months.f).bind fun t111 => (if 0 ≤ (wrap64 (x7 - 1)) then (if (wrap64 (x7 - 1)) < (t111.length : Int) then (if (((x5 ++ (⟨#[44, 32]⟩ : ByteArray)) ++ t110) ++ (⟨#[32]⟩ : ByteArray)).size + (rdOf ByteArray.empty t111 (wrap64 (x7 - 1))).size ≤ 9223372036854775807 then (if ((((x5 ++ (⟨#[44, 32]⟩ : ByteArray)) ++ t110) ++ (⟨#[32]⟩ : ByteArray)) ++ (rdOf ByteArray.empty t111 (wrap64 (x7 - 1)))).size + 1 ≤ 9223372036854775807 then ((strconv_Itoa.f x6).bind fun t115 => (if (((((x5 ++ (⟨#[44, 32]⟩ : ByteArray)) ++ t110) ++ (⟨#[32]⟩ : ByteArray)) ++ (rdOf ByteArray.empty t111 (wrap64 (x7 - 1)))) ++ (⟨#[32]⟩ : ByteArray)).size + t115.size ≤ 9223372036854775807 then (if ((((((x5 ++ (⟨#[44, 32]⟩ : ByteArray)) ++ t110) ++ (⟨#[32]⟩ : ByteArray)) ++ (rdOf ByteArray.empty t111 (wrap64 (x7 - 1)))) ++ (⟨#[32]⟩ : ByteArray)) ++ t115).size + 1 ≤ 9223372036854775807 then ((impl_two.f (wrap64 (Int.tdiv x4 3600))).bind fun t116 => (if (((((((x5 ++ (⟨#[44, 32]⟩ : ByteArray)) ++ t110) ++ (⟨#[32]⟩ : ByteArray)) ++ (rdOf ByteArray.empty t111 (wrap64 (x7 - 1)))) ++ (⟨#[32]⟩ : ByteArray)) ++ t115) ++ (⟨#[32]⟩ : ByteArray)).size + t116.size ≤ 9223372036854775807 then (if ((((((((x5 ++ (⟨#[44, 32]⟩ : ByteArray)) ++ t110) ++ (⟨#[32]⟩ : ByteArray)) ++ (rdOf ByteArray.empty t111 (wrap64 (x7 - 1)))) ++ (⟨#[32]⟩ : ByteArray)) ++ t115) ++ (⟨#[32]⟩ : ByteArray)) ++ t116).size + 1 ≤ 9223372036854775807 then ((impl_two.f (Int.tmod (wrap64 (Int.tdiv x4 60)) 60)).bind fun t117 => (if (((((((((x5 ++ (⟨#[44, 32]⟩ : ByteArray)) ++ t110) ++ (⟨#[32]⟩ : ByteArray)) ++ (rdOf ByteArray.empty t111 (wrap64 (x7 - 1)))) ++ (⟨#[32]⟩ : ByteArray)) ++ t115) ++ (⟨#[32]⟩ : ByteArray)) ++ t116) ++ (⟨#[58]⟩ : ByteArray)).size + t117.size ≤ 9223372036854775807 then (if ((((((((((x5 ++ (⟨#[44, 32]⟩ : ByteArray)) ++ t110) ++ (⟨#[32]⟩ : ByteArray)) ++ (rdOf ByteArray.empty t111 (wrap64 (x7 - 1)))) ++ (⟨#[32]⟩ : ByteArray)) ++ t115) ++ (⟨#[32]⟩ : ByteArray)) ++ t116) ++ (⟨#[58]⟩ : ByteArray)) ++ t117).size + 1 ≤ 9223372036854775807 then ((impl_two.f (Int.tmod x4 60)).bind fun t118 => (if (((((((((((x5 ++ (⟨#[44, 32]⟩ : ByteArray)) ++ t110) ++ (⟨#[32]⟩ : ByteArray)) ++ (rdOf ByteArray.empty t111 (wrap64 (x7 - 1)))) ++ (⟨#[32]⟩ : ByteArray)) ++ t115) ++ (⟨#[32]⟩ : ByteArray)) ++ t116) ++ (⟨#[58]⟩ : ByteArray)) ++ t117) ++ (⟨#[58]⟩ : ByteArray)).size + t118.size ≤ 9223372036854775807 then (if ((((((((((((x5 ++ (⟨#[44, 32]⟩ : ByteArray)) ++ t110) ++ (⟨#[32]⟩ : ByteArray)) ++ (rdOf ByteArray.empty t111 (wrap64 (x7 - 1)))) ++ (⟨#[32]⟩ : ByteArray)) ++ t115) ++ (⟨#[32]⟩ : ByteArray)) ++ t116) ++ (⟨#[58]⟩ : ByteArray)) ++ t117) ++ (⟨#[58]⟩ : ByteArray)) ++ t118).size + 4 ≤ 9223372036854775807 then (some (((((((((((((x5 ++ (⟨#[44, 32]⟩ : ByteArray)) ++ t110) ++ (⟨#[32]⟩ : ByteArray)) ++ (rdOf ByteArray.empty t111 (wrap64 (x7 - 1)))) ++ (⟨#[32]⟩ : ByteArray)) ++ t115) ++ (⟨#[32]⟩ : ByteArray)) ++ t116) ++ (⟨#[58]⟩ : ByteArray)) ++ t117) ++ (⟨#[58]⟩ : ByteArray)) ++ t118) ++ (⟨#[32, 71, 77, 84]⟩ : ByteArray))) else (none)) else (none))) else (none)) else (none))) else (none)) else (none))) else (none)) else (none))) else (none)) else (none)) else (none)) else (none))) else (none)) else (none))) else (none)))
end
def impl_ShowDate.f (k : Nat) (a0 : Int) : Option (ByteArray) := (impl_in.f a0 0 2000000000).bind fun t101 => (if t101 = true then ((some (([(⟨#[84, 104, 117]⟩ : ByteArray), (⟨#[70, 114, 105]⟩ : ByteArray), (⟨#[83, 97, 116]⟩ : ByteArray), (⟨#[83, 117, 110]⟩ : ByteArray), (⟨#[77, 111, 110]⟩ : ByteArray), (⟨#[84, 117, 101]⟩ : ByteArray), (⟨#[87, 101, 100]⟩ : ByteArray)] : List ByteArray) : List ByteArray)).bind fun y102 => (if 0 ≤ (Int.tmod (wrap64 (Int.tdiv a0 86400)) 7) then (if (Int.tmod (wrap64 (Int.tdiv a0 86400)) 7) < (y102.length : Int) then (impl_ShowDate.l0 k (wrap64 (Int.tdiv a0 86400)) (Int.tmod a0 86400) (rdOf ByteArray.empty y102 (Int.tmod (wrap64 (Int.tdiv a0 86400)) 7)) 1970 1) else (none)) else (none))) else (some (⟨#[]⟩ : ByteArray)))
theorem impl_ShowDate.mono_l : ∀ k, (∀ y0 y1 y2 y3 y4, LeO (impl_ShowDate.l0 k y0 y1 y2 y3 y4) (impl_ShowDate.l0 (k + 1) y0 y1 y2 y3 y4)) ∧ (∀ y0 y1 y2 y3 y4, LeO (impl_ShowDate.l1 k y0 y1 y2 y3 y4) (impl_ShowDate.l1 (k + 1) y0 y1 y2 y3 y4))
 | 0 => ⟨fun _ _ _ _ _ r h => by simp [impl_ShowDate.l0] at h, fun _ _ _ _ _ r h => by simp [impl_ShowDate.l1] at h⟩
 | k + 1 => by
  obtain ⟨ih0, ih1⟩ := impl_ShowDate.mono_l k
  refine ⟨?_, ?_⟩
  ·intro y0 y1 y2 y3 y4
   unfold impl_ShowDate.l0
   repeat' first
   | (with_reducible exact ih0 _ _ _ _ _)
   | (with_reducible exact ih1 _ _ _ _ _)
   | (with_reducible exact LeO.refl _)
   | (with_reducible exact LeO.none _)
   | (with_reducible refine LeO.ite ?_ ?_)
   | (with_reducible refine LeO.bind ?_ (fun _ => ?_))
   | exact ih0 _ _ _ _ _
   | exact ih1 _ _ _ _ _
   | exact LeO.none _
   | refine LeO.ite ?_ ?_
   | refine LeO.bind ?_ (fun _ => ?_)
  ·intro y0 y1 y2 y3 y4
   unfold impl_ShowDate.l1
   repeat' first
   | (with_reducible exact ih0 _ _ _ _ _)
   | (with_reducible exact ih1 _ _ _ _ _)
   | (with_reducible exact LeO.refl _)
   | (with_reducible exact LeO.none _)
   | (with_reducible refine LeO.ite ?_ ?_)
   | (with_reducible refine LeO.bind ?_ (fun _ => ?_))
   | exact ih0 _ _ _ _ _
   | exact ih1 _ _ _ _ _
   | exact LeO.none _
   | refine LeO.ite ?_ ?_
   | refine LeO.bind ?_ (fun _ => ?_)
theorem impl_ShowDate.mono : ∀ a0 k, LeO (impl_ShowDate.f k a0) (impl_ShowDate.f (k + 1) a0) := by
 intro a0 k
 obtain ⟨ih0, ih1⟩ := impl_ShowDate.mono_l k
 unfold impl_ShowDate.f
 repeat' first
   | (with_reducible exact ih0 _ _ _ _ _)
   | (with_reducible exact ih1 _ _ _ _ _)
   | (with_reducible exact LeO.refl _)
   | (with_reducible exact LeO.none _)
   | (with_reducible refine LeO.ite ?_ ?_)
   | (with_reducible refine LeO.bind ?_ (fun _ => ?_))
   | exact ih0 _ _ _ _ _
   | exact ih1 _ _ _ _ _
   | exact LeO.none _
   | refine LeO.ite ?_ ?_
   | refine LeO.bind ?_ (fun _ => ?_)
def impl_ShowDate.T12 : Bool × List (List Nat × List Nat) := (true, [([], []), ([0], [0]), ([], []), ([2], [2]), ([3], [3]), ([1, 4], [1, 4]), ([5], [5]), ([4], []), ([], []), ([8], [8]), ([7, 9], [7, 9]), ([10], [10]), ([6, 11], [6, 11]), ([12], [12]), ([], []), ([14, 7], [14]), ([13, 15], [13, 15]), ([16], [16]), ([], []), ([18], [18]), ([19, 15], [19]), ([17, 20], [17, 20]), ([21], [21]), ([], []), ([23], [23]), ([24], [24]), ([25, 20], [25]), ([22, 26], [22, 26]), ([27], [27]), ([], []), ([29], [29]), ([30, 26], [30]), ([28, 31], [28, 31]), ([32], [32]), ([33, 31, 0, 1, 2, 3, 4, 5, 6, 7, 8, 9, 10, 11, 12, 13, 14, 15, 16, 17, 18, 19, 20, 21, 22, 23, 24, 25, 26, 27, 28, 29, 30, 31, 32, 33], [33])])
def impl_ShowDate.B12 : List Nat := [0, 1, 0, 4, 12, 31, 63, 28, 0, 256, 924, 1948, 4095, 8191, 0, 16540, 65535, 131071, 0, 262144, 835740, 2097151, 4194303, 0, 8388608, 25165824, 60604572, 134217727, 268435455, 0, 536870912, 1738326172, 4294967295, 8589934591, 17179869183]
theorem impl_ShowDate.tab12 : rtab .any (opsOf Tryd.f36 12) = impl_ShowDate.T12 := by kernel_rfl
theorem impl_ShowDate.bits12 : waitsOk impl_ShowDate.T12.2 impl_ShowDate.B12 = true := by kernel_rfl
set_option maxHeartbeats 8000000 in
set_option maxRecDepth 100000 in
theorem impl_ShowDate.calls (k : Nat) (a0 : Int) (r : ByteArray) (w : World) (hGPow : GPow w) (h : impl_ShowDate.f k a0 = some r) :
  Calls Tryd.prog 36 #[.int .i64 a0] w fun e w' => e = .returned (.string r) ∧ Below w.heap.size w w' := by
 have HGPow := Aside0.mk hGPow
 clear hGPow
 have HB := Aside0.mk (Below.refl w.heap.size w)
 have H : ((impl_in.f a0 0 2000000000).bind fun t101 => (if t101 = true then ((some (([(⟨#[84, 104, 117]⟩ : ByteArray), (⟨#[70, 114, 105]⟩ : ByteArray), (⟨#[83, 97, 116]⟩ : ByteArray), (⟨#[83, 117, 110]⟩ : ByteArray), (⟨#[77, 111, 110]⟩ : ByteArray), (⟨#[84, 117, 101]⟩ : ByteArray), (⟨#[87, 101, 100]⟩ : ByteArray)] : List ByteArray) : List ByteArray)).bind fun y102 => (if 0 ≤ (Int.tmod (wrap64 (Int.tdiv a0 86400)) 7) then (if (Int.tmod (wrap64 (Int.tdiv a0 86400)) 7) < (y102.length : Int) then (impl_ShowDate.l0 k (wrap64 (Int.tdiv a0 86400)) (Int.tmod a0 86400) (rdOf ByteArray.empty y102 (Int.tmod (wrap64 (Int.tdiv a0 86400)) 7)) 1970 1) else (none)) else (none))) else (some (⟨#[]⟩ : ByteArray)))) = some r := h
 clear h
 replace H := Option.bind_eq_some_iff.mp H
 obtain ⟨t101, A20, H⟩ := H
 try dsimp only at H
 have A2 := Aside0.mk A20
 clear A20
 by_cases c3 : t101 = true
 ·subst c3
  rw [if_pos rfl] at H
  obtain ⟨y102, hy102⟩ : ∃ y_ : List ByteArray, y_ = (([(⟨#[84, 104, 117]⟩ : ByteArray), (⟨#[70, 114, 105]⟩ : ByteArray), (⟨#[83, 97, 116]⟩ : ByteArray), (⟨#[83, 117, 110]⟩ : ByteArray), (⟨#[77, 111, 110]⟩ : ByteArray), (⟨#[84, 117, 101]⟩ : ByteArray), (⟨#[87, 101, 100]⟩ : ByteArray)] : List ByteArray)) := ⟨_, rfl⟩
  replace H : (if 0 ≤ (Int.tmod (wrap64 (Int.tdiv a0 86400)) 7) then (if (Int.tmod (wrap64 (Int.tdiv a0 86400)) 7) < (y102.length : Int) then (impl_ShowDate.l0 k (wrap64 (Int.tdiv a0 86400)) (Int.tmod a0 86400) (rdOf ByteArray.empty y102 (Int.tmod (wrap64 (Int.tdiv a0 86400)) 7)) 1970 1) else (none)) else (none)) = some r := by first | (rw [hy102]; with_reducible exact H) | (have H2_ := (Option.bind_some _ _).symm.trans H; rw [hy102]; with_reducible exact H2_) | (have H2_ := (Option.bind_some _ _).symm.trans H; with_reducible exact H2_) | with_reducible exact H | (rw [hy102]; exact H) | exact H
  have Ny102 := Aside0.mk hy102
  clear hy102
  obtain ⟨ji4, hji4⟩ : ∃ j_ : Int, (Int.tmod (wrap64 (Int.tdiv a0 86400)) 7) = j_ := ⟨_, rfl⟩
  replace H : (if 0 ≤ (ji4) then (if (ji4) < (y102.length : Int) then (impl_ShowDate.l0 k (wrap64 (Int.tdiv a0 86400)) (Int.tmod a0 86400) (rdOf ByteArray.empty y102 (ji4)) 1970 1) else (none)) else (none)) = some r := by first | (rw [hji4] at H; exact H) | (simp only [hji4] at H ⊢; exact H)
  (try rw [hji4] at A2)
  by_cases c5 : 0 ≤ (ji4)
  ·rw [if_pos c5] at H
   have c5b0 : decide (0 ≤ (ji4)) = true := decide_eq_true c5
   clear c5
   by_cases c6 : (ji4) < (y102.length : Int)
   ·rw [if_pos c6] at H
    have c6b0 : decide ((ji4) < (y102.length : Int)) = true := decide_eq_true c6
    clear c6
    have H' := Aside0.mk H
    clear H
    go_enter Tryd.func36, Tryd.ntmps36
    go_wp2_with (first | ((with_reducible refine gate_callee (f := 60) rfl ?_); refine goesL_ (some 9) rfl rfl Tryd.func60 (by kernel_rfl) rfl #[.int .i64 a0, .int .i64 0, .int .i64 2000000000] rfl am ?_; (with_reducible refine (impl_in.calls a0 0 2000000000 true _ A2.out).mono ?_); rintro e w' ⟨rfl, ⟨nd, rfl⟩⟩; refine ⟨_, rfl, ?_⟩) | ((with_reducible refine gate_dst (N := 15) rfl ?_); refine Kd.R_lit Kd.string _ 9 ?hg (N := 15) ?hd (xs := ([(⟨#[84, 104, 117]⟩ : ByteArray), (⟨#[70, 114, 105]⟩ : ByteArray), (⟨#[83, 97, 116]⟩ : ByteArray), (⟨#[83, 117, 110]⟩ : ByteArray), (⟨#[77, 111, 110]⟩ : ByteArray), (⟨#[84, 117, 101]⟩ : ByteArray), (⟨#[87, 101, 100]⟩ : ByteArray)] : List ByteArray)) (inner := [.string (⟨#[84, 104, 117]⟩ : ByteArray), .string (⟨#[70, 114, 105]⟩ : ByteArray), .string (⟨#[83, 97, 116]⟩ : ByteArray), .string (⟨#[83, 117, 110]⟩ : ByteArray), .string (⟨#[77, 111, 110]⟩ : ByteArray), .string (⟨#[84, 117, 101]⟩ : ByteArray), .string (⟨#[87, 101, 100]⟩ : ByteArray)]) (ok := fun _ => True) (okp := fun _ => True) ?hr ?hp (fun _ hk => hk) trivial (Below.refl _ _) (Nat.le_refl _) (by simp) ?_; (case hd => rfl); (case hg => rfl); (case hr => first | (go_simp; done) | (go_simp; rfl)); (case hp => exact (Reps.one (show Kd.M Kd.string _ _ _ (⟨#[84, 104, 117]⟩ : ByteArray) [.string (⟨#[84, 104, 117]⟩ : ByteArray)] from rfl) (Reps.one (show Kd.M Kd.string _ _ _ (⟨#[70, 114, 105]⟩ : ByteArray) [.string (⟨#[70, 114, 105]⟩ : ByteArray)] from rfl) (Reps.one (show Kd.M Kd.string _ _ _ (⟨#[83, 97, 116]⟩ : ByteArray) [.string (⟨#[83, 97, 116]⟩ : ByteArray)] from rfl) (Reps.one (show Kd.M Kd.string _ _ _ (⟨#[83, 117, 110]⟩ : ByteArray) [.string (⟨#[83, 117, 110]⟩ : ByteArray)] from rfl) (Reps.one (show Kd.M Kd.string _ _ _ (⟨#[77, 111, 110]⟩ : ByteArray) [.string (⟨#[77, 111, 110]⟩ : ByteArray)] from rfl) (Reps.one (show Kd.M Kd.string _ _ _ (⟨#[84, 117, 101]⟩ : ByteArray) [.string (⟨#[84, 117, 101]⟩ : ByteArray)] from rfl) (Reps.one (show Kd.M Kd.string _ _ _ (⟨#[87, 101, 100]⟩ : ByteArray) [.string (⟨#[87, 101, 100]⟩ : ByteArray)] from rfl) (Reps.none _ _))))))))); intro v103 w7 ho8 hb hg_ hnew_; clear hg_ hnew_; (first | rw [← Ny102.out] at ho8 | (simp only [Int.reduceToNat] at ho8; rw [← Ny102.out] at ho8)); have n0_ := Aside0.mk (Kd.R_lower ho8 (below_size bq)); have n1_ := Aside0.mk (below_step bq hb); clear HB; have HO104 := n0_; have HB := n1_; clear n0_ n1_; clear hb ho8; obtain ⟨Ao9, co9, eo9⟩ := Kd.R_slice HO104.out; subst eo9; have p105 : 0 ≤ ((ji4) : Int) := of_decide_eq_true asm; have q105 : (ji4) < (y102.length : Int) := of_decide_eq_true asm; obtain ⟨ad105, e105, hx105_0⟩ := Kd.at_string (Kd.R_reads' HO104.out).2.2 (ji4) p105 q105; cases e105; replace p105 := eq_true p105; replace q105 := eq_true q105))
    go_loopg [3, 6] k (fun kq v3 v6 w' => ∃ (x3_1 : Int) (x6_1 : Int), v3 = .int .i64 x3_1 ∧ v6 = .int .i64 x6_1 ∧ Aside0 (impl_ShowDate.l0 kq x3_1 (Int.tmod a0 86400) (rdOf ByteArray.empty y102 (ji4)) x6_1 1 = some r) ∧ Aside0 (kq ≤ k) ∧ Aside0 (Below w.heap.size w w'))
    case atStart => exact ⟨(wrap64 (Int.tdiv a0 86400)), (1970), (by first | rfl | (simp; done) | (simp [*]; done)), (by first | rfl | (simp; done) | (simp [*]; done)), H', ⟨Nat.le_refl _⟩, ⟨by repeat (first | (with_reducible first | exact HB.out | apply below_alloc | apply pw_below_drewN | apply below_drew1) | exact HB.out)⟩⟩
    case round =>
     clear H'
     try clear p1
     try clear q1
     try clear hx1
     try clear p2
     try clear c3
     try clear c5
     try clear c5b0
     try clear c6
     try clear c6b0
     try clear p6
     try clear hx105_0
     try clear p105
     try clear q105
     obtain ⟨x3_1, x6_1, rfl, rfl, HA, HK1, HB⟩ := hrel
     cases gk with
     | zero => exact absurd HA.out (by simp [impl_ShowDate.l0])
     | succ k1 =>
      have H := HA.out
      clear HA
      simp only [impl_ShowDate.l0] at H
      replace H := Option.bind_eq_some_iff.mp H
      obtain ⟨t106, A100, H⟩ := H
      try dsimp only at H
      have A10 := Aside0.mk A100
      clear A100
      by_cases c11 : x3_1 ≥ t106
      ·rw [if_pos c11] at H
       have c11b0 : decide (t106 ≤ x3_1) = true := decide_eq_true c11
       clear c11
       replace H := Option.bind_eq_some_iff.mp H
       obtain ⟨t107, A120, H⟩ := H
       try dsimp only at H
       have A12 := Aside0.mk A120
       clear A120
       have H' := Aside0.mk H
       clear H
       go_wp2_with (first | ((with_reducible refine gate_callee (f := 81) rfl ?_); refine goesL_ (some 22) rfl rfl Tryd.func81 (by kernel_rfl) rfl #[.int .i64 x6_1] rfl am ?_; (with_reducible refine (impl_yearDays.calls x6_1 t106 _ A10.out).mono ?_); rintro e w' ⟨rfl, ⟨nd, rfl⟩⟩; refine ⟨_, rfl, ?_⟩) | ((with_reducible refine gate_callee (f := 81) rfl ?_); refine goesL_ (some 26) rfl rfl Tryd.func81 (by kernel_rfl) rfl #[.int .i64 x6_1] rfl am ?_; (with_reducible refine (impl_yearDays.calls x6_1 t107 _ A12.out).mono ?_); rintro e w' ⟨rfl, ⟨nd, rfl⟩⟩; refine ⟨_, rfl, ?_⟩))
       go_roundg k1
       case measure => have := HK1.out; omega
       case rel => exact ⟨(wrap64 (x3_1 - t107)), (wrap64 (x6_1 + 1)), (by first | rfl | (simp; done) | (simp [*]; done)), (by first | rfl | (simp; done) | (simp [*]; done)), H', ⟨by have := HK1.out; omega⟩, ⟨by repeat (first | (with_reducible first | exact HB.out | apply below_alloc | apply pw_below_drewN | apply below_drew1) | exact HB.out)⟩⟩
      ·rw [if_neg c11] at H
       have c11b0 : decide (t106 ≤ x3_1) = false := decide_eq_false c11
       clear c11
       have H' := Aside0.mk H
       clear H
       go_wp2_with (first | ((with_reducible refine gate_callee (f := 81) rfl ?_); refine goesL_ (some 22) rfl rfl Tryd.func81 (by kernel_rfl) rfl #[.int .i64 x6_1] rfl am ?_; (with_reducible refine (impl_yearDays.calls x6_1 t106 _ A10.out).mono ?_); rintro e w' ⟨rfl, ⟨nd, rfl⟩⟩; refine ⟨_, rfl, ?_⟩))
       go_loopg [3, 7] k1 (fun kq v3 v7 w' => ∃ (x3_2 : Int) (x7_2 : Int), v3 = .int .i64 x3_2 ∧ v7 = .int .i64 x7_2 ∧ Aside0 (impl_ShowDate.l1 kq x3_2 (Int.tmod a0 86400) (rdOf ByteArray.empty y102 (ji4)) x6_1 x7_2 = some r) ∧ Aside0 (kq ≤ k1) ∧ Aside0 (Below w.heap.size w w'))
       case atStart => exact ⟨(x3_1), (1), (by first | rfl | (simp; done) | (simp [*]; done)), (by first | rfl | (simp; done) | (simp [*]; done)), H', ⟨Nat.le_refl _⟩, ⟨by repeat (first | (with_reducible first | exact HB.out | apply below_alloc | apply pw_below_drewN | apply below_drew1) | exact HB.out)⟩⟩
       case round =>
        clear H'
        try clear c1
        try clear p1
        try clear q1
        try clear hx1
        try clear p2
        try clear c3
        try clear c5
        try clear c5b0
        try clear c6
        try clear c6b0
        try clear p6
        try clear c8
        try clear p10
        try clear q10
        try clear hx10
        try clear c11
        try clear c11b0
        try clear hx105_0
        try clear p1
        try clear p105
        try clear p2
        try clear p6
        try clear q1
        try clear q105
        obtain ⟨x3_2, x7_2, rfl, rfl, HA, HK2, HB⟩ := hrel
        cases gk with
        | zero => exact absurd HA.out (by simp [impl_ShowDate.l1])
        | succ k2 =>
         have H := HA.out
         clear HA
         simp only [impl_ShowDate.l1] at H
         replace H := Option.bind_eq_some_iff.mp H
         obtain ⟨t108, A130, H⟩ := H
         try dsimp only at H
         have A13 := Aside0.mk A130
         clear A130
         by_cases c14 : x3_2 ≥ t108
         ·rw [if_pos c14] at H
          have c14b0 : decide (t108 ≤ x3_2) = true := decide_eq_true c14
          clear c14
          replace H := Option.bind_eq_some_iff.mp H
          obtain ⟨t109, A150, H⟩ := H
          try dsimp only at H
          have A15 := Aside0.mk A150
          clear A150
          have H' := Aside0.mk H
          clear H
          go_wp2_with (first | ((with_reducible refine gate_callee (f := 82) rfl ?_); refine goesL_ (some 33) rfl rfl Tryd.func82 (by kernel_rfl) rfl #[.int .i64 x6_1, .int .i64 x7_2] rfl am ?_; (with_reducible refine (impl_monthDays.calls x6_1 x7_2 t108 _ A13.out).mono ?_); rintro e w16 ⟨rfl, hb⟩; refine ⟨_, rfl, ?_⟩; have n0_ := Aside0.mk (below_step bq hb); clear HB; have HB := n0_; clear n0_; (try clear hb); (try clear hb2); (try clear hk); (try clear hi)) | ((with_reducible refine gate_callee (f := 82) rfl ?_); refine goesL_ (some 38) rfl rfl Tryd.func82 (by kernel_rfl) rfl #[.int .i64 x6_1, .int .i64 x7_2] rfl am ?_; (with_reducible refine (impl_monthDays.calls x6_1 x7_2 t109 _ A15.out).mono ?_); rintro e w17 ⟨rfl, hb⟩; refine ⟨_, rfl, ?_⟩; have n0_ := Aside0.mk (below_step bq hb); clear HB; have HB := n0_; clear n0_; (try clear hb); (try clear hb2); (try clear hk); (try clear hi)))
          go_roundg k2
          case measure => have := HK1.out; have := HK2.out; omega
          case rel => exact ⟨(wrap64 (x3_2 - t109)), (wrap64 (x7_2 + 1)), (by first | rfl | (simp; done) | (simp [*]; done)), (by first | rfl | (simp; done) | (simp [*]; done)), H', ⟨by have := HK1.out; have := HK2.out; omega⟩, ⟨by repeat (first | (with_reducible first | exact HB.out | apply below_alloc | apply pw_below_drewN | apply below_drew1) | exact HB.out)⟩⟩
         ·rw [if_neg c14] at H
          have c14b0 : decide (t108 ≤ x3_2) = false := decide_eq_false c14
          clear c14
          by_cases c18 : (rdOf ByteArray.empty y102 (ji4)).size + 2 ≤ 9223372036854775807
          ·rw [if_pos c18] at H
           have c18b0 := eq_true c18
           have c18b1 : decide ((rdOf ByteArray.empty y102 (ji4)).size + 2 ≤ 9223372036854775807) = true := decide_eq_true c18
           try have c18b2 : (9223372036854775807 < (rdOf ByteArray.empty y102 (ji4)).size + 2) = False := eq_false (Nat.not_lt.2 c18)
           replace H := Option.bind_eq_some_iff.mp H
           obtain ⟨t110, A190, H⟩ := H
           try dsimp only at H
           have A19 := Aside0.mk A190
           clear A190
           by_cases c20 : ((rdOf ByteArray.empty y102 (ji4)) ++ (⟨#[44, 32]⟩ : ByteArray)).size + t110.size ≤ 9223372036854775807
           ·rw [if_pos c20] at H
            have c20b0 := eq_true c20
            have c20b1 : decide (((rdOf ByteArray.empty y102 (ji4)) ++ (⟨#[44, 32]⟩ : ByteArray)).size + t110.size ≤ 9223372036854775807) = true := decide_eq_true c20
            try have c20b2 : (9223372036854775807 < ((rdOf ByteArray.empty y102 (ji4)) ++ (⟨#[44, 32]⟩ : ByteArray)).size + t110.size) = False := eq_false (Nat.not_lt.2 c20)
            try have c20b3 : (9223372036854775807 < (rdOf ByteArray.empty y102 (ji4)).size + 2 + (t110).size) = False := eq_false (Nat.not_lt.2 (by have h_ := c20; simp only [ByteArray.size_append] at h_; exact h_))
            by_cases c21 : (((rdOf ByteArray.empty y102 (ji4)) ++ (⟨#[44, 32]⟩ : ByteArray)) ++ t110).size + 1 ≤ 9223372036854775807
            ·rw [if_pos c21] at H
             have c21b0 := eq_true c21
             have c21b1 : decide ((((rdOf ByteArray.empty y102 (ji4)) ++ (⟨#[44, 32]⟩ : ByteArray)) ++ t110).size + 1 ≤ 9223372036854775807) = true := decide_eq_true c21
             try have c21b2 : (9223372036854775807 < (((rdOf ByteArray.empty y102 (ji4)) ++ (⟨#[44, 32]⟩ : ByteArray)) ++ t110).size + 1) = False := eq_false (Nat.not_lt.2 c21)
             try have c21b3 : (9223372036854775807 < (rdOf ByteArray.empty y102 (ji4)).size + 2 + (t110).size + 1) = False := eq_false (Nat.not_lt.2 (by have h_ := c21; simp only [ByteArray.size_append] at h_; exact h_))
             replace H := Option.bind_eq_some_iff.mp H
             obtain ⟨t111, A220, H⟩ := H
             try dsimp only at H
             have A22 := Aside0.mk A220
             clear A220
             obtain ⟨ji23, hji23⟩ : ∃ j_ : Int, (wrap64 (x7_2 - 1)) = j_ := ⟨_, rfl⟩
             replace H : (if 0 ≤ (ji23) then (if (ji23) < (t111.length : Int) then (if ((((rdOf ByteArray.empty y102 (ji4)) ++ (⟨#[44, 32]⟩ : ByteArray)) ++ t110) ++ (⟨#[32]⟩ : ByteArray)).size + (rdOf ByteArray.empty t111 (ji23)).size ≤ 9223372036854775807 then (if (((((rdOf ByteArray.empty y102 (ji4)) ++ (⟨#[44, 32]⟩ : ByteArray)) ++ t110) ++ (⟨#[32]⟩ : ByteArray)) ++ (rdOf ByteArray.empty t111 (ji23))).size + 1 ≤ 9223372036854775807 then ((strconv_Itoa.f x6_1).bind fun t115 => (if ((((((rdOf ByteArray.empty y102 (ji4)) ++ (⟨#[44, 32]⟩ : ByteArray)) ++ t110) ++ (⟨#[32]⟩ : ByteArray)) ++ (rdOf ByteArray.empty t111 (ji23))) ++ (⟨#[32]⟩ : ByteArray)).size + t115.size ≤ 9223372036854775807 then (if (((((((rdOf ByteArray.empty y102 (ji4)) ++ (⟨#[44, 32]⟩ : ByteArray)) ++ t110) ++ (⟨#[32]⟩ : ByteArray)) ++ (rdOf ByteArray.empty t111 (ji23))) ++ (⟨#[32]⟩ : ByteArray)) ++ t115).size + 1 ≤ 9223372036854775807 then ((impl_two.f (wrap64 (Int.tdiv (Int.tmod a0 86400) 3600))).bind fun t116 => (if ((((((((rdOf ByteArray.empty y102 (ji4)) ++ (⟨#[44, 32]⟩ : ByteArray)) ++ t110) ++ (⟨#[32]⟩ : ByteArray)) ++ (rdOf ByteArray.empty t111 (ji23))) ++ (⟨#[32]⟩ : ByteArray)) ++ t115) ++ (⟨#[32]⟩ : ByteArray)).size + t116.size ≤ 9223372036854775807 then (if (((((((((rdOf ByteArray.empty y102 (ji4)) ++ (⟨#[44, 32]⟩ : ByteArray)) ++ t110) ++ (⟨#[32]⟩ : ByteArray)) ++ (rdOf ByteArray.empty t111 (ji23))) ++ (⟨#[32]⟩ : ByteArray)) ++ t115) ++ (⟨#[32]⟩ : ByteArray)) ++ t116).size + 1 ≤ 9223372036854775807 then ((impl_two.f (Int.tmod (wrap64 (Int.tdiv (Int.tmod a0 86400) 60)) 60)).bind fun t117 => (if ((((((((((rdOf ByteArray.empty y102 (ji4)) ++ (⟨#[44, 32]⟩ : ByteArray)) ++ t110) ++ (⟨#[32]⟩ : ByteArray)) ++ (rdOf ByteArray.empty t111 (ji23))) ++ (⟨#[32]⟩ : ByteArray)) ++ t115) ++ (⟨#[32]⟩ : ByteArray)) ++ t116) ++ (⟨#[58]⟩ : ByteArray)).size + t117.size ≤ 9223372036854775807 then (if (((((((((((rdOf ByteArray.empty y102 (ji4)) ++ (⟨#[44, 32]⟩ : ByteArray)) ++ t110) ++ (⟨#[32]⟩ : ByteArray)) ++ (rdOf ByteArray.empty t111 (ji23))) ++ (⟨#[32]⟩ : ByteArray)) ++ t115) ++ (⟨#[32]⟩ : ByteArray)) ++ t116) ++ (⟨#[58]⟩ : ByteArray)) ++ t117).size + 1 ≤ 9223372036854775807 then ((impl_two.f (Int.tmod (Int.tmod a0 86400) 60)).bind fun t118 => (if ((((((((((((rdOf ByteArray.empty y102 (ji4)) ++ (⟨#[44, 32]⟩ : ByteArray)) ++ t110) ++ (⟨#[32]⟩ : ByteArray)) ++ (rdOf ByteArray.empty t111 (ji23))) ++ (⟨#[32]⟩ : ByteArray)) ++ t115) ++ (⟨#[32]⟩ : ByteArray)) ++ t116) ++ (⟨#[58]⟩ : ByteArray)) ++ t117) ++ (⟨#[58]⟩ : ByteArray)).size + t118.size ≤ 9223372036854775807 then (if (((((((((((((rdOf ByteArray.empty y102 (ji4)) ++ (⟨#[44, 32]⟩ : ByteArray)) ++ t110) ++ (⟨#[32]⟩ : ByteArray)) ++ (rdOf ByteArray.empty t111 (ji23))) ++ (⟨#[32]⟩ : ByteArray)) ++ t115) ++ (⟨#[32]⟩ : ByteArray)) ++ t116) ++ (⟨#[58]⟩ : ByteArray)) ++ t117) ++ (⟨#[58]⟩ : ByteArray)) ++ t118).size + 4 ≤ 9223372036854775807 then (some ((((((((((((((rdOf ByteArray.empty y102 (ji4)) ++ (⟨#[44, 32]⟩ : ByteArray)) ++ t110) ++ (⟨#[32]⟩ : ByteArray)) ++ (rdOf ByteArray.empty t111 (ji23))) ++ (⟨#[32]⟩ : ByteArray)) ++ t115) ++ (⟨#[32]⟩ : ByteArray)) ++ t116) ++ (⟨#[58]⟩ : ByteArray)) ++ t117) ++ (⟨#[58]⟩ : ByteArray)) ++ t118) ++ (⟨#[32, 71, 77, 84]⟩ : ByteArray))) else (none)) else (none))) else (none)) else (none))) else (none)) else (none))) else (none)) else (none))) else (none)) else (none)) else (none)) else (none)) = some r := by first | (rw [hji23] at H; exact H) | (simp only [hji23] at H ⊢; exact H)
             (try rw [hji23] at A13)
             (try rw [hji23] at A19)
             (try rw [hji23] at A22)
             have hji23w : (IntKind.i64.wrap (x7_2 - 1)) = ji23 := (i64_w _).trans hji23
             by_cases c24 : 0 ≤ (ji23)
             ·rw [if_pos c24] at H
              have c24b0 : decide (0 ≤ (ji23)) = true := decide_eq_true c24
              clear c24
              by_cases c25 : (ji23) < (t111.length : Int)
              ·rw [if_pos c25] at H
               have c25b0 : decide ((ji23) < (t111.length : Int)) = true := decide_eq_true c25
               clear c25
               by_cases c26 : ((((rdOf ByteArray.empty y102 (ji4)) ++ (⟨#[44, 32]⟩ : ByteArray)) ++ t110) ++ (⟨#[32]⟩ : ByteArray)).size + (rdOf ByteArray.empty t111 (ji23)).size ≤ 9223372036854775807
               ·rw [if_pos c26] at H
                have c26b0 := eq_true c26
                have c26b1 : decide (((((rdOf ByteArray.empty y102 (ji4)) ++ (⟨#[44, 32]⟩ : ByteArray)) ++ t110) ++ (⟨#[32]⟩ : ByteArray)).size + (rdOf ByteArray.empty t111 (ji23)).size ≤ 9223372036854775807) = true := decide_eq_true c26
                try have c26b2 : (9223372036854775807 < ((((rdOf ByteArray.empty y102 (ji4)) ++ (⟨#[44, 32]⟩ : ByteArray)) ++ t110) ++ (⟨#[32]⟩ : ByteArray)).size + (rdOf ByteArray.empty t111 (ji23)).size) = False := eq_false (Nat.not_lt.2 c26)
                try have c26b3 : (9223372036854775807 < (rdOf ByteArray.empty y102 (ji4)).size + 2 + (t110).size + 1 + (rdOf ByteArray.empty t111 (ji23)).size) = False := eq_false (Nat.not_lt.2 (by have h_ := c26; simp only [ByteArray.size_append] at h_; exact h_))
                by_cases c27 : (((((rdOf ByteArray.empty y102 (ji4)) ++ (⟨#[44, 32]⟩ : ByteArray)) ++ t110) ++ (⟨#[32]⟩ : ByteArray)) ++ (rdOf ByteArray.empty t111 (ji23))).size + 1 ≤ 9223372036854775807
                ·rw [if_pos c27] at H
                 have c27b0 := eq_true c27
                 have c27b1 : decide ((((((rdOf ByteArray.empty y102 (ji4)) ++ (⟨#[44, 32]⟩ : ByteArray)) ++ t110) ++ (⟨#[32]⟩ : ByteArray)) ++ (rdOf ByteArray.empty t111 (ji23))).size + 1 ≤ 9223372036854775807) = true := decide_eq_true c27
                 try have c27b2 : (9223372036854775807 < (((((rdOf ByteArray.empty y102 (ji4)) ++ (⟨#[44, 32]⟩ : ByteArray)) ++ t110) ++ (⟨#[32]⟩ : ByteArray)) ++ (rdOf ByteArray.empty t111 (ji23))).size + 1) = False := eq_false (Nat.not_lt.2 c27)
                 try have c27b3 : (9223372036854775807 < (rdOf ByteArray.empty y102 (ji4)).size + 2 + (t110).size + 1 + (rdOf ByteArray.empty t111 (ji23)).size + 1) = False := eq_false (Nat.not_lt.2 (by have h_ := c27; simp only [ByteArray.size_append] at h_; exact h_))
                 replace H := Option.bind_eq_some_iff.mp H
                 obtain ⟨t115, A280, H⟩ := H
                 try dsimp only at H
                 have A28 := Aside0.mk A280
                 clear A280
                 by_cases c29 : ((((((rdOf ByteArray.empty y102 (ji4)) ++ (⟨#[44, 32]⟩ : ByteArray)) ++ t110) ++ (⟨#[32]⟩ : ByteArray)) ++ (rdOf ByteArray.empty t111 (ji23))) ++ (⟨#[32]⟩ : ByteArray)).size + t115.size ≤ 9223372036854775807
                 ·rw [if_pos c29] at H
                  have c29b0 := eq_true c29
                  have c29b1 : decide (((((((rdOf ByteArray.empty y102 (ji4)) ++ (⟨#[44, 32]⟩ : ByteArray)) ++ t110) ++ (⟨#[32]⟩ : ByteArray)) ++ (rdOf ByteArray.empty t111 (ji23))) ++ (⟨#[32]⟩ : ByteArray)).size + t115.size ≤ 9223372036854775807) = true := decide_eq_true c29
                  try have c29b2 : (9223372036854775807 < ((((((rdOf ByteArray.empty y102 (ji4)) ++ (⟨#[44, 32]⟩ : ByteArray)) ++ t110) ++ (⟨#[32]⟩ : ByteArray)) ++ (rdOf ByteArray.empty t111 (ji23))) ++ (⟨#[32]⟩ : ByteArray)).size + t115.size) = False := eq_false (Nat.not_lt.2 c29)
                  try have c29b3 : (9223372036854775807 < (rdOf ByteArray.empty y102 (ji4)).size + 2 + (t110).size + 1 + (rdOf ByteArray.empty t111 (ji23)).size + 1 + (t115).size) = False := eq_false (Nat.not_lt.2 (by have h_ := c29; simp only [ByteArray.size_append] at h_; exact h_))
                  by_cases c30 : (((((((rdOf ByteArray.empty y102 (ji4)) ++ (⟨#[44, 32]⟩ : ByteArray)) ++ t110) ++ (⟨#[32]⟩ : ByteArray)) ++ (rdOf ByteArray.empty t111 (ji23))) ++ (⟨#[32]⟩ : ByteArray)) ++ t115).size + 1 ≤ 9223372036854775807
                  ·rw [if_pos c30] at H
                   have c30b0 := eq_true c30
                   have c30b1 : decide ((((((((rdOf ByteArray.empty y102 (ji4)) ++ (⟨#[44, 32]⟩ : ByteArray)) ++ t110) ++ (⟨#[32]⟩ : ByteArray)) ++ (rdOf ByteArray.empty t111 (ji23))) ++ (⟨#[32]⟩ : ByteArray)) ++ t115).size + 1 ≤ 9223372036854775807) = true := decide_eq_true c30
                   try have c30b2 : (9223372036854775807 < (((((((rdOf ByteArray.empty y102 (ji4)) ++ (⟨#[44, 32]⟩ : ByteArray)) ++ t110) ++ (⟨#[32]⟩ : ByteArray)) ++ (rdOf ByteArray.empty t111 (ji23))) ++ (⟨#[32]⟩ : ByteArray)) ++ t115).size + 1) = False := eq_false (Nat.not_lt.2 c30)
                   try have c30b3 : (9223372036854775807 < (rdOf ByteArray.empty y102 (ji4)).size + 2 + (t110).size + 1 + (rdOf ByteArray.empty t111 (ji23)).size + 1 + (t115).size + 1) = False := eq_false (Nat.not_lt.2 (by have h_ := c30; simp only [ByteArray.size_append] at h_; exact h_))
                   replace H := Option.bind_eq_some_iff.mp H
                   obtain ⟨t116, A310, H⟩ := H
                   try dsimp only at H
                   have A31 := Aside0.mk A310
                   clear A310
                   by_cases c32 : ((((((((rdOf ByteArray.empty y102 (ji4)) ++ (⟨#[44, 32]⟩ : ByteArray)) ++ t110) ++ (⟨#[32]⟩ : ByteArray)) ++ (rdOf ByteArray.empty t111 (ji23))) ++ (⟨#[32]⟩ : ByteArray)) ++ t115) ++ (⟨#[32]⟩ : ByteArray)).size + t116.size ≤ 9223372036854775807
                   ·rw [if_pos c32] at H
                    have c32b0 := eq_true c32
                    have c32b1 : decide (((((((((rdOf ByteArray.empty y102 (ji4)) ++ (⟨#[44, 32]⟩ : ByteArray)) ++ t110) ++ (⟨#[32]⟩ : ByteArray)) ++ (rdOf ByteArray.empty t111 (ji23))) ++ (⟨#[32]⟩ : ByteArray)) ++ t115) ++ (⟨#[32]⟩ : ByteArray)).size + t116.size ≤ 9223372036854775807) = true := decide_eq_true c32
                    try have c32b2 : (9223372036854775807 < ((((((((rdOf ByteArray.empty y102 (ji4)) ++ (⟨#[44, 32]⟩ : ByteArray)) ++ t110) ++ (⟨#[32]⟩ : ByteArray)) ++ (rdOf ByteArray.empty t111 (ji23))) ++ (⟨#[32]⟩ : ByteArray)) ++ t115) ++ (⟨#[32]⟩ : ByteArray)).size + t116.size) = False := eq_false (Nat.not_lt.2 c32)
                    try have c32b3 : (9223372036854775807 < (rdOf ByteArray.empty y102 (ji4)).size + 2 + (t110).size + 1 + (rdOf ByteArray.empty t111 (ji23)).size + 1 + (t115).size + 1 + (t116).size) = False := eq_false (Nat.not_lt.2 (by have h_ := c32; simp only [ByteArray.size_append] at h_; exact h_))
                    by_cases c33 : (((((((((rdOf ByteArray.empty y102 (ji4)) ++ (⟨#[44, 32]⟩ : ByteArray)) ++ t110) ++ (⟨#[32]⟩ : ByteArray)) ++ (rdOf ByteArray.empty t111 (ji23))) ++ (⟨#[32]⟩ : ByteArray)) ++ t115) ++ (⟨#[32]⟩ : ByteArray)) ++ t116).size + 1 ≤ 9223372036854775807
                    ·rw [if_pos c33] at H
                     have c33b0 := eq_true c33
                     have c33b1 : decide ((((((((((rdOf ByteArray.empty y102 (ji4)) ++ (⟨#[44, 32]⟩ : ByteArray)) ++ t110) ++ (⟨#[32]⟩ : ByteArray)) ++ (rdOf ByteArray.empty t111 (ji23))) ++ (⟨#[32]⟩ : ByteArray)) ++ t115) ++ (⟨#[32]⟩ : ByteArray)) ++ t116).size + 1 ≤ 9223372036854775807) = true := decide_eq_true c33
                     try have c33b2 : (9223372036854775807 < (((((((((rdOf ByteArray.empty y102 (ji4)) ++ (⟨#[44, 32]⟩ : ByteArray)) ++ t110) ++ (⟨#[32]⟩ : ByteArray)) ++ (rdOf ByteArray.empty t111 (ji23))) ++ (⟨#[32]⟩ : ByteArray)) ++ t115) ++ (⟨#[32]⟩ : ByteArray)) ++ t116).size + 1) = False := eq_false (Nat.not_lt.2 c33)
                     try have c33b3 : (9223372036854775807 < (rdOf ByteArray.empty y102 (ji4)).size + 2 + (t110).size + 1 + (rdOf ByteArray.empty t111 (ji23)).size + 1 + (t115).size + 1 + (t116).size + 1) = False := eq_false (Nat.not_lt.2 (by have h_ := c33; simp only [ByteArray.size_append] at h_; exact h_))
                     replace H := Option.bind_eq_some_iff.mp H
                     obtain ⟨t117, A340, H⟩ := H
                     try dsimp only at H
                     have A34 := Aside0.mk A340
                     clear A340
                     by_cases c35 : ((((((((((rdOf ByteArray.empty y102 (ji4)) ++ (⟨#[44, 32]⟩ : ByteArray)) ++ t110) ++ (⟨#[32]⟩ : ByteArray)) ++ (rdOf ByteArray.empty t111 (ji23))) ++ (⟨#[32]⟩ : ByteArray)) ++ t115) ++ (⟨#[32]⟩ : ByteArray)) ++ t116) ++ (⟨#[58]⟩ : ByteArray)).size + t117.size ≤ 9223372036854775807
                     ·rw [if_pos c35] at H
                      have c35b0 := eq_true c35
                      have c35b1 : decide (((((((((((rdOf ByteArray.empty y102 (ji4)) ++ (⟨#[44, 32]⟩ : ByteArray)) ++ t110) ++ (⟨#[32]⟩ : ByteArray)) ++ (rdOf ByteArray.empty t111 (ji23))) ++ (⟨#[32]⟩ : ByteArray)) ++ t115) ++ (⟨#[32]⟩ : ByteArray)) ++ t116) ++ (⟨#[58]⟩ : ByteArray)).size + t117.size ≤ 9223372036854775807) = true := decide_eq_true c35
                      try have c35b2 : (9223372036854775807 < ((((((((((rdOf ByteArray.empty y102 (ji4)) ++ (⟨#[44, 32]⟩ : ByteArray)) ++ t110) ++ (⟨#[32]⟩ : ByteArray)) ++ (rdOf ByteArray.empty t111 (ji23))) ++ (⟨#[32]⟩ : ByteArray)) ++ t115) ++ (⟨#[32]⟩ : ByteArray)) ++ t116) ++ (⟨#[58]⟩ : ByteArray)).size + t117.size) = False := eq_false (Nat.not_lt.2 c35)
                      try have c35b3 : (9223372036854775807 < (rdOf ByteArray.empty y102 (ji4)).size + 2 + (t110).size + 1 + (rdOf ByteArray.empty t111 (ji23)).size + 1 + (t115).size + 1 + (t116).size + 1 + (t117).size) = False := eq_false (Nat.not_lt.2 (by have h_ := c35; simp only [ByteArray.size_append] at h_; exact h_))
                      by_cases c36 : (((((((((((rdOf ByteArray.empty y102 (ji4)) ++ (⟨#[44, 32]⟩ : ByteArray)) ++ t110) ++ (⟨#[32]⟩ : ByteArray)) ++ (rdOf ByteArray.empty t111 (ji23))) ++ (⟨#[32]⟩ : ByteArray)) ++ t115) ++ (⟨#[32]⟩ : ByteArray)) ++ t116) ++ (⟨#[58]⟩ : ByteArray)) ++ t117).size + 1 ≤ 9223372036854775807
                      ·rw [if_pos c36] at H
                       have c36b0 := eq_true c36
                       have c36b1 : decide ((((((((((((rdOf ByteArray.empty y102 (ji4)) ++ (⟨#[44, 32]⟩ : ByteArray)) ++ t110) ++ (⟨#[32]⟩ : ByteArray)) ++ (rdOf ByteArray.empty t111 (ji23))) ++ (⟨#[32]⟩ : ByteArray)) ++ t115) ++ (⟨#[32]⟩ : ByteArray)) ++ t116) ++ (⟨#[58]⟩ : ByteArray)) ++ t117).size + 1 ≤ 9223372036854775807) = true := decide_eq_true c36
                       try have c36b2 : (9223372036854775807 < (((((((((((rdOf ByteArray.empty y102 (ji4)) ++ (⟨#[44, 32]⟩ : ByteArray)) ++ t110) ++ (⟨#[32]⟩ : ByteArray)) ++ (rdOf ByteArray.empty t111 (ji23))) ++ (⟨#[32]⟩ : ByteArray)) ++ t115) ++ (⟨#[32]⟩ : ByteArray)) ++ t116) ++ (⟨#[58]⟩ : ByteArray)) ++ t117).size + 1) = False := eq_false (Nat.not_lt.2 c36)
                       try have c36b3 : (9223372036854775807 < (rdOf ByteArray.empty y102 (ji4)).size + 2 + (t110).size + 1 + (rdOf ByteArray.empty t111 (ji23)).size + 1 + (t115).size + 1 + (t116).size + 1 + (t117).size + 1) = False := eq_false (Nat.not_lt.2 (by have h_ := c36; simp only [ByteArray.size_append] at h_; exact h_))
                       replace H := Option.bind_eq_some_iff.mp H
                       obtain ⟨t118, A370, H⟩ := H
                       try dsimp only at H
                       have A37 := Aside0.mk A370
                       clear A370
                       by_cases c38 : ((((((((((((rdOf ByteArray.empty y102 (ji4)) ++ (⟨#[44, 32]⟩ : ByteArray)) ++ t110) ++ (⟨#[32]⟩ : ByteArray)) ++ (rdOf ByteArray.empty t111 (ji23))) ++ (⟨#[32]⟩ : ByteArray)) ++ t115) ++ (⟨#[32]⟩ : ByteArray)) ++ t116) ++ (⟨#[58]⟩ : ByteArray)) ++ t117) ++ (⟨#[58]⟩ : ByteArray)).size + t118.size ≤ 9223372036854775807
                       ·rw [if_pos c38] at H
                        have c38b0 := eq_true c38
                        have c38b1 : decide (((((((((((((rdOf ByteArray.empty y102 (ji4)) ++ (⟨#[44, 32]⟩ : ByteArray)) ++ t110) ++ (⟨#[32]⟩ : ByteArray)) ++ (rdOf ByteArray.empty t111 (ji23))) ++ (⟨#[32]⟩ : ByteArray)) ++ t115) ++ (⟨#[32]⟩ : ByteArray)) ++ t116) ++ (⟨#[58]⟩ : ByteArray)) ++ t117) ++ (⟨#[58]⟩ : ByteArray)).size + t118.size ≤ 9223372036854775807) = true := decide_eq_true c38
                        try have c38b2 : (9223372036854775807 < ((((((((((((rdOf ByteArray.empty y102 (ji4)) ++ (⟨#[44, 32]⟩ : ByteArray)) ++ t110) ++ (⟨#[32]⟩ : ByteArray)) ++ (rdOf ByteArray.empty t111 (ji23))) ++ (⟨#[32]⟩ : ByteArray)) ++ t115) ++ (⟨#[32]⟩ : ByteArray)) ++ t116) ++ (⟨#[58]⟩ : ByteArray)) ++ t117) ++ (⟨#[58]⟩ : ByteArray)).size + t118.size) = False := eq_false (Nat.not_lt.2 c38)
                        try have c38b3 : (9223372036854775807 < (rdOf ByteArray.empty y102 (ji4)).size + 2 + (t110).size + 1 + (rdOf ByteArray.empty t111 (ji23)).size + 1 + (t115).size + 1 + (t116).size + 1 + (t117).size + 1 + (t118).size) = False := eq_false (Nat.not_lt.2 (by have h_ := c38; simp only [ByteArray.size_append] at h_; exact h_))
                        by_cases c39 : (((((((((((((rdOf ByteArray.empty y102 (ji4)) ++ (⟨#[44, 32]⟩ : ByteArray)) ++ t110) ++ (⟨#[32]⟩ : ByteArray)) ++ (rdOf ByteArray.empty t111 (ji23))) ++ (⟨#[32]⟩ : ByteArray)) ++ t115) ++ (⟨#[32]⟩ : ByteArray)) ++ t116) ++ (⟨#[58]⟩ : ByteArray)) ++ t117) ++ (⟨#[58]⟩ : ByteArray)) ++ t118).size + 4 ≤ 9223372036854775807
                        ·rw [if_pos c39] at H
                         have c39b0 := eq_true c39
                         have c39b1 : decide ((((((((((((((rdOf ByteArray.empty y102 (ji4)) ++ (⟨#[44, 32]⟩ : ByteArray)) ++ t110) ++ (⟨#[32]⟩ : ByteArray)) ++ (rdOf ByteArray.empty t111 (ji23))) ++ (⟨#[32]⟩ : ByteArray)) ++ t115) ++ (⟨#[32]⟩ : ByteArray)) ++ t116) ++ (⟨#[58]⟩ : ByteArray)) ++ t117) ++ (⟨#[58]⟩ : ByteArray)) ++ t118).size + 4 ≤ 9223372036854775807) = true := decide_eq_true c39
                         try have c39b2 : (9223372036854775807 < (((((((((((((rdOf ByteArray.empty y102 (ji4)) ++ (⟨#[44, 32]⟩ : ByteArray)) ++ t110) ++ (⟨#[32]⟩ : ByteArray)) ++ (rdOf ByteArray.empty t111 (ji23))) ++ (⟨#[32]⟩ : ByteArray)) ++ t115) ++ (⟨#[32]⟩ : ByteArray)) ++ t116) ++ (⟨#[58]⟩ : ByteArray)) ++ t117) ++ (⟨#[58]⟩ : ByteArray)) ++ t118).size + 4) = False := eq_false (Nat.not_lt.2 c39)
                         try have c39b3 : (9223372036854775807 < (rdOf ByteArray.empty y102 (ji4)).size + 2 + (t110).size + 1 + (rdOf ByteArray.empty t111 (ji23)).size + 1 + (t115).size + 1 + (t116).size + 1 + (t117).size + 1 + (t118).size + 4) = False := eq_false (Nat.not_lt.2 (by have h_ := c39; simp only [ByteArray.size_append] at h_; exact h_))
                         obtain rfl := Option.some.inj H
                         try go_wp2_with (first | ((with_reducible refine gate_callee (f := 82) rfl ?_); refine goesL_ (some 33) rfl rfl Tryd.func82 (by kernel_rfl) rfl #[.int .i64 x6_1, .int .i64 x7_2] rfl am ?_; (with_reducible refine (impl_monthDays.calls x6_1 x7_2 t108 _ A13.out).mono ?_); rintro e w40 ⟨rfl, hb⟩; refine ⟨_, rfl, ?_⟩; have n0_ := Aside0.mk (below_step bq hb); clear HB; have HB := n0_; clear n0_; (try clear hb); (try clear hb2); (try clear hk); (try clear hi)))
                         have n0_ := Aside0.mk (below_drew1 HB.out)
                         clear HB
                         have HB := n0_
                         clear n0_
                         refine start_ (n := 35) (S := fun _ => True) (ds := []) (Array.replicate 35 false) (by kernel_rfl) rfl rfl trivial (fun hHeld => ?_); refine with_tabW impl_ShowDate.tab12 impl_ShowDate.bits12 (fun HT_ HW_ => ?_)
                         generalize w40.drew = w41 at HB hHeld ⊢
                         refine pu 0 42 HT_ ?_
                         refine pu 1 43 HT_ ?_
                         refine pu 2 44 HT_ ?_
                         refine pu 3 45 HT_ ?_
                         refine pu 8 50 HT_ ?_
                         refine pu 9 51 HT_ ?_
                         refine pu 14 56 HT_ ?_
                         refine pu 18 60 HT_ ?_
                         refine pu 19 61 HT_ ?_
                         refine pu 23 65 HT_ ?_
                         refine pu 24 66 HT_ ?_
                         refine pu 25 67 HT_ ?_
                         refine pu 29 71 HT_ ?_
                         refine pu 30 72 HT_ ?_
                         refine on1 4 46 HT_ (fun K hK => ?_)
                         refine goes_ Tryd.func83 (by kernel_rfl) rfl #[.int .i64 (wrap64 (x3_2 + 1))] (by rfl) rfl rfl am ?_
                         with_reducible refine (impl_two.calls (wrap64 (x3_2 + 1)) t110 _ ?side1 A19.out).mono ?_
                         (case side1 => refine GPow.of_below HGPow.out ?_; repeat (first | (with_reducible first | exact HB.out | apply below_alloc | apply pw_below_drewN | apply below_drew1) | exact HB.out))
                         rintro e w42 ⟨rfl, hb⟩
                         have HS0_ := trivial
                         refine ⟨_, rfl, ?_⟩
                         have n0_ := Aside0.mk (below_step bq hb)
                         clear HB
                         have HB := n0_
                         clear n0_
                         (try clear hb)
                         (try clear hb2)
                         (try clear hk)
                         (try clear hi)
                         refine hK.out _ _ (HS0_) (fun hHeld => ?_)
                         clear hK K
                         refine nrm 46 ?_
                         refine pu 5 47 HT_ ?_
                         refine pu 6 48 HT_ ?_
                         refine on1 7 49 HT_ (fun K hK => ?_)
                         refine goes_ Tryd.func84 (by kernel_rfl) rfl #[] (by rfl) rfl rfl am ?_
                         with_reducible refine (impl_months.calls  t111 _ A22.out).mono ?_
                         rintro e w43 ⟨v112, rfl, ho0, hb⟩
                         have HS0_ := trivial
                         refine ⟨_, rfl, ?_⟩
                         have n0_ := Aside0.mk (Kd.R_lower ho0 (below_size bq))
                         have n1_ := Aside0.mk (below_step bq hb)
                         clear HB
                         have HO113 := n0_
                         have HB := n1_
                         clear n0_ n1_
                         (try clear hb)
                         (try clear hb2)
                         (try clear hk)
                         (try clear hi)
                         (try clear ho0)
                         obtain ⟨Ao44, co44, eo44⟩ := Kd.R_slice HO113.out
                         (first | subst eo44 | (injection eo44 with f1_ f2_ f3_; have f4_ := f1_.symm; have f5_ := f3_.symm; clear f1_ f2_ f3_; subst f4_; subst f5_))
                         have p114 : 0 ≤ ((ji23) : Int) := of_decide_eq_true asm
                         have q114 : (ji23) < (t111.length : Int) := of_decide_eq_true asm
                         obtain ⟨ad114, e114, hx114_0⟩ := Kd.at_string (Kd.R_reads' HO113.out).2.2 (ji23) p114 q114
                         cases e114
                         replace p114 := eq_true p114
                         replace q114 := eq_true q114
                         refine hK.out _ _ (HS0_) (fun hHeld => ?_)
                         clear hHeld
                         refine unS (fun w' => w'.cell? (ad114.add ((ji23)).toNat) = some (.string (rdOf ByteArray.empty t111 (ji23)))) ?_
                         have hHeld := hx114_0
                         clear hK K
                         refine nrm 49 ?_
                         refine pu 10 52 HT_ ?_
                         refine tk 11 53 HT_ HW_ hHeld ?_ (hy := by intro w' s0; go_simp; with_reducible rfl)
                         refine pu 12 54 HT_ ?_
                         refine pu 13 55 HT_ ?_
                         refine on1 15 57 HT_ (fun K hK => ?_)
                         refine goes_ Tryd.func62 (by kernel_rfl) rfl #[.int .i64 x6_1] (by rfl) rfl rfl am ?_
                         with_reducible refine (strconv_Itoa.calls x6_1 t115 _ ?side1 A28.out).mono ?_
                         (case side1 => refine GPow.of_below HGPow.out ?_; repeat (first | (with_reducible first | exact HB.out | apply below_alloc | apply pw_below_drewN | apply below_drew1) | exact HB.out))
                         rintro e w45 ⟨rfl, hb⟩
                         have HS0_ := (hb.cell (World.block_lt_of_cell? _ _ (hHeld))).trans (hHeld)
                         refine ⟨_, rfl, ?_⟩
                         have n0_ := Aside0.mk (Kd.R_below (by (with_reducible repeat (first | apply Kd.R_alloc | apply Kd.R_drewN | apply Kd.R_drew)); exact HO113.out) hb)
                         have n1_ := Aside0.mk (below_step bq hb)
                         clear HO113
                         clear HB
                         have HO113 := n0_
                         have HB := n1_
                         clear n0_ n1_
                         (try clear hb)
                         (try clear hb2)
                         (try clear hk)
                         (try clear hi)
                         refine hK.out _ _ (HS0_) (fun hHeld => ?_)
                         clear hK K
                         refine nrm 57 ?_
                         refine pu 16 58 HT_ ?_
                         refine pu 17 59 HT_ ?_
                         refine on1 20 62 HT_ (fun K hK => ?_)
                         refine goes_ Tryd.func83 (by kernel_rfl) rfl #[.int .i64 (wrap64 (Int.tdiv (Int.tmod a0 86400) 3600))] (by rfl) rfl rfl am ?_
                         with_reducible refine (impl_two.calls (wrap64 (Int.tdiv (Int.tmod a0 86400) 3600)) t116 _ ?side1 A31.out).mono ?_
                         (case side1 => refine GPow.of_below HGPow.out ?_; repeat (first | (with_reducible first | exact HB.out | apply below_alloc | apply pw_below_drewN | apply below_drew1) | exact HB.out))
                         rintro e w46 ⟨rfl, hb⟩
                         have HS0_ := (hb.cell (World.block_lt_of_cell? _ _ (hHeld))).trans (hHeld)
                         refine ⟨_, rfl, ?_⟩
                         have n0_ := Aside0.mk (Kd.R_below (by (with_reducible repeat (first | apply Kd.R_alloc | apply Kd.R_drewN | apply Kd.R_drew)); exact HO113.out) hb)
                         have n1_ := Aside0.mk (below_step bq hb)
                         clear HO113
                         clear HB
                         have HO113 := n0_
                         have HB := n1_
                         clear n0_ n1_
                         (try clear hb)
                         (try clear hb2)
                         (try clear hk)
                         (try clear hi)
                         refine hK.out _ _ (HS0_) (fun hHeld => ?_)
                         clear hK K
                         refine nrm 62 ?_
                         refine pu 21 63 HT_ ?_
                         refine pu 22 64 HT_ ?_
                         refine on1 26 68 HT_ (fun K hK => ?_)
                         refine goes_ Tryd.func83 (by kernel_rfl) rfl #[.int .i64 (Int.tmod (wrap64 (Int.tdiv (Int.tmod a0 86400) 60)) 60)] (by rfl) rfl rfl am ?_
                         with_reducible refine (impl_two.calls (Int.tmod (wrap64 (Int.tdiv (Int.tmod a0 86400) 60)) 60) t117 _ ?side1 A34.out).mono ?_
                         (case side1 => refine GPow.of_below HGPow.out ?_; repeat (first | (with_reducible first | exact HB.out | apply below_alloc | apply pw_below_drewN | apply below_drew1) | exact HB.out))
                         rintro e w47 ⟨rfl, hb⟩
                         have HS0_ := (hb.cell (World.block_lt_of_cell? _ _ (hHeld))).trans (hHeld)
                         refine ⟨_, rfl, ?_⟩
                         have n0_ := Aside0.mk (Kd.R_below (by (with_reducible repeat (first | apply Kd.R_alloc | apply Kd.R_drewN | apply Kd.R_drew)); exact HO113.out) hb)
                         have n1_ := Aside0.mk (below_step bq hb)
                         clear HO113
                         clear HB
                         have HO113 := n0_
                         have HB := n1_
                         clear n0_ n1_
                         (try clear hb)
                         (try clear hb2)
                         (try clear hk)
                         (try clear hi)
                         refine hK.out _ _ (HS0_) (fun hHeld => ?_)
                         clear hK K
                         refine nrm 68 ?_
                         refine pu 27 69 HT_ ?_
                         refine pu 28 70 HT_ ?_
                         refine on1 31 73 HT_ (fun K hK => ?_)
                         refine goes_ Tryd.func83 (by kernel_rfl) rfl #[.int .i64 (Int.tmod (Int.tmod a0 86400) 60)] (by rfl) rfl rfl am ?_
                         with_reducible refine (impl_two.calls (Int.tmod (Int.tmod a0 86400) 60) t118 _ ?side1 A37.out).mono ?_
                         (case side1 => refine GPow.of_below HGPow.out ?_; repeat (first | (with_reducible first | exact HB.out | apply below_alloc | apply pw_below_drewN | apply below_drew1) | exact HB.out))
                         rintro e w48 ⟨rfl, hb⟩
                         have HS0_ := (hb.cell (World.block_lt_of_cell? _ _ (hHeld))).trans (hHeld)
                         refine ⟨_, rfl, ?_⟩
                         have n0_ := Aside0.mk (Kd.R_below (by (with_reducible repeat (first | apply Kd.R_alloc | apply Kd.R_drewN | apply Kd.R_drew)); exact HO113.out) hb)
                         have n1_ := Aside0.mk (below_step bq hb)
                         clear HO113
                         clear HB
                         have HO113 := n0_
                         have HB := n1_
                         clear n0_ n1_
                         (try clear hb)
                         (try clear hb2)
                         (try clear hk)
                         (try clear hi)
                         refine hK.out _ _ (HS0_) (fun hHeld => ?_)
                         clear hK K
                         refine nrm 73 ?_
                         refine pu 32 74 HT_ ?_
                         refine pu 33 75 HT_ ?_
                         refine pu 34 2 HT_ ?_
                         refine done_ (done_of HT_.out (by kernel_rfl)) ?_
                         try go_wp2
                         go_ret
                         exact ⟨by first | rfl | (simp [errW_none, errW_some] <;> rfl) | (simp only [← hji4, ← hji23]; first | rfl | (simp [errW_none, errW_some] <;> rfl)) | (simp [*, errW_none, errW_some] <;> rfl), bq⟩
                        ·rw [if_neg c39] at H
                         exact absurd H (by simp)
                       ·rw [if_neg c38] at H
                        exact absurd H (by simp)
                      ·rw [if_neg c36] at H
                       exact absurd H (by simp)
                     ·rw [if_neg c35] at H
                      exact absurd H (by simp)
                    ·rw [if_neg c33] at H
                     exact absurd H (by simp)
                   ·rw [if_neg c32] at H
                    exact absurd H (by simp)
                  ·rw [if_neg c30] at H
                   exact absurd H (by simp)
                 ·rw [if_neg c29] at H
                  exact absurd H (by simp)
                ·rw [if_neg c27] at H
                 exact absurd H (by simp)
               ·rw [if_neg c26] at H
                exact absurd H (by simp)
              ·rw [if_neg c25] at H
               exact absurd H (by simp)
             ·rw [if_neg c24] at H
              exact absurd H (by simp)
            ·rw [if_neg c21] at H
             exact absurd H (by simp)
           ·rw [if_neg c20] at H
            exact absurd H (by simp)
          ·rw [if_neg c18] at H
           exact absurd H (by simp)
   ·rw [if_neg c6] at H
    exact absurd H (by simp)
  ·rw [if_neg c5] at H
   exact absurd H (by simp)
 ·replace c3 := Bool.eq_false_iff.mpr c3
  subst c3
  rw [if_neg (show ¬ (false = true) by decide)] at H
  obtain rfl := Option.some.inj H
  go_enter Tryd.func36, Tryd.ntmps36
  go_wp2_with (first | ((with_reducible refine gate_callee (f := 60) rfl ?_); refine goesL_ (some 9) rfl rfl Tryd.func60 (by kernel_rfl) rfl #[.int .i64 a0, .int .i64 0, .int .i64 2000000000] rfl am ?_; (with_reducible refine (impl_in.calls a0 0 2000000000 false _ A2.out).mono ?_); rintro e w' ⟨rfl, ⟨nd, rfl⟩⟩; refine ⟨_, rfl, ?_⟩))
  go_ret
  exact ⟨by first | rfl | (simp [errW_none, errW_some] <;> rfl) | (simp [*, errW_none, errW_some] <;> rfl), bq⟩

end Go.Proofs.YtjldfmkpdkhnnaaDoor.QL

namespace Go.Proofs.YtjldfmkpdkhnnaaDoor.QL
open Go.RowKit Go.Proofs.YtjldfmkpdkhnnaaDoorW.PrintWords Go.Proofs.YtjldfmkpdkhnnaaDoorW.PrintLast Go.Proofs.YtjldfmkpdkhnnaaDoorW.PrintMore Go.Proofs.YtjldfmkpdkhnnaaDoor.Aux Go.Proofs.YtjldfmkpdkhnnaaDoor.Dom Go.Proofs.YtjldfmkpdkhnnaaDoor.Ext Go.Proofs.YtjldfmkpdkhnnaaDoor.Glob
attribute [local go_sem] max2_int min2_int max_two min_two max_three min_three max_four min_four   -- for this text's walks alone
set_option linter.unusedVariables false
set_option linter.unusedSimpArgs false

/-! ### impl_DaysOf: function 39 -/
mutual
def impl_DaysOf.j0 : Nat → Int → Int → Int → Bool → Option (Int)
 | 0, _, _, _, _ => none
 | k + 1, x0, x1, x2, x25 => if x25 = true then (some (-1)) else (impl_DaysOf.l0 k x0 x1 (wrap64 (x2 - 1)) 1970)
def impl_DaysOf.l0 : Nat → Int → Int → Int → Int → Option (Int)
 | 0, _, _, _, _ => none
 | k + 1, x0, x1, x7, x8 => if x8 < x0 then ((impl_yearDays.f x8).bind fun t105 => (impl_DaysOf.l0 k x0 x1 (wrap64 (x7 + t105)) (wrap64 (x8 + 1)))) else (impl_DaysOf.l1 k x0 x1 x7 1)
def impl_DaysOf.l1 : Nat → Int → Int → Int → Int → Option (Int)
 | 0, _, _, _, _ => none
 | k + 1, x0, x1, x7, x9 => if x9 < x1 then ((impl_monthDays.f x0 x9).bind fun t106 => (impl_DaysOf.l1 k x0 x1 (wrap64 (x7 + t106)) (wrap64 (x9 + 1)))) else (some x7)
end
def impl_DaysOf.f (k : Nat) (a0 : Int) (a1 : Int) (a2 : Int) : Option (Int) := (impl_in.f a0 1970 2037).bind fun t101 => (if t101 = true then ((impl_in.f a1 1 12).bind fun t102 => (if t102 = true then ((impl_monthDays.f a0 a1).bind fun t103 => ((impl_in.f a2 1 t103).bind fun t104 => (impl_DaysOf.j0 k a0 a1 a2 (!t104)))) else (impl_DaysOf.j0 k a0 a1 a2 true))) else (impl_DaysOf.j0 k a0 a1 a2 true))
theorem impl_DaysOf.mono_l : ∀ k, (∀ y0 y1 y2 y3, LeO (impl_DaysOf.j0 k y0 y1 y2 y3) (impl_DaysOf.j0 (k + 1) y0 y1 y2 y3)) ∧ (∀ y0 y1 y2 y3, LeO (impl_DaysOf.l0 k y0 y1 y2 y3) (impl_DaysOf.l0 (k + 1) y0 y1 y2 y3)) ∧ (∀ y0 y1 y2 y3, LeO (impl_DaysOf.l1 k y0 y1 y2 y3) (impl_DaysOf.l1 (k + 1) y0 y1 y2 y3))
 | 0 => ⟨fun _ _ _ _ r h => by simp [impl_DaysOf.j0] at h, fun _ _ _ _ r h => by simp [impl_DaysOf.l0] at h, fun _ _ _ _ r h => by simp [impl_DaysOf.l1] at h⟩
 | k + 1 => by
  obtain ⟨ih0, ih1, ih2⟩ := impl_DaysOf.mono_l k
  refine ⟨?_, ?_, ?_⟩
  ·intro y0 y1 y2 y3
   unfold impl_DaysOf.j0
   repeat' first
   | (with_reducible exact ih0 _ _ _ _)
   | (with_reducible exact ih1 _ _ _ _)
   | (with_reducible exact ih2 _ _ _ _)
   | (with_reducible exact LeO.refl _)
   | (with_reducible exact LeO.none _)
   | (with_reducible refine LeO.ite ?_ ?_)
   | (with_reducible refine LeO.bind ?_ (fun _ => ?_))
   | exact ih0 _ _ _ _
   | exact ih1 _ _ _ _
   | exact ih2 _ _ _ _
   | exact LeO.none _
   | refine LeO.ite ?_ ?_
   | refine LeO.bind ?_ (fun _ => ?_)
  ·intro y0 y1 y2 y3
   unfold impl_DaysOf.l0
   repeat' first
   | (with_reducible exact ih0 _ _ _ _)
   | (with_reducible exact ih1 _ _ _ _)
   | (with_reducible exact ih2 _ _ _ _)
   | (with_reducible exact LeO.refl _)
   | (with_reducible exact LeO.none _)
   | (with_reducible refine LeO.ite ?_ ?_)
   | (with_reducible refine LeO.bind ?_ (fun _ => ?_))
   | exact ih0 _ _ _ _
   | exact ih1 _ _ _ _
   | exact ih2 _ _ _ _
   | exact LeO.none _
   | refine LeO.ite ?_ ?_
   | refine LeO.bind ?_ (fun _ => ?_)
  ·intro y0 y1 y2 y3
   unfold impl_DaysOf.l1
   repeat' first
   | (with_reducible exact ih0 _ _ _ _)
   | (with_reducible exact ih1 _ _ _ _)
   | (with_reducible exact ih2 _ _ _ _)
   | (with_reducible exact LeO.refl _)
   | (with_reducible exact LeO.none _)
   | (with_reducible refine LeO.ite ?_ ?_)
   | (with_reducible refine LeO.bind ?_ (fun _ => ?_))
   | exact ih0 _ _ _ _
   | exact ih1 _ _ _ _
   | exact ih2 _ _ _ _
   | exact LeO.none _
   | refine LeO.ite ?_ ?_
   | refine LeO.bind ?_ (fun _ => ?_)
theorem impl_DaysOf.mono : ∀ a0 a1 a2 k, LeO (impl_DaysOf.f k a0 a1 a2) (impl_DaysOf.f (k + 1) a0 a1 a2) := by
 intro a0 a1 a2 k
 obtain ⟨ih0, ih1, ih2⟩ := impl_DaysOf.mono_l k
 unfold impl_DaysOf.f
 repeat' first
   | (with_reducible exact ih0 _ _ _ _)
   | (with_reducible exact ih1 _ _ _ _)
   | (with_reducible exact ih2 _ _ _ _)
   | (with_reducible exact LeO.refl _)
   | (with_reducible exact LeO.none _)
   | (with_reducible refine LeO.ite ?_ ?_)
   | (with_reducible refine LeO.bind ?_ (fun _ => ?_))
   | exact ih0 _ _ _ _
   | exact ih1 _ _ _ _
   | exact ih2 _ _ _ _
   | exact LeO.none _
   | refine LeO.ite ?_ ?_
   | refine LeO.bind ?_ (fun _ => ?_)
set_option maxHeartbeats 8000000 in
set_option maxRecDepth 100000 in
theorem impl_DaysOf.calls (k : Nat) (a0 : Int) (a1 : Int) (a2 : Int) (r : Int) (w : World) (h : impl_DaysOf.f k a0 a1 a2 = some r) :
  Calls Tryd.prog 39 #[.int .i64 a0, .int .i64 a1, .int .i64 a2] w fun e w' => e = .returned (.int .i64 r) ∧ Below w.heap.size w w' := by
 have HB := Aside0.mk (Below.refl w.heap.size w)
 have H : ((impl_in.f a0 1970 2037).bind fun t101 => (if t101 = true then ((impl_in.f a1 1 12).bind fun t102 => (if t102 = true then ((impl_monthDays.f a0 a1).bind fun t103 => ((impl_in.f a2 1 t103).bind fun t104 => (impl_DaysOf.j0 k a0 a1 a2 (!t104)))) else (impl_DaysOf.j0 k a0 a1 a2 true))) else (impl_DaysOf.j0 k a0 a1 a2 true))) = some r := h
 clear h
 have HC4 := Aside0.mk H
 clear H
 go_enter Tryd.func39, Tryd.ntmps39
 go_upto_region 1 with (fail)
 go_cut [25] (fun v25 wc => ∃ (kq : Nat) (x25_3 : Bool), v25 = .bool x25_3 ∧ Aside0 (impl_DaysOf.j0 kq a0 a1 a2 x25_3 = some r) ∧ Aside0 (kq ≤ k) ∧ Aside0 (Below w.heap.size w wc))
 case first =>
  have H := HC4.out
  clear HC4
  replace H := Option.bind_eq_some_iff.mp H
  obtain ⟨t101, A50, H⟩ := H
  try dsimp only at H
  have A5 := Aside0.mk A50
  clear A50
  by_cases c6 : t101 = true
  ·subst c6
   rw [if_pos rfl] at H
   replace H := Option.bind_eq_some_iff.mp H
   obtain ⟨t102, A70, H⟩ := H
   try dsimp only at H
   have A7 := Aside0.mk A70
   clear A70
   by_cases c8 : t102 = true
   ·subst c8
    rw [if_pos rfl] at H
    replace H := Option.bind_eq_some_iff.mp H
    obtain ⟨t103, A90, H⟩ := H
    try dsimp only at H
    have A9 := Aside0.mk A90
    clear A90
    replace H := Option.bind_eq_some_iff.mp H
    obtain ⟨t104, A100, H⟩ := H
    try dsimp only at H
    have A10 := Aside0.mk A100
    clear A100
    have H' := Aside0.mk H
    clear H
    go_wp2_with (first | ((with_reducible refine gate_callee (f := 60) rfl ?_); refine goesL_ (some 11) rfl rfl Tryd.func60 (by kernel_rfl) rfl #[.int .i64 a0, .int .i64 1970, .int .i64 2037] rfl am ?_; (with_reducible refine (impl_in.calls a0 1970 2037 true _ A5.out).mono ?_); rintro e w' ⟨rfl, ⟨nd, rfl⟩⟩; refine ⟨_, rfl, ?_⟩) | (go_at_call 60; (with_reducible refine (impl_in.calls a1 1 12 true _ A7.out).mono ?_); rintro e w' ⟨rfl, ⟨nd, rfl⟩⟩) | (go_at_call 82; (with_reducible refine (impl_monthDays.calls a0 a1 t103 _ A9.out).mono ?_); rintro e w11 ⟨rfl, hb⟩; have n0_ := Aside0.mk (below_step bq hb); clear HB; have HB := n0_; clear n0_; (try clear hb); (try clear hb2); (try clear hk); (try clear hi)) | (go_at_call 60; (with_reducible refine (impl_in.calls a2 1 t103 t104 _ A10.out).mono ?_); rintro e w' ⟨rfl, ⟨nd, rfl⟩⟩))
    go_meet
    case rel => exact ⟨_, (!t104), (by first | rfl | (simp; done) | (simp [*]; done)), H', ⟨by first | omega | exact Nat.le_refl _⟩, ⟨by repeat (first | (with_reducible first | exact HB.out | apply below_alloc | apply pw_below_drewN | apply below_drew1) | exact HB.out)⟩⟩
   ·replace c8 := Bool.eq_false_iff.mpr c8
    subst c8
    rw [if_neg (show ¬ (false = true) by decide)] at H
    have H' := Aside0.mk H
    clear H
    go_wp2_with (first | ((with_reducible refine gate_callee (f := 60) rfl ?_); refine goesL_ (some 11) rfl rfl Tryd.func60 (by kernel_rfl) rfl #[.int .i64 a0, .int .i64 1970, .int .i64 2037] rfl am ?_; (with_reducible refine (impl_in.calls a0 1970 2037 true _ A5.out).mono ?_); rintro e w' ⟨rfl, ⟨nd, rfl⟩⟩; refine ⟨_, rfl, ?_⟩) | (go_at_call 60; (with_reducible refine (impl_in.calls a1 1 12 false _ A7.out).mono ?_); rintro e w' ⟨rfl, ⟨nd, rfl⟩⟩))
    go_meet
    case rel => exact ⟨_, (true), (by first | rfl | (simp; done) | (simp [*]; done)), H', ⟨by first | omega | exact Nat.le_refl _⟩, ⟨by repeat (first | (with_reducible first | exact HB.out | apply below_alloc | apply pw_below_drewN | apply below_drew1) | exact HB.out)⟩⟩
  ·replace c6 := Bool.eq_false_iff.mpr c6
   subst c6
   rw [if_neg (show ¬ (false = true) by decide)] at H
   have H' := Aside0.mk H
   clear H
   go_wp2_with (first | ((with_reducible refine gate_callee (f := 60) rfl ?_); refine goesL_ (some 11) rfl rfl Tryd.func60 (by kernel_rfl) rfl #[.int .i64 a0, .int .i64 1970, .int .i64 2037] rfl am ?_; (with_reducible refine (impl_in.calls a0 1970 2037 false _ A5.out).mono ?_); rintro e w' ⟨rfl, ⟨nd, rfl⟩⟩; refine ⟨_, rfl, ?_⟩))
   go_meet
   case rel => exact ⟨_, (true), (by first | rfl | (simp; done) | (simp [*]; done)), H', ⟨by first | omega | exact Nat.le_refl _⟩, ⟨by repeat (first | (with_reducible first | exact HB.out | apply below_alloc | apply pw_below_drewN | apply below_drew1) | exact HB.out)⟩⟩
 case rest =>
  clear HC4
  try clear p2
  try clear c3
  try clear c6
  try clear c8
  obtain ⟨kq, x25_3, rfl, HA, HJ3, HB⟩ := hcut
  cases kq with
  | zero => exact absurd HA.out (by simp [impl_DaysOf.j0])
  | succ kj3 =>
   have H := HA.out
   clear HA
   simp only [impl_DaysOf.j0] at H
   by_cases c12 : x25_3 = true
   ·subst c12
    rw [if_pos rfl] at H
    obtain rfl := Option.some.inj H
    go_wp2
    go_ret
    exact ⟨by first | rfl | (simp [errW_none, errW_some] <;> rfl) | (simp [*, errW_none, errW_some] <;> rfl), bq⟩
   ·replace c12 := Bool.eq_false_iff.mpr c12
    subst c12
    rw [if_neg (show ¬ (false = true) by decide)] at H
    have H' := Aside0.mk H
    clear H
    go_wp2
    go_loopg [7, 8] kj3 (fun kq v7 v8 w' => ∃ (x7_2 : Int) (x8_2 : Int), v7 = .int .i64 x7_2 ∧ v8 = .int .i64 x8_2 ∧ Aside0 (impl_DaysOf.l0 kq a0 a1 x7_2 x8_2 = some r) ∧ Aside0 (kq ≤ kj3) ∧ Aside0 (Below w.heap.size w w'))
    case atStart => exact ⟨(wrap64 (a2 - 1)), (1970), (by first | rfl | (simp; done) | (simp [*]; done)), (by first | rfl | (simp; done) | (simp [*]; done)), H', ⟨Nat.le_refl _⟩, ⟨by repeat (first | (with_reducible first | exact HB.out | apply below_alloc | apply pw_below_drewN | apply below_drew1) | exact HB.out)⟩⟩
    case round =>
     clear H'
     try clear c1
     try clear p2
     try clear c3
     try clear c6
     try clear p6
     try clear c8
     try clear c12
     try clear p2
     obtain ⟨x7_2, x8_2, rfl, rfl, HA, HK2, HB⟩ := hrel
     cases gk with
     | zero => exact absurd HA.out (by simp [impl_DaysOf.l0])
     | succ k2 =>
      have H := HA.out
      clear HA
      simp only [impl_DaysOf.l0] at H
      by_cases c13 : x8_2 < a0
      ·rw [if_pos c13] at H
       have c13b0 : decide (x8_2 < a0) = true := decide_eq_true c13
       clear c13
       replace H := Option.bind_eq_some_iff.mp H
       obtain ⟨t105, A140, H⟩ := H
       try dsimp only at H
       have A14 := Aside0.mk A140
       clear A140
       have H' := Aside0.mk H
       clear H
       go_wp2_with (first | ((with_reducible refine gate_callee (f := 81) rfl ?_); refine goesL_ (some 35) rfl rfl Tryd.func81 (by kernel_rfl) rfl #[.int .i64 x8_2] rfl am ?_; (with_reducible refine (impl_yearDays.calls x8_2 t105 _ A14.out).mono ?_); rintro e w' ⟨rfl, ⟨nd, rfl⟩⟩; refine ⟨_, rfl, ?_⟩))
       go_roundg k2
       case measure => have := HJ3.out; have := HK2.out; omega
       case rel => exact ⟨(wrap64 (x7_2 + t105)), (wrap64 (x8_2 + 1)), (by first | rfl | (simp; done) | (simp [*]; done)), (by first | rfl | (simp; done) | (simp [*]; done)), H', ⟨by have := HJ3.out; have := HK2.out; omega⟩, ⟨by repeat (first | (with_reducible first | exact HB.out | apply below_alloc | apply pw_below_drewN | apply below_drew1) | exact HB.out)⟩⟩
      ·rw [if_neg c13] at H
       have c13b0 : decide (x8_2 < a0) = false := decide_eq_false c13
       clear c13
       have H' := Aside0.mk H
       clear H
       go_wp2
       go_loopg [7, 9] k2 (fun kq v7 v9 w' => ∃ (x7_3 : Int) (x9_3 : Int), v7 = .int .i64 x7_3 ∧ v9 = .int .i64 x9_3 ∧ Aside0 (impl_DaysOf.l1 kq a0 a1 x7_3 x9_3 = some r) ∧ Aside0 (kq ≤ k2) ∧ Aside0 (Below w.heap.size w w'))
       case atStart => exact ⟨(x7_2), (1), (by first | rfl | (simp; done) | (simp [*]; done)), (by first | rfl | (simp; done) | (simp [*]; done)), H', ⟨Nat.le_refl _⟩, ⟨by repeat (first | (with_reducible first | exact HB.out | apply below_alloc | apply pw_below_drewN | apply below_drew1) | exact HB.out)⟩⟩
       case round =>
        clear H'
        try clear c1
        try clear p2
        try clear c3
        try clear c6
        try clear p6
        try clear c8
        try clear c12
        try clear c13
        try clear c13b0
        try clear p2
        try clear p6
        obtain ⟨x7_3, x9_3, rfl, rfl, HA, HK3, HB⟩ := hrel
        cases gk with
        | zero => exact absurd HA.out (by simp [impl_DaysOf.l1])
        | succ k3 =>
         have H := HA.out
         clear HA
         simp only [impl_DaysOf.l1] at H
         by_cases c15 : x9_3 < a1
         ·rw [if_pos c15] at H
          have c15b0 : decide (x9_3 < a1) = true := decide_eq_true c15
          clear c15
          replace H := Option.bind_eq_some_iff.mp H
          obtain ⟨t106, A160, H⟩ := H
          try dsimp only at H
          have A16 := Aside0.mk A160
          clear A160
          have H' := Aside0.mk H
          clear H
          go_wp2_with (first | ((with_reducible refine gate_callee (f := 82) rfl ?_); refine goesL_ (some 45) rfl rfl Tryd.func82 (by kernel_rfl) rfl #[.int .i64 a0, .int .i64 x9_3] rfl am ?_; (with_reducible refine (impl_monthDays.calls a0 x9_3 t106 _ A16.out).mono ?_); rintro e w17 ⟨rfl, hb⟩; refine ⟨_, rfl, ?_⟩; have n0_ := Aside0.mk (below_step bq hb); clear HB; have HB := n0_; clear n0_; (try clear hb); (try clear hb2); (try clear hk); (try clear hi)))
          go_roundg k3
          case measure => have := HJ3.out; have := HK2.out; have := HK3.out; omega
          case rel => exact ⟨(wrap64 (x7_3 + t106)), (wrap64 (x9_3 + 1)), (by first | rfl | (simp; done) | (simp [*]; done)), (by first | rfl | (simp; done) | (simp [*]; done)), H', ⟨by have := HJ3.out; have := HK2.out; have := HK3.out; omega⟩, ⟨by repeat (first | (with_reducible first | exact HB.out | apply below_alloc | apply pw_below_drewN | apply below_drew1) | exact HB.out)⟩⟩
         ·rw [if_neg c15] at H
          have c15b0 : decide (x9_3 < a1) = false := decide_eq_false c15
          clear c15
          obtain rfl := Option.some.inj H
          go_wp2
          go_ret
          exact ⟨by first | rfl | (simp [errW_none, errW_some] <;> rfl) | (simp [*, errW_none, errW_some] <;> rfl), bq⟩

end Go.Proofs.YtjldfmkpdkhnnaaDoor.QL

namespace Go.Proofs.YtjldfmkpdkhnnaaDoor.QL
open Go.RowKit Go.Proofs.YtjldfmkpdkhnnaaDoorW.PrintWords Go.Proofs.YtjldfmkpdkhnnaaDoorW.PrintLast Go.Proofs.YtjldfmkpdkhnnaaDoorW.PrintMore Go.Proofs.YtjldfmkpdkhnnaaDoor.Aux Go.Proofs.YtjldfmkpdkhnnaaDoor.Dom Go.Proofs.YtjldfmkpdkhnnaaDoor.Ext Go.Proofs.YtjldfmkpdkhnnaaDoor.Glob
attribute [local go_sem] max2_int min2_int max_two min_two max_three min_three max_four min_four   -- for this text's walks alone
set_option linter.unusedVariables false
set_option linter.unusedSimpArgs false

/-! ### impl_number: function 86 -/
def impl_number.l0 : Nat → ByteArray → Int → Int → Option (Int)
 | 0, _, _, _ => none
 | k + 1, x0, x7, x8 => if x8 < x7 then (if 0 ≤ x8 then (if x8 < (x0.size : Int) then (if (bt x0 x8) < 48 then (some (-1)) else (if (bt x0 x8) > 57 then (some (-1)) else (impl_number.l0 k x0 x7 (wrap64 (x8 + 1))))) else (none)) else (none)) else ((strconv_Atoi.f x0).bind fun bt101 => (some bt101.1))
def impl_number.f (k : Nat) (a0 : ByteArray) : Option (Int) := impl_number.l0 k a0 (a0.size : Int) 0
theorem impl_number.mono_l : ∀ k, (∀ y0 y1 y2, LeO (impl_number.l0 k y0 y1 y2) (impl_number.l0 (k + 1) y0 y1 y2))
 | 0 => fun _ _ _ r h => by simp [impl_number.l0] at h
 | k + 1 => by
  have ih0 := impl_number.mono_l k
  ·intro y0 y1 y2
   unfold impl_number.l0
   repeat' first
   | (with_reducible exact ih0 _ _ _)
   | (with_reducible exact LeO.refl _)
   | (with_reducible exact LeO.none _)
   | (with_reducible refine LeO.ite ?_ ?_)
   | (with_reducible refine LeO.bind ?_ (fun _ => ?_))
   | exact ih0 _ _ _
   | exact LeO.none _
   | refine LeO.ite ?_ ?_
   | refine LeO.bind ?_ (fun _ => ?_)
theorem impl_number.mono : ∀ a0 k, LeO (impl_number.f k a0) (impl_number.f (k + 1) a0) := by
 intro a0 k
 have ih0 := impl_number.mono_l k
 unfold impl_number.f
 repeat' first
   | (with_reducible exact ih0 _ _ _)
   | (with_reducible exact LeO.refl _)
   | (with_reducible exact LeO.none _)
   | (with_reducible refine LeO.ite ?_ ?_)
   | (with_reducible refine LeO.bind ?_ (fun _ => ?_))
   | exact ih0 _ _ _
   | exact LeO.none _
   | refine LeO.ite ?_ ?_
   | refine LeO.bind ?_ (fun _ => ?_)
set_option maxHeartbeats 8000000 in
set_option maxRecDepth 100000 in
theorem impl_number.calls (k : Nat) (a0 : ByteArray) (r : Int) (w : World) (hGErr : GErr w) (h : impl_number.f k a0 = some r) :
  Calls Tryd.prog 86 #[.string a0] w fun e w' => e = .returned (.int .i64 r) ∧ Below w.heap.size w w' := by
 have HGErr := Aside0.mk hGErr
 clear hGErr
 have HB := Aside0.mk (Below.refl w.heap.size w)
 have H : (impl_number.l0 k a0 (a0.size : Int) 0) = some r := h
 clear h
 have H' := Aside0.mk H
 clear H
 go_enter Tryd.func86, Tryd.ntmps86
 go_wp2
 go_loopg [8] k (fun kq v8 w' => ∃ (x8_1 : Int), v8 = .int .i64 x8_1 ∧ Aside0 (impl_number.l0 kq a0 (a0.size : Int) x8_1 = some r) ∧ Aside0 (kq ≤ k) ∧ Aside0 (Below w.heap.size w w'))
 case atStart => exact ⟨(0), (by first | rfl | (simp; done) | (simp [*]; done)), H', ⟨Nat.le_refl _⟩, ⟨by repeat (first | (with_reducible first | exact HB.out | apply below_alloc | apply pw_below_drewN | apply below_drew1) | exact HB.out)⟩⟩
 case round =>
  clear H'
  obtain ⟨x8_1, rfl, HA, HK1, HB⟩ := hrel
  cases gk with
  | zero => exact absurd HA.out (by simp [impl_number.l0])
  | succ k1 =>
   have H := HA.out
   clear HA
   simp only [impl_number.l0] at H
   by_cases c2 : x8_1 < (a0.size : Int)
   ·rw [if_pos c2] at H
    have c2b0 : decide (x8_1 < (a0.size : Int)) = true := decide_eq_true c2
    clear c2
    by_cases c3 : 0 ≤ x8_1
    ·rw [if_pos c3] at H
     have c3b0 : decide (0 ≤ x8_1) = true := decide_eq_true c3
     clear c3
     by_cases c4 : x8_1 < (a0.size : Int)
     ·rw [if_pos c4] at H
      have c4b0 : decide (x8_1 < (a0.size : Int)) = true := decide_eq_true c4
      clear c4
      by_cases c6 : (bt a0 x8_1) < 48
      ·rw [if_pos c6] at H
       have c6b0 : decide ((bt a0 x8_1) < 48) = true := decide_eq_true c6
       clear c6
       obtain rfl := Option.some.inj H
       have p5 : 0 ≤ (x8_1 : Int) := of_decide_eq_true asm
       have q5 : x8_1 < (a0.size : Int) := of_decide_eq_true asm
       have hx5 := bt_at a0 x8_1
       replace p5 := eq_true p5
       replace q5 := eq_true q5
       go_wp2
       go_ret
       exact ⟨by first | rfl | (simp [errW_none, errW_some] <;> rfl) | (simp [*, errW_none, errW_some] <;> rfl), bq⟩
      ·rw [if_neg c6] at H
       have c6b0 : decide ((bt a0 x8_1) < 48) = false := decide_eq_false c6
       clear c6
       by_cases c8 : (bt a0 x8_1) > 57
       ·rw [if_pos c8] at H
        have c8b0 : decide (57 < (bt a0 x8_1)) = true := decide_eq_true c8
        clear c8
        obtain rfl := Option.some.inj H
        have p5 : 0 ≤ (x8_1 : Int) := of_decide_eq_true asm
        have q5 : x8_1 < (a0.size : Int) := of_decide_eq_true asm
        have hx5 := bt_at a0 x8_1
        replace p5 := eq_true p5
        replace q5 := eq_true q5
        have p7 : 0 ≤ (x8_1 : Int) := of_decide_eq_true asm
        have q7 : x8_1 < (a0.size : Int) := of_decide_eq_true asm
        have hx7 := bt_at a0 x8_1
        replace p7 := eq_true p7
        replace q7 := eq_true q7
        go_wp2
        go_ret
        exact ⟨by first | rfl | (simp [errW_none, errW_some] <;> rfl) | (simp [*, errW_none, errW_some] <;> rfl), bq⟩
       ·rw [if_neg c8] at H
        have c8b0 : decide (57 < (bt a0 x8_1)) = false := decide_eq_false c8
        clear c8
        have H' := Aside0.mk H
        clear H
        have p5 : 0 ≤ (x8_1 : Int) := of_decide_eq_true asm
        have q5 : x8_1 < (a0.size : Int) := of_decide_eq_true asm
        have hx5 := bt_at a0 x8_1
        replace p5 := eq_true p5
        replace q5 := eq_true q5
        have p7 : 0 ≤ (x8_1 : Int) := of_decide_eq_true asm
        have q7 : x8_1 < (a0.size : Int) := of_decide_eq_true asm
        have hx7 := bt_at a0 x8_1
        replace p7 := eq_true p7
        replace q7 := eq_true q7
        go_wp2
        go_roundg k1
        case measure => have := HK1.out; omega
        case rel => exact ⟨(wrap64 (x8_1 + 1)), (by first | rfl | (simp; done) | (simp [*]; done)), H', ⟨by have := HK1.out; omega⟩, ⟨by repeat (first | (with_reducible first | exact HB.out | apply below_alloc | apply pw_below_drewN | apply below_drew1) | exact HB.out)⟩⟩
     ·rw [if_neg c4] at H
      exact absurd H (by simp)
    ·rw [if_neg c3] at H
     exact absurd H (by simp)
   ·rw [if_neg c2] at H
    have c2b0 : decide (x8_1 < (a0.size : Int)) = false := decide_eq_false c2
    clear c2
    replace H := Option.bind_eq_some_iff.mp H
    obtain ⟨⟨t101, t102⟩, A90, H⟩ := H
    try dsimp only at H
    have A9 := Aside0.mk A90
    clear A90
    obtain rfl := Option.some.inj H
    go_wp2_with (first | ((with_reducible refine gate_callee (f := 61) rfl ?_); refine goesL_ (some 24) rfl rfl Tryd.func61 (by kernel_rfl) rfl #[.string a0] rfl am ?_; (with_reducible refine (strconv_Atoi.calls a0 t101 t102 _ ?side1 A9.out).mono ?_); (case side1 => refine GErr.of_below HGErr.out ?_; repeat (first | (with_reducible first | exact HB.out | apply below_alloc | apply pw_below_drewN | apply below_drew1) | exact HB.out)); rintro e w10 ⟨ev_, rfl, he_, hf_, hb⟩; clear he_ hf_; refine ⟨_, rfl, ?_⟩; have n0_ := Aside0.mk (below_step bq hb); clear HB; have HB := n0_; clear n0_; (try clear hb); (try clear hb2); (try clear hk); (try clear hi); (try simp only [errW_none, errW_some])))
    go_ret
    exact ⟨by first | rfl | (simp [errW_none, errW_some] <;> rfl) | (simp [*, errW_none, errW_some] <;> rfl), bq⟩

end Go.Proofs.YtjldfmkpdkhnnaaDoor.QL

namespace Go.Proofs.YtjldfmkpdkhnnaaDoor.QL
open Go.RowKit Go.Proofs.YtjldfmkpdkhnnaaDoorW.PrintWords Go.Proofs.YtjldfmkpdkhnnaaDoorW.PrintLast Go.Proofs.YtjldfmkpdkhnnaaDoorW.PrintMore Go.Proofs.YtjldfmkpdkhnnaaDoor.Aux Go.Proofs.YtjldfmkpdkhnnaaDoor.Dom Go.Proofs.YtjldfmkpdkhnnaaDoor.Ext Go.Proofs.YtjldfmkpdkhnnaaDoor.Glob
attribute [local go_sem] max2_int min2_int max_two min_two max_three min_three max_four min_four   -- for this text's walks alone
set_option linter.unusedVariables false
set_option linter.unusedSimpArgs false

/-! ### slices_Index_string_string: function 87 -/
def slices_Index_string_string.l0 : Nat → List ByteArray → ByteArray → Int → Int → Option (Int)
 | 0, _, _, _, _ => none
 | k + 1, x0, x1, x7, x8 => if x8 < x7 then (if 0 ≤ x8 then (if x8 < (x0.length : Int) then (if x1.toList = (rdOf ByteArray.empty x0 x8).toList then (some x8) else (slices_Index_string_string.l0 k x0 x1 x7 (wrap64 (x8 + 1)))) else (none)) else (none)) else (some (-1))
def slices_Index_string_string.f (k : Nat) (l0 : List ByteArray) (a1 : ByteArray) : Option (Int) := slices_Index_string_string.l0 k l0 a1 (l0.length : Int) 0
theorem slices_Index_string_string.mono_l : ∀ k, (∀ y0 y1 y2 y3, LeO (slices_Index_string_string.l0 k y0 y1 y2 y3) (slices_Index_string_string.l0 (k + 1) y0 y1 y2 y3))
 | 0 => fun _ _ _ _ r h => by simp [slices_Index_string_string.l0] at h
 | k + 1 => by
  have ih0 := slices_Index_string_string.mono_l k
  ·intro y0 y1 y2 y3
   unfold slices_Index_string_string.l0
   repeat' first
   | (with_reducible exact ih0 _ _ _ _)
   | (with_reducible exact LeO.refl _)
   | (with_reducible exact LeO.none _)
   | (with_reducible refine LeO.ite ?_ ?_)
   | (with_reducible refine LeO.bind ?_ (fun _ => ?_))
   | exact ih0 _ _ _ _
   | exact LeO.none _
   | refine LeO.ite ?_ ?_
   | refine LeO.bind ?_ (fun _ => ?_)
theorem slices_Index_string_string.mono : ∀ a0 a1 k, LeO (slices_Index_string_string.f k a0 a1) (slices_Index_string_string.f (k + 1) a0 a1) := by
 intro a0 a1 k
 have ih0 := slices_Index_string_string.mono_l k
 unfold slices_Index_string_string.f
 repeat' first
   | (with_reducible exact ih0 _ _ _ _)
   | (with_reducible exact LeO.refl _)
   | (with_reducible exact LeO.none _)
   | (with_reducible refine LeO.ite ?_ ?_)
   | (with_reducible refine LeO.bind ?_ (fun _ => ?_))
   | exact ih0 _ _ _ _
   | exact LeO.none _
   | refine LeO.ite ?_ ?_
   | refine LeO.bind ?_ (fun _ => ?_)
set_option maxHeartbeats 8000000 in
set_option maxRecDepth 100000 in
theorem slices_Index_string_string.calls (k : Nat) (A0 : Option Addr) (c0 : Nat) (l0 : List ByteArray) (a1 : ByteArray) (r : Int) (w : World) (hr0 : Kd.C Kd.string w A0 l0.length l0) (hc0 : l0.length ≤ c0) (h : slices_Index_string_string.f k l0 a1 = some r) :
  Calls Tryd.prog 87 #[.slice A0 l0.length c0, .string a1] w fun e w' => e = .returned (.int .i64 r) ∧ Drawn0 w w' := by
 have HR0 := Aside0.mk hr0
 have HC0 := Aside0.mk hc0
 clear hr0 hc0
 have H : (slices_Index_string_string.l0 k l0 a1 (l0.length : Int) 0) = some r := h
 clear h
 have H' := Aside0.mk H
 clear H
 go_enter Tryd.func87, Tryd.ntmps87
 go_wp2
 go_loopg [8] k (fun kq v8 w' => ∃ (x8_1 : Int), v8 = .int .i64 x8_1 ∧ Aside0 (slices_Index_string_string.l0 kq l0 a1 (l0.length : Int) x8_1 = some r) ∧ Aside0 (kq ≤ k) ∧ Drawn0 w w')
 case atStart => exact ⟨(0), (by first | rfl | (simp; done) | (simp [*]; done)), H', ⟨Nat.le_refl _⟩, by repeat (first | exact Drawn0.refl _ | apply Drawn0.step)⟩
 case round =>
  clear H'
  try clear p2
  obtain ⟨x8_1, rfl, HA, HK1, ⟨m1, rfl⟩⟩ := hrel
  cases gk with
  | zero => exact absurd HA.out (by simp [slices_Index_string_string.l0])
  | succ k1 =>
   have H := HA.out
   clear HA
   simp only [slices_Index_string_string.l0] at H
   by_cases c3 : x8_1 < (l0.length : Int)
   ·rw [if_pos c3] at H
    have c3b0 : decide (x8_1 < (l0.length : Int)) = true := decide_eq_true c3
    clear c3
    by_cases c4 : 0 ≤ x8_1
    ·rw [if_pos c4] at H
     have c4b0 : decide (0 ≤ x8_1) = true := decide_eq_true c4
     clear c4
     by_cases c5 : x8_1 < (l0.length : Int)
     ·rw [if_pos c5] at H
      have c5b0 : decide (x8_1 < (l0.length : Int)) = true := decide_eq_true c5
      clear c5
      by_cases c6 : a1.toList = (rdOf ByteArray.empty l0 x8_1).toList
      ·rw [if_pos c6] at H
       have c6b0 : (a1.toList == (rdOf ByteArray.empty l0 x8_1).toList) = true := beq_iff_eq.mpr c6
       have c6b1 : (a1.toList != (rdOf ByteArray.empty l0 x8_1).toList) = false := bne_eq_false_iff_eq.mpr c6
       clear c6
       obtain rfl := Option.some.inj H
       have p101 : 0 ≤ (x8_1 : Int) := of_decide_eq_true asm
       have q101 : x8_1 < (l0.length : Int) := of_decide_eq_true asm
       obtain ⟨ad101, e101, hx101_0⟩ := Kd.at_string HR0.out x8_1 p101 q101
       cases e101
       replace p101 := eq_true p101
       replace q101 := eq_true q101
       go_wp2
       go_ret
       exact ⟨by first | rfl | (simp; done) | (simp [*]; done) | (simp; generalize ByteArray.toList _ = L_; cases L_ <;> rfl), by repeat (first | exact Drawn0.refl _ | apply Drawn0.step)⟩
      ·rw [if_neg c6] at H
       have c6b0 : (a1.toList == (rdOf ByteArray.empty l0 x8_1).toList) = false := beq_eq_false_iff_ne.mpr c6
       have c6b1 : (a1.toList != (rdOf ByteArray.empty l0 x8_1).toList) = true := bne_iff_ne.mpr c6
       have H' := Aside0.mk H
       clear H
       have p101 : 0 ≤ (x8_1 : Int) := of_decide_eq_true asm
       have q101 : x8_1 < (l0.length : Int) := of_decide_eq_true asm
       obtain ⟨ad101, e101, hx101_0⟩ := Kd.at_string HR0.out x8_1 p101 q101
       cases e101
       replace p101 := eq_true p101
       replace q101 := eq_true q101
       go_wp2
       go_roundg k1
       case measure => have := HK1.out; omega
       case rel => exact ⟨(wrap64 (x8_1 + 1)), (by first | rfl | (simp; done) | (simp [*]; done)), H', ⟨by have := HK1.out; omega⟩, by repeat (first | exact Drawn0.refl _ | apply Drawn0.step)⟩
     ·rw [if_neg c5] at H
      exact absurd H (by simp)
    ·rw [if_neg c4] at H
     exact absurd H (by simp)
   ·rw [if_neg c3] at H
    have c3b0 : decide (x8_1 < (l0.length : Int)) = false := decide_eq_false c3
    clear c3
    obtain rfl := Option.some.inj H
    go_wp2
    go_ret
    exact ⟨by first | rfl | (simp; done) | (simp [*]; done) | (simp; generalize ByteArray.toList _ = L_; cases L_ <;> rfl), by repeat (first | exact Drawn0.refl _ | apply Drawn0.step)⟩

end Go.Proofs.YtjldfmkpdkhnnaaDoor.QL

namespace Go.Proofs.YtjldfmkpdkhnnaaDoor.QL
open Go.RowKit Go.Proofs.YtjldfmkpdkhnnaaDoorW.PrintWords Go.Proofs.YtjldfmkpdkhnnaaDoorW.PrintLast Go.Proofs.YtjldfmkpdkhnnaaDoorW.PrintMore Go.Proofs.YtjldfmkpdkhnnaaDoor.Aux Go.Proofs.YtjldfmkpdkhnnaaDoor.Dom Go.Proofs.YtjldfmkpdkhnnaaDoor.Ext Go.Proofs.YtjldfmkpdkhnnaaDoor.Glob
attribute [local go_sem] max2_int min2_int max_two min_two max_three min_three max_four min_four   -- for this text's walks alone
set_option linter.unusedVariables false
set_option linter.unusedSimpArgs false

/-! ### impl_ReadDate: function 37 -/
def impl_ReadDate.j0 : Nat → ByteArray → List ByteArray → Bool → Option (Int × Bool)
 | 0, _, _, _ => none
 | k + 1, x0, x4, x31 => if x31 = true then (some (0, false)) else (if 4 < (x4.length : Int) then (if 3 < (x4.length : Int) then ((impl_number.f k (rdOf ByteArray.empty x4 3)).bind fun t108 => ((impl_months.f).bind fun t109 => (if 2 < (x4.length : Int) then ((slices_Index_string_string.f k t109 (rdOf ByteArray.empty x4 2)).bind fun t113 => (if 1 < (x4.length : Int) then ((impl_number.f k (rdOf ByteArray.empty x4 1)).bind fun t115 => ((impl_DaysOf.f k t108 (wrap64 (t113 + 1)) t115).bind fun t116 => (if t116 < 0 then (some (0, false)) else (if 0 ≤ 2 then (if 2 ≤ ((rdOf ByteArray.empty x4 4).size : Int) then ((impl_number.f k ((rdOf ByteArray.empty x4 4).extract 0 2)).bind fun t117 => (if 3 ≤ 5 then (if 5 ≤ ((rdOf ByteArray.empty x4 4).size : Int) then ((impl_number.f k ((rdOf ByteArray.empty x4 4).extract 3 5)).bind fun t118 => (if 6 ≤ ((rdOf ByteArray.empty x4 4).size : Int) then ((impl_number.f k ((rdOf ByteArray.empty x4 4).extract 6 (rdOf ByteArray.empty x4 4).size)).bind fun t119 => ((impl_ShowDate.f k (wrap64 ((wrap64 ((wrap64 ((wrap64 (t116 * 86400)) + (wrap64 (3600 * t117)))) + (wrap64 (60 * t118)))) + t119))).bind fun t120 => (if t120.toList = x0.toList then (some (wrap64 ((wrap64 ((wrap64 ((wrap64 (t116 * 86400)) + (wrap64 (3600 * t117)))) + (wrap64 (60 * t118)))) + t119), true)) else (some (0, false))))) else (none))) else (none)) else (none))) else (none)) else (none))))) else (none))) else (none)))) else (none)) else (none))
def impl_ReadDate.f (k : Nat) (a0 : ByteArray) : Option (Int × Bool) := (strings_Split.f a0 (⟨#[32]⟩ : ByteArray)).bind fun t101 => (if (t101.length : Int) = 6 then (if (a0.size : Int) = 29 then (if 4 < (t101.length : Int) then (if ((rdOf ByteArray.empty t101 4).size : Int) = 8 then (if 3 < (t101.length : Int) then (impl_ReadDate.j0 k a0 t101 (((rdOf ByteArray.empty t101 3).size : Int) != 4)) else (none)) else (impl_ReadDate.j0 k a0 t101 true)) else (none)) else (impl_ReadDate.j0 k a0 t101 true)) else (impl_ReadDate.j0 k a0 t101 true))
theorem impl_ReadDate.mono_l : ∀ k, (∀ y0 y1 y2, LeO (impl_ReadDate.j0 k y0 y1 y2) (impl_ReadDate.j0 (k + 1) y0 y1 y2))
 | 0 => fun _ _ _ r h => by simp [impl_ReadDate.j0] at h
 | k + 1 => by
  have ih0 := impl_ReadDate.mono_l k
  ·intro y0 y1 y2
   unfold impl_ReadDate.j0
   repeat' first
   | (with_reducible exact ih0 _ _ _)
   | (with_reducible exact impl_DaysOf.mono _ _ _ _)
   | (with_reducible exact impl_ShowDate.mono _ _)
   | (with_reducible exact impl_number.mono _ _)
   | (with_reducible exact slices_Index_string_string.mono _ _ _)
   | (with_reducible exact LeO.refl _)
   | (with_reducible exact LeO.none _)
   | (with_reducible refine LeO.ite ?_ ?_)
   | (with_reducible refine LeO.bind ?_ (fun _ => ?_))
   | exact ih0 _ _ _
   | exact impl_DaysOf.mono _ _ _ _
   | exact impl_ShowDate.mono _ _
   | exact impl_number.mono _ _
   | exact slices_Index_string_string.mono _ _ _
   | exact LeO.none _
   | refine LeO.ite ?_ ?_
   | refine LeO.bind ?_ (fun _ => ?_)
theorem impl_ReadDate.mono : ∀ a0 k, LeO (impl_ReadDate.f k a0) (impl_ReadDate.f (k + 1) a0) := by
 intro a0 k
 have ih0 := impl_ReadDate.mono_l k
 unfold impl_ReadDate.f
 repeat' first
   | (with_reducible exact ih0 _ _ _)
   | (with_reducible exact impl_DaysOf.mono _ _ _ _)
   | (with_reducible exact impl_ShowDate.mono _ _)
   | (with_reducible exact impl_number.mono _ _)
   | (with_reducible exact slices_Index_string_string.mono _ _ _)
   | (with_reducible exact LeO.refl _)
   | (with_reducible exact LeO.none _)
   | (with_reducible refine LeO.ite ?_ ?_)
   | (with_reducible refine LeO.bind ?_ (fun _ => ?_))
   | exact ih0 _ _ _
   | exact impl_DaysOf.mono _ _ _ _
   | exact impl_ShowDate.mono _ _
   | exact impl_number.mono _ _
   | exact slices_Index_string_string.mono _ _ _
   | exact LeO.none _
   | refine LeO.ite ?_ ?_
   | refine LeO.bind ?_ (fun _ => ?_)
def impl_ReadDate.T5 : Bool × List (List Nat × List Nat) := (true, [([], []), ([0], [0]), ([1], [1]), ([2], [2]), ([3], []), ([], []), ([5], [5]), ([6], [6]), ([4, 7, 4], [4, 7]), ([8], [8]), ([], []), ([10], [10]), ([11], [11]), ([12, 8], [12]), ([3, 9, 13, 13], [3, 9, 13]), ([14, 14, 0, 1, 2, 3, 4, 5, 6, 7, 8, 9, 10, 11, 12, 13, 14], [14])])
def impl_ReadDate.B5 : List Nat := [0, 1, 3, 7, 15, 0, 32, 96, 255, 511, 0, 1024, 3072, 7679, 16383, 32767]
theorem impl_ReadDate.tab5 : rtab .any (opsOf Tryd.f37 5) = impl_ReadDate.T5 := by kernel_rfl
theorem impl_ReadDate.bits5 : waitsOk impl_ReadDate.T5.2 impl_ReadDate.B5 = true := by kernel_rfl
def impl_ReadDate.T8 : Bool × List (List Nat × List Nat) := (true, [([], []), ([0], [0]), ([], []), ([2], [2]), ([3], [3]), ([4], [4]), ([1, 5], [1, 5]), ([], []), ([7], [7]), ([8, 4], [8]), ([9], [9]), ([6, 10], [6, 10]), ([], []), ([12], [12]), ([13, 9], [13]), ([11, 14], [11, 14]), ([15, 14, 0, 1, 2, 3, 4, 5, 6, 7, 8, 9, 10, 11, 12, 13, 14, 15], [15])])
def impl_ReadDate.B8 : List Nat := [0, 1, 0, 4, 12, 28, 63, 0, 128, 412, 924, 2047, 0, 4096, 13212, 32767, 65535]
theorem impl_ReadDate.tab8 : rtab .any (opsOf Tryd.f37 8) = impl_ReadDate.T8 := by kernel_rfl
theorem impl_ReadDate.bits8 : waitsOk impl_ReadDate.T8.2 impl_ReadDate.B8 = true := by kernel_rfl
set_option maxHeartbeats 8000000 in
set_option maxRecDepth 100000 in
theorem impl_ReadDate.calls (k : Nat) (a0 : ByteArray) (r1 : Int) (r2 : Bool) (w : World) (hGErr : GErr w) (hGMax : GMax w) (hGPow : GPow w) (h : impl_ReadDate.f k a0 = some (r1, r2)) :
  Calls Tryd.prog 37 #[.string a0] w fun e w' => e = .returned (.tuple #[.int .i64 r1, .bool r2]) ∧ Below w.heap.size w w' := by
 have HGErr := Aside0.mk hGErr
 clear hGErr
 have HGMax := Aside0.mk hGMax
 clear hGMax
 have HGPow := Aside0.mk hGPow
 clear hGPow
 have HB := Aside0.mk (Below.refl w.heap.size w)
 have H : ((strings_Split.f a0 (⟨#[32]⟩ : ByteArray)).bind fun t101 => (if (t101.length : Int) = 6 then (if (a0.size : Int) = 29 then (if 4 < (t101.length : Int) then (if ((rdOf ByteArray.empty t101 4).size : Int) = 8 then (if 3 < (t101.length : Int) then (impl_ReadDate.j0 k a0 t101 (((rdOf ByteArray.empty t101 3).size : Int) != 4)) else (none)) else (impl_ReadDate.j0 k a0 t101 true)) else (none)) else (impl_ReadDate.j0 k a0 t101 true)) else (impl_ReadDate.j0 k a0 t101 true))) = some (r1, r2) := h
 clear h
 replace H := Option.bind_eq_some_iff.mp H
 obtain ⟨t101, A20, H⟩ := H
 try dsimp only at H
 have A2 := Aside0.mk A20
 clear A20
 have HC3 := Aside0.mk H
 clear H
 go_enter Tryd.func37, Tryd.ntmps37
 go_upto_region 2 with (first | ((with_reducible refine gate_callee (f := 85) rfl ?_); refine goesL_ (some 9) rfl rfl Tryd.func85 (by kernel_rfl) rfl #[.string a0, .string (⟨#[32]⟩ : ByteArray)] rfl am ?_; (with_reducible refine (strings_Split.calls a0 (⟨#[32]⟩ : ByteArray) t101 _ ?side1 A2.out).mono ?_); (case side1 => refine GMax.of_below HGMax.out ?_; repeat (first | (with_reducible first | exact HB.out | apply below_alloc | apply pw_below_drewN | apply below_drew1) | exact HB.out)); rintro e w4 ⟨v102, rfl, ho0, hb⟩; refine ⟨_, rfl, ?_⟩; have n0_ := Aside0.mk (Kd.R_lower ho0 (below_size bq)); have n1_ := Aside0.mk (below_step bq hb); clear HB; have HO103 := n0_; have HB := n1_; clear n0_ n1_; (try clear hb); (try clear hb2); (try clear hk); (try clear hi); (try clear ho0)))
 (try simp only [Act.put, List.setIfInBounds_toArray, List.set_cons_zero, List.set_cons_succ])
 go_cut [31] (fun v31 wc => ∃ (kq : Nat) (x31_2 : Bool), v31 = .bool x31_2 ∧ Aside0 (impl_ReadDate.j0 kq a0 t101 x31_2 = some (r1, r2)) ∧ Aside0 (kq ≤ k) ∧ Aside0 (Kd.R Kd.string 9 wc w.heap.size (fun _ => True) v102 t101) ∧ Aside0 (Below w.heap.size w wc))
 case first =>
  have H := HC3.out
  clear HC3
  by_cases c5 : (t101.length : Int) = 6
  ·rw [if_pos c5] at H
   have c5b0 : ((t101.length : Int) == 6) = true := beq_iff_eq.mpr c5
   have c5b1 : ((t101.length : Int) != 6) = false := bne_eq_false_iff_eq.mpr c5
   clear c5
   (first | rw [c5b0] | (simp only [i64_w, i32_w]; rw [c5b0]) | skip)
   by_cases c6 : (a0.size : Int) = 29
   ·rw [if_pos c6] at H
    have c6b0 : ((a0.size : Int) == 29) = true := beq_iff_eq.mpr c6
    have c6b1 : ((a0.size : Int) != 29) = false := bne_eq_false_iff_eq.mpr c6
    clear c6
    by_cases c7 : 4 < (t101.length : Int)
    ·rw [if_pos c7] at H
     have c7b0 : decide (4 < (t101.length : Int)) = true := decide_eq_true c7
     have c7b1 : decide (4 < t101.length) = true := decide_eq_true (by omega)
     clear c7
     by_cases c8 : ((rdOf ByteArray.empty t101 4).size : Int) = 8
     ·rw [if_pos c8] at H
      have c8b0 : (((rdOf ByteArray.empty t101 4).size : Int) == 8) = true := beq_iff_eq.mpr c8
      have c8b1 : (((rdOf ByteArray.empty t101 4).size : Int) != 8) = false := bne_eq_false_iff_eq.mpr c8
      clear c8
      by_cases c9 : 3 < (t101.length : Int)
      ·rw [if_pos c9] at H
       have c9b0 : decide (3 < (t101.length : Int)) = true := decide_eq_true c9
       have c9b1 : decide (3 < t101.length) = true := decide_eq_true (by omega)
       clear c9
       have H' := Aside0.mk H
       clear H
       obtain ⟨Ao10, co10, eo10⟩ := Kd.R_slice HO103.out
       subst eo10
       have p104 : 0 ≤ (4 : Int) := (by omega)
       have q104 : 4 < (t101.length : Int) := of_decide_eq_true asm
       obtain ⟨ad104, e104, hx104_0⟩ := Kd.at_string (Kd.R_reads' HO103.out).2.2 4 p104 q104
       cases e104
       (try simp only [show (4 : Int).toNat = 4 from rfl, Nat.reduceMul, Nat.reduceEqDiff, Go.Addr.add, ↓reduceIte] at hx104_0)
       have qi104 : (4 < t101.length) = True := eq_true (by omega)
       (try rw [show ((4 : Int)).toNat = 4 from rfl] at hx104_0)
       replace p104 := eq_true p104
       replace q104 := eq_true q104
       have p105 : 0 ≤ (3 : Int) := (by omega)
       have q105 : 3 < (t101.length : Int) := of_decide_eq_true asm
       obtain ⟨ad105, e105, hx105_0⟩ := Kd.at_string (Kd.R_reads' HO103.out).2.2 3 p105 q105
       obtain rfl : ad104 = ad105 := (by injection e105)
       (try simp only [show (3 : Int).toNat = 3 from rfl, Nat.reduceMul, Nat.reduceEqDiff, Go.Addr.add, ↓reduceIte] at hx105_0)
       have qi105 : (3 < t101.length) = True := eq_true (by omega)
       (try rw [show ((3 : Int)).toNat = 3 from rfl] at hx105_0)
       replace p105 := eq_true p105
       replace q105 := eq_true q105
       go_wp2
       go_meet
       case rel => exact ⟨_, ((((rdOf ByteArray.empty t101 3).size : Int) != 4)), (by first | rfl | (simp; done) | (simp [*]; done)), H', ⟨by first | omega | exact Nat.le_refl _⟩, ⟨by (with_reducible repeat (first | apply Kd.R_alloc | apply Kd.R_drewN | apply Kd.R_drew)); exact HO103.out⟩, ⟨by repeat (first | (with_reducible first | exact HB.out | apply below_alloc | apply pw_below_drewN | apply below_drew1) | exact HB.out)⟩⟩
      ·rw [if_neg c9] at H
       exact absurd H (by simp)
     ·rw [if_neg c8] at H
      have c8b0 : (((rdOf ByteArray.empty t101 4).size : Int) == 8) = false := beq_eq_false_iff_ne.mpr c8
      have c8b1 : (((rdOf ByteArray.empty t101 4).size : Int) != 8) = true := bne_iff_ne.mpr c8
      have H' := Aside0.mk H
      clear H
      obtain ⟨Ao11, co11, eo11⟩ := Kd.R_slice HO103.out
      subst eo11
      have p104 : 0 ≤ (4 : Int) := (by omega)
      have q104 : 4 < (t101.length : Int) := of_decide_eq_true asm
      obtain ⟨ad104, e104, hx104_0⟩ := Kd.at_string (Kd.R_reads' HO103.out).2.2 4 p104 q104
      cases e104
      (try simp only [show (4 : Int).toNat = 4 from rfl, Nat.reduceMul, Nat.reduceEqDiff, Go.Addr.add, ↓reduceIte] at hx104_0)
      have qi104 : (4 < t101.length) = True := eq_true (by omega)
      (try rw [show ((4 : Int)).toNat = 4 from rfl] at hx104_0)
      replace p104 := eq_true p104
      replace q104 := eq_true q104
      go_wp2
      go_meet
      case rel => exact ⟨_, (true), (by first | rfl | (simp; done) | (simp [*]; done)), H', ⟨by first | omega | exact Nat.le_refl _⟩, ⟨by (with_reducible repeat (first | apply Kd.R_alloc | apply Kd.R_drewN | apply Kd.R_drew)); exact HO103.out⟩, ⟨by repeat (first | (with_reducible first | exact HB.out | apply below_alloc | apply pw_below_drewN | apply below_drew1) | exact HB.out)⟩⟩
    ·rw [if_neg c7] at H
     exact absurd H (by simp)
   ·rw [if_neg c6] at H
    have c6b0 : ((a0.size : Int) == 29) = false := beq_eq_false_iff_ne.mpr c6
    have c6b1 : ((a0.size : Int) != 29) = true := bne_iff_ne.mpr c6
    have H' := Aside0.mk H
    clear H
    obtain ⟨Ao12, co12, eo12⟩ := Kd.R_slice HO103.out
    subst eo12
    go_wp2
    go_meet
    case rel => exact ⟨_, (true), (by first | rfl | (simp; done) | (simp [*]; done)), H', ⟨by first | omega | exact Nat.le_refl _⟩, ⟨by (with_reducible repeat (first | apply Kd.R_alloc | apply Kd.R_drewN | apply Kd.R_drew)); exact HO103.out⟩, ⟨by repeat (first | (with_reducible first | exact HB.out | apply below_alloc | apply pw_below_drewN | apply below_drew1) | exact HB.out)⟩⟩
  ·rw [if_neg c5] at H
   have c5b0 : ((t101.length : Int) == 6) = false := beq_eq_false_iff_ne.mpr c5
   have c5b1 : ((t101.length : Int) != 6) = true := bne_iff_ne.mpr c5
   (first | rw [c5b0] | (simp only [i64_w, i32_w]; rw [c5b0]) | skip)
   have H' := Aside0.mk H
   clear H
   obtain ⟨Ao13, co13, eo13⟩ := Kd.R_slice HO103.out
   subst eo13
   go_wp2
   go_meet
   case rel => exact ⟨_, (true), (by first | rfl | (simp; done) | (simp [*]; done)), H', ⟨by first | omega | exact Nat.le_refl _⟩, ⟨by (with_reducible repeat (first | apply Kd.R_alloc | apply Kd.R_drewN | apply Kd.R_drew)); exact HO103.out⟩, ⟨by repeat (first | (with_reducible first | exact HB.out | apply below_alloc | apply pw_below_drewN | apply below_drew1) | exact HB.out)⟩⟩
 case rest =>
  clear HC3
  try clear p1
  try clear q1
  try clear hx1
  try clear qi1
  try clear p2
  try clear c3
  try clear c5
  try clear c5b0
  try clear c5b1
  try clear c6
  try clear c6b0
  try clear c6b1
  try clear c7
  try clear c7b0
  try clear c7b1
  try clear c8
  try clear c8b0
  try clear c8b1
  try clear c9
  try clear c9b0
  try clear c9b1
  try clear p10
  try clear q10
  try clear hx10
  try clear qi10
  try clear hx104_0
  try clear hx105_0
  try clear p104
  try clear p105
  try clear q104
  try clear q105
  obtain ⟨kq, x31_2, rfl, HA, HJ2, HO_4, HB⟩ := hcut
  cases kq with
  | zero => exact absurd HA.out (by simp [impl_ReadDate.j0])
  | succ kj2 =>
   have H := HA.out
   clear HA
   simp only [impl_ReadDate.j0] at H
   by_cases c14 : x31_2 = true
   ·subst c14
    rw [if_pos rfl] at H
    simp only [Option.some.injEq, Prod.mk.injEq] at H
    obtain ⟨rfl, rfl⟩ := H
    go_wp2
    go_ret2
    exact ⟨by first | rfl | (simp [errW_none, errW_some] <;> rfl) | (simp [*, errW_none, errW_some] <;> rfl), bq⟩
   ·replace c14 := Bool.eq_false_iff.mpr c14
    subst c14
    rw [if_neg (show ¬ (false = true) by decide)] at H
    by_cases c15 : 4 < (t101.length : Int)
    ·rw [if_pos c15] at H
     have c15b0 : decide (4 < (t101.length : Int)) = true := decide_eq_true c15
     have c15b1 : decide (4 < t101.length) = true := decide_eq_true (by omega)
     clear c15
     by_cases c16 : 3 < (t101.length : Int)
     ·rw [if_pos c16] at H
      have c16b0 : decide (3 < (t101.length : Int)) = true := decide_eq_true c16
      have c16b1 : decide (3 < t101.length) = true := decide_eq_true (by omega)
      clear c16
      replace H := Option.bind_eq_some_iff.mp H
      obtain ⟨t108, A170, H⟩ := H
      try dsimp only at H
      have A17 := Aside0.mk A170
      clear A170
      replace H := Option.bind_eq_some_iff.mp H
      obtain ⟨t109, A180, H⟩ := H
      try dsimp only at H
      have A18 := Aside0.mk A180
      clear A180
      by_cases c19 : 2 < (t101.length : Int)
      ·rw [if_pos c19] at H
       have c19b0 : decide (2 < (t101.length : Int)) = true := decide_eq_true c19
       have c19b1 : decide (2 < t101.length) = true := decide_eq_true (by omega)
       clear c19
       replace H := Option.bind_eq_some_iff.mp H
       obtain ⟨t113, A200, H⟩ := H
       try dsimp only at H
       have A20 := Aside0.mk A200
       clear A200
       by_cases c21 : 1 < (t101.length : Int)
       ·rw [if_pos c21] at H
        have c21b0 : decide (1 < (t101.length : Int)) = true := decide_eq_true c21
        have c21b1 : decide (1 < t101.length) = true := decide_eq_true (by omega)
        clear c21
        replace H := Option.bind_eq_some_iff.mp H
        obtain ⟨t115, A220, H⟩ := H
        try dsimp only at H
        have A22 := Aside0.mk A220
        clear A220
        replace H := Option.bind_eq_some_iff.mp H
        obtain ⟨t116, A230, H⟩ := H
        try dsimp only at H
        have A23 := Aside0.mk A230
        clear A230
        by_cases c24 : t116 < 0
        ·rw [if_pos c24] at H
         have c24b0 : decide (t116 < 0) = true := decide_eq_true c24
         clear c24
         simp only [Option.some.injEq, Prod.mk.injEq] at H
         obtain ⟨rfl, rfl⟩ := H
         obtain ⟨Ao25, co25, eo25⟩ := Kd.R_slice HO_4.out
         subst eo25
         have p106 : 0 ≤ (4 : Int) := (by omega)
         have q106 : 4 < (t101.length : Int) := of_decide_eq_true asm
         obtain ⟨ad106, e106, hx106_0⟩ := Kd.at_string (Kd.R_reads' HO_4.out).2.2 4 p106 q106
         cases e106
         (try simp only [show (4 : Int).toNat = 4 from rfl, Nat.reduceMul, Nat.reduceEqDiff, Go.Addr.add, ↓reduceIte] at hx106_0)
         have qi106 : (4 < t101.length) = True := eq_true (by omega)
         (try rw [show ((4 : Int)).toNat = 4 from rfl] at hx106_0)
         replace p106 := eq_true p106
         replace q106 := eq_true q106
         try go_wp2
         have n0_ := Aside0.mk (Kd.R_drew HO_4.out)
         have n1_ := Aside0.mk (below_drew1 HB.out)
         clear HO_4
         clear HB
         have HO_4 := n0_
         have HB := n1_
         clear n0_ n1_
         have p107 : 0 ≤ (3 : Int) := (by omega)
         have q107 : 3 < (t101.length : Int) := of_decide_eq_true asm
         obtain ⟨ad107, e107, hx107_0⟩ := Kd.at_string (Kd.R_reads' HO_4.out).2.2 3 p107 q107
         obtain rfl : ad106 = ad107 := (by injection e107)
         (try simp only [show (3 : Int).toNat = 3 from rfl, Nat.reduceMul, Nat.reduceEqDiff, Go.Addr.add, ↓reduceIte] at hx107_0)
         have qi107 : (3 < t101.length) = True := eq_true (by omega)
         (try rw [show ((3 : Int)).toNat = 3 from rfl] at hx107_0)
         replace p107 := eq_true p107
         replace q107 := eq_true q107
         have p112 : 0 ≤ (2 : Int) := (by omega)
         have q112 : 2 < (t101.length : Int) := of_decide_eq_true asm
         obtain ⟨ad112, e112, hx112_0⟩ := Kd.at_string (Kd.R_reads' HO_4.out).2.2 2 p112 q112
         obtain rfl : ad106 = ad112 := (by injection e112)
         (try simp only [show (2 : Int).toNat = 2 from rfl, Nat.reduceMul, Nat.reduceEqDiff, Go.Addr.add, ↓reduceIte] at hx112_0)
         have qi112 : (2 < t101.length) = True := eq_true (by omega)
         (try rw [show ((2 : Int)).toNat = 2 from rfl] at hx112_0)
         replace p112 := eq_true p112
         replace q112 := eq_true q112
         have p114 : 0 ≤ (1 : Int) := (by omega)
         have q114 : 1 < (t101.length : Int) := of_decide_eq_true asm
         obtain ⟨ad114, e114, hx114_0⟩ := Kd.at_string (Kd.R_reads' HO_4.out).2.2 1 p114 q114
         obtain rfl : ad106 = ad114 := (by injection e114)
         (try simp only [show (1 : Int).toNat = 1 from rfl, Nat.reduceMul, Nat.reduceEqDiff, Go.Addr.add, ↓reduceIte] at hx114_0)
         have qi114 : (1 < t101.length) = True := eq_true (by omega)
         (try rw [show ((1 : Int)).toNat = 1 from rfl] at hx114_0)
         replace p114 := eq_true p114
         replace q114 := eq_true q114
         refine start_ (n := 16) (S := fun w' => w'.cell? ⟨ad106.block, ad106.off + 3, none⟩ = some (.string (rdOf ByteArray.empty t101 3)) ∧ w'.cell? ⟨ad106.block, ad106.off + 2, none⟩ = some (.string (rdOf ByteArray.empty t101 2)) ∧ w'.cell? ⟨ad106.block, ad106.off + 1, none⟩ = some (.string (rdOf ByteArray.empty t101 1))) (ds := []) (Array.replicate 16 false) (by kernel_rfl) rfl rfl ⟨hx107_0, hx112_0, hx114_0⟩ (fun hHeld => ?_); refine with_tabW impl_ReadDate.tab5 impl_ReadDate.bits5 (fun HT_ HW_ => ?_)
         generalize wc.drew = w26 at HO_4 HB hx107_0 hx112_0 hx114_0 hHeld ⊢
         refine pu 0 35 HT_ ?_
         refine pu 1 36 HT_ ?_
         refine pu 5 40 HT_ ?_
         refine pu 6 41 HT_ ?_
         refine pu 10 45 HT_ ?_
         refine pu 11 46 HT_ ?_
         refine tk 2 37 HT_ HW_ hHeld ?_ (hy := by rintro w' ⟨s0, s1, s2⟩; go_simp; with_reducible rfl)
         refine tk 7 42 HT_ HW_ hHeld ?_ (hy := by rintro w' ⟨s0, s1, s2⟩; go_simp; with_reducible rfl)
         refine tk 12 47 HT_ HW_ hHeld ?_ (hy := by rintro w' ⟨s0, s1, s2⟩; go_simp; with_reducible rfl)
         refine on1 3 38 HT_ (fun K hK => ?_)
         refine goes_ Tryd.func86 (by kernel_rfl) rfl #[.string (rdOf ByteArray.empty t101 3)] (by rfl) rfl rfl am ?_
         with_reducible refine (impl_number.calls kj2 (rdOf ByteArray.empty t101 3) t108 _ ?side1 A17.out).mono ?_
         (case side1 => refine GErr.of_below HGErr.out ?_; repeat (first | (with_reducible first | exact HB.out | apply below_alloc | apply pw_below_drewN | apply below_drew1) | exact HB.out))
         rintro e w27 ⟨rfl, hb⟩
         have HS0_ := (hb.cell (World.block_lt_of_cell? _ _ (hHeld.1))).trans (hHeld.1)
         have HS1_ := (hb.cell (World.block_lt_of_cell? _ _ (hHeld.2.1))).trans (hHeld.2.1)
         have HS2_ := (hb.cell (World.block_lt_of_cell? _ _ (hHeld.2.2))).trans (hHeld.2.2)
         refine ⟨_, rfl, ?_⟩
         have n0_ := Aside0.mk (Kd.R_below (by (with_reducible repeat (first | apply Kd.R_alloc | apply Kd.R_drewN | apply Kd.R_drew)); exact HO_4.out) hb)
         have n1_ := Aside0.mk (below_step bq hb)
         clear HO_4
         clear HB
         have HO_4 := n0_
         have HB := n1_
         clear n0_ n1_
         (try clear hb)
         (try clear hb2)
         (try clear hk)
         (try clear hi)
         refine hK.out _ _ ⟨HS0_, HS1_, HS2_⟩ (fun hHeld => ?_)
         clear hK K
         refine nrm 38 ?_
         refine on1 4 39 HT_ (fun K hK => ?_)
         refine goes_ Tryd.func84 (by kernel_rfl) rfl #[] (by rfl) rfl rfl am ?_
         with_reducible refine (impl_months.calls  t109 _ A18.out).mono ?_
         rintro e w28 ⟨v110, rfl, ho0, hb⟩
         have HS0_ := (hb.cell (World.block_lt_of_cell? _ _ (hHeld.1))).trans (hHeld.1)
         have HS1_ := (hb.cell (World.block_lt_of_cell? _ _ (hHeld.2.1))).trans (hHeld.2.1)
         have HS2_ := (hb.cell (World.block_lt_of_cell? _ _ (hHeld.2.2))).trans (hHeld.2.2)
         refine ⟨_, rfl, ?_⟩
         have n0_ := Aside0.mk (Kd.R_elder' (by (with_reducible repeat (first | apply Kd.R_alloc | apply Kd.R_drewN | apply Kd.R_drew)); exact HO_4.out) (Kd.R_base ho0) hb)
         have n1_ := Aside0.mk (Kd.R_lower (Kd.R_new' ho0 (Kd.R_lt (by (with_reducible repeat (first | apply Kd.R_alloc | apply Kd.R_drewN | apply Kd.R_drew)); exact HO_4.out))) (below_size bq))
         have n2_ := Aside0.mk (below_step bq hb)
         clear HO_4
         clear HB
         have HO_4 := n0_
         have HO111 := n1_
         have HB := n2_
         clear n0_ n1_ n2_
         (try clear hb)
         (try clear hb2)
         (try clear hk)
         (try clear hi)
         (try clear ho0)
         obtain ⟨Ao29, co29, eo29⟩ := Kd.R_slice HO111.out
         (first | subst eo29 | (injection eo29 with f1_ f2_ f3_; have f4_ := f1_.symm; have f5_ := f3_.symm; clear f1_ f2_ f3_; subst f4_; subst f5_))
         refine hK.out _ _ ⟨HS0_, HS1_, HS2_⟩ (fun hHeld => ?_)
         clear hK K
         refine nrm 39 ?_
         refine on1 8 43 HT_ (fun K hK => ?_)
         refine goes_ Tryd.func87 (by kernel_rfl) rfl #[.slice Ao29 t109.length co29, .string (rdOf ByteArray.empty t101 2)] (by rfl) rfl rfl am ?_
         with_reducible refine (slices_Index_string_string.calls kj2 _ _ t109 (rdOf ByteArray.empty t101 2) t113 _ ?side1 ?side2 A20.out).mono ?_
         (case side1 => repeat (first | exact (Kd.R_reads' HO111.out).2.2 | (with_reducible refine Kd.C_alloc ?_ _) | (with_reducible refine Kd.C_drewN ?_ _) | (with_reducible refine Kd.C_drew ?_)))
         (case side2 => exact (Kd.R_reads' HO111.out).2.1)
         rintro e w' ⟨rfl, ⟨nd, rfl⟩⟩
         refine ⟨_, rfl, ?_⟩
         refine hK.out _ _ ⟨hHeld.1, hHeld.2.1, hHeld.2.2⟩ (fun hHeld => ?_)
         clear hK K
         refine nrm 43 ?_
         refine pu 9 44 HT_ ?_
         refine on1 13 48 HT_ (fun K hK => ?_)
         refine goes_ Tryd.func86 (by kernel_rfl) rfl #[.string (rdOf ByteArray.empty t101 1)] (by rfl) rfl rfl am ?_
         with_reducible refine (impl_number.calls kj2 (rdOf ByteArray.empty t101 1) t115 _ ?side1 A22.out).mono ?_
         (case side1 => refine GErr.of_below HGErr.out ?_; repeat (first | (with_reducible first | exact HB.out | apply below_alloc | apply pw_below_drewN | apply below_drew1) | exact HB.out))
         rintro e w30 ⟨rfl, hb⟩
         have HS0_ := (hb.cell (World.block_lt_of_cell? _ _ (hHeld.1))).trans (hHeld.1)
         have HS1_ := (hb.cell (World.block_lt_of_cell? _ _ (hHeld.2.1))).trans (hHeld.2.1)
         have HS2_ := (hb.cell (World.block_lt_of_cell? _ _ (hHeld.2.2))).trans (hHeld.2.2)
         refine ⟨_, rfl, ?_⟩
         have n0_ := Aside0.mk (Kd.R_below (by (with_reducible repeat (first | apply Kd.R_alloc | apply Kd.R_drewN | apply Kd.R_drew)); exact HO_4.out) hb)
         have n1_ := Aside0.mk (Kd.R_below (by (with_reducible repeat (first | apply Kd.R_alloc | apply Kd.R_drewN | apply Kd.R_drew)); exact HO111.out) hb)
         have n2_ := Aside0.mk (below_step bq hb)
         clear HO_4
         clear HO111
         clear HB
         have HO_4 := n0_
         have HO111 := n1_
         have HB := n2_
         clear n0_ n1_ n2_
         (try clear hb)
         (try clear hb2)
         (try clear hk)
         (try clear hi)
         refine hK.out _ _ ⟨HS0_, HS1_, HS2_⟩ (fun hHeld => ?_)
         clear hK K
         refine nrm 48 ?_
         refine on1 14 49 HT_ (fun K hK => ?_)
         refine goes_ Tryd.func39 (by kernel_rfl) rfl #[.int .i64 t108, .int .i64 (wrap64 (t113 + 1)), .int .i64 t115] (by rfl) rfl rfl am ?_
         with_reducible refine (impl_DaysOf.calls kj2 t108 (wrap64 (t113 + 1)) t115 t116 _ A23.out).mono ?_
         rintro e w31 ⟨rfl, hb⟩
         have HS0_ := (hb.cell (World.block_lt_of_cell? _ _ (hHeld.1))).trans (hHeld.1)
         have HS1_ := (hb.cell (World.block_lt_of_cell? _ _ (hHeld.2.1))).trans (hHeld.2.1)
         have HS2_ := (hb.cell (World.block_lt_of_cell? _ _ (hHeld.2.2))).trans (hHeld.2.2)
         refine ⟨_, rfl, ?_⟩
         have n0_ := Aside0.mk (Kd.R_below (by (with_reducible repeat (first | apply Kd.R_alloc | apply Kd.R_drewN | apply Kd.R_drew)); exact HO_4.out) hb)
         have n1_ := Aside0.mk (Kd.R_below (by (with_reducible repeat (first | apply Kd.R_alloc | apply Kd.R_drewN | apply Kd.R_drew)); exact HO111.out) hb)
         have n2_ := Aside0.mk (below_step bq hb)
         clear HO_4
         clear HO111
         clear HB
         have HO_4 := n0_
         have HO111 := n1_
         have HB := n2_
         clear n0_ n1_ n2_
         (try clear hb)
         (try clear hb2)
         (try clear hk)
         (try clear hi)
         refine hK.out _ _ ⟨HS0_, HS1_, HS2_⟩ (fun hHeld => ?_)
         clear hK K
         refine nrm 49 ?_
         refine pu 15 6 HT_ ?_
         refine done_ (done_of HT_.out (by kernel_rfl)) ?_
         try go_wp2
         go_ret2
         exact ⟨by first | rfl | (simp [errW_none, errW_some] <;> rfl) | (simp [*, errW_none, errW_some] <;> rfl), bq⟩
        ·rw [if_neg c24] at H
         have c24b0 : decide (t116 < 0) = false := decide_eq_false c24
         clear c24
         by_cases c32 : 0 ≤ 2
         ·rw [if_pos c32] at H
          have c32b0 := eq_true c32
          have c32b1 : decide (0 ≤ 2) = true := decide_eq_true c32
          clear c32
          by_cases c33 : 2 ≤ ((rdOf ByteArray.empty t101 4).size : Int)
          ·rw [if_pos c33] at H
           have c33b0 := eq_true c33
           have c33b1 : decide (2 ≤ ((rdOf ByteArray.empty t101 4).size : Int)) = true := decide_eq_true c33
           clear c33
           replace H := Option.bind_eq_some_iff.mp H
           obtain ⟨t117, A340, H⟩ := H
           try dsimp only at H
           have A34 := Aside0.mk A340
           clear A340
           by_cases c35 : 3 ≤ 5
           ·rw [if_pos c35] at H
            have c35b0 := eq_true c35
            have c35b1 : decide (3 ≤ 5) = true := decide_eq_true c35
            clear c35
            by_cases c36 : 5 ≤ ((rdOf ByteArray.empty t101 4).size : Int)
            ·rw [if_pos c36] at H
             have c36b0 := eq_true c36
             have c36b1 : decide (5 ≤ ((rdOf ByteArray.empty t101 4).size : Int)) = true := decide_eq_true c36
             clear c36
             replace H := Option.bind_eq_some_iff.mp H
             obtain ⟨t118, A370, H⟩ := H
             try dsimp only at H
             have A37 := Aside0.mk A370
             clear A370
             by_cases c38 : 6 ≤ ((rdOf ByteArray.empty t101 4).size : Int)
             ·rw [if_pos c38] at H
              have c38b0 := eq_true c38
              have c38b1 : decide (6 ≤ ((rdOf ByteArray.empty t101 4).size : Int)) = true := decide_eq_true c38
              clear c38
              replace H := Option.bind_eq_some_iff.mp H
              obtain ⟨t119, A390, H⟩ := H
              try dsimp only at H
              have A39 := Aside0.mk A390
              clear A390
              replace H := Option.bind_eq_some_iff.mp H
              obtain ⟨t120, A400, H⟩ := H
              try dsimp only at H
              have A40 := Aside0.mk A400
              clear A400
              by_cases c41 : t120.toList = a0.toList
              ·rw [if_pos c41] at H
               have c41b0 : (t120.toList == a0.toList) = true := beq_iff_eq.mpr c41
               have c41b1 : (t120.toList != a0.toList) = false := bne_eq_false_iff_eq.mpr c41
               clear c41
               simp only [Option.some.injEq, Prod.mk.injEq] at H
               obtain ⟨rfl, rfl⟩ := H
               obtain ⟨Ao42, co42, eo42⟩ := Kd.R_slice HO_4.out
               subst eo42
               have p106 : 0 ≤ (4 : Int) := (by omega)
               have q106 : 4 < (t101.length : Int) := of_decide_eq_true asm
               obtain ⟨ad106, e106, hx106_0⟩ := Kd.at_string (Kd.R_reads' HO_4.out).2.2 4 p106 q106
               cases e106
               (try simp only [show (4 : Int).toNat = 4 from rfl, Nat.reduceMul, Nat.reduceEqDiff, Go.Addr.add, ↓reduceIte] at hx106_0)
               have qi106 : (4 < t101.length) = True := eq_true (by omega)
               (try rw [show ((4 : Int)).toNat = 4 from rfl] at hx106_0)
               replace p106 := eq_true p106
               replace q106 := eq_true q106
               try go_wp2
               have n0_ := Aside0.mk (Kd.R_drew HO_4.out)
               have n1_ := Aside0.mk (below_drew1 HB.out)
               clear HO_4
               clear HB
               have HO_4 := n0_
               have HB := n1_
               clear n0_ n1_
               have p107 : 0 ≤ (3 : Int) := (by omega)
               have q107 : 3 < (t101.length : Int) := of_decide_eq_true asm
               obtain ⟨ad107, e107, hx107_0⟩ := Kd.at_string (Kd.R_reads' HO_4.out).2.2 3 p107 q107
               obtain rfl : ad106 = ad107 := (by injection e107)
               (try simp only [show (3 : Int).toNat = 3 from rfl, Nat.reduceMul, Nat.reduceEqDiff, Go.Addr.add, ↓reduceIte] at hx107_0)
               have qi107 : (3 < t101.length) = True := eq_true (by omega)
               (try rw [show ((3 : Int)).toNat = 3 from rfl] at hx107_0)
               replace p107 := eq_true p107
               replace q107 := eq_true q107
               have p112 : 0 ≤ (2 : Int) := (by omega)
               have q112 : 2 < (t101.length : Int) := of_decide_eq_true asm
               obtain ⟨ad112, e112, hx112_0⟩ := Kd.at_string (Kd.R_reads' HO_4.out).2.2 2 p112 q112
               obtain rfl : ad106 = ad112 := (by injection e112)
               (try simp only [show (2 : Int).toNat = 2 from rfl, Nat.reduceMul, Nat.reduceEqDiff, Go.Addr.add, ↓reduceIte] at hx112_0)
               have qi112 : (2 < t101.length) = True := eq_true (by omega)
               (try rw [show ((2 : Int)).toNat = 2 from rfl] at hx112_0)
               replace p112 := eq_true p112
               replace q112 := eq_true q112
               have p114 : 0 ≤ (1 : Int) := (by omega)
               have q114 : 1 < (t101.length : Int) := of_decide_eq_true asm
               obtain ⟨ad114, e114, hx114_0⟩ := Kd.at_string (Kd.R_reads' HO_4.out).2.2 1 p114 q114
               obtain rfl : ad106 = ad114 := (by injection e114)
               (try simp only [show (1 : Int).toNat = 1 from rfl, Nat.reduceMul, Nat.reduceEqDiff, Go.Addr.add, ↓reduceIte] at hx114_0)
               have qi114 : (1 < t101.length) = True := eq_true (by omega)
               (try rw [show ((1 : Int)).toNat = 1 from rfl] at hx114_0)
               replace p114 := eq_true p114
               replace q114 := eq_true q114
               refine start_ (n := 16) (S := fun w' => w'.cell? ⟨ad106.block, ad106.off + 3, none⟩ = some (.string (rdOf ByteArray.empty t101 3)) ∧ w'.cell? ⟨ad106.block, ad106.off + 2, none⟩ = some (.string (rdOf ByteArray.empty t101 2)) ∧ w'.cell? ⟨ad106.block, ad106.off + 1, none⟩ = some (.string (rdOf ByteArray.empty t101 1))) (ds := []) (Array.replicate 16 false) (by kernel_rfl) rfl rfl ⟨hx107_0, hx112_0, hx114_0⟩ (fun hHeld => ?_); refine with_tabW impl_ReadDate.tab5 impl_ReadDate.bits5 (fun HT_ HW_ => ?_)
               generalize wc.drew = w43 at HO_4 HB hx107_0 hx112_0 hx114_0 hHeld ⊢
               refine pu 0 35 HT_ ?_
               refine pu 1 36 HT_ ?_
               refine pu 5 40 HT_ ?_
               refine pu 6 41 HT_ ?_
               refine pu 10 45 HT_ ?_
               refine pu 11 46 HT_ ?_
               refine tk 2 37 HT_ HW_ hHeld ?_ (hy := by rintro w' ⟨s0, s1, s2⟩; go_simp; with_reducible rfl)
               refine tk 7 42 HT_ HW_ hHeld ?_ (hy := by rintro w' ⟨s0, s1, s2⟩; go_simp; with_reducible rfl)
               refine tk 12 47 HT_ HW_ hHeld ?_ (hy := by rintro w' ⟨s0, s1, s2⟩; go_simp; with_reducible rfl)
               refine on1 3 38 HT_ (fun K hK => ?_)
               refine goes_ Tryd.func86 (by kernel_rfl) rfl #[.string (rdOf ByteArray.empty t101 3)] (by rfl) rfl rfl am ?_
               with_reducible refine (impl_number.calls kj2 (rdOf ByteArray.empty t101 3) t108 _ ?side1 A17.out).mono ?_
               (case side1 => refine GErr.of_below HGErr.out ?_; repeat (first | (with_reducible first | exact HB.out | apply below_alloc | apply pw_below_drewN | apply below_drew1) | exact HB.out))
               rintro e w44 ⟨rfl, hb⟩
               have HS0_ := (hb.cell (World.block_lt_of_cell? _ _ (hHeld.1))).trans (hHeld.1)
               have HS1_ := (hb.cell (World.block_lt_of_cell? _ _ (hHeld.2.1))).trans (hHeld.2.1)
               have HS2_ := (hb.cell (World.block_lt_of_cell? _ _ (hHeld.2.2))).trans (hHeld.2.2)
               refine ⟨_, rfl, ?_⟩
               have n0_ := Aside0.mk (Kd.R_below (by (with_reducible repeat (first | apply Kd.R_alloc | apply Kd.R_drewN | apply Kd.R_drew)); exact HO_4.out) hb)
               have n1_ := Aside0.mk (below_step bq hb)
               clear HO_4
               clear HB
               have HO_4 := n0_
               have HB := n1_
               clear n0_ n1_
               (try clear hb)
               (try clear hb2)
               (try clear hk)
               (try clear hi)
               refine hK.out _ _ ⟨HS0_, HS1_, HS2_⟩ (fun hHeld => ?_)
               clear hK K
               refine nrm 38 ?_
               refine on1 4 39 HT_ (fun K hK => ?_)
               refine goes_ Tryd.func84 (by kernel_rfl) rfl #[] (by rfl) rfl rfl am ?_
               with_reducible refine (impl_months.calls  t109 _ A18.out).mono ?_
               rintro e w45 ⟨v110, rfl, ho0, hb⟩
               have HS0_ := (hb.cell (World.block_lt_of_cell? _ _ (hHeld.1))).trans (hHeld.1)
               have HS1_ := (hb.cell (World.block_lt_of_cell? _ _ (hHeld.2.1))).trans (hHeld.2.1)
               have HS2_ := (hb.cell (World.block_lt_of_cell? _ _ (hHeld.2.2))).trans (hHeld.2.2)
               refine ⟨_, rfl, ?_⟩
               have n0_ := Aside0.mk (Kd.R_elder' (by (with_reducible repeat (first | apply Kd.R_alloc | apply Kd.R_drewN | apply Kd.R_drew)); exact HO_4.out) (Kd.R_base ho0) hb)
               have n1_ := Aside0.mk (Kd.R_lower (Kd.R_new' ho0 (Kd.R_lt (by (with_reducible repeat (first | apply Kd.R_alloc | apply Kd.R_drewN | apply Kd.R_drew)); exact HO_4.out))) (below_size bq))
               have n2_ := Aside0.mk (below_step bq hb)
               clear HO_4
               clear HB
               have HO_4 := n0_
               have HO111 := n1_
               have HB := n2_
               clear n0_ n1_ n2_
               (try clear hb)
               (try clear hb2)
               (try clear hk)
               (try clear hi)
               (try clear ho0)
               obtain ⟨Ao46, co46, eo46⟩ := Kd.R_slice HO111.out
               (first | subst eo46 | (injection eo46 with f1_ f2_ f3_; have f4_ := f1_.symm; have f5_ := f3_.symm; clear f1_ f2_ f3_; subst f4_; subst f5_))
               refine hK.out _ _ ⟨HS0_, HS1_, HS2_⟩ (fun hHeld => ?_)
               clear hK K
               refine nrm 39 ?_
               refine on1 8 43 HT_ (fun K hK => ?_)
               refine goes_ Tryd.func87 (by kernel_rfl) rfl #[.slice Ao46 t109.length co46, .string (rdOf ByteArray.empty t101 2)] (by rfl) rfl rfl am ?_
               with_reducible refine (slices_Index_string_string.calls kj2 _ _ t109 (rdOf ByteArray.empty t101 2) t113 _ ?side1 ?side2 A20.out).mono ?_
               (case side1 => repeat (first | exact (Kd.R_reads' HO111.out).2.2 | (with_reducible refine Kd.C_alloc ?_ _) | (with_reducible refine Kd.C_drewN ?_ _) | (with_reducible refine Kd.C_drew ?_)))
               (case side2 => exact (Kd.R_reads' HO111.out).2.1)
               rintro e w' ⟨rfl, ⟨nd, rfl⟩⟩
               refine ⟨_, rfl, ?_⟩
               refine hK.out _ _ ⟨hHeld.1, hHeld.2.1, hHeld.2.2⟩ (fun hHeld => ?_)
               clear hK K
               refine nrm 43 ?_
               refine pu 9 44 HT_ ?_
               refine on1 13 48 HT_ (fun K hK => ?_)
               refine goes_ Tryd.func86 (by kernel_rfl) rfl #[.string (rdOf ByteArray.empty t101 1)] (by rfl) rfl rfl am ?_
               with_reducible refine (impl_number.calls kj2 (rdOf ByteArray.empty t101 1) t115 _ ?side1 A22.out).mono ?_
               (case side1 => refine GErr.of_below HGErr.out ?_; repeat (first | (with_reducible first | exact HB.out | apply below_alloc | apply pw_below_drewN | apply below_drew1) | exact HB.out))
               rintro e w47 ⟨rfl, hb⟩
               have HS0_ := (hb.cell (World.block_lt_of_cell? _ _ (hHeld.1))).trans (hHeld.1)
               have HS1_ := (hb.cell (World.block_lt_of_cell? _ _ (hHeld.2.1))).trans (hHeld.2.1)
               have HS2_ := (hb.cell (World.block_lt_of_cell? _ _ (hHeld.2.2))).trans (hHeld.2.2)
               refine ⟨_, rfl, ?_⟩
               have n0_ := Aside0.mk (Kd.R_below (by (with_reducible repeat (first | apply Kd.R_alloc | apply Kd.R_drewN | apply Kd.R_drew)); exact HO_4.out) hb)
               have n1_ := Aside0.mk (Kd.R_below (by (with_reducible repeat (first | apply Kd.R_alloc | apply Kd.R_drewN | apply Kd.R_drew)); exact HO111.out) hb)
               have n2_ := Aside0.mk (below_step bq hb)
               clear HO_4
               clear HO111
               clear HB
               have HO_4 := n0_
               have HO111 := n1_
               have HB := n2_
               clear n0_ n1_ n2_
               (try clear hb)
               (try clear hb2)
               (try clear hk)
               (try clear hi)
               refine hK.out _ _ ⟨HS0_, HS1_, HS2_⟩ (fun hHeld => ?_)
               clear hK K
               refine nrm 48 ?_
               refine on1 14 49 HT_ (fun K hK => ?_)
               refine goes_ Tryd.func39 (by kernel_rfl) rfl #[.int .i64 t108, .int .i64 (wrap64 (t113 + 1)), .int .i64 t115] (by rfl) rfl rfl am ?_
               with_reducible refine (impl_DaysOf.calls kj2 t108 (wrap64 (t113 + 1)) t115 t116 _ A23.out).mono ?_
               rintro e w48 ⟨rfl, hb⟩
               have HS0_ := (hb.cell (World.block_lt_of_cell? _ _ (hHeld.1))).trans (hHeld.1)
               have HS1_ := (hb.cell (World.block_lt_of_cell? _ _ (hHeld.2.1))).trans (hHeld.2.1)
               have HS2_ := (hb.cell (World.block_lt_of_cell? _ _ (hHeld.2.2))).trans (hHeld.2.2)
               refine ⟨_, rfl, ?_⟩
               have n0_ := Aside0.mk (Kd.R_below (by (with_reducible repeat (first | apply Kd.R_alloc | apply Kd.R_drewN | apply Kd.R_drew)); exact HO_4.out) hb)
               have n1_ := Aside0.mk (Kd.R_below (by (with_reducible repeat (first | apply Kd.R_alloc | apply Kd.R_drewN | apply Kd.R_drew)); exact HO111.out) hb)
               have n2_ := Aside0.mk (below_step bq hb)
               clear HO_4
               clear HO111
               clear HB
               have HO_4 := n0_
               have HO111 := n1_
               have HB := n2_
               clear n0_ n1_ n2_
               (try clear hb)
               (try clear hb2)
               (try clear hk)
               (try clear hi)
               refine hK.out _ _ ⟨HS0_, HS1_, HS2_⟩ (fun hHeld => ?_)
               clear hK K
               refine nrm 49 ?_
               refine pu 15 6 HT_ ?_
               refine done_ (done_of HT_.out (by kernel_rfl)) ?_
               try go_wp2
               have n0_ := Aside0.mk (Kd.R_drew HO_4.out)
               have n1_ := Aside0.mk (Kd.R_drew HO111.out)
               have n2_ := Aside0.mk (below_drew1 HB.out)
               clear HO_4
               clear HO111
               clear HB
               have HO_4 := n0_
               have HO111 := n1_
               have HB := n2_
               clear n0_ n1_ n2_
               refine start_ (n := 17) (S := fun w' => True) (ds := []) (Array.replicate 17 false) (by kernel_rfl) rfl rfl trivial (fun hHeld => ?_); refine with_tabW impl_ReadDate.tab8 impl_ReadDate.bits8 (fun HT_ HW_ => ?_)
               generalize w48.drew = w49 at HO_4 HO111 HB hHeld ⊢
               refine pu 0 52 HT_ ?_
               refine pu 1 53 HT_ ?_
               refine pu 2 54 HT_ ?_
               refine pu 3 55 HT_ ?_
               refine pu 7 59 HT_ ?_
               refine pu 8 60 HT_ ?_
               refine pu 12 64 HT_ ?_
               refine pu 13 65 HT_ ?_
               refine on1 4 56 HT_ (fun K hK => ?_)
               refine goes_ Tryd.func86 (by kernel_rfl) rfl #[.string ((rdOf ByteArray.empty t101 4).extract 0 2)] (by rfl) rfl rfl am ?_
               with_reducible refine (impl_number.calls kj2 ((rdOf ByteArray.empty t101 4).extract 0 2) t117 _ ?side1 A34.out).mono ?_
               (case side1 => refine GErr.of_below HGErr.out ?_; repeat (first | (with_reducible first | exact HB.out | apply below_alloc | apply pw_below_drewN | apply below_drew1) | exact HB.out))
               rintro e w50 ⟨rfl, hb⟩
               refine ⟨_, rfl, ?_⟩
               have n0_ := Aside0.mk (Kd.R_below (by (with_reducible repeat (first | apply Kd.R_alloc | apply Kd.R_drewN | apply Kd.R_drew)); exact HO_4.out) hb)
               have n1_ := Aside0.mk (Kd.R_below (by (with_reducible repeat (first | apply Kd.R_alloc | apply Kd.R_drewN | apply Kd.R_drew)); exact HO111.out) hb)
               have n2_ := Aside0.mk (below_step bq hb)
               clear HO_4
               clear HO111
               clear HB
               have HO_4 := n0_
               have HO111 := n1_
               have HB := n2_
               clear n0_ n1_ n2_
               (try clear hb)
               (try clear hb2)
               (try clear hk)
               (try clear hi)
               refine hK.out _ _ trivial (fun hHeld => ?_)
               clear hK K
               refine nrm 56 ?_
               refine pu 5 57 HT_ ?_
               refine pu 6 58 HT_ ?_
               refine on1 9 61 HT_ (fun K hK => ?_)
               refine goes_ Tryd.func86 (by kernel_rfl) rfl #[.string ((rdOf ByteArray.empty t101 4).extract 3 5)] (by rfl) rfl rfl am ?_
               with_reducible refine (impl_number.calls kj2 ((rdOf ByteArray.empty t101 4).extract 3 5) t118 _ ?side1 A37.out).mono ?_
               (case side1 => refine GErr.of_below HGErr.out ?_; repeat (first | (with_reducible first | exact HB.out | apply below_alloc | apply pw_below_drewN | apply below_drew1) | exact HB.out))
               rintro e w51 ⟨rfl, hb⟩
               refine ⟨_, rfl, ?_⟩
               have n0_ := Aside0.mk (Kd.R_below (by (with_reducible repeat (first | apply Kd.R_alloc | apply Kd.R_drewN | apply Kd.R_drew)); exact HO_4.out) hb)
               have n1_ := Aside0.mk (Kd.R_below (by (with_reducible repeat (first | apply Kd.R_alloc | apply Kd.R_drewN | apply Kd.R_drew)); exact HO111.out) hb)
               have n2_ := Aside0.mk (below_step bq hb)
               clear HO_4
               clear HO111
               clear HB
               have HO_4 := n0_
               have HO111 := n1_
               have HB := n2_
               clear n0_ n1_ n2_
               (try clear hb)
               (try clear hb2)
               (try clear hk)
               (try clear hi)
               refine hK.out _ _ trivial (fun hHeld => ?_)
               clear hK K
               refine nrm 61 ?_
               refine pu 10 62 HT_ ?_
               refine pu 11 63 HT_ ?_
               refine on1 14 66 HT_ (fun K hK => ?_)
               refine goes_ Tryd.func86 (by kernel_rfl) rfl #[.string ((rdOf ByteArray.empty t101 4).extract 6 (rdOf ByteArray.empty t101 4).size)] (by rfl) rfl rfl am ?_
               with_reducible refine (impl_number.calls kj2 ((rdOf ByteArray.empty t101 4).extract 6 (rdOf ByteArray.empty t101 4).size) t119 _ ?side1 A39.out).mono ?_
               (case side1 => refine GErr.of_below HGErr.out ?_; repeat (first | (with_reducible first | exact HB.out | apply below_alloc | apply pw_below_drewN | apply below_drew1) | exact HB.out))
               rintro e w52 ⟨rfl, hb⟩
               refine ⟨_, rfl, ?_⟩
               have n0_ := Aside0.mk (Kd.R_below (by (with_reducible repeat (first | apply Kd.R_alloc | apply Kd.R_drewN | apply Kd.R_drew)); exact HO_4.out) hb)
               have n1_ := Aside0.mk (Kd.R_below (by (with_reducible repeat (first | apply Kd.R_alloc | apply Kd.R_drewN | apply Kd.R_drew)); exact HO111.out) hb)
               have n2_ := Aside0.mk (below_step bq hb)
               clear HO_4
               clear HO111
               clear HB
               have HO_4 := n0_
               have HO111 := n1_
               have HB := n2_
               clear n0_ n1_ n2_
               (try clear hb)
               (try clear hb2)
               (try clear hk)
               (try clear hi)
               refine hK.out _ _ trivial (fun hHeld => ?_)
               clear hK K
               refine nrm 66 ?_
               refine pu 15 67 HT_ ?_
               refine pu 16 7 HT_ ?_
               refine done_ (done_of HT_.out (by kernel_rfl)) ?_
               try go_wp2_with (first | ((with_reducible refine gate_callee (f := 36) rfl ?_); refine goesL_ (some 69) rfl rfl Tryd.func36 (by kernel_rfl) rfl #[.int .i64 (wrap64 ((wrap64 ((wrap64 ((wrap64 (t116 * 86400)) + (wrap64 (3600 * t117)))) + (wrap64 (60 * t118)))) + t119))] rfl am ?_; (with_reducible refine (impl_ShowDate.calls kj2 (wrap64 ((wrap64 ((wrap64 ((wrap64 (t116 * 86400)) + (wrap64 (3600 * t117)))) + (wrap64 (60 * t118)))) + t119)) t120 _ ?side1 A40.out).mono ?_); (case side1 => refine GPow.of_below HGPow.out ?_; repeat (first | (with_reducible first | exact HB.out | apply below_alloc | apply pw_below_drewN | apply below_drew1) | exact HB.out)); rintro e w53 ⟨rfl, hb⟩; refine ⟨_, rfl, ?_⟩; have n0_ := Aside0.mk (Kd.R_below (by (with_reducible repeat (first | apply Kd.R_alloc | apply Kd.R_drewN | apply Kd.R_drew)); exact HO_4.out) hb); have n1_ := Aside0.mk (Kd.R_below (by (with_reducible repeat (first | apply Kd.R_alloc | apply Kd.R_drewN | apply Kd.R_drew)); exact HO111.out) hb); have n2_ := Aside0.mk (below_step bq hb); clear HO_4; clear HO111; clear HB; have HO_4 := n0_; have HO111 := n1_; have HB := n2_; clear n0_ n1_ n2_; (try clear hb); (try clear hb2); (try clear hk); (try clear hi)))
               go_ret2
               exact ⟨by first | rfl | (simp [errW_none, errW_some] <;> rfl) | (simp [*, errW_none, errW_some] <;> rfl), bq⟩
              ·rw [if_neg c41] at H
               have c41b0 : (t120.toList == a0.toList) = false := beq_eq_false_iff_ne.mpr c41
               have c41b1 : (t120.toList != a0.toList) = true := bne_iff_ne.mpr c41
               simp only [Option.some.injEq, Prod.mk.injEq] at H
               obtain ⟨rfl, rfl⟩ := H
               obtain ⟨Ao54, co54, eo54⟩ := Kd.R_slice HO_4.out
               subst eo54
               have p106 : 0 ≤ (4 : Int) := (by omega)
               have q106 : 4 < (t101.length : Int) := of_decide_eq_true asm
               obtain ⟨ad106, e106, hx106_0⟩ := Kd.at_string (Kd.R_reads' HO_4.out).2.2 4 p106 q106
               cases e106
               (try simp only [show (4 : Int).toNat = 4 from rfl, Nat.reduceMul, Nat.reduceEqDiff, Go.Addr.add, ↓reduceIte] at hx106_0)
               have qi106 : (4 < t101.length) = True := eq_true (by omega)
               (try rw [show ((4 : Int)).toNat = 4 from rfl] at hx106_0)
               replace p106 := eq_true p106
               replace q106 := eq_true q106
               try go_wp2
               have n0_ := Aside0.mk (Kd.R_drew HO_4.out)
               have n1_ := Aside0.mk (below_drew1 HB.out)
               clear HO_4
               clear HB
               have HO_4 := n0_
               have HB := n1_
               clear n0_ n1_
               have p107 : 0 ≤ (3 : Int) := (by omega)
               have q107 : 3 < (t101.length : Int) := of_decide_eq_true asm
               obtain ⟨ad107, e107, hx107_0⟩ := Kd.at_string (Kd.R_reads' HO_4.out).2.2 3 p107 q107
               obtain rfl : ad106 = ad107 := (by injection e107)
               (try simp only [show (3 : Int).toNat = 3 from rfl, Nat.reduceMul, Nat.reduceEqDiff, Go.Addr.add, ↓reduceIte] at hx107_0)
               have qi107 : (3 < t101.length) = True := eq_true (by omega)
               (try rw [show ((3 : Int)).toNat = 3 from rfl] at hx107_0)
               replace p107 := eq_true p107
               replace q107 := eq_true q107
               have p112 : 0 ≤ (2 : Int) := (by omega)
               have q112 : 2 < (t101.length : Int) := of_decide_eq_true asm
               obtain ⟨ad112, e112, hx112_0⟩ := Kd.at_string (Kd.R_reads' HO_4.out).2.2 2 p112 q112
               obtain rfl : ad106 = ad112 := (by injection e112)
               (try simp only [show (2 : Int).toNat = 2 from rfl, Nat.reduceMul, Nat.reduceEqDiff, Go.Addr.add, ↓reduceIte] at hx112_0)
               have qi112 : (2 < t101.length) = True := eq_true (by omega)
               (try rw [show ((2 : Int)).toNat = 2 from rfl] at hx112_0)
               replace p112 := eq_true p112
               replace q112 := eq_true q112
               have p114 : 0 ≤ (1 : Int) := (by omega)
               have q114 : 1 < (t101.length : Int) := of_decide_eq_true asm
               obtain ⟨ad114, e114, hx114_0⟩ := Kd.at_string (Kd.R_reads' HO_4.out).2.2 1 p114 q114
               obtain rfl : ad106 = ad114 := (by injection e114)
               (try simp only [show (1 : Int).toNat = 1 from rfl, Nat.reduceMul, Nat.reduceEqDiff, Go.Addr.add, ↓reduceIte] at hx114_0)
               have qi114 : (1 < t101.length) = True := eq_true (by omega)
               (try rw [show ((1 : Int)).toNat = 1 from rfl] at hx114_0)
               replace p114 := eq_true p114
               replace q114 := eq_true q114
               refine start_ (n := 16) (S := fun w' => w'.cell? ⟨ad106.block, ad106.off + 3, none⟩ = some (.string (rdOf ByteArray.empty t101 3)) ∧ w'.cell? ⟨ad106.block, ad106.off + 2, none⟩ = some (.string (rdOf ByteArray.empty t101 2)) ∧ w'.cell? ⟨ad106.block, ad106.off + 1, none⟩ = some (.string (rdOf ByteArray.empty t101 1))) (ds := []) (Array.replicate 16 false) (by kernel_rfl) rfl rfl ⟨hx107_0, hx112_0, hx114_0⟩ (fun hHeld => ?_); refine with_tabW impl_ReadDate.tab5 impl_ReadDate.bits5 (fun HT_ HW_ => ?_)
               generalize wc.drew = w55 at HO_4 HB hx107_0 hx112_0 hx114_0 hHeld ⊢
               refine pu 0 35 HT_ ?_
               refine pu 1 36 HT_ ?_
               refine pu 5 40 HT_ ?_
               refine pu 6 41 HT_ ?_
               refine pu 10 45 HT_ ?_
               refine pu 11 46 HT_ ?_
               refine tk 2 37 HT_ HW_ hHeld ?_ (hy := by rintro w' ⟨s0, s1, s2⟩; go_simp; with_reducible rfl)
               refine tk 7 42 HT_ HW_ hHeld ?_ (hy := by rintro w' ⟨s0, s1, s2⟩; go_simp; with_reducible rfl)
               refine tk 12 47 HT_ HW_ hHeld ?_ (hy := by rintro w' ⟨s0, s1, s2⟩; go_simp; with_reducible rfl)
               refine on1 3 38 HT_ (fun K hK => ?_)
               refine goes_ Tryd.func86 (by kernel_rfl) rfl #[.string (rdOf ByteArray.empty t101 3)] (by rfl) rfl rfl am ?_
               with_reducible refine (impl_number.calls kj2 (rdOf ByteArray.empty t101 3) t108 _ ?side1 A17.out).mono ?_
               (case side1 => refine GErr.of_below HGErr.out ?_; repeat (first | (with_reducible first | exact HB.out | apply below_alloc | apply pw_below_drewN | apply below_drew1) | exact HB.out))
               rintro e w56 ⟨rfl, hb⟩
               have HS0_ := (hb.cell (World.block_lt_of_cell? _ _ (hHeld.1))).trans (hHeld.1)
               have HS1_ := (hb.cell (World.block_lt_of_cell? _ _ (hHeld.2.1))).trans (hHeld.2.1)
               have HS2_ := (hb.cell (World.block_lt_of_cell? _ _ (hHeld.2.2))).trans (hHeld.2.2)
               refine ⟨_, rfl, ?_⟩
               have n0_ := Aside0.mk (Kd.R_below (by (with_reducible repeat (first | apply Kd.R_alloc | apply Kd.R_drewN | apply Kd.R_drew)); exact HO_4.out) hb)
               have n1_ := Aside0.mk (below_step bq hb)
               clear HO_4
               clear HB
               have HO_4 := n0_
               have HB := n1_
               clear n0_ n1_
               (try clear hb)
               (try clear hb2)
               (try clear hk)
               (try clear hi)
               refine hK.out _ _ ⟨HS0_, HS1_, HS2_⟩ (fun hHeld => ?_)
               clear hK K
               refine nrm 38 ?_
               refine on1 4 39 HT_ (fun K hK => ?_)
               refine goes_ Tryd.func84 (by kernel_rfl) rfl #[] (by rfl) rfl rfl am ?_
               with_reducible refine (impl_months.calls  t109 _ A18.out).mono ?_
               rintro e w57 ⟨v110, rfl, ho0, hb⟩
               have HS0_ := (hb.cell (World.block_lt_of_cell? _ _ (hHeld.1))).trans (hHeld.1)
               have HS1_ := (hb.cell (World.block_lt_of_cell? _ _ (hHeld.2.1))).trans (hHeld.2.1)
               have HS2_ := (hb.cell (World.block_lt_of_cell? _ _ (hHeld.2.2))).trans (hHeld.2.2)
               refine ⟨_, rfl, ?_⟩
               have n0_ := Aside0.mk (Kd.R_elder' (by (with_reducible repeat (first | apply Kd.R_alloc | apply Kd.R_drewN | apply Kd.R_drew)); exact HO_4.out) (Kd.R_base ho0) hb)
               have n1_ := Aside0.mk (Kd.R_lower (Kd.R_new' ho0 (Kd.R_lt (by (with_reducible repeat (first | apply Kd.R_alloc | apply Kd.R_drewN | apply Kd.R_drew)); exact HO_4.out))) (below_size bq))
               have n2_ := Aside0.mk (below_step bq hb)
               clear HO_4
               clear HB
               have HO_4 := n0_
               have HO111 := n1_
               have HB := n2_
               clear n0_ n1_ n2_
               (try clear hb)
               (try clear hb2)
               (try clear hk)
               (try clear hi)
               (try clear ho0)
               obtain ⟨Ao58, co58, eo58⟩ := Kd.R_slice HO111.out
               (first | subst eo58 | (injection eo58 with f1_ f2_ f3_; have f4_ := f1_.symm; have f5_ := f3_.symm; clear f1_ f2_ f3_; subst f4_; subst f5_))
               refine hK.out _ _ ⟨HS0_, HS1_, HS2_⟩ (fun hHeld => ?_)
               clear hK K
               refine nrm 39 ?_
               refine on1 8 43 HT_ (fun K hK => ?_)
               refine goes_ Tryd.func87 (by kernel_rfl) rfl #[.slice Ao58 t109.length co58, .string (rdOf ByteArray.empty t101 2)] (by rfl) rfl rfl am ?_
               with_reducible refine (slices_Index_string_string.calls kj2 _ _ t109 (rdOf ByteArray.empty t101 2) t113 _ ?side1 ?side2 A20.out).mono ?_
               (case side1 => repeat (first | exact (Kd.R_reads' HO111.out).2.2 | (with_reducible refine Kd.C_alloc ?_ _) | (with_reducible refine Kd.C_drewN ?_ _) | (with_reducible refine Kd.C_drew ?_)))
               (case side2 => exact (Kd.R_reads' HO111.out).2.1)
               rintro e w' ⟨rfl, ⟨nd, rfl⟩⟩
               refine ⟨_, rfl, ?_⟩
               refine hK.out _ _ ⟨hHeld.1, hHeld.2.1, hHeld.2.2⟩ (fun hHeld => ?_)
               clear hK K
               refine nrm 43 ?_
               refine pu 9 44 HT_ ?_
               refine on1 13 48 HT_ (fun K hK => ?_)
               refine goes_ Tryd.func86 (by kernel_rfl) rfl #[.string (rdOf ByteArray.empty t101 1)] (by rfl) rfl rfl am ?_
               with_reducible refine (impl_number.calls kj2 (rdOf ByteArray.empty t101 1) t115 _ ?side1 A22.out).mono ?_
               (case side1 => refine GErr.of_below HGErr.out ?_; repeat (first | (with_reducible first | exact HB.out | apply below_alloc | apply pw_below_drewN | apply below_drew1) | exact HB.out))
               rintro e w59 ⟨rfl, hb⟩
               have HS0_ := (hb.cell (World.block_lt_of_cell? _ _ (hHeld.1))).trans (hHeld.1)
               have HS1_ := (hb.cell (World.block_lt_of_cell? _ _ (hHeld.2.1))).trans (hHeld.2.1)
               have HS2_ := (hb.cell (World.block_lt_of_cell? _ _ (hHeld.2.2))).trans (hHeld.2.2)
               refine ⟨_, rfl, ?_⟩
               have n0_ := Aside0.mk (Kd.R_below (by (with_reducible repeat (first | apply Kd.R_alloc | apply Kd.R_drewN | apply Kd.R_drew)); exact HO_4.out) hb)
               have n1_ := Aside0.mk (Kd.R_below (by (with_reducible repeat (first | apply Kd.R_alloc | apply Kd.R_drewN | apply Kd.R_drew)); exact HO111.out) hb)
               have n2_ := Aside0.mk (below_step bq hb)
               clear HO_4
               clear HO111
               clear HB
               have HO_4 := n0_
               have HO111 := n1_
               have HB := n2_
               clear n0_ n1_ n2_
               (try clear hb)
               (try clear hb2)
               (try clear hk)
               (try clear hi)
               refine hK.out _ _ ⟨HS0_, HS1_, HS2_⟩ (fun hHeld => ?_)
               clear hK K
               refine nrm 48 ?_
               refine on1 14 49 HT_ (fun K hK => ?_)
               refine goes_ Tryd.func39 (by kernel_rfl) rfl #[.int .i64 t108, .int .i64 (wrap64 (t113 + 1)), .int .i64 t115] (by rfl) rfl rfl am ?_
               with_reducible refine (impl_DaysOf.calls kj2 t108 (wrap64 (t113 + 1)) t115 t116 _ A23.out).mono ?_
               rintro e w60 ⟨rfl, hb⟩
               have HS0_ := (hb.cell (World.block_lt_of_cell? _ _ (hHeld.1))).trans (hHeld.1)
               have HS1_ := (hb.cell (World.block_lt_of_cell? _ _ (hHeld.2.1))).trans (hHeld.2.1)
               have HS2_ := (hb.cell (World.block_lt_of_cell? _ _ (hHeld.2.2))).trans (hHeld.2.2)
               refine ⟨_, rfl, ?_⟩
               have n0_ := Aside0.mk (Kd.R_below (by (with_reducible repeat (first | apply Kd.R_alloc | apply Kd.R_drewN | apply Kd.R_drew)); exact HO_4.out) hb)
               have n1_ := Aside0.mk (Kd.R_below (by (with_reducible repeat (first | apply Kd.R_alloc | apply Kd.R_drewN | apply Kd.R_drew)); exact HO111.out) hb)
               have n2_ := Aside0.mk (below_step bq hb)
               clear HO_4
               clear HO111
               clear HB
               have HO_4 := n0_
               have HO111 := n1_
               have HB := n2_
               clear n0_ n1_ n2_
               (try clear hb)
               (try clear hb2)
               (try clear hk)
               (try clear hi)
               refine hK.out _ _ ⟨HS0_, HS1_, HS2_⟩ (fun hHeld => ?_)
               clear hK K
               refine nrm 49 ?_
               refine pu 15 6 HT_ ?_
               refine done_ (done_of HT_.out (by kernel_rfl)) ?_
               try go_wp2
               have n0_ := Aside0.mk (Kd.R_drew HO_4.out)
               have n1_ := Aside0.mk (Kd.R_drew HO111.out)
               have n2_ := Aside0.mk (below_drew1 HB.out)
               clear HO_4
               clear HO111
               clear HB
               have HO_4 := n0_
               have HO111 := n1_
               have HB := n2_
               clear n0_ n1_ n2_
               refine start_ (n := 17) (S := fun w' => True) (ds := []) (Array.replicate 17 false) (by kernel_rfl) rfl rfl trivial (fun hHeld => ?_); refine with_tabW impl_ReadDate.tab8 impl_ReadDate.bits8 (fun HT_ HW_ => ?_)
               generalize w60.drew = w61 at HO_4 HO111 HB hHeld ⊢
               refine pu 0 52 HT_ ?_
               refine pu 1 53 HT_ ?_
               refine pu 2 54 HT_ ?_
               refine pu 3 55 HT_ ?_
               refine pu 7 59 HT_ ?_
               refine pu 8 60 HT_ ?_
               refine pu 12 64 HT_ ?_
               refine pu 13 65 HT_ ?_
               refine on1 4 56 HT_ (fun K hK => ?_)
               refine goes_ Tryd.func86 (by kernel_rfl) rfl #[.string ((rdOf ByteArray.empty t101 4).extract 0 2)] (by rfl) rfl rfl am ?_
               with_reducible refine (impl_number.calls kj2 ((rdOf ByteArray.empty t101 4).extract 0 2) t117 _ ?side1 A34.out).mono ?_
               (case side1 => refine GErr.of_below HGErr.out ?_; repeat (first | (with_reducible first | exact HB.out | apply below_alloc | apply pw_below_drewN | apply below_drew1) | exact HB.out))
               rintro e w62 ⟨rfl, hb⟩
               refine ⟨_, rfl, ?_⟩
               have n0_ := Aside0.mk (Kd.R_below (by (with_reducible repeat (first | apply Kd.R_alloc | apply Kd.R_drewN | apply Kd.R_drew)); exact HO_4.out) hb)
               have n1_ := Aside0.mk (Kd.R_below (by (with_reducible repeat (first | apply Kd.R_alloc | apply Kd.R_drewN | apply Kd.R_drew)); exact HO111.out) hb)
               have n2_ := Aside0.mk (below_step bq hb)
               clear HO_4
               clear HO111
               clear HB
               have HO_4 := n0_
               have HO111 := n1_
               have HB := n2_
               clear n0_ n1_ n2_
               (try clear hb)
               (try clear hb2)
               (try clear hk)
               (try clear hi)
               refine hK.out _ _ trivial (fun hHeld => ?_)
               clear hK K
               refine nrm 56 ?_
               refine pu 5 57 HT_ ?_
               refine pu 6 58 HT_ ?_
               refine on1 9 61 HT_ (fun K hK => ?_)
               refine goes_ Tryd.func86 (by kernel_rfl) rfl #[.string ((rdOf ByteArray.empty t101 4).extract 3 5)] (by rfl) rfl rfl am ?_
               with_reducible refine (impl_number.calls kj2 ((rdOf ByteArray.empty t101 4).extract 3 5) t118 _ ?side1 A37.out).mono ?_
               (case side1 => refine GErr.of_below HGErr.out ?_; repeat (first | (with_reducible first | exact HB.out | apply below_alloc | apply pw_below_drewN | apply below_drew1) | exact HB.out))
               rintro e w63 ⟨rfl, hb⟩
               refine ⟨_, rfl, ?_⟩
               have n0_ := Aside0.mk (Kd.R_below (by (with_reducible repeat (first | apply Kd.R_alloc | apply Kd.R_drewN | apply Kd.R_drew)); exact HO_4.out) hb)
               have n1_ := Aside0.mk (Kd.R_below (by (with_reducible repeat (first | apply Kd.R_alloc | apply Kd.R_drewN | apply Kd.R_drew)); exact HO111.out) hb)
               have n2_ := Aside0.mk (below_step bq hb)
               clear HO_4
               clear HO111
               clear HB
               have HO_4 := n0_
               have HO111 := n1_
               have HB := n2_
               clear n0_ n1_ n2_
               (try clear hb)
               (try clear hb2)
               (try clear hk)
               (try clear hi)
               refine hK.out _ _ trivial (fun hHeld => ?_)
               clear hK K
               refine nrm 61 ?_
               refine pu 10 62 HT_ ?_
               refine pu 11 63 HT_ ?_
               refine on1 14 66 HT_ (fun K hK => ?_)
               refine goes_ Tryd.func86 (by kernel_rfl) rfl #[.string ((rdOf ByteArray.empty t101 4).extract 6 (rdOf ByteArray.empty t101 4).size)] (by rfl) rfl rfl am ?_
               with_reducible refine (impl_number.calls kj2 ((rdOf ByteArray.empty t101 4).extract 6 (rdOf ByteArray.empty t101 4).size) t119 _ ?side1 A39.out).mono ?_
               (case side1 => refine GErr.of_below HGErr.out ?_; repeat (first | (with_reducible first | exact HB.out | apply below_alloc | apply pw_below_drewN | apply below_drew1) | exact HB.out))
               rintro e w64 ⟨rfl, hb⟩
               refine ⟨_, rfl, ?_⟩
               have n0_ := Aside0.mk (Kd.R_below (by (with_reducible repeat (first | apply Kd.R_alloc | apply Kd.R_drewN | apply Kd.R_drew)); exact HO_4.out) hb)
               have n1_ := Aside0.mk (Kd.R_below (by (with_reducible repeat (first | apply Kd.R_alloc | apply Kd.R_drewN | apply Kd.R_drew)); exact HO111.out) hb)
               have n2_ := Aside0.mk (below_step bq hb)
               clear HO_4
               clear HO111
               clear HB
               have HO_4 := n0_
               have HO111 := n1_
               have HB := n2_
               clear n0_ n1_ n2_
               (try clear hb)
               (try clear hb2)
               (try clear hk)
               (try clear hi)
               refine hK.out _ _ trivial (fun hHeld => ?_)
               clear hK K
               refine nrm 66 ?_
               refine pu 15 67 HT_ ?_
               refine pu 16 7 HT_ ?_
               refine done_ (done_of HT_.out (by kernel_rfl)) ?_
               try go_wp2_with (first | ((with_reducible refine gate_callee (f := 36) rfl ?_); refine goesL_ (some 69) rfl rfl Tryd.func36 (by kernel_rfl) rfl #[.int .i64 (wrap64 ((wrap64 ((wrap64 ((wrap64 (t116 * 86400)) + (wrap64 (3600 * t117)))) + (wrap64 (60 * t118)))) + t119))] rfl am ?_; (with_reducible refine (impl_ShowDate.calls kj2 (wrap64 ((wrap64 ((wrap64 ((wrap64 (t116 * 86400)) + (wrap64 (3600 * t117)))) + (wrap64 (60 * t118)))) + t119)) t120 _ ?side1 A40.out).mono ?_); (case side1 => refine GPow.of_below HGPow.out ?_; repeat (first | (with_reducible first | exact HB.out | apply below_alloc | apply pw_below_drewN | apply below_drew1) | exact HB.out)); rintro e w65 ⟨rfl, hb⟩; refine ⟨_, rfl, ?_⟩; have n0_ := Aside0.mk (Kd.R_below (by (with_reducible repeat (first | apply Kd.R_alloc | apply Kd.R_drewN | apply Kd.R_drew)); exact HO_4.out) hb); have n1_ := Aside0.mk (Kd.R_below (by (with_reducible repeat (first | apply Kd.R_alloc | apply Kd.R_drewN | apply Kd.R_drew)); exact HO111.out) hb); have n2_ := Aside0.mk (below_step bq hb); clear HO_4; clear HO111; clear HB; have HO_4 := n0_; have HO111 := n1_; have HB := n2_; clear n0_ n1_ n2_; (try clear hb); (try clear hb2); (try clear hk); (try clear hi)))
               go_ret2
               exact ⟨by first | rfl | (simp [errW_none, errW_some] <;> rfl) | (simp [*, errW_none, errW_some] <;> rfl), bq⟩
             ·rw [if_neg c38] at H
              exact absurd H (by simp)
            ·rw [if_neg c36] at H
             exact absurd H (by simp)
           ·rw [if_neg c35] at H
            exact absurd H (by simp)
          ·rw [if_neg c33] at H
           exact absurd H (by simp)
         ·rw [if_neg c32] at H
          exact absurd H (by simp)
       ·rw [if_neg c21] at H
        exact absurd H (by simp)
      ·rw [if_neg c19] at H
       exact absurd H (by simp)
     ·rw [if_neg c16] at H
      exact absurd H (by simp)
    ·rw [if_neg c15] at H
     exact absurd H (by simp)

end Go.Proofs.YtjldfmkpdkhnnaaDoor.QL

namespace Go.Proofs.YtjldfmkpdkhnnaaDoor.QL
open Go.RowKit Go.Proofs.YtjldfmkpdkhnnaaDoorW.PrintWords Go.Proofs.YtjldfmkpdkhnnaaDoorW.PrintLast Go.Proofs.YtjldfmkpdkhnnaaDoorW.PrintMore Go.Proofs.YtjldfmkpdkhnnaaDoor.Aux Go.Proofs.YtjldfmkpdkhnnaaDoor.Dom Go.Proofs.YtjldfmkpdkhnnaaDoor.Ext Go.Proofs.YtjldfmkpdkhnnaaDoor.Glob
attribute [local go_sem] max2_int min2_int max_two min_two max_three min_three max_four min_four   -- for this text's walks alone
set_option linter.unusedVariables false
set_option linter.unusedSimpArgs false

/-! ### spec_DrawDaysOf: function 38 -/
def spec_DrawDaysOf.f (k : Nat) (l0 : List Int) : Option (Int × Int × Int) := (spec_l1New.f k l0).bind fun bt101 => ((spec_l1Below.f bt101.1 bt101.2.1 bt101.2.2 68).bind fun bt105 => ((spec_l1PickInt.f bt101.1 bt105.2.1 bt105.2.2 (([1970, 1972, 2000, 2037, 2038, 1969, wrap64 (1970 + bt105.1)] : List Int))).bind fun bt111 => ((spec_l1Below.f bt101.1 bt111.2.1 bt111.2.2 14).bind fun bt114 => ((spec_l1Below.f bt101.1 bt114.2.1 bt114.2.2 31).bind fun bt117 => ((spec_l1PickInt.f bt101.1 bt117.2.1 bt117.2.2 (([1, 28, 29, 30, 31, 32, 0, bt117.1] : List Int))).bind fun bt123 => (some (bt111.1, bt114.1, bt123.1)))))))
theorem spec_DrawDaysOf.mono : ∀ a0 k, LeO (spec_DrawDaysOf.f k a0) (spec_DrawDaysOf.f (k + 1) a0) := by
 intro a0 k
 unfold spec_DrawDaysOf.f
 repeat' first
   | (with_reducible exact spec_l1New.mono _ _)
   | (with_reducible exact LeO.refl _)
   | (with_reducible exact LeO.none _)
   | (with_reducible refine LeO.ite ?_ ?_)
   | (with_reducible refine LeO.bind ?_ (fun _ => ?_))
   | exact spec_l1New.mono _ _
   | exact LeO.none _
   | refine LeO.ite ?_ ?_
   | refine LeO.bind ?_ (fun _ => ?_)
set_option maxHeartbeats 8000000 in
set_option maxRecDepth 100000 in
theorem spec_DrawDaysOf.calls (k : Nat) (A0 : Option Addr) (c0 : Nat) (l0 : List Int) (r1 : Int) (r2 : Int) (r3 : Int) (w : World) (hr0 : Kd.C (Kd.int .u8) w A0 l0.length l0) (hc0 : l0.length ≤ c0) (h : spec_DrawDaysOf.f k l0 = some (r1, r2, r3)) :
  Calls Tryd.prog 38 #[.slice A0 l0.length c0] w fun e w' => e = .returned (.tuple #[.int .i64 r1, .int .i64 r2, .int .i64 r3]) ∧ Below w.heap.size w w' := by
 have HR0 := Aside0.mk hr0
 have HC0 := Aside0.mk hc0
 clear hr0 hc0
 have HB := Aside0.mk (Below.refl w.heap.size w)
 have H : ((spec_l1New.f k l0).bind fun bt101 => ((spec_l1Below.f bt101.1 bt101.2.1 bt101.2.2 68).bind fun bt105 => ((spec_l1PickInt.f bt101.1 bt105.2.1 bt105.2.2 (([1970, 1972, 2000, 2037, 2038, 1969, wrap64 (1970 + bt105.1)] : List Int))).bind fun bt111 => ((spec_l1Below.f bt101.1 bt111.2.1 bt111.2.2 14).bind fun bt114 => ((spec_l1Below.f bt101.1 bt114.2.1 bt114.2.2 31).bind fun bt117 => ((spec_l1PickInt.f bt101.1 bt117.2.1 bt117.2.2 (([1, 28, 29, 30, 31, 32, 0, bt117.1] : List Int))).bind fun bt123 => (some (bt111.1, bt114.1, bt123.1)))))))) = some (r1, r2, r3) := h
 clear h
 replace H := Option.bind_eq_some_iff.mp H
 obtain ⟨⟨t101, t102, t103⟩, A20, H⟩ := H
 try dsimp only at H
 have A2 := Aside0.mk A20
 clear A20
 replace H := Option.bind_eq_some_iff.mp H
 obtain ⟨⟨t105, t106, t107⟩, A30, H⟩ := H
 try dsimp only at H
 have A3 := Aside0.mk A30
 clear A30
 obtain ⟨y108, hy108⟩ : ∃ y_ : List Int, y_ = (([1970, 1972, 2000, 2037, 2038, 1969, wrap64 (1970 + t105)] : List Int)) := ⟨_, rfl⟩
 replace H : ((spec_l1PickInt.f t101 t106 t107 y108).bind fun bt111 => ((spec_l1Below.f t101 bt111.2.1 bt111.2.2 14).bind fun bt114 => ((spec_l1Below.f t101 bt114.2.1 bt114.2.2 31).bind fun bt117 => ((spec_l1PickInt.f t101 bt117.2.1 bt117.2.2 (([1, 28, 29, 30, 31, 32, 0, bt117.1] : List Int))).bind fun bt123 => (some (bt111.1, bt114.1, bt123.1)))))) = some (r1, r2, r3) := by first | (rw [hy108]; with_reducible exact H) | (have H2_ := (Option.bind_some _ _).symm.trans H; rw [hy108]; with_reducible exact H2_) | (have H2_ := (Option.bind_some _ _).symm.trans H; with_reducible exact H2_) | with_reducible exact H | (rw [hy108]; exact H) | exact H
 have Ny108 := Aside0.mk hy108
 clear hy108
 replace H := Option.bind_eq_some_iff.mp H
 obtain ⟨⟨t111, t112, t113⟩, A40, H⟩ := H
 try dsimp only at H
 have A4 := Aside0.mk A40
 clear A40
 replace H := Option.bind_eq_some_iff.mp H
 obtain ⟨⟨t114, t115, t116⟩, A50, H⟩ := H
 try dsimp only at H
 have A5 := Aside0.mk A50
 clear A50
 replace H := Option.bind_eq_some_iff.mp H
 obtain ⟨⟨t117, t118, t119⟩, A60, H⟩ := H
 try dsimp only at H
 have A6 := Aside0.mk A60
 clear A60
 obtain ⟨y120, hy120⟩ : ∃ y_ : List Int, y_ = (([1, 28, 29, 30, 31, 32, 0, t117] : List Int)) := ⟨_, rfl⟩
 replace H : ((spec_l1PickInt.f t101 t118 t119 y120).bind fun bt123 => (some (t111, t114, bt123.1))) = some (r1, r2, r3) := by first | (rw [hy120]; with_reducible exact H) | (have H2_ := (Option.bind_some _ _).symm.trans H; rw [hy120]; with_reducible exact H2_) | (have H2_ := (Option.bind_some _ _).symm.trans H; with_reducible exact H2_) | with_reducible exact H | (rw [hy120]; exact H) | exact H
 have Ny120 := Aside0.mk hy120
 clear hy120
 replace H := Option.bind_eq_some_iff.mp H
 obtain ⟨⟨t123, t124, t125⟩, A70, H⟩ := H
 try dsimp only at H
 have A7 := Aside0.mk A70
 clear A70
 simp only [Option.some.injEq, Prod.mk.injEq] at H
 obtain ⟨rfl, rfl, rfl⟩ := H
 go_enter Tryd.func38, Tryd.ntmps38
 go_wp2_with (first | ((with_reducible refine gate_callee (f := 57) rfl ?_); refine goesL_ (some 9) rfl rfl Tryd.func57 (by kernel_rfl) rfl #[.slice A0 l0.length c0] rfl am ?_; (with_reducible refine (spec_l1New.calls k _ _ l0 t101 t102 t103 w _ ?side1 ?side2 ?side3 A2.out).mono ?_); (case side1 => repeat (first | (with_reducible first | exact HB.out | apply below_alloc | apply pw_below_drewN | apply below_drew1) | exact HB.out)); (case side2 => exact HR0.out); (case side3 => exact HC0.out); rintro e w8 ⟨g104, rfl, hi, hb, hb2⟩; refine ⟨_, rfl, ?_⟩; have n0_ := Aside0.mk (hb); have n1_ := Aside0.mk (hi); clear HB; have HB := n0_; have HI104 := n1_; clear n0_ n1_; (try clear hb); (try clear hb2); (try clear hk); (try clear hi)) | ((with_reducible refine gate_callee (f := 89) rfl ?_); refine goesL_ (some 12) rfl rfl Tryd.func89 (by kernel_rfl) rfl #[.pointer (some ⟨g104, 0, none⟩), .int .i64 68] rfl am ?_; (with_reducible refine (spec_l1Below.calls g104 t101 t102 t103 68 t105 t106 t107 w _ ?side1 ?side2 A3.out).mono ?_); (case side1 => repeat (first | (with_reducible first | exact HI104.out | apply IsS110.alloc | apply IsS110.drewN | apply IsS110.drew | apply IsS110.set_1 | apply IsS110.set_2) | exact HI104.out)); (case side2 => repeat (first | (with_reducible first | exact HB.out | apply below_alloc | apply pw_below_drewN | apply below_drew1 | refine below_set ?_ (IsS110.ge HI104.out)) | exact HB.out)); rintro e w9 ⟨rfl, hi, hb, hk⟩; refine ⟨_, rfl, ?_⟩; have n0_ := Aside0.mk (hb); have n1_ := Aside0.mk (hi); clear HB; clear HI104; have HB := n0_; have HI104 := n1_; clear n0_ n1_; (try clear hb); (try clear hb2); (try clear hk); (try clear hi)) | ((with_reducible refine gate_dst (N := 14) rfl ?_); refine Kd.R_lit (Kd.int .i64) _ 3 ?hg (N := 14) ?hd (xs := ([1970, 1972, 2000, 2037, 2038, 1969, wrap64 (1970 + t105)] : List Int)) (inner := [.int .i64 1970, .int .i64 1972, .int .i64 2000, .int .i64 2037, .int .i64 2038, .int .i64 1969, .int .i64 (wrap64 (1970 + t105))]) (ok := fun _ => True) (okp := fun _ => True) ?hr ?hp (fun _ hk => hk) trivial (Below.refl _ _) (Nat.le_refl _) (by simp) ?_; (case hd => rfl); (case hg => rfl); (case hr => first | (go_simp; done) | (go_simp; rfl)); (case hp => exact (Reps.one (show Kd.M (Kd.int .i64) _ _ _ 1970 [.int .i64 1970] from rfl) (Reps.one (show Kd.M (Kd.int .i64) _ _ _ 1972 [.int .i64 1972] from rfl) (Reps.one (show Kd.M (Kd.int .i64) _ _ _ 2000 [.int .i64 2000] from rfl) (Reps.one (show Kd.M (Kd.int .i64) _ _ _ 2037 [.int .i64 2037] from rfl) (Reps.one (show Kd.M (Kd.int .i64) _ _ _ 2038 [.int .i64 2038] from rfl) (Reps.one (show Kd.M (Kd.int .i64) _ _ _ 1969 [.int .i64 1969] from rfl) (Reps.one (show Kd.M (Kd.int .i64) _ _ _ (wrap64 (1970 + t105)) [.int .i64 (wrap64 (1970 + t105))] from rfl) (Reps.none _ _))))))))); intro v109 w10 ho11 hb hg_ hnew_; clear hg_ hnew_; (first | rw [← Ny108.out] at ho11 | (simp only [Int.reduceToNat] at ho11; rw [← Ny108.out] at ho11)); have n0_ := Aside0.mk (Kd.R_lower ho11 (below_size (by repeat (first | (with_reducible first | exact HB.out | apply below_alloc | apply pw_below_drewN | apply below_drew1 | refine below_set ?_ (IsS110.ge HI104.out)) | exact HB.out)))); have n1_ := Aside0.mk (IsS110.below (by repeat (first | (with_reducible first | exact HI104.out | apply IsS110.alloc | apply IsS110.drewN | apply IsS110.drew | apply IsS110.set_1 | apply IsS110.set_2) | exact HI104.out)) hb); have n2_ := Aside0.mk (below_step (by repeat (first | (with_reducible first | exact HB.out | apply below_alloc | apply pw_below_drewN | apply below_drew1 | refine below_set ?_ (IsS110.ge HI104.out)) | exact HB.out)) hb); clear HI104; clear HB; have HO110 := n0_; have HI104 := n1_; have HB := n2_; clear n0_ n1_ n2_; clear hb ho11; obtain ⟨Ao12, co12, eo12⟩ := Kd.R_slice HO110.out; subst eo12) | ((with_reducible refine gate_callee (f := 88) rfl ?_); refine goesL_ (some 15) rfl rfl Tryd.func88 (by kernel_rfl) rfl #[.pointer (some ⟨g104, 0, none⟩), .slice Ao12 y108.length co12] rfl am ?_; (with_reducible refine (spec_l1PickInt.calls g104 t101 t106 t107 _ _ y108 t111 t112 t113 w _ ?side1 ?side2 ?side3 ?side4 ?side5 A4.out).mono ?_); (case side1 => repeat (first | (with_reducible first | exact HI104.out | apply IsS110.alloc | apply IsS110.drewN | apply IsS110.drew | apply IsS110.set_1 | apply IsS110.set_2) | exact HI104.out)); (case side2 => repeat (first | (with_reducible first | exact HB.out | apply below_alloc | apply pw_below_drewN | apply below_drew1 | refine below_set ?_ (IsS110.ge HI104.out)) | exact HB.out)); (case side3 => repeat (first | exact (Kd.R_reads' HO110.out).2.2 | (with_reducible refine Kd.C_alloc ?_ _) | (with_reducible refine Kd.C_drewN ?_ _) | (with_reducible refine Kd.C_drew ?_))); (case side4 => exact (Kd.R_reads' HO110.out).2.1); (case side5 => exact far_slice (IsS110.own_ne HI104.out HO110.out (by decide))); rintro e w13 ⟨rfl, hi, hb, hk⟩; refine ⟨_, rfl, ?_⟩; have n0_ := Aside0.mk (Kd.R_mono (Kd.R_keep (IsS110.apart (show IsS110 w _ g104 t101 t106 t107 from by repeat (first | (with_reducible first | exact HI104.out | apply IsS110.alloc | apply IsS110.drewN | apply IsS110.drew | apply IsS110.set_1 | apply IsS110.set_2) | exact HI104.out)) (by (with_reducible repeat (first | apply Kd.R_alloc | apply Kd.R_drewN | apply Kd.R_drew)); exact HO110.out) (by decide)) hk (fun _ h => h.2)) (fun _ h => h.1)); have n1_ := Aside0.mk (hb); have n2_ := Aside0.mk (hi); clear HO110; clear HB; clear HI104; have HO110 := n0_; have HB := n1_; have HI104 := n2_; clear n0_ n1_ n2_; (try clear hb); (try clear hb2); (try clear hk); (try clear hi)) | ((with_reducible refine gate_callee (f := 89) rfl ?_); refine goesL_ (some 17) rfl rfl Tryd.func89 (by kernel_rfl) rfl #[.pointer (some ⟨g104, 0, none⟩), .int .i64 14] rfl am ?_; (with_reducible refine (spec_l1Below.calls g104 t101 t112 t113 14 t114 t115 t116 w _ ?side1 ?side2 A5.out).mono ?_); (case side1 => repeat (first | (with_reducible first | exact HI104.out | apply IsS110.alloc | apply IsS110.drewN | apply IsS110.drew | apply IsS110.set_1 | apply IsS110.set_2) | exact HI104.out)); (case side2 => repeat (first | (with_reducible first | exact HB.out | apply below_alloc | apply pw_below_drewN | apply below_drew1 | refine below_set ?_ (IsS110.ge HI104.out)) | exact HB.out)); rintro e w14 ⟨rfl, hi, hb, hk⟩; refine ⟨_, rfl, ?_⟩; have n0_ := Aside0.mk (Kd.R_mono (Kd.R_keep (IsS110.apart (show IsS110 w _ g104 t101 t112 t113 from by repeat (first | (with_reducible first | exact HI104.out | apply IsS110.alloc | apply IsS110.drewN | apply IsS110.drew | apply IsS110.set_1 | apply IsS110.set_2) | exact HI104.out)) (by (with_reducible repeat (first | apply Kd.R_alloc | apply Kd.R_drewN | apply Kd.R_drew)); exact HO110.out) (by decide)) hk (fun _ h => h.2)) (fun _ h => h.1)); have n1_ := Aside0.mk (hb); have n2_ := Aside0.mk (hi); clear HO110; clear HB; clear HI104; have HO110 := n0_; have HB := n1_; have HI104 := n2_; clear n0_ n1_ n2_; (try clear hb); (try clear hb2); (try clear hk); (try clear hi)) | ((with_reducible refine gate_callee (f := 89) rfl ?_); refine goesL_ (some 22) rfl rfl Tryd.func89 (by kernel_rfl) rfl #[.pointer (some ⟨g104, 0, none⟩), .int .i64 31] rfl am ?_; (with_reducible refine (spec_l1Below.calls g104 t101 t115 t116 31 t117 t118 t119 w _ ?side1 ?side2 A6.out).mono ?_); (case side1 => repeat (first | (with_reducible first | exact HI104.out | apply IsS110.alloc | apply IsS110.drewN | apply IsS110.drew | apply IsS110.set_1 | apply IsS110.set_2) | exact HI104.out)); (case side2 => repeat (first | (with_reducible first | exact HB.out | apply below_alloc | apply pw_below_drewN | apply below_drew1 | refine below_set ?_ (IsS110.ge HI104.out)) | exact HB.out)); rintro e w15 ⟨rfl, hi, hb, hk⟩; refine ⟨_, rfl, ?_⟩; have n0_ := Aside0.mk (Kd.R_mono (Kd.R_keep (IsS110.apart (show IsS110 w _ g104 t101 t115 t116 from by repeat (first | (with_reducible first | exact HI104.out | apply IsS110.alloc | apply IsS110.drewN | apply IsS110.drew | apply IsS110.set_1 | apply IsS110.set_2) | exact HI104.out)) (by (with_reducible repeat (first | apply Kd.R_alloc | apply Kd.R_drewN | apply Kd.R_drew)); exact HO110.out) (by decide)) hk (fun _ h => h.2)) (fun _ h => h.1)); have n1_ := Aside0.mk (hb); have n2_ := Aside0.mk (hi); clear HO110; clear HB; clear HI104; have HO110 := n0_; have HB := n1_; have HI104 := n2_; clear n0_ n1_ n2_; (try clear hb); (try clear hb2); (try clear hk); (try clear hi)) | ((with_reducible refine gate_dst (N := 23) rfl ?_); refine Kd.R_lit (Kd.int .i64) _ 3 ?hg (N := 23) ?hd (xs := ([1, 28, 29, 30, 31, 32, 0, t117] : List Int)) (inner := [.int .i64 1, .int .i64 28, .int .i64 29, .int .i64 30, .int .i64 31, .int .i64 32, .int .i64 0, .int .i64 t117]) (ok := fun _ => True) (okp := fun _ => True) ?hr ?hp (fun _ hk => hk) trivial (Below.refl _ _) (Nat.le_refl _) (by simp) ?_; (case hd => rfl); (case hg => rfl); (case hr => first | (go_simp; done) | (go_simp; rfl)); (case hp => exact (Reps.one (show Kd.M (Kd.int .i64) _ _ _ 1 [.int .i64 1] from rfl) (Reps.one (show Kd.M (Kd.int .i64) _ _ _ 28 [.int .i64 28] from rfl) (Reps.one (show Kd.M (Kd.int .i64) _ _ _ 29 [.int .i64 29] from rfl) (Reps.one (show Kd.M (Kd.int .i64) _ _ _ 30 [.int .i64 30] from rfl) (Reps.one (show Kd.M (Kd.int .i64) _ _ _ 31 [.int .i64 31] from rfl) (Reps.one (show Kd.M (Kd.int .i64) _ _ _ 32 [.int .i64 32] from rfl) (Reps.one (show Kd.M (Kd.int .i64) _ _ _ 0 [.int .i64 0] from rfl) (Reps.one (show Kd.M (Kd.int .i64) _ _ _ t117 [.int .i64 t117] from rfl) (Reps.none _ _)))))))))); intro v121 w16 ho17 hb hg_ hnew_; clear hg_ hnew_; (first | rw [← Ny120.out] at ho17 | (simp only [Int.reduceToNat] at ho17; rw [← Ny120.out] at ho17)); have n0_ := Aside0.mk (Kd.R_elder' (by (with_reducible repeat (first | apply Kd.R_alloc | apply Kd.R_drewN | apply Kd.R_drew)); exact HO110.out) (Kd.R_base ho17) hb); have n1_ := Aside0.mk (Kd.R_lower (Kd.R_new' ho17 (Kd.R_lt (by (with_reducible repeat (first | apply Kd.R_alloc | apply Kd.R_drewN | apply Kd.R_drew)); exact HO110.out))) (below_size (by repeat (first | (with_reducible first | exact HB.out | apply below_alloc | apply pw_below_drewN | apply below_drew1 | refine below_set ?_ (IsS110.ge HI104.out)) | exact HB.out)))); have n2_ := Aside0.mk (IsS110.below (by repeat (first | (with_reducible first | exact HI104.out | apply IsS110.alloc | apply IsS110.drewN | apply IsS110.drew | apply IsS110.set_1 | apply IsS110.set_2) | exact HI104.out)) hb); have n3_ := Aside0.mk (below_step (by repeat (first | (with_reducible first | exact HB.out | apply below_alloc | apply pw_below_drewN | apply below_drew1 | refine below_set ?_ (IsS110.ge HI104.out)) | exact HB.out)) hb); clear HO110; clear HI104; clear HB; have HO110 := n0_; have HO122 := n1_; have HI104 := n2_; have HB := n3_; clear n0_ n1_ n2_ n3_; clear hb ho17; obtain ⟨Ao18, co18, eo18⟩ := Kd.R_slice HO122.out; subst eo18) | ((with_reducible refine gate_callee (f := 88) rfl ?_); refine goesL_ (some 24) rfl rfl Tryd.func88 (by kernel_rfl) rfl #[.pointer (some ⟨g104, 0, none⟩), .slice Ao18 y120.length co18] rfl am ?_; (with_reducible refine (spec_l1PickInt.calls g104 t101 t118 t119 _ _ y120 t123 t124 t125 w _ ?side1 ?side2 ?side3 ?side4 ?side5 A7.out).mono ?_); (case side1 => repeat (first | (with_reducible first | exact HI104.out | apply IsS110.alloc | apply IsS110.drewN | apply IsS110.drew | apply IsS110.set_1 | apply IsS110.set_2) | exact HI104.out)); (case side2 => repeat (first | (with_reducible first | exact HB.out | apply below_alloc | apply pw_below_drewN | apply below_drew1 | refine below_set ?_ (IsS110.ge HI104.out)) | exact HB.out)); (case side3 => repeat (first | exact (Kd.R_reads' HO122.out).2.2 | (with_reducible refine Kd.C_alloc ?_ _) | (with_reducible refine Kd.C_drewN ?_ _) | (with_reducible refine Kd.C_drew ?_))); (case side4 => exact (Kd.R_reads' HO122.out).2.1); (case side5 => exact far_slice (IsS110.own_ne HI104.out HO122.out (by decide))); rintro e w19 ⟨rfl, hi, hb, hk⟩; refine ⟨_, rfl, ?_⟩; have n0_ := Aside0.mk (Kd.R_mono (Kd.R_keep (IsS110.apart (show IsS110 w _ g104 t101 t118 t119 from by repeat (first | (with_reducible first | exact HI104.out | apply IsS110.alloc | apply IsS110.drewN | apply IsS110.drew | apply IsS110.set_1 | apply IsS110.set_2) | exact HI104.out)) (by (with_reducible repeat (first | apply Kd.R_alloc | apply Kd.R_drewN | apply Kd.R_drew)); exact HO110.out) (by decide)) hk (fun _ h => h.2)) (fun _ h => h.1)); have n1_ := Aside0.mk (Kd.R_mono (Kd.R_keep (IsS110.apart (show IsS110 w _ g104 t101 t118 t119 from by repeat (first | (with_reducible first | exact HI104.out | apply IsS110.alloc | apply IsS110.drewN | apply IsS110.drew | apply IsS110.set_1 | apply IsS110.set_2) | exact HI104.out)) (by (with_reducible repeat (first | apply Kd.R_alloc | apply Kd.R_drewN | apply Kd.R_drew)); exact HO122.out) (by decide)) hk (fun _ h => h.2)) (fun _ h => h.1)); have n2_ := Aside0.mk (hb); have n3_ := Aside0.mk (hi); clear HO110; clear HO122; clear HB; clear HI104; have HO110 := n0_; have HO122 := n1_; have HB := n2_; have HI104 := n3_; clear n0_ n1_ n2_ n3_; (try clear hb); (try clear hb2); (try clear hk); (try clear hi)))
 go_ret3
 exact ⟨by first | rfl | (simp [errW_none, errW_some] <;> rfl) | (simp [*, errW_none, errW_some] <;> rfl), by repeat (first | (with_reducible first | exact HB.out | apply below_alloc | apply pw_below_drewN | apply below_drew1 | refine below_set ?_ (IsS110.ge HI104.out)) | exact HB.out)⟩

end Go.Proofs.YtjldfmkpdkhnnaaDoor.QL
