-- Written by this session's own program (a turn of the kit's print, with contracts of the session's own where the print has none).
import Derived.Test.YthloaefcmjpfaaaDoorProg
import Derived.Below
import Derived.Deep.Draws
import Derived.Deep.AppendLies
import Derived.Maps.AppendAt
import Derived.OwnWalk
import Derived.Laws.BytesArg
import Derived.Laws.MakeOwn
import Derived.Laws.OwnMore
import Derived.Deep.OwnRows
import Derived.Tactics
import Derived.Lib.ConvBytes
import Derived.Laws.Slices
import Derived.WalkKit
import Derived.KernelRfl
import Derived.RowKit3
import Derived.Deep.LoopGhost
import Derived.Deep.QuietTactic
import Derived.BigQuiet
import Derived.WideLaws
import Derived.Deep.DeepCutAuto
import Derived.Deep.CutBlock
import Derived.Deep.RegionHeld3
import Derived.Laws.Rows
import Derived.Lib.AppendStr
import Derived.ArgAppend
import Derived.Laws.IdiomCopy
import Derived.OrdersHeld
import Derived.Laws.BitsLemmas
import Derived.RowKit
import Derived.Test.YthloaefcmjpfaaaDoorBas
import Derived.Test.YthloaefcmjpfaaaDoorExt
import Derived.Test.YthloaefcmjpfaaaDoorWWords
import Derived.Test.YthloaefcmjpfaaaDoorWLast
import Derived.Test.YthloaefcmjpfaaaDoorWTab
import Derived.Test.YthloaefcmjpfaaaDoorWFour
import Derived.Test.YthloaefcmjpfaaaDoorWQPut
import Derived.Test.YthloaefcmjpfaaaDoorWApart
import Derived.Test.YthloaefcmjpfaaaDoorWArr
import Derived.Test.YthloaefcmjpfaaaDoorWZeros
import Derived.Test.YthloaefcmjpfaaaDoorWFoot
import Derived.Test.YthloaefcmjpfaaaDoorWKept
import Derived.Test.YthloaefcmjpfaaaDoorWShare
import Derived.Test.YthloaefcmjpfaaaDoorWN
import Derived.Test.YthloaefcmjpfaaaDoorWFootNe
import Derived.Test.YthloaefcmjpfaaaDoorWAt
import Derived.Test.YthloaefcmjpfaaaDoorWEqStruct
import Derived.Test.YthloaefcmjpfaaaDoorWRepsOne
import Derived.Test.YthloaefcmjpfaaaDoorWInv
import Derived.Test.YthloaefcmjpfaaaDoorWInvWords
import Derived.Test.YthloaefcmjpfaaaDoorWGuard
import Derived.Test.YthloaefcmjpfaaaDoorWNEv
import Derived.Test.YthloaefcmjpfaaaDoorWMore
import Derived.Test.YthloaefcmjpfaaaDoorEspecLower
import Derived.Test.YthloaefcmjpfaaaDoorEspecl2Token
import Derived.Test.YthloaefcmjpfaaaDoorEstringsTrim
import Derived.Test.YthloaefcmjpfaaaDoorEimplLower
import Derived.Test.YthloaefcmjpfaaaDoorEstringsIndexByte
import Derived.Test.YthloaefcmjpfaaaDoorEstringsCut
import Derived.Test.YthloaefcmjpfaaaDoorGlob
namespace Go.Proofs.YthloaefcmjpfaaaDoor.QFnExactReadFields
open Go.RowKit Go.Proofs.YthloaefcmjpfaaaDoorW.PrintWords Go.Proofs.YthloaefcmjpfaaaDoorW.PrintLast Go.Proofs.YthloaefcmjpfaaaDoorW.PrintMore Go.Proofs.YthloaefcmjpfaaaDoor.Aux Go.Proofs.YthloaefcmjpfaaaDoor.Dom Go.Proofs.YthloaefcmjpfaaaDoor.Ext Go.Proofs.YthloaefcmjpfaaaDoor.Glob
attribute [local go_sem] max2_int min2_int max_two min_two max_three min_three max_four min_four   -- for this text's walks alone
set_option linter.unusedVariables false
set_option linter.unusedSimpArgs false



def errW : Option Int → Value
  | none => .nilIface
  | some c => .iface 0 (.int .i64 c)
theorem errW_none : errW none = .nilIface := rfl
theorem errW_some (c : Int) : errW (some c) = .iface 0 (.int .i64 c) := rfl

theorem info5 : (Tryd.prog.info? 5).map (fun i => (i.zero, i.size, i.bytes)) = some (some (.int .u8 0), 1, 1) := by kernel_rfl
theorem info77 : (Tryd.prog.info? 77).map (fun i => (i.zero, i.size, i.bytes)) = some (some (.agg #[(.string ⟨#[]⟩), (.string ⟨#[]⟩)]), 2, 32) := by kernel_rfl
-- the values' own types
/-! #### struct type 77 -/
structure S77 where
  f0 : ByteArray
  f1 : ByteArray
def z77 : S77 := ⟨(⟨#[]⟩ : ByteArray), (⟨#[]⟩ : ByteArray)⟩
def k77 : Kd S77 := Kd.iso (Kd.pair Kd.string Kd.string) (fun x : S77 => (x.f0, x.f1))
theorem k77_open {w : World} {x : S77} {cs : List Value} (h : k77.K w x cs) : cs = [.string x.f0, .string x.f1] := by
  obtain ⟨_, _, rfl, rfl, rfl⟩ := h
  exact rfl
theorem k77_openM {w : World} {base : Nat} {ok : Nat → Prop} {x : S77} {cs : List Value} (h : k77.M w base ok x cs) : cs = [.string x.f0, .string x.f1] := by
  obtain ⟨_, _, rfl, rfl, rfl⟩ := h
  exact rfl
theorem k77_mk (w : World) (x : S77)  : k77.K w x [.string x.f0, .string x.f1] := ⟨[.string x.f0], [.string x.f1], rfl, rfl, rfl⟩
theorem k77_mkM (w : World) (base : Nat) (ok : Nat → Prop) (x : S77)  : k77.M w base ok x [.string x.f0, .string x.f1] := ⟨[.string x.f0], [.string x.f1], rfl, rfl, rfl⟩
def rd_T77 (xs : List S77) (i : Int) : S77 := xs.getD i.toNat z77
theorem at_T77 {w : World} {A : Option Addr} {n : Nat} {xs : List S77} (h : Kd.C k77 w A n xs) (i : Int) (h0 : 0 ≤ i) (h1 : i < n) : ∃ ad , A = some ad ∧ w.cell? (ad.add (i.toNat * 2)) = some (.string (rd_T77 xs i).f0) ∧ w.cell? ⟨(ad.add (i.toNat * 2)).block, (ad.add (i.toNat * 2)).off + 1, none⟩ = some (.string (rd_T77 xs i).f1) := by
  obtain ⟨ad, c, e, _, hK, hc0⟩ := Kd.C_get h z77 i h0 h1
  have hc : ∀ j u, c[j]? = some u → w.cell? (ad.add (i.toNat * 2 + j)) = some u := hc0
  obtain rfl := k77_open hK
  exact ⟨ad, e, hc 0 _ rfl, by rw [← add_field _ _ 1 (by omega)]; exact hc 1 _ rfl⟩

end Go.Proofs.YthloaefcmjpfaaaDoor.QFnExactReadFields
