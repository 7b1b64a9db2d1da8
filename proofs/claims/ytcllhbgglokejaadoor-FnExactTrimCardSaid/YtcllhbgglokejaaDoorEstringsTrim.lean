/- A contract of our own for the function strings_Trim of the program or the library. -/
import Derived.Test.YtcllhbgglokejaaDoorProg
import Derived.Below
import Derived.Deep.Draws
import Derived.Deep.AppendLies
import Derived.Maps.AppendAt
import Derived.OwnWalk
import Derived.Laws.BytesArg
import Derived.Laws.MakeOwn
import Derived.Laws.OwnMore
import Derived.Deep.OwnRows
import Derived.Tactics
import Derived.Lib.ConvBytes
import Derived.Laws.Slices
import Derived.WalkKit
import Derived.KernelRfl
import Derived.RowKit3
import Derived.Deep.LoopGhost
import Derived.Deep.QuietTactic
import Derived.BigQuiet
import Derived.WideLaws
import Derived.Deep.DeepCutAuto
import Derived.Deep.CutBlock
import Derived.Deep.RegionHeld3
import Derived.Laws.Rows
import Derived.Lib.AppendStr
import Derived.ArgAppend
import Derived.Laws.IdiomCopy
import Derived.OrdersHeld
import Derived.Laws.BitsLemmas
import Derived.RowKit
import Derived.Test.YtcllhbgglokejaaDoorBas
import Derived.Test.YtcllhbgglokejaaDoorExt
import Derived.Test.YtcllhbgglokejaaDoorWWords
import Derived.Test.YtcllhbgglokejaaDoorWLast
import Derived.Test.YtcllhbgglokejaaDoorWTab
import Derived.Test.YtcllhbgglokejaaDoorWFour
import Derived.Test.YtcllhbgglokejaaDoorWQPut
import Derived.Test.YtcllhbgglokejaaDoorWApart
import Derived.Test.YtcllhbgglokejaaDoorWArr
import Derived.Test.YtcllhbgglokejaaDoorWZeros
import Derived.Test.YtcllhbgglokejaaDoorWFoot
import Derived.Test.YtcllhbgglokejaaDoorWKept
import Derived.Test.YtcllhbgglokejaaDoorWShare
import Derived.Test.YtcllhbgglokejaaDoorWN
import Derived.Test.YtcllhbgglokejaaDoorWFootNe
import Derived.Test.YtcllhbgglokejaaDoorWAt
import Derived.Test.YtcllhbgglokejaaDoorWEqStruct
import Derived.Test.YtcllhbgglokejaaDoorWRepsOne
import Derived.Test.YtcllhbgglokejaaDoorWInv
import Derived.Test.YtcllhbgglokejaaDoorWInvWords
import Derived.Test.YtcllhbgglokejaaDoorWGuard
import Derived.Test.YtcllhbgglokejaaDoorWNEv
import Derived.Test.YtcllhbgglokejaaDoorWMore
import Derived.Test.YtcllhbgglokejaaDoorShelf
import Derived.Lib.Strings
import Derived.Shelf.Strings.SlTrimAscii
namespace Go.Proofs.YtcllhbgglokejaaDoor.Ext
open Go.RowKit Go.Proofs.YtcllhbgglokejaaDoorW.PrintWords Go.Proofs.YtcllhbgglokejaaDoorW.PrintLast Go.Proofs.YtcllhbgglokejaaDoorW.PrintMore Go.Proofs.YtcllhbgglokejaaDoor.Aux Go.Proofs.YtcllhbgglokejaaDoor.Dom Go.Proofs.YtcllhbgglokejaaDoor.Glob
attribute [local go_sem] max2_int min2_int max_two min_two max_three min_three max_four min_four
set_option linter.unusedVariables false
set_option linter.unusedSimpArgs false
def strings_Trim.f (a0 : ByteArray) (a1 : ByteArray) : Option (ByteArray) := if a0.size ≤ 2097152 ∧ a1 = ⟨#[32, 9]⟩ then some (trimB a0) else none
theorem strings_Trim.calls (a0 : ByteArray) (a1 : ByteArray) (r : ByteArray) (w : World) (h : strings_Trim.f a0 a1 = some r) :
    Calls Tryd.prog 15 #[.string a0, .string a1] w fun e w' => e = .returned (.string r) ∧ Below w.heap.size w w' := by
  have hs : a0.size ≤ 2097152 ∧ a1 = ⟨#[32, 9]⟩ := by
    unfold strings_Trim.f at h
    split at h
    · assumption
    · cases h
  unfold strings_Trim.f at h
  rw [if_pos hs] at h
  have h := Option.some.inj h
  subst h
  obtain ⟨h1, rfl⟩ := hs
  refine (Any.strings_Trim_laid Tryd.lays160 (by kernel_rfl) a0 ⟨#[32, 9]⟩ w (by omega) (by decide) (ascii_of_all (by decide))).mono ?_
  rintro e w' ⟨rfl, hb⟩
  exact ⟨by rw [trim_lib], hb⟩

end Go.Proofs.YtcllhbgglokejaaDoor.Ext
