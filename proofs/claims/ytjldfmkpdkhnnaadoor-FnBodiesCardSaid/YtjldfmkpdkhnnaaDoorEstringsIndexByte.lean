/- A contract of our own for the function strings_IndexByte of the program or the library. -/
import Derived.Test.YtjldfmkpdkhnnaaDoorProg
import Derived.Below
import Derived.Deep.Draws
import Derived.Deep.AppendLies
import Derived.Maps.AppendAt
import Derived.OwnWalk
import Derived.Laws.BytesArg
import Derived.Laws.MakeOwn
import Derived.Laws.OwnMore
import Derived.Deep.OwnRows
import Derived.Tactics
import Derived.Lib.ConvBytes
import Derived.Laws.Slices
import Derived.WalkKit
import Derived.KernelRfl
import Derived.RowKit3
import Derived.Deep.LoopGhost
import Derived.Deep.QuietTactic
import Derived.BigQuiet
import Derived.WideLaws
import Derived.Deep.DeepCutAuto
import Derived.Deep.CutBlock
import Derived.Deep.RegionHeld3
import Derived.Laws.Rows
import Derived.Lib.AppendStr
import Derived.ArgAppend
import Derived.Laws.IdiomCopy
import Derived.OrdersHeld
import Derived.Laws.BitsLemmas
import Derived.RowKit
import Derived.Test.YtjldfmkpdkhnnaaDoorBas
import Derived.Test.YtjldfmkpdkhnnaaDoorSq
import Derived.Test.YtjldfmkpdkhnnaaDoorExt
import Derived.Test.YtjldfmkpdkhnnaaDoorWWords
import Derived.Test.YtjldfmkpdkhnnaaDoorWLast
import Derived.Test.YtjldfmkpdkhnnaaDoorWTab
import Derived.Test.YtjldfmkpdkhnnaaDoorWFour
import Derived.Test.YtjldfmkpdkhnnaaDoorWQPut
import Derived.Test.YtjldfmkpdkhnnaaDoorWApart
import Derived.Test.YtjldfmkpdkhnnaaDoorWArr
import Derived.Test.YtjldfmkpdkhnnaaDoorWZeros
import Derived.Test.YtjldfmkpdkhnnaaDoorWFoot
import Derived.Test.YtjldfmkpdkhnnaaDoorWKept
import Derived.Test.YtjldfmkpdkhnnaaDoorWShare
import Derived.Test.YtjldfmkpdkhnnaaDoorWN
import Derived.Test.YtjldfmkpdkhnnaaDoorWFootNe
import Derived.Test.YtjldfmkpdkhnnaaDoorWAt
import Derived.Test.YtjldfmkpdkhnnaaDoorWEqStruct
import Derived.Test.YtjldfmkpdkhnnaaDoorWRepsOne
import Derived.Test.YtjldfmkpdkhnnaaDoorWInv
import Derived.Test.YtjldfmkpdkhnnaaDoorWInvWords
import Derived.Test.YtjldfmkpdkhnnaaDoorWGuard
import Derived.Test.YtjldfmkpdkhnnaaDoorWNEv
import Derived.Test.YtjldfmkpdkhnnaaDoorWMore
import Derived.Test.YtjldfmkpdkhnnaaDoorShelf
import Derived.Lib.Bytealg
namespace Go.Proofs.YtjldfmkpdkhnnaaDoor.Ext
open Go.RowKit Go.Proofs.YtjldfmkpdkhnnaaDoorW.PrintWords Go.Proofs.YtjldfmkpdkhnnaaDoorW.PrintLast Go.Proofs.YtjldfmkpdkhnnaaDoorW.PrintMore Go.Proofs.YtjldfmkpdkhnnaaDoor.Aux Go.Proofs.YtjldfmkpdkhnnaaDoor.Dom Go.Proofs.YtjldfmkpdkhnnaaDoor.Glob
attribute [local go_sem] max2_int min2_int max_two min_two max_three min_three max_four min_four
set_option linter.unusedVariables false
set_option linter.unusedSimpArgs false
def strings_IndexByte.f (a0 : ByteArray) (a1 : Int) : Option Int := if 0 ≤ a1 ∧ a1 < 256 then some (idxB (bytesOf a0) a1) else none
theorem strings_IndexByte.calls (a0 : ByteArray) (a1 : Int) (r : Int) (w : World) (h : strings_IndexByte.f a0 a1 = some r) :
    Calls Tryd.prog 63 #[.string a0, .int .u8 a1] w fun e w' => e = .returned (.int .i64 r) ∧ Drawn0 w w' := by
  have hr : 0 ≤ a1 ∧ a1 < 256 := by
    unfold strings_IndexByte.f at h
    split at h
    · assumption
    · cases h
  unfold strings_IndexByte.f at h
  rw [if_pos hr] at h
  obtain rfl := Option.some.inj h
  refine (Tryd.strings_IndexByte a0 a1 w).mono ?_
  rintro e w' ⟨rfl, rfl⟩
  exact ⟨by rw [idxB_lib a0 a1 hr.1 hr.2], Drawn0.refl _⟩

end Go.Proofs.YtjldfmkpdkhnnaaDoor.Ext
