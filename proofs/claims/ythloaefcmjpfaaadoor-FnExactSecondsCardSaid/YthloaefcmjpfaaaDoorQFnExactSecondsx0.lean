-- Written by this session's own program (a turn of the kit's print, with contracts of the session's own where the print has none).
import Derived.Test.YthloaefcmjpfaaaDoorProg
import Derived.Below
import Derived.Deep.Draws
import Derived.Deep.AppendLies
import Derived.Maps.AppendAt
import Derived.OwnWalk
import Derived.Laws.BytesArg
import Derived.Laws.MakeOwn
import Derived.Laws.OwnMore
import Derived.Deep.OwnRows
import Derived.Tactics
import Derived.Lib.ConvBytes
import Derived.Laws.Slices
import Derived.WalkKit
import Derived.KernelRfl
import Derived.RowKit3
import Derived.Deep.LoopGhost
import Derived.Deep.QuietTactic
import Derived.BigQuiet
import Derived.WideLaws
import Derived.Deep.DeepCutAuto
import Derived.Deep.CutBlock
import Derived.Deep.RegionHeld3
import Derived.Laws.Rows
import Derived.Lib.AppendStr
import Derived.ArgAppend
import Derived.Laws.IdiomCopy
import Derived.OrdersHeld
import Derived.Laws.BitsLemmas
import Derived.RowKit
import Derived.Test.YthloaefcmjpfaaaDoorBas
import Derived.Test.YthloaefcmjpfaaaDoorExt
import Derived.Test.YthloaefcmjpfaaaDoorWWords
import Derived.Test.YthloaefcmjpfaaaDoorWLast
import Derived.Test.YthloaefcmjpfaaaDoorWTab
import Derived.Test.YthloaefcmjpfaaaDoorWFour
import Derived.Test.YthloaefcmjpfaaaDoorWQPut
import Derived.Test.YthloaefcmjpfaaaDoorWApart
import Derived.Test.YthloaefcmjpfaaaDoorWArr
import Derived.Test.YthloaefcmjpfaaaDoorWZeros
import Derived.Test.YthloaefcmjpfaaaDoorWFoot
import Derived.Test.YthloaefcmjpfaaaDoorWKept
import Derived.Test.YthloaefcmjpfaaaDoorWShare
import Derived.Test.YthloaefcmjpfaaaDoorWN
import Derived.Test.YthloaefcmjpfaaaDoorWFootNe
import Derived.Test.YthloaefcmjpfaaaDoorWAt
import Derived.Test.YthloaefcmjpfaaaDoorWEqStruct
import Derived.Test.YthloaefcmjpfaaaDoorWRepsOne
import Derived.Test.YthloaefcmjpfaaaDoorWInv
import Derived.Test.YthloaefcmjpfaaaDoorWInvWords
import Derived.Test.YthloaefcmjpfaaaDoorWGuard
import Derived.Test.YthloaefcmjpfaaaDoorWNEv
import Derived.Test.YthloaefcmjpfaaaDoorWMore
import Derived.Test.YthloaefcmjpfaaaDoorShelf
import Derived.Test.YthloaefcmjpfaaaDoorEstringsTrimLeft
namespace Go.Proofs.YthloaefcmjpfaaaDoor.QFnExactSeconds
open Go.RowKit Go.Proofs.YthloaefcmjpfaaaDoorW.PrintWords Go.Proofs.YthloaefcmjpfaaaDoorW.PrintLast Go.Proofs.YthloaefcmjpfaaaDoorW.PrintMore Go.Proofs.YthloaefcmjpfaaaDoor.Aux Go.Proofs.YthloaefcmjpfaaaDoor.Dom Go.Proofs.YthloaefcmjpfaaaDoor.Ext Go.Proofs.YthloaefcmjpfaaaDoor.Glob
attribute [local go_sem] max2_int min2_int max_two min_two max_three min_three max_four min_four   -- for this text's walks alone
set_option linter.unusedVariables false
set_option linter.unusedSimpArgs false



def errW : Option Int → Value
  | none => .nilIface
  | some c => .iface 0 (.int .i64 c)
theorem errW_none : errW none = .nilIface := rfl
theorem errW_some (c : Int) : errW (some c) = .iface 0 (.int .i64 c) := rfl

-- the values' own types

end Go.Proofs.YthloaefcmjpfaaaDoor.QFnExactSeconds
