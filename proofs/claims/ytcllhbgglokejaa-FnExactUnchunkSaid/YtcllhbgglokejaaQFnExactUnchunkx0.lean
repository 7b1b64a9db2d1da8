-- Written by this session's own program (a turn of the kit's print, with contracts of the session's own where the print has none).
import Derived.Test.YtcllhbgglokejaaProg
import Derived.Below
import Derived.Deep.Draws
import Derived.Deep.AppendLies
import Derived.Maps.AppendAt
import Derived.OwnWalk
import Derived.Laws.BytesArg
import Derived.Laws.MakeOwn
import Derived.Laws.OwnMore
import Derived.Deep.OwnRows
import Derived.Tactics
import Derived.Lib.ConvBytes
import Derived.Laws.Slices
import Derived.WalkKit
import Derived.KernelRfl
import Derived.RowKit3
import Derived.Deep.LoopGhost
import Derived.Deep.QuietTactic
import Derived.BigQuiet
import Derived.WideLaws
import Derived.Deep.DeepCutAuto
import Derived.Deep.CutBlock
import Derived.Deep.RegionHeld3
import Derived.Laws.Rows
import Derived.Lib.AppendStr
import Derived.ArgAppend
import Derived.Laws.IdiomCopy
import Derived.OrdersHeld
import Derived.Laws.BitsLemmas
import Derived.RowKit
import Derived.Test.YtcllhbgglokejaaBas
import Derived.Test.YtcllhbgglokejaaExt
import Derived.Test.YtcllhbgglokejaaWWords
import Derived.Test.YtcllhbgglokejaaWLast
import Derived.Test.YtcllhbgglokejaaWTab
import Derived.Test.YtcllhbgglokejaaWFour
import Derived.Test.YtcllhbgglokejaaWQPut
import Derived.Test.YtcllhbgglokejaaWApart
import Derived.Test.YtcllhbgglokejaaWArr
import Derived.Test.YtcllhbgglokejaaWZeros
import Derived.Test.YtcllhbgglokejaaWFoot
import Derived.Test.YtcllhbgglokejaaWKept
import Derived.Test.YtcllhbgglokejaaWShare
import Derived.Test.YtcllhbgglokejaaWN
import Derived.Test.YtcllhbgglokejaaWFootNe
import Derived.Test.YtcllhbgglokejaaWAt
import Derived.Test.YtcllhbgglokejaaWEqStruct
import Derived.Test.YtcllhbgglokejaaWRepsOne
import Derived.Test.YtcllhbgglokejaaWInv
import Derived.Test.YtcllhbgglokejaaWInvWords
import Derived.Test.YtcllhbgglokejaaWGuard
import Derived.Test.YtcllhbgglokejaaWNEv
import Derived.Test.YtcllhbgglokejaaWMore
import Derived.Test.YtcllhbgglokejaaEstringsIndexByte
import Derived.Test.YtcllhbgglokejaaEstringsCut
import Derived.Test.YtcllhbgglokejaaGlob
namespace Go.Proofs.Ytcllhbgglokejaa.QFnExactUnchunk
open Go.RowKit Go.Proofs.YtcllhbgglokejaaW.PrintWords Go.Proofs.YtcllhbgglokejaaW.PrintLast Go.Proofs.YtcllhbgglokejaaW.PrintMore Go.Proofs.Ytcllhbgglokejaa.Aux Go.Proofs.Ytcllhbgglokejaa.Dom Go.Proofs.Ytcllhbgglokejaa.Ext Go.Proofs.Ytcllhbgglokejaa.Glob
attribute [local go_sem] max2_int min2_int max_two min_two max_three min_three max_four min_four   -- for this text's walks alone
set_option linter.unusedVariables false
set_option linter.unusedSimpArgs false



def errW : Option Int → Value
  | none => .nilIface
  | some c => .iface 0 (.int .i64 c)
theorem errW_none : errW none = .nilIface := rfl
theorem errW_some (c : Int) : errW (some c) = .iface 0 (.int .i64 c) := rfl

-- the values' own types

end Go.Proofs.Ytcllhbgglokejaa.QFnExactUnchunk
