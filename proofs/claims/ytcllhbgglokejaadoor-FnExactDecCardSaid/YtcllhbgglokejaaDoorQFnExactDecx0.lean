-- Written by this session's own program (a turn of the kit's print, with contracts of the session's own where the print has none).
import Derived.Test.YtcllhbgglokejaaDoorProg
import Derived.Below
import Derived.Deep.Draws
import Derived.Deep.AppendLies
import Derived.Maps.AppendAt
import Derived.OwnWalk
import Derived.Laws.BytesArg
import Derived.Laws.MakeOwn
import Derived.Laws.OwnMore
import Derived.Deep.OwnRows
import Derived.Tactics
import Derived.Lib.ConvBytes
import Derived.Laws.Slices
import Derived.WalkKit
import Derived.KernelRfl
import Derived.RowKit3
import Derived.Deep.LoopGhost
import Derived.Deep.QuietTactic
import Derived.BigQuiet
import Derived.WideLaws
import Derived.Deep.DeepCutAuto
import Derived.Deep.CutBlock
import Derived.Deep.RegionHeld3
import Derived.Laws.Rows
import Derived.Lib.AppendStr
import Derived.ArgAppend
import Derived.Laws.IdiomCopy
import Derived.OrdersHeld
import Derived.Laws.BitsLemmas
import Derived.RowKit
import Derived.Test.YtcllhbgglokejaaDoorBas
import Derived.Test.YtcllhbgglokejaaDoorExt
import Derived.Test.YtcllhbgglokejaaDoorWWords
import Derived.Test.YtcllhbgglokejaaDoorWLast
import Derived.Test.YtcllhbgglokejaaDoorWTab
import Derived.Test.YtcllhbgglokejaaDoorWFour
import Derived.Test.YtcllhbgglokejaaDoorWQPut
import Derived.Test.YtcllhbgglokejaaDoorWApart
import Derived.Test.YtcllhbgglokejaaDoorWArr
import Derived.Test.YtcllhbgglokejaaDoorWZeros
import Derived.Test.YtcllhbgglokejaaDoorWFoot
import Derived.Test.YtcllhbgglokejaaDoorWKept
import Derived.Test.YtcllhbgglokejaaDoorWShare
import Derived.Test.YtcllhbgglokejaaDoorWN
import Derived.Test.YtcllhbgglokejaaDoorWFootNe
import Derived.Test.YtcllhbgglokejaaDoorWAt
import Derived.Test.YtcllhbgglokejaaDoorWEqStruct
import Derived.Test.YtcllhbgglokejaaDoorWRepsOne
import Derived.Test.YtcllhbgglokejaaDoorWInv
import Derived.Test.YtcllhbgglokejaaDoorWInvWords
import Derived.Test.YtcllhbgglokejaaDoorWGuard
import Derived.Test.YtcllhbgglokejaaDoorWNEv
import Derived.Test.YtcllhbgglokejaaDoorWMore
import Derived.Test.YtcllhbgglokejaaDoorEstrconvItoa
import Derived.Test.YtcllhbgglokejaaDoorGlob
namespace Go.Proofs.YtcllhbgglokejaaDoor.QFnExactDec
open Go.RowKit Go.Proofs.YtcllhbgglokejaaDoorW.PrintWords Go.Proofs.YtcllhbgglokejaaDoorW.PrintLast Go.Proofs.YtcllhbgglokejaaDoorW.PrintMore Go.Proofs.YtcllhbgglokejaaDoor.Aux Go.Proofs.YtcllhbgglokejaaDoor.Dom Go.Proofs.YtcllhbgglokejaaDoor.Ext Go.Proofs.YtcllhbgglokejaaDoor.Glob
attribute [local go_sem] max2_int min2_int max_two min_two max_three min_three max_four min_four   -- for this text's walks alone
set_option linter.unusedVariables false
set_option linter.unusedSimpArgs false



def errW : Option Int → Value
  | none => .nilIface
  | some c => .iface 0 (.int .i64 c)
theorem errW_none : errW none = .nilIface := rfl
theorem errW_some (c : Int) : errW (some c) = .iface 0 (.int .i64 c) := rfl

theorem info5 : (Tryd.prog.info? 5).map (fun i => (i.zero, i.size, i.bytes)) = some (some (.int .u8 0), 1, 1) := by kernel_rfl
-- the values' own types

end Go.Proofs.YtcllhbgglokejaaDoor.QFnExactDec
