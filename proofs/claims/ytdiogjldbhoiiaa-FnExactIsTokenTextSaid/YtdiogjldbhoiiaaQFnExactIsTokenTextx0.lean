-- Written by this session's own program (a turn of the kit's print, with contracts of the session's own where the print has none).
import Derived.Test.YtdiogjldbhoiiaaProg
import Derived.Below
import Derived.Deep.Draws
import Derived.Deep.AppendLies
import Derived.Maps.AppendAt
import Derived.OwnWalk
import Derived.Laws.BytesArg
import Derived.Laws.MakeOwn
import Derived.Laws.OwnMore
import Derived.Deep.OwnRows
import Derived.Tactics
import Derived.Lib.ConvBytes
import Derived.Laws.Slices
import Derived.WalkKit
import Derived.KernelRfl
import Derived.RowKit3
import Derived.Deep.LoopGhost
import Derived.Deep.QuietTactic
import Derived.BigQuiet
import Derived.WideLaws
import Derived.Deep.DeepCutAuto
import Derived.Deep.CutBlock
import Derived.Deep.RegionHeld3
import Derived.Laws.Rows
import Derived.Lib.AppendStr
import Derived.ArgAppend
import Derived.Laws.IdiomCopy
import Derived.OrdersHeld
import Derived.Laws.BitsLemmas
import Derived.RowKit
import Derived.Test.YtdiogjldbhoiiaaBas
import Derived.Test.YtdiogjldbhoiiaaExt
import Derived.Test.YtdiogjldbhoiiaaWWords
import Derived.Test.YtdiogjldbhoiiaaWLast
import Derived.Test.YtdiogjldbhoiiaaWTab
import Derived.Test.YtdiogjldbhoiiaaWFour
import Derived.Test.YtdiogjldbhoiiaaWQPut
import Derived.Test.YtdiogjldbhoiiaaWApart
import Derived.Test.YtdiogjldbhoiiaaWArr
import Derived.Test.YtdiogjldbhoiiaaWZeros
import Derived.Test.YtdiogjldbhoiiaaWFoot
import Derived.Test.YtdiogjldbhoiiaaWKept
import Derived.Test.YtdiogjldbhoiiaaWShare
import Derived.Test.YtdiogjldbhoiiaaWN
import Derived.Test.YtdiogjldbhoiiaaWFootNe
import Derived.Test.YtdiogjldbhoiiaaWAt
import Derived.Test.YtdiogjldbhoiiaaWEqStruct
import Derived.Test.YtdiogjldbhoiiaaWRepsOne
import Derived.Test.YtdiogjldbhoiiaaWInv
import Derived.Test.YtdiogjldbhoiiaaWInvWords
import Derived.Test.YtdiogjldbhoiiaaWGuard
import Derived.Test.YtdiogjldbhoiiaaWNEv
import Derived.Test.YtdiogjldbhoiiaaWMore
import Derived.Test.YtdiogjldbhoiiaaEspecl2Token
import Derived.Test.YtdiogjldbhoiiaaEstringsIndexByte
namespace Go.Proofs.Ytdiogjldbhoiiaa.QFnExactIsTokenText
open Go.RowKit Go.Proofs.YtdiogjldbhoiiaaW.PrintWords Go.Proofs.YtdiogjldbhoiiaaW.PrintLast Go.Proofs.YtdiogjldbhoiiaaW.PrintMore Go.Proofs.Ytdiogjldbhoiiaa.Aux Go.Proofs.Ytdiogjldbhoiiaa.Dom Go.Proofs.Ytdiogjldbhoiiaa.Ext Go.Proofs.Ytdiogjldbhoiiaa.Glob
attribute [local go_sem] max2_int min2_int max_two min_two max_three min_three max_four min_four   -- for this text's walks alone
set_option linter.unusedVariables false
set_option linter.unusedSimpArgs false



def errW : Option Int → Value
  | none => .nilIface
  | some c => .iface 0 (.int .i64 c)
theorem errW_none : errW none = .nilIface := rfl
theorem errW_some (c : Int) : errW (some c) = .iface 0 (.int .i64 c) := rfl

-- the values' own types

end Go.Proofs.Ytdiogjldbhoiiaa.QFnExactIsTokenText
