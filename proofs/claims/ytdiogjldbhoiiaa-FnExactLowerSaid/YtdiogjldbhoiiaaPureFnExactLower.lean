/- The program's Lower returns what the reference's returns, for every text (a text of more than 2^20 bytes is let by). -/
import Derived.Test.YtdiogjldbhoiiaaWalkFnExactLower
import Derived.Test.YtdiogjldbhoiiaaDom
namespace Go.Proofs.Ytdiogjldbhoiiaa.Pure
open Go.RowKit Go.Proofs.Ytdiogjldbhoiiaa.QFnExactLower Go.Proofs.YtdiogjldbhoiiaaW.PrintWords Go.Proofs.YtdiogjldbhoiiaaW.PrintLast Go.Proofs.YtdiogjldbhoiiaaW.PrintMore Go.Proofs.Ytdiogjldbhoiiaa.Aux Go.Proofs.Ytdiogjldbhoiiaa.Dom

/-! ### spec_Lower -/
theorem spec_Lower_eq (s : ByteArray) (hs : s.size ≤ 2097152) : spec_Lower.f s = some (strOfNums ((bytesOf s).map lowC)) := by unfold spec_Lower.f; rw [if_pos hs]

/-! ### impl_Lower -/
theorem impl_Lower_eq (s : ByteArray) (hs : s.size ≤ 2097152) : impl_Lower.f s = some (strOfNums ((bytesOf s).map lowC)) := by unfold impl_Lower.f; rw [if_pos hs]

theorem FnExactLower : laws_FnExactLower.Pure := by
  intro s _
  unfold laws_FnExactLower.f
  by_cases h : (s.size : Int) > 1048576
  · rw [if_pos h]
  · rw [if_neg h, spec_Lower_eq s (by omega), impl_Lower_eq s (by omega)]
    simp only [Option.bind_some, if_true]

end Go.Proofs.Ytdiogjldbhoiiaa.Pure
