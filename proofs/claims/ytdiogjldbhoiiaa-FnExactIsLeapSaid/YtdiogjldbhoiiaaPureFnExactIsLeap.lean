/- The program's IsLeap returns what the reference's returns, for every year. -/
import Derived.Test.YtdiogjldbhoiiaaPFnExactIsLeapx1
import Derived.Test.YtdiogjldbhoiiaaDom
namespace Go.Proofs.Ytdiogjldbhoiiaa.Pure
open Go.RowKit Go.Proofs.Ytdiogjldbhoiiaa.PFnExactIsLeap Go.Proofs.YtdiogjldbhoiiaaW.PrintWords Go.Proofs.YtdiogjldbhoiiaaW.PrintLast Go.Proofs.YtdiogjldbhoiiaaW.PrintMore Go.Proofs.Ytdiogjldbhoiiaa.Aux Go.Proofs.Ytdiogjldbhoiiaa.Dom


theorem FnExactIsLeap : laws_FnExactIsLeap.Pure := by
  intro a _
  unfold laws_FnExactIsLeap.f spec_IsLeap.f impl_IsLeap.f
  by_cases h4 : Int.tmod a 4 = 0
  · by_cases h100 : Int.tmod a 100 = 0 <;> simp [h4, h100]
  · have h400 : Int.tmod a 400 ≠ 0 := fun h => h4 (Int.tmod_eq_zero_of_dvd (Int.dvd_trans (by decide) (Int.dvd_of_tmod_eq_zero h)))
    simp [h4, h400]

end Go.Proofs.Ytdiogjldbhoiiaa.Pure
