/- The program's SatAdd returns what the reference's returns, for all numbers. -/
import Derived.Test.YtdiogjldbhoiiaaPFnExactSatAddx1
import Derived.Test.YtdiogjldbhoiiaaDom
namespace Go.Proofs.Ytdiogjldbhoiiaa.Pure
open Go.RowKit Go.Proofs.Ytdiogjldbhoiiaa.PFnExactSatAdd Go.Proofs.YtdiogjldbhoiiaaW.PrintWords Go.Proofs.YtdiogjldbhoiiaaW.PrintLast Go.Proofs.YtdiogjldbhoiiaaW.PrintMore Go.Proofs.Ytdiogjldbhoiiaa.Aux Go.Proofs.Ytdiogjldbhoiiaa.Dom


theorem FnExactSatAdd : laws_FnExactSatAdd.Pure := by
  intro a b _ _
  unfold laws_FnExactSatAdd.f spec_SatAdd.f impl_SatAdd.f impl_within.f
  simp only [Option.bind_some]
  rw [wrap_id (by unfold mx mn; omega) (by unfold mx mn; omega), if_pos rfl]

end Go.Proofs.Ytdiogjldbhoiiaa.Pure
