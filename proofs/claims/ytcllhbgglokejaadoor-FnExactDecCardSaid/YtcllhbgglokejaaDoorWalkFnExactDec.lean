/- The pure statement of the law FnExactDec, and the walk: what is shown of plain numbers, texts and lists is shown of the program. -/
import Derived.Test.YtcllhbgglokejaaDoorQFnExactDecx1
namespace Go.Proofs.YtcllhbgglokejaaDoor.QFnExactDec
open Go.RowKit Go.Proofs.YtcllhbgglokejaaDoorW.PrintWords Go.Proofs.YtcllhbgglokejaaDoorW.PrintLast Go.Proofs.YtcllhbgglokejaaDoorW.PrintMore Go.Proofs.YtcllhbgglokejaaDoor.Aux Go.Proofs.YtcllhbgglokejaaDoor.Dom Go.Proofs.YtcllhbgglokejaaDoor.Ext Go.Proofs.YtcllhbgglokejaaDoor.Glob
def laws_FnExactDec.Pure : Prop := ∀ (a0 : Int), (Lit.int .i64 a0).wf = true → ∃ k, laws_FnExactDec.f k a0 = some true
theorem laws_FnExactDec.walk (P : laws_FnExactDec.Pure) (a0 : Int) (w : World) (za0 : (Lit.int .i64 a0).wf = true) (hGPow : GPow w) :
    Calls Tryd.prog 4 #[.int .i64 a0] w fun e w' => e = .returned (.bool true) ∧ Below w.heap.size w w' := by
  obtain ⟨k, h⟩ := P a0 za0
  refine (laws_FnExactDec.calls k a0 true w  hGPow h).mono ?_
  rintro e w' ⟨rfl, hd⟩
  exact ⟨rfl, hd⟩
end Go.Proofs.YtcllhbgglokejaaDoor.QFnExactDec
