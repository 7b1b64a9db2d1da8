/- The pure statement of the law FnExactDaysOf, and the walk: what is shown of plain numbers, texts and lists is shown of the program. -/
import Derived.Test.YtcllhbgglokejaaQFnExactDaysOfx2
namespace Go.Proofs.Ytcllhbgglokejaa.QFnExactDaysOf
open Go.RowKit Go.Proofs.YtcllhbgglokejaaW.PrintWords Go.Proofs.YtcllhbgglokejaaW.PrintLast Go.Proofs.YtcllhbgglokejaaW.PrintMore Go.Proofs.Ytcllhbgglokejaa.Aux Go.Proofs.Ytcllhbgglokejaa.Dom
def laws_FnExactDaysOf.Pure : Prop := ∀ (a0 : Int) (a1 : Int) (a2 : Int), (Lit.int .i64 a0).wf = true → (Lit.int .i64 a1).wf = true → (Lit.int .i64 a2).wf = true → ∃ k, laws_FnExactDaysOf.f k a0 a1 a2 = some true
theorem laws_FnExactDaysOf.walk (P : laws_FnExactDaysOf.Pure) (a0 : Int) (a1 : Int) (a2 : Int) (w : World) (za0 : (Lit.int .i64 a0).wf = true) (za1 : (Lit.int .i64 a1).wf = true) (za2 : (Lit.int .i64 a2).wf = true) :
    Calls Try.prog 5 #[.int .i64 a0, .int .i64 a1, .int .i64 a2] w fun e w' => e = .returned (.bool true) ∧ Below w.heap.size w w' := by
  obtain ⟨k, h⟩ := P a0 a1 a2 za0 za1 za2
  refine (laws_FnExactDaysOf.calls k a0 a1 a2 true w  h).mono ?_
  rintro e w' ⟨rfl, hd⟩
  exact ⟨rfl, hd⟩
end Go.Proofs.Ytcllhbgglokejaa.QFnExactDaysOf
