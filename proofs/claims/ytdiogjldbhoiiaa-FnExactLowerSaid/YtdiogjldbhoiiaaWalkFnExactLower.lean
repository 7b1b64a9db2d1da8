/- The pure statement of the law FnExactLower, and the walk: what is shown of plain numbers, texts and lists is shown of the program. -/
import Derived.Test.YtdiogjldbhoiiaaQFnExactLowerx1
namespace Go.Proofs.Ytdiogjldbhoiiaa.QFnExactLower
open Go.RowKit Go.Proofs.YtdiogjldbhoiiaaW.PrintWords Go.Proofs.YtdiogjldbhoiiaaW.PrintLast Go.Proofs.YtdiogjldbhoiiaaW.PrintMore Go.Proofs.Ytdiogjldbhoiiaa.Aux Go.Proofs.Ytdiogjldbhoiiaa.Dom
def laws_FnExactLower.Pure : Prop := ∀ (a0 : ByteArray), a0.size ≤ 140737488351232 → laws_FnExactLower.f a0 = some true
theorem laws_FnExactLower.walk (P : laws_FnExactLower.Pure) (a0 : ByteArray) (w : World) (za0 : a0.size ≤ 140737488351232) :
    Calls Try.prog 7 #[.string a0] w fun e w' => e = .returned (.bool true) ∧ Below w.heap.size w w' := by
  have h := P a0 za0
  refine (laws_FnExactLower.calls a0 true w  h).mono ?_
  rintro e w' ⟨rfl, hd⟩
  exact ⟨rfl, hd⟩
end Go.Proofs.Ytdiogjldbhoiiaa.QFnExactLower
