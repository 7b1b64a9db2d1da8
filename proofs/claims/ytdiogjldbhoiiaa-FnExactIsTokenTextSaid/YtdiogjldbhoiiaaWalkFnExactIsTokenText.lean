/- The pure statement of the law FnExactIsTokenText, and the walk: what is shown of plain numbers, texts and lists is shown of the program. -/
import Derived.Test.YtdiogjldbhoiiaaQFnExactIsTokenTextx1
namespace Go.Proofs.Ytdiogjldbhoiiaa.QFnExactIsTokenText
open Go.RowKit Go.Proofs.YtdiogjldbhoiiaaW.PrintWords Go.Proofs.YtdiogjldbhoiiaaW.PrintLast Go.Proofs.YtdiogjldbhoiiaaW.PrintMore Go.Proofs.Ytdiogjldbhoiiaa.Aux Go.Proofs.Ytdiogjldbhoiiaa.Dom Go.Proofs.Ytdiogjldbhoiiaa.Ext
def laws_FnExactIsTokenText.Pure : Prop := ∀ (a0 : ByteArray), a0.size ≤ 140737488351232 → ∃ k, laws_FnExactIsTokenText.f k a0 = some true
theorem laws_FnExactIsTokenText.walk (P : laws_FnExactIsTokenText.Pure) (a0 : ByteArray) (w : World) (za0 : a0.size ≤ 140737488351232) :
    Calls Try.prog 12 #[.string a0] w fun e w' => e = .returned (.bool true) ∧ Below w.heap.size w w' := by
  obtain ⟨k, h⟩ := P a0 za0
  refine (laws_FnExactIsTokenText.calls k a0 true w  h).mono ?_
  rintro e w' ⟨rfl, hd⟩
  exact ⟨rfl, hd.below⟩
end Go.Proofs.Ytdiogjldbhoiiaa.QFnExactIsTokenText
