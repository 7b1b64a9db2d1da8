/- The pure statement of the law FnExactReadFields, and the walk: what is shown of plain numbers, texts and lists is shown of the program. -/
import Derived.Test.YthloaefcmjpfaaaDoorQFnExactReadFieldsx10
namespace Go.Proofs.YthloaefcmjpfaaaDoor.QFnExactReadFields
open Go.RowKit Go.Proofs.YthloaefcmjpfaaaDoorW.PrintWords Go.Proofs.YthloaefcmjpfaaaDoorW.PrintLast Go.Proofs.YthloaefcmjpfaaaDoorW.PrintMore Go.Proofs.YthloaefcmjpfaaaDoor.Aux Go.Proofs.YthloaefcmjpfaaaDoor.Dom Go.Proofs.YthloaefcmjpfaaaDoor.Ext Go.Proofs.YthloaefcmjpfaaaDoor.Glob
def laws_FnExactReadFields.Pure : Prop := ∀ (a0 : ByteArray), a0.size ≤ 140737488351232 → ∃ k, laws_FnExactReadFields.f k a0 = some true
theorem laws_FnExactReadFields.walk (P : laws_FnExactReadFields.Pure) (a0 : ByteArray) (w : World) (za0 : a0.size ≤ 140737488351232) (hGMax : GMax w) :
    Calls Tryd.prog 10 #[.string a0] w fun e w' => e = .returned (.bool true) ∧ Below w.heap.size w w' := by
  obtain ⟨k, h⟩ := P a0 za0
  refine (laws_FnExactReadFields.calls k a0 true w  hGMax h).mono ?_
  rintro e w' ⟨rfl, hd⟩
  exact ⟨rfl, hd⟩
end Go.Proofs.YthloaefcmjpfaaaDoor.QFnExactReadFields
