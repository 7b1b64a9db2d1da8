/- The pure statement of the law FnExactSeconds, and the walk: what is shown of plain numbers, texts and lists is shown of the program. -/
import Derived.Test.YthloaefcmjpfaaaDoorQFnExactSecondsx1
namespace Go.Proofs.YthloaefcmjpfaaaDoor.QFnExactSeconds
open Go.RowKit Go.Proofs.YthloaefcmjpfaaaDoorW.PrintWords Go.Proofs.YthloaefcmjpfaaaDoorW.PrintLast Go.Proofs.YthloaefcmjpfaaaDoorW.PrintMore Go.Proofs.YthloaefcmjpfaaaDoor.Aux Go.Proofs.YthloaefcmjpfaaaDoor.Dom Go.Proofs.YthloaefcmjpfaaaDoor.Ext
def laws_FnExactSeconds.Pure : Prop := ∀ (a0 : ByteArray), a0.size ≤ 140737488351232 → ∃ k, laws_FnExactSeconds.f k a0 = some true
theorem laws_FnExactSeconds.walk (P : laws_FnExactSeconds.Pure) (a0 : ByteArray) (w : World) (za0 : a0.size ≤ 140737488351232) :
    Calls Tryd.prog 14 #[.string a0] w fun e w' => e = .returned (.bool true) ∧ Below w.heap.size w w' := by
  obtain ⟨k, h⟩ := P a0 za0
  refine (laws_FnExactSeconds.calls k a0 true w  h).mono ?_
  rintro e w' ⟨rfl, hd⟩
  exact ⟨rfl, hd⟩
end Go.Proofs.YthloaefcmjpfaaaDoor.QFnExactSeconds
