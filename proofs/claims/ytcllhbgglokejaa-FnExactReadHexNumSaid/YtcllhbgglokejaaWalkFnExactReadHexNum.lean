/- The pure statement of the law FnExactReadHexNum, and the walk: what is shown of plain numbers, texts and lists is shown of the program. -/
import Derived.Test.YtcllhbgglokejaaQFnExactReadHexNumx1
namespace Go.Proofs.Ytcllhbgglokejaa.QFnExactReadHexNum
open Go.RowKit Go.Proofs.YtcllhbgglokejaaW.PrintWords Go.Proofs.YtcllhbgglokejaaW.PrintLast Go.Proofs.YtcllhbgglokejaaW.PrintMore Go.Proofs.Ytcllhbgglokejaa.Aux Go.Proofs.Ytcllhbgglokejaa.Dom
def laws_FnExactReadHexNum.Pure : Prop := ∀ (a0 : ByteArray), a0.size ≤ 140737488351232 → ∃ k, laws_FnExactReadHexNum.f k a0 = some true
theorem laws_FnExactReadHexNum.walk (P : laws_FnExactReadHexNum.Pure) (a0 : ByteArray) (w : World) (za0 : a0.size ≤ 140737488351232) :
    Calls Try.prog 4 #[.string a0] w fun e w' => e = .returned (.bool true) ∧ Below w.heap.size w w' := by
  obtain ⟨k, h⟩ := P a0 za0
  refine (laws_FnExactReadHexNum.calls k a0 true w  h).mono ?_
  rintro e w' ⟨rfl, hd⟩
  exact ⟨rfl, hd.below⟩
end Go.Proofs.Ytcllhbgglokejaa.QFnExactReadHexNum
