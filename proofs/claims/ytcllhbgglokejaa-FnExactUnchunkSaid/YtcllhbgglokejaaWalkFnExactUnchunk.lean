/- The pure statement of the law FnExactUnchunk, and the walk: what is shown of plain numbers, texts and lists is shown of the program. -/
import Derived.Test.YtcllhbgglokejaaQFnExactUnchunkx3
namespace Go.Proofs.Ytcllhbgglokejaa.QFnExactUnchunk
open Go.RowKit Go.Proofs.YtcllhbgglokejaaW.PrintWords Go.Proofs.YtcllhbgglokejaaW.PrintLast Go.Proofs.YtcllhbgglokejaaW.PrintMore Go.Proofs.Ytcllhbgglokejaa.Aux Go.Proofs.Ytcllhbgglokejaa.Dom Go.Proofs.Ytcllhbgglokejaa.Ext Go.Proofs.Ytcllhbgglokejaa.Glob
def laws_FnExactUnchunk.Pure : Prop := ∀ (a0 : ByteArray), a0.size ≤ 140737488351232 → ∃ k, laws_FnExactUnchunk.f k a0 = some true
theorem laws_FnExactUnchunk.walk (P : laws_FnExactUnchunk.Pure) (a0 : ByteArray) (w : World) (za0 : a0.size ≤ 140737488351232) (hGMax : GMax w) :
    Calls Try.prog 11 #[.string a0] w fun e w' => e = .returned (.bool true) ∧ Below w.heap.size w w' := by
  obtain ⟨k, h⟩ := P a0 za0
  refine (laws_FnExactUnchunk.calls k a0 true w  hGMax h).mono ?_
  rintro e w' ⟨rfl, hd⟩
  exact ⟨rfl, hd⟩
end Go.Proofs.Ytcllhbgglokejaa.QFnExactUnchunk
