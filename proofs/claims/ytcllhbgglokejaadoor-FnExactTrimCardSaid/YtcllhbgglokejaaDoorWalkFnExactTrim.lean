/- The pure statement of the law FnExactTrim, and the walk: what is shown of plain numbers, texts and lists is shown of the program. -/
import Derived.Test.YtcllhbgglokejaaDoorQFnExactTrimx1
namespace Go.Proofs.YtcllhbgglokejaaDoor.QFnExactTrim
open Go.RowKit Go.Proofs.YtcllhbgglokejaaDoorW.PrintWords Go.Proofs.YtcllhbgglokejaaDoorW.PrintLast Go.Proofs.YtcllhbgglokejaaDoorW.PrintMore Go.Proofs.YtcllhbgglokejaaDoor.Aux Go.Proofs.YtcllhbgglokejaaDoor.Dom Go.Proofs.YtcllhbgglokejaaDoor.Ext
def laws_FnExactTrim.Pure : Prop := ∀ (a0 : ByteArray), a0.size ≤ 140737488351232 → ∃ k, laws_FnExactTrim.f k a0 = some true
theorem laws_FnExactTrim.walk (P : laws_FnExactTrim.Pure) (a0 : ByteArray) (w : World) (za0 : a0.size ≤ 140737488351232) :
    Calls Tryd.prog 5 #[.string a0] w fun e w' => e = .returned (.bool true) ∧ Below w.heap.size w w' := by
  obtain ⟨k, h⟩ := P a0 za0
  refine (laws_FnExactTrim.calls k a0 true w  h).mono ?_
  rintro e w' ⟨rfl, hd⟩
  exact ⟨rfl, hd⟩
end Go.Proofs.YtcllhbgglokejaaDoor.QFnExactTrim
