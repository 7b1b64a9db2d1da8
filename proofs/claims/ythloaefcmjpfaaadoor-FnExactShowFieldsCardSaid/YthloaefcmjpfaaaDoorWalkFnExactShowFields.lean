/- The pure statement of the law FnExactShowFields, and the walk: what is shown of plain numbers, texts and lists is shown of the program. -/
import Derived.Test.YthloaefcmjpfaaaDoorQFnExactShowFieldsx6
namespace Go.Proofs.YthloaefcmjpfaaaDoor.QFnExactShowFields
open Go.RowKit Go.Proofs.YthloaefcmjpfaaaDoorW.PrintWords Go.Proofs.YthloaefcmjpfaaaDoorW.PrintLast Go.Proofs.YthloaefcmjpfaaaDoorW.PrintMore Go.Proofs.YthloaefcmjpfaaaDoor.Aux Go.Proofs.YthloaefcmjpfaaaDoor.Dom Go.Proofs.YthloaefcmjpfaaaDoor.Ext
def laws_FnExactShowFields.Pure : Prop := ∀ (l0 : List S75), l0.length ≤ maxLen → (∀ x ∈ l0, x.f0.size ≤ maxLen ∧ x.f1.size ≤ maxLen) → ∃ k, laws_FnExactShowFields.f k l0 = some true
theorem laws_FnExactShowFields.walk (P : laws_FnExactShowFields.Pure) (A0 : Option Addr) (c0 : Nat) (l0 : List S75) (w : World) (hr0 : Kd.C k75 w A0 l0.length l0) (hc0 : l0.length ≤ c0) (zl0 : l0.length ≤ maxLen) (zm0 : ∀ x ∈ l0, x.f0.size ≤ maxLen ∧ x.f1.size ≤ maxLen) :
    Calls Tryd.prog 8 #[.slice A0 l0.length c0] w fun e w' => e = .returned (.bool true) ∧ Below w.heap.size w w' := by
  obtain ⟨k, h⟩ := P l0 zl0 zm0
  refine (laws_FnExactShowFields.calls k A0 c0 l0 true w hr0 hc0 h).mono ?_
  rintro e w' ⟨rfl, hd⟩
  exact ⟨rfl, hd⟩
end Go.Proofs.YthloaefcmjpfaaaDoor.QFnExactShowFields
