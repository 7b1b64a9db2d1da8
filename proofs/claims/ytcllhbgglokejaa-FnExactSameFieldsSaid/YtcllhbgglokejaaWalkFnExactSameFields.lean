/- The pure statement of the law FnExactSameFields, and the walk: what is shown of plain numbers, texts and lists is shown of the program. -/
import Derived.Test.YtcllhbgglokejaaQFnExactSameFieldsx3
namespace Go.Proofs.Ytcllhbgglokejaa.QFnExactSameFields
open Go.RowKit Go.Proofs.YtcllhbgglokejaaW.PrintWords Go.Proofs.YtcllhbgglokejaaW.PrintLast Go.Proofs.YtcllhbgglokejaaW.PrintMore Go.Proofs.Ytcllhbgglokejaa.Aux Go.Proofs.Ytcllhbgglokejaa.Dom
def laws_FnExactSameFields.Pure : Prop := ∀ (l0 : List S62) (l1 : List S62), l0.length ≤ maxLen → (∀ x ∈ l0, x.f0.size ≤ maxLen ∧ x.f1.size ≤ maxLen) → l1.length ≤ maxLen → (∀ x ∈ l1, x.f0.size ≤ maxLen ∧ x.f1.size ≤ maxLen) → ∃ k, laws_FnExactSameFields.f k l0 l1 = some true
theorem laws_FnExactSameFields.walk (P : laws_FnExactSameFields.Pure) (A0 : Option Addr) (c0 : Nat) (l0 : List S62) (A1 : Option Addr) (c1 : Nat) (l1 : List S62) (w : World) (hr0 : Kd.C k62 w A0 l0.length l0) (hc0 : l0.length ≤ c0) (zl0 : l0.length ≤ maxLen) (zm0 : ∀ x ∈ l0, x.f0.size ≤ maxLen ∧ x.f1.size ≤ maxLen) (hr1 : Kd.C k62 w A1 l1.length l1) (hc1 : l1.length ≤ c1) (zl1 : l1.length ≤ maxLen) (zm1 : ∀ x ∈ l1, x.f0.size ≤ maxLen ∧ x.f1.size ≤ maxLen) :
    Calls Try.prog 6 #[.slice A0 l0.length c0, .slice A1 l1.length c1] w fun e w' => e = .returned (.bool true) ∧ Below w.heap.size w w' := by
  obtain ⟨k, h⟩ := P l0 l1 zl0 zm0 zl1 zm1
  refine (laws_FnExactSameFields.calls k A0 c0 l0 A1 c1 l1 true w hr0 hc0 hr1 hc1 h).mono ?_
  rintro e w' ⟨rfl, hd⟩
  exact ⟨rfl, hd⟩
end Go.Proofs.Ytcllhbgglokejaa.QFnExactSameFields
