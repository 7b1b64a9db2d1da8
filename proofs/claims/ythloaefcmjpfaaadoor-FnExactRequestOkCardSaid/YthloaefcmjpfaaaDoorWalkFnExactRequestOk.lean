/- The pure statement of the law FnExactRequestOk, and the walk: what is shown of plain numbers, texts and lists is shown of the program. -/
import Derived.Test.YthloaefcmjpfaaaDoorQFnExactRequestOkx7
namespace Go.Proofs.YthloaefcmjpfaaaDoor.QFnExactRequestOk
open Go.RowKit Go.Proofs.YthloaefcmjpfaaaDoorW.PrintWords Go.Proofs.YthloaefcmjpfaaaDoorW.PrintLast Go.Proofs.YthloaefcmjpfaaaDoorW.PrintMore Go.Proofs.YthloaefcmjpfaaaDoor.Aux Go.Proofs.YthloaefcmjpfaaaDoor.Dom Go.Proofs.YthloaefcmjpfaaaDoor.Ext
def laws_FnExactRequestOk.Pure : Prop := ∀ (a0_0 : ByteArray) (a0_1 : ByteArray) (l0_2 : List S75) (a0_3 : ByteArray), a0_0.size ≤ maxLen → a0_1.size ≤ maxLen → l0_2.length ≤ maxLen → (∀ x ∈ l0_2, x.f0.size ≤ maxLen ∧ x.f1.size ≤ maxLen) → a0_3.size ≤ maxLen → ∃ k, laws_FnExactRequestOk.f k a0_0 a0_1 l0_2 a0_3 = some true
theorem laws_FnExactRequestOk.walk (P : laws_FnExactRequestOk.Pure) (a0_0 : ByteArray) (a0_1 : ByteArray) (A0_2 : Option Addr) (c0_2 : Nat) (l0_2 : List S75) (a0_3 : ByteArray) (w : World) (za0_0 : a0_0.size ≤ maxLen) (za0_1 : a0_1.size ≤ maxLen) (hr0_2 : Kd.C k75 w A0_2 l0_2.length l0_2) (hc0_2 : l0_2.length ≤ c0_2) (zl0_2 : l0_2.length ≤ maxLen) (zm0_2 : ∀ x ∈ l0_2, x.f0.size ≤ maxLen ∧ x.f1.size ≤ maxLen) (za0_3 : a0_3.size ≤ maxLen) :
    Calls Tryd.prog 12 #[.agg #[.string a0_0, .string a0_1, .slice A0_2 l0_2.length c0_2, .string a0_3]] w fun e w' => e = .returned (.bool true) ∧ Below w.heap.size w w' := by
  obtain ⟨k, h⟩ := P a0_0 a0_1 l0_2 a0_3 za0_0 za0_1 zl0_2 zm0_2 za0_3
  refine (laws_FnExactRequestOk.calls k a0_0 a0_1 A0_2 c0_2 l0_2 a0_3 true w hr0_2 hc0_2 h).mono ?_
  rintro e w' ⟨rfl, hd⟩
  exact ⟨rfl, hd⟩
end Go.Proofs.YthloaefcmjpfaaaDoor.QFnExactRequestOk
