/- The pure statement of the law FnExactResponseOk, and the walk: what is shown of plain numbers, texts and lists is shown of the program. -/
import Derived.Test.YthloaefcmjpfaaaDoorQFnExactResponseOkx7
namespace Go.Proofs.YthloaefcmjpfaaaDoor.QFnExactResponseOk
open Go.RowKit Go.Proofs.YthloaefcmjpfaaaDoorW.PrintWords Go.Proofs.YthloaefcmjpfaaaDoorW.PrintLast Go.Proofs.YthloaefcmjpfaaaDoorW.PrintMore Go.Proofs.YthloaefcmjpfaaaDoor.Aux Go.Proofs.YthloaefcmjpfaaaDoor.Dom Go.Proofs.YthloaefcmjpfaaaDoor.Ext
def laws_FnExactResponseOk.Pure : Prop := ∀ (a0_0 : Int) (l0_1 : List S75) (a0_2 : ByteArray), (Lit.int .i64 a0_0).wf = true → l0_1.length ≤ maxLen → (∀ x ∈ l0_1, x.f0.size ≤ maxLen ∧ x.f1.size ≤ maxLen) → a0_2.size ≤ maxLen → ∃ k, laws_FnExactResponseOk.f k a0_0 l0_1 a0_2 = some true
theorem laws_FnExactResponseOk.walk (P : laws_FnExactResponseOk.Pure) (a0_0 : Int) (A0_1 : Option Addr) (c0_1 : Nat) (l0_1 : List S75) (a0_2 : ByteArray) (w : World) (za0_0 : (Lit.int .i64 a0_0).wf = true) (hr0_1 : Kd.C k75 w A0_1 l0_1.length l0_1) (hc0_1 : l0_1.length ≤ c0_1) (zl0_1 : l0_1.length ≤ maxLen) (zm0_1 : ∀ x ∈ l0_1, x.f0.size ≤ maxLen ∧ x.f1.size ≤ maxLen) (za0_2 : a0_2.size ≤ maxLen) :
    Calls Tryd.prog 11 #[.agg #[.int .i64 a0_0, .slice A0_1 l0_1.length c0_1, .string a0_2]] w fun e w' => e = .returned (.bool true) ∧ Below w.heap.size w w' := by
  obtain ⟨k, h⟩ := P a0_0 l0_1 a0_2 za0_0 zl0_1 zm0_1 za0_2
  refine (laws_FnExactResponseOk.calls k a0_0 A0_1 c0_1 l0_1 a0_2 true w hr0_1 hc0_1 h).mono ?_
  rintro e w' ⟨rfl, hd⟩
  exact ⟨rfl, hd⟩
end Go.Proofs.YthloaefcmjpfaaaDoor.QFnExactResponseOk
