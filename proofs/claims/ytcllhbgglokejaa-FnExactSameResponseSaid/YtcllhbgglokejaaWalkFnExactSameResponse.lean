/- The pure statement of the law FnExactSameResponse, and the walk: what is shown of plain numbers, texts and lists is shown of the program. -/
import Derived.Test.YtcllhbgglokejaaQFnExactSameResponsex4
namespace Go.Proofs.Ytcllhbgglokejaa.QFnExactSameResponse
open Go.RowKit Go.Proofs.YtcllhbgglokejaaW.PrintWords Go.Proofs.YtcllhbgglokejaaW.PrintLast Go.Proofs.YtcllhbgglokejaaW.PrintMore Go.Proofs.Ytcllhbgglokejaa.Aux Go.Proofs.Ytcllhbgglokejaa.Dom
def laws_FnExactSameResponse.Pure : Prop := ∀ (a0_0 : Int) (l0_1 : List S62) (a0_2 : ByteArray) (a1_0 : Int) (l1_1 : List S62) (a1_2 : ByteArray), (Lit.int .i64 a0_0).wf = true → l0_1.length ≤ maxLen → (∀ x ∈ l0_1, x.f0.size ≤ maxLen ∧ x.f1.size ≤ maxLen) → a0_2.size ≤ maxLen → (Lit.int .i64 a1_0).wf = true → l1_1.length ≤ maxLen → (∀ x ∈ l1_1, x.f0.size ≤ maxLen ∧ x.f1.size ≤ maxLen) → a1_2.size ≤ maxLen → ∃ k, laws_FnExactSameResponse.f k a0_0 l0_1 a0_2 a1_0 l1_1 a1_2 = some true
theorem laws_FnExactSameResponse.walk (P : laws_FnExactSameResponse.Pure) (a0_0 : Int) (A0_1 : Option Addr) (c0_1 : Nat) (l0_1 : List S62) (a0_2 : ByteArray) (a1_0 : Int) (A1_1 : Option Addr) (c1_1 : Nat) (l1_1 : List S62) (a1_2 : ByteArray) (w : World) (za0_0 : (Lit.int .i64 a0_0).wf = true) (hr0_1 : Kd.C k62 w A0_1 l0_1.length l0_1) (hc0_1 : l0_1.length ≤ c0_1) (zl0_1 : l0_1.length ≤ maxLen) (zm0_1 : ∀ x ∈ l0_1, x.f0.size ≤ maxLen ∧ x.f1.size ≤ maxLen) (za0_2 : a0_2.size ≤ maxLen) (za1_0 : (Lit.int .i64 a1_0).wf = true) (hr1_1 : Kd.C k62 w A1_1 l1_1.length l1_1) (hc1_1 : l1_1.length ≤ c1_1) (zl1_1 : l1_1.length ≤ maxLen) (zm1_1 : ∀ x ∈ l1_1, x.f0.size ≤ maxLen ∧ x.f1.size ≤ maxLen) (za1_2 : a1_2.size ≤ maxLen) :
    Calls Try.prog 7 #[.agg #[.int .i64 a0_0, .slice A0_1 l0_1.length c0_1, .string a0_2], .agg #[.int .i64 a1_0, .slice A1_1 l1_1.length c1_1, .string a1_2]] w fun e w' => e = .returned (.bool true) ∧ Below w.heap.size w w' := by
  obtain ⟨k, h⟩ := P a0_0 l0_1 a0_2 a1_0 l1_1 a1_2 za0_0 zl0_1 zm0_1 za0_2 za1_0 zl1_1 zm1_1 za1_2
  refine (laws_FnExactSameResponse.calls k a0_0 A0_1 c0_1 l0_1 a0_2 a1_0 A1_1 c1_1 l1_1 a1_2 true w hr0_1 hc0_1 hr1_1 hc1_1 h).mono ?_
  rintro e w' ⟨rfl, hd⟩
  exact ⟨rfl, hd⟩
end Go.Proofs.Ytcllhbgglokejaa.QFnExactSameResponse
