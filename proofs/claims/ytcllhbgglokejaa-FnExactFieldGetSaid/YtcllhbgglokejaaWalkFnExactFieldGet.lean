/- The pure statement of the law FnExactFieldGet, and the walk: what is shown of plain numbers, texts and lists is shown of the program. -/
import Derived.Test.YtcllhbgglokejaaQFnExactFieldGetx2
namespace Go.Proofs.Ytcllhbgglokejaa.QFnExactFieldGet
open Go.RowKit Go.Proofs.YtcllhbgglokejaaW.PrintWords Go.Proofs.YtcllhbgglokejaaW.PrintLast Go.Proofs.YtcllhbgglokejaaW.PrintMore Go.Proofs.Ytcllhbgglokejaa.Aux Go.Proofs.Ytcllhbgglokejaa.Dom Go.Proofs.Ytcllhbgglokejaa.Ext
def laws_FnExactFieldGet.Pure : Prop := ∀ (l0 : List S62) (a1 : ByteArray), l0.length ≤ maxLen → (∀ x ∈ l0, x.f0.size ≤ maxLen ∧ x.f1.size ≤ maxLen) → a1.size ≤ 140737488351232 → ∃ k, laws_FnExactFieldGet.f k l0 a1 = some true
theorem laws_FnExactFieldGet.walk (P : laws_FnExactFieldGet.Pure) (A0 : Option Addr) (c0 : Nat) (l0 : List S62) (a1 : ByteArray) (w : World) (hr0 : Kd.C k62 w A0 l0.length l0) (hc0 : l0.length ≤ c0) (zl0 : l0.length ≤ maxLen) (zm0 : ∀ x ∈ l0, x.f0.size ≤ maxLen ∧ x.f1.size ≤ maxLen) (za1 : a1.size ≤ 140737488351232) :
    Calls Try.prog 10 #[.slice A0 l0.length c0, .string a1] w fun e w' => e = .returned (.bool true) ∧ Below w.heap.size w w' := by
  obtain ⟨k, h⟩ := P l0 a1 zl0 zm0 za1
  refine (laws_FnExactFieldGet.calls k A0 c0 l0 a1 true w hr0 hc0 h).mono ?_
  rintro e w' ⟨rfl, hd⟩
  exact ⟨rfl, hd⟩
end Go.Proofs.Ytcllhbgglokejaa.QFnExactFieldGet
