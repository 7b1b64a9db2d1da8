/- The program's HexNum returns what the reference's returns, for all numbers. -/
import Derived.Test.YtefnmlglpldgfaaDoorDom
import Derived.Test.YtefnmlglpldgfaaDoorDomB
import Derived.Test.YtefnmlglpldgfaaDoorCFnExactHexNuma
namespace Go.Proofs.YtefnmlglpldgfaaDoor.QL
open Go.RowKit Go.Proofs.YtefnmlglpldgfaaDoorW.PrintWords Go.Proofs.YtefnmlglpldgfaaDoorW.PrintLast Go.Proofs.YtefnmlglpldgfaaDoorW.PrintMore Go.Proofs.YtefnmlglpldgfaaDoor.Aux Go.Proofs.YtefnmlglpldgfaaDoor.Dom Go.Proofs.YtefnmlglpldgfaaDoor.Ext Go.Proofs.YtefnmlglpldgfaaDoor.Glob
def laws_FnExactHexNum.Pure : Prop := ∀ (a0 : Int), (Lit.int .i64 a0).wf = true → ∃ k, laws_FnExactHexNum.f k a0 = some true
theorem laws_FnExactHexNum.walk (P : laws_FnExactHexNum.Pure) (a0 : Int) (w : World) (za0 : (Lit.int .i64 a0).wf = true) (hGTz : GTz w) :
    Calls Tryd.prog 3 #[.int .i64 a0] w fun e w' => e = .returned (.bool true) ∧ Below w.heap.size w w' := by
  obtain ⟨k, h⟩ := P a0 za0
  refine (laws_FnExactHexNum.calls k a0 true w  hGTz h).mono ?_
  rintro e w' ⟨rfl, hd⟩
  exact ⟨rfl, hd⟩
end Go.Proofs.YtefnmlglpldgfaaDoor.QL

namespace Go.Proofs.YtefnmlglpldgfaaDoor.Pure
set_option linter.unusedVariables false
set_option linter.unusedSimpArgs false
open Go.RowKit Go.Proofs.YtefnmlglpldgfaaDoor.QL Go.Proofs.YtefnmlglpldgfaaDoorW.PrintWords Go.Proofs.YtefnmlglpldgfaaDoorW.PrintLast Go.Proofs.YtefnmlglpldgfaaDoorW.PrintMore Go.Proofs.YtefnmlglpldgfaaDoor.Aux Go.Proofs.YtefnmlglpldgfaaDoor.Dom Go.Proofs.YtefnmlglpldgfaaDoor.Ext
theorem spec_HexNum_step (k : Nat) (u : Int) (acc : List Int) (h0 : 0 ≤ u) (h1 : u ≤ 9223372036854775807) (ha : acc.length ≤ 100) (h : u > 0 ∨ acc = []) : spec_HexNum.l0 (k + 1) u (strOfNums acc) = spec_HexNum.l0 k (u / 16) (strOfNums (hxn (u % 16) :: acc)) := by
  have e : ∀ acc : List Int, acc.length ≤ 100 → (if 0 ≤ (Int.tmod u 16) then (if (Int.tmod u 16) < 16 then ((some (([bt (⟨#[48, 49, 50, 51, 52, 53, 54, 55, 56, 57, 97, 98, 99, 100, 101, 102]⟩ : ByteArray) (Int.tmod u 16)] : List Int) : List Int)).bind fun y101 => (if (strOfNums y101).size + (strOfNums acc).size ≤ 9223372036854775807 then (spec_HexNum.l0 k (wrap64 (Int.tdiv u 16)) ((strOfNums y101) ++ (strOfNums acc))) else (none))) else (none)) else (none)) = spec_HexNum.l0 k (u / 16) (strOfNums (hxn (u % 16) :: acc)) := by
    intro acc ha
    rw [Int.tmod_eq_emod_of_nonneg h0, Int.tdiv_eq_ediv_of_nonneg h0, if_pos (by omega), if_pos (by omega), Option.bind_some, hex_bt (by omega) (by omega), if_pos (by rw [strOfNums_size, strOfNums_size]; simp; omega), wrap_id (by omega) (by omega), ← strOfNums_append]
    rfl
  simp only [spec_HexNum.l0]
  by_cases hu : u > 0
  · rw [if_pos hu]
    exact e acc ha
  · rw [if_neg hu]
    rcases h with h | rfl
    · exact absurd h hu
    · rw [if_pos nil_toList]
      exact e [] (by simp)
theorem spec_HexNum_l0 : ∀ (f : Nat) (u : Int) (acc : List Int), 0 ≤ u → u ≤ 9223372036854775807 → u < 16 ^ (f + 1) → acc.length + f ≤ 90 → (u > 0 ∨ acc = []) → Ev (fun k => spec_HexNum.l0 k u (strOfNums acc)) (strOfNums (hexA (f + 1) u acc))
  | f, u, acc, h0, h1, hu, ha, h => by
    refine Ev.step (fun k => spec_HexNum_step k u acc h0 h1 (by omega) h) ?_
    rw [hexA]
    by_cases h16 : 16 ≤ u
    · rw [if_pos h16]
      cases f with
      | zero => simp at hu; omega
      | succ f => exact spec_HexNum_l0 f (u / 16) _ (by omega) (by omega) (by rw [Int.pow_succ] at hu; omega) (by simp; omega) (.inl (by omega))
    · rw [if_neg h16]
      refine ev_last fun k => ?_
      rw [show u / 16 = 0 by omega, show u % 16 = u by omega]
      simp only [spec_HexNum.l0]
      rw [if_neg (by decide), if_neg (by rw [trim_nil]; intro hh; have := congrArg ByteArray.size hh; rw [strOfNums_size] at this; simp [ByteArray.size] at this)]
theorem spec_HexNum_ev (n : Int) (h1 : n ≤ 9223372036854775807) : Ev (fun k => spec_HexNum.f k n) (if n < 0 then ⟨#[]⟩ else hexNB n) := by
  have hp : (16 : Int) ^ 16 = 18446744073709551616 := by decide
  refine Ev.congr (fun k => by unfold spec_HexNum.f; rfl) (ev_ite (fun _ => Ev.now _) fun h => ?_)
  have := spec_HexNum_l0 15 n [] (by omega) h1 (by rw [hp]; omega) (by simp) (.inr rfl)
  exact this

end Go.Proofs.YtefnmlglpldgfaaDoor.Pure

namespace Go.Proofs.YtefnmlglpldgfaaDoor.Pure
set_option linter.unusedVariables false
set_option linter.unusedSimpArgs false
open Go.RowKit Go.Proofs.YtefnmlglpldgfaaDoor.QL Go.Proofs.YtefnmlglpldgfaaDoorW.PrintWords Go.Proofs.YtefnmlglpldgfaaDoorW.PrintLast Go.Proofs.YtefnmlglpldgfaaDoorW.PrintMore Go.Proofs.YtefnmlglpldgfaaDoor.Aux Go.Proofs.YtefnmlglpldgfaaDoor.Dom Go.Proofs.YtefnmlglpldgfaaDoor.Ext
theorem impl_HexNum_eq (n : Int) (h1 : n ≤ 9223372036854775807) : impl_HexNum.f n = some (if n < 0 then ⟨#[]⟩ else hexNB n) := by
  unfold impl_HexNum.f strconv_FormatInt.f
  by_cases h : n < 0
  · rw [if_pos h, if_pos h]
  · rw [if_neg h, if_neg h, if_pos (by omega)]
    rfl

end Go.Proofs.YtefnmlglpldgfaaDoor.Pure

namespace Go.Proofs.YtefnmlglpldgfaaDoor.Pure
set_option linter.unusedVariables false
set_option linter.unusedSimpArgs false
open Go.RowKit Go.Proofs.YtefnmlglpldgfaaDoor.QL Go.Proofs.YtefnmlglpldgfaaDoorW.PrintWords Go.Proofs.YtefnmlglpldgfaaDoorW.PrintLast Go.Proofs.YtefnmlglpldgfaaDoorW.PrintMore Go.Proofs.YtefnmlglpldgfaaDoor.Aux Go.Proofs.YtefnmlglpldgfaaDoor.Dom Go.Proofs.YtefnmlglpldgfaaDoor.Ext

theorem FnExactHexNum : laws_FnExactHexNum.Pure := by
  intro n hn
  have hb := wf_i64 hn
  refine Ev.rounds (Ev.congr (fun k => by unfold laws_FnExactHexNum.f; rfl) ?_)
  exact ev_bind (spec_HexNum_ev n hb.2) (ev_bind (ev_some fun _ => impl_HexNum_eq n hb.2) (ev_if_pos rfl (Ev.now _)))

end Go.Proofs.YtefnmlglpldgfaaDoor.Pure
