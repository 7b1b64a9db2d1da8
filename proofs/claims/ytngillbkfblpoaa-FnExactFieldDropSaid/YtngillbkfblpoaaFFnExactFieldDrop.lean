/- The law FnExactFieldDrop as a row of the program, out of its pure statement and the walk. -/
import Derived.Test.YtngillbkfblpoaaKFnExactFieldDrop
import Derived.Test.YtngillbkfblpoaaRows
import Derived.Test.YtngillbkfblpoaaOpen
import Derived.HandedShaped
import Derived.WalkKit
import Derived.ProofKit
import Derived.OpenShut
import Derived.ShutString
import Derived.ChangeOld
import Derived.Below
import Derived.SizedLaws
import Derived.Test.YtngillbkfblpoaaWSized
namespace Go.Proofs.Ytngillbkfblpoaa.fnExactFieldDrop
open Go.ChangeShapes Go.WideShapes Go.ChangeAt Go.RowKit Go.Proofs.YtngillbkfblpoaaW
open Go.ChangeMaps (open_string shut_string)
set_option linter.unusedVariables false
theorem own : ownKnob Try.prog.godebug = none := by kernel_rfl
theorem laidOut : laidOutB Try.prog = true := by kernel_rfl
theorem rowC {W : World} {A : Option Addr} {l : List (ByteArray × ByteArray)} (h : Open.PairsAt W A l) : PrintWords.Kd.C QL.k32 W A (l.map fun p => (⟨p.1, p.2⟩ : QL.S32)).length (l.map fun p => (⟨p.1, p.2⟩ : QL.S32)) := by
  refine ⟨rfl, by rw [List.length_map]; exact h.1, fun hn => ?_⟩
  rw [List.length_map] at hn
  obtain ⟨ad, e, hc⟩ := h.2.2 hn
  refine ⟨ad, e, fun j p hj => ?_⟩
  rw [List.getElem?_map] at hj
  obtain ⟨q, hq, rfl⟩ := Option.map_eq_some_iff.1 hj
  refine ⟨[.string q.1, .string q.2], rfl, QL.k32_mk W _, fun i u hu => ?_⟩
  obtain ⟨h0, h1⟩ := hc j q hq
  match i, hu with
  | 0, hu => obtain rfl : Value.string q.1 = u := by simpa using hu
             exact h0
  | 1, hu => obtain rfl : Value.string q.2 = u := by simpa using hu
             exact h1
theorem rowB {W : World} {A : Option Addr} {l : List (ByteArray × ByteArray)} (h : Open.PairsAt W A l) : (l.map fun p => (⟨p.1, p.2⟩ : QL.S32)).length ≤ maxLen ∧ ∀ x ∈ l.map fun p => (⟨p.1, p.2⟩ : QL.S32), x.f0.size ≤ maxLen ∧ x.f1.size ≤ maxLen := by
  refine ⟨by rw [List.length_map]; exact h.1, fun x hx => ?_⟩
  obtain ⟨q, hq, rfl⟩ := List.mem_map.1 hx
  exact h.2.1 q hq
set_option maxHeartbeats 1000000 in
set_option maxRecDepth 100000 in
theorem lifted (os : Os) (started : os.Started) (H : Type) (enc : TypeId × Value → H) :
    ReturnsInHanded {} Try.checked os 3 .any (Rows.fnExactFieldDropSpec.pre6 enc Try.prog Try.f3 Rows.fnExactFieldDropRow.domain false) (Rows.fnExactFieldDropSpec.post enc Try.prog Try.f3 false true false false) := by
  refine returnsInHanded_of_change_shaped (C := Try.checked) own started (by kernel_rfl) Try.func3
    (ChangeSpec.witness6 (enc := enc) (C := Try.checked) false ⟨#[], #[.slice none 0 0, .string ByteArray.empty], []⟩ 8 (by kernel_rfl) (by kernel_rfl) (by kernel_rfl) (by kernel_rfl)) ?_
  intro W base args ds gs before hval0 hW hcnd hsz0 hsh _
  have hsz : (DataW.weightsEach Try.prog (Try.f3.params.toList ++ Rows.fnExactFieldDropSpec.plain.varTypes Try.prog) (ds ++ gs)).all (· ≤ reachBytes) = true := hsz0
  have hval : ∀ (j : Nat) t v, Try.f3.params[j]? = some t → args[j]? = some v → Value.okWide Try.prog W .any base t v := hval0
  have hW' := hW
  obtain ⟨p, q, hA0, hV, rfl, hfz, hnd⟩ := hW
  have hA : DataW.TrodAll enc Try.prog W 0 (fun _ => true) true Try.f3.params.toList args.toList ds p := hA0
  rw [Try.params3] at hA hval hsz
  obtain ⟨v0, vs0, d0, ds0, p0, q0, hargs, rfl, rfl, h0, r0⟩ := trodAll_cons hA
  obtain ⟨v1, vs1, d1, ds1, p1, q1, rfl, rfl, rfl, h1, r1⟩ := trodAll_cons r0
  obtain ⟨rfl, rfl, rfl⟩ := trodAll_nil r1
  obtain rfl : args = #[v0, v1] := by cases args; simp_all
  obtain ⟨rfl, rfl⟩ := trodVars_none hV
  obtain ⟨A0, n0, c0, rfl⟩ := okWide_slice Try.underlying22 (hval 0 22 v0 rfl rfl)
  have k0 := h0
  have lt0 : ∀ x ∈ p0, x.block < W.heap.size := by obtain ⟨m, hm⟩ := k0; exact DataW.trod_lt m _ _ _ hm
  obtain ⟨fu0, hf0⟩ := h0
  obtain ⟨Ax_, cx_, l0, e0, hl0, hp0⟩ := Open.open_pairs (v := .slice A0 n0 c0) Try.underlying22 Try.underlying32 (by kernel_rfl) (by kernel_rfl) Try.underlying9 Try.underlying9 hf0
  injection e0 with e1_ e2_ e3_
  subst e1_ e2_ e3_
  clear hf0
  obtain ⟨a1, rfl, rfl, rfl, y1⟩ := open_string Try.underlying9 (hval 1 9 v1 rfl rfl) h1
  have w1 : a1.size ≤ 140737488351232 := by
    have z := sized_string hsz (j := 1) (t := 9) rfl rfl
    rw [Array.length_toList] at z
    exact z
  clear hA0 hval0 hsz0 hsz
  have wk := QL.laws_FnExactFieldDrop.walk Pure.FnExactFieldDrop A0 c0 _ a1 W (rowC hp0) (by rw [List.length_map]; exact hl0) (rowB hp0).1 (rowB hp0).2 w1
  simp only [List.length_map] at wk
  refine wk.mono fun e W' ⟨he, bel⟩ => ?_
  subst he
  exact ⟨_, rfl, _, _, _, [], _, [], hW', trodAll_mk1 (shut_bool Try.underlying4 _), (trodAll_cons_mk (Below.trod laidOut (by kernel_rfl) (of_decide_eq_true (by kernel_rfl)) k0 bel lt0) (trodAll_cons_mk (shut_string Try.underlying9 y1) trodAll_mk0)), rfl, bel.frame _, fun h => by cases h⟩
theorem over : Rows.fnExactFieldDropRow.holds Try.pinned (OpenSpec.ofChange Rows.fnExactFieldDropSpec) :=
  OpenClaim.holds_of_wide 3 Try.f3 rfl rfl rfl rfl rfl rfl rfl ⟨rfl, rfl, rfl, rfl, rfl⟩ rfl rfl rfl rfl rfl (by kernel_rfl) Try.func3 (by kernel_rfl)
    (of_decide_eq_true (by kernel_rfl)) (by unfold Func.isWrapper; first | (rw [if_pos (by decide +kernel)]; kernel_rfl) | (rw [if_neg (by decide +kernel)]; exact ⟨rfl, rfl⟩))
    (fun os started H enc _ => lifted os started H enc)
end Go.Proofs.Ytngillbkfblpoaa.fnExactFieldDrop
namespace Go.Proofs.Ytngillbkfblpoaa
/-- The row. -/
theorem fnExactFieldDrop_holds : Rows.FnExactFieldDropSaid := fnExactFieldDrop.over
#print axioms fnExactFieldDrop_holds
end Go.Proofs.Ytngillbkfblpoaa
