/- The law FnExactSameResponse as a row of the program, out of its pure statement and the walk. -/
import Derived.Test.YtcllhbgglokejaaRows
import Derived.Test.YtcllhbgglokejaaWalkFnExactSameResponse
import Derived.Test.YtcllhbgglokejaaPureFnExactSameResponse
import Derived.Test.YtcllhbgglokejaaOpen
import Derived.WalkKit
import Derived.ProofKit
import Derived.OpenShut
import Derived.ShutString
import Derived.ChangeOld
import Derived.Below
import Derived.SizedLaws
import Derived.Test.YtcllhbgglokejaaWSized
namespace Go.Proofs.Ytcllhbgglokejaa.fnExactSameResponse
open Go.ChangeShapes Go.WideShapes Go.ChangeAt Go.RowKit Go.Proofs.YtcllhbgglokejaaW
open Go.ChangeMaps (open_string shut_string)
set_option linter.unusedVariables false
theorem own : ownKnob Try.prog.godebug = none := by kernel_rfl
theorem laidOut : laidOutB Try.prog = true := by kernel_rfl
theorem rowC {W : World} {A : Option Addr} {l : List (ByteArray × ByteArray)} (h : Open.PairsAt W A l) : PrintWords.Kd.C QFnExactSameResponse.k62 W A (l.map fun p => (⟨p.1, p.2⟩ : QFnExactSameResponse.S62)).length (l.map fun p => (⟨p.1, p.2⟩ : QFnExactSameResponse.S62)) := by
  refine ⟨rfl, by rw [List.length_map]; exact h.1, fun hn => ?_⟩
  rw [List.length_map] at hn
  obtain ⟨ad, e, hc⟩ := h.2.2 hn
  refine ⟨ad, e, fun j p hj => ?_⟩
  rw [List.getElem?_map] at hj
  obtain ⟨q, hq, rfl⟩ := Option.map_eq_some_iff.1 hj
  refine ⟨[.string q.1, .string q.2], rfl, QFnExactSameResponse.k62_mk W _, fun i u hu => ?_⟩
  obtain ⟨h0, h1⟩ := hc j q hq
  match i, hu with
  | 0, hu => obtain rfl : Value.string q.1 = u := by simpa using hu
             exact h0
  | 1, hu => obtain rfl : Value.string q.2 = u := by simpa using hu
             exact h1
theorem rowB {W : World} {A : Option Addr} {l : List (ByteArray × ByteArray)} (h : Open.PairsAt W A l) : (l.map fun p => (⟨p.1, p.2⟩ : QFnExactSameResponse.S62)).length ≤ maxLen ∧ ∀ x ∈ l.map fun p => (⟨p.1, p.2⟩ : QFnExactSameResponse.S62), x.f0.size ≤ maxLen ∧ x.f1.size ≤ maxLen := by
  refine ⟨by rw [List.length_map]; exact h.1, fun x hx => ?_⟩
  obtain ⟨q, hq, rfl⟩ := List.mem_map.1 hx
  exact h.2.1 q hq
set_option maxHeartbeats 1000000 in
set_option maxRecDepth 100000 in
theorem lifted (os : Os) (started : os.Started) (H : Type) (enc : TypeId × Value → H) :
    ReturnsInHanded {} Try.checked os 7 .any (Rows.fnExactSameResponseSpec.pre6 enc Try.prog Try.f7 Rows.fnExactSameResponseRow.domain false) (Rows.fnExactSameResponseSpec.post enc Try.prog Try.f7 false true false false) := by
  refine returnsInHanded_of_change_sized (C := Try.checked) own started (by kernel_rfl) Try.func7
    (ChangeSpec.witness6 (enc := enc) (C := Try.checked) false ⟨#[], #[.agg #[.int .i64 0, .slice none 0 0, .string ByteArray.empty], .agg #[.int .i64 0, .slice none 0 0, .string ByteArray.empty]], []⟩ 8 (by kernel_rfl) (by kernel_rfl) (by kernel_rfl) (by kernel_rfl)) ?_
  intro W base args ds gs before hval0 hW hcnd hsz0 hsh
  have hsz : (DataW.weightsEach Try.prog (Try.f7.params.toList ++ Rows.fnExactSameResponseSpec.plain.varTypes Try.prog) (ds ++ gs)).all (· ≤ reachBytes) = true := hsz0
  have hval : ∀ (j : Nat) t v, Try.f7.params[j]? = some t → args[j]? = some v → Value.okWide Try.prog W .any base t v := hval0
  have hW' := hW
  obtain ⟨p, q, hA0, hV, rfl, hfz, hnd⟩ := hW
  have hA : DataW.TrodAll enc Try.prog W 0 (fun _ => true) true Try.f7.params.toList args.toList ds p := hA0
  rw [Try.params7] at hA hval hsz
  obtain ⟨v0, vs0, d0, ds0, p0, q0, hargs, rfl, rfl, h0, r0⟩ := trodAll_cons hA
  obtain ⟨v1, vs1, d1, ds1, p1, q1, rfl, rfl, rfl, h1, r1⟩ := trodAll_cons r0
  obtain ⟨rfl, rfl, rfl⟩ := trodAll_nil r1
  obtain rfl : args = #[v0, v1] := by cases args; simp_all
  obtain ⟨rfl, rfl⟩ := trodVars_none hV
  have k0 := h0
  have lt0 : ∀ x ∈ p0, x.block < W.heap.size := by obtain ⟨m, hm⟩ := k0; exact DataW.trod_lt m _ _ _ hm
  obtain ⟨u0_0, u0_1, u0_2, y0_0, y0_1, y0_2, n_, rfl, _, _, g0_0, g0_1, g0_2⟩ := Go.Joins.open_agg3 Try.underlying36 (by kernel_rfl) (by kernel_rfl) (hval 0 36 v0 rfl rfl) h0
  obtain ⟨a0_0, e0_0, _, w0_0⟩ := DataW.trod_int Try.underlying3 g0_0
  obtain rfl : u0_0 = .int .i64 a0_0 := by simpa using e0_0
  obtain ⟨A0_1, c0_1, l0_1, rfl, hl0_1, hp0_1⟩ := Open.open_pairs Try.underlying29 Try.underlying62 (by kernel_rfl) (by kernel_rfl) Try.underlying9 Try.underlying9 g0_1
  obtain ⟨a0_2, e0_2, _, w0_2⟩ := DataW.trod_string Try.underlying9 g0_2
  obtain rfl : u0_2 = .string a0_2 := by simpa using e0_2
  have k1 := h1
  have lt1 : ∀ x ∈ p1, x.block < W.heap.size := by obtain ⟨m, hm⟩ := k1; exact DataW.trod_lt m _ _ _ hm
  obtain ⟨u1_0, u1_1, u1_2, y1_0, y1_1, y1_2, n_, rfl, _, _, g1_0, g1_1, g1_2⟩ := Go.Joins.open_agg3 Try.underlying36 (by kernel_rfl) (by kernel_rfl) (hval 1 36 v1 rfl rfl) h1
  obtain ⟨a1_0, e1_0, _, w1_0⟩ := DataW.trod_int Try.underlying3 g1_0
  obtain rfl : u1_0 = .int .i64 a1_0 := by simpa using e1_0
  obtain ⟨A1_1, c1_1, l1_1, rfl, hl1_1, hp1_1⟩ := Open.open_pairs Try.underlying29 Try.underlying62 (by kernel_rfl) (by kernel_rfl) Try.underlying9 Try.underlying9 g1_1
  obtain ⟨a1_2, e1_2, _, w1_2⟩ := DataW.trod_string Try.underlying9 g1_2
  obtain rfl : u1_2 = .string a1_2 := by simpa using e1_2
  clear hA0 hval0 hsz0 hsz
  have wk := QFnExactSameResponse.laws_FnExactSameResponse.walk Pure.FnExactSameResponse a0_0 A0_1 c0_1 _ a0_2 a1_0 A1_1 c1_1 _ a1_2 W w0_0 (rowC hp0_1) (by rw [List.length_map]; exact hl0_1) (rowB hp0_1).1 (rowB hp0_1).2 w0_2 w1_0 (rowC hp1_1) (by rw [List.length_map]; exact hl1_1) (rowB hp1_1).1 (rowB hp1_1).2 w1_2
  simp only [List.length_map] at wk
  refine wk.mono fun e W' ⟨he, bel⟩ => ?_
  subst he
  exact ⟨_, rfl, _, _, _, [], _, [], hW', trodAll_mk1 (shut_bool Try.underlying4 _), (trodAll_cons_mk (Below.trod laidOut (by kernel_rfl) (of_decide_eq_true (by kernel_rfl)) k0 bel lt0) (trodAll_cons_mk (Below.trod laidOut (by kernel_rfl) (of_decide_eq_true (by kernel_rfl)) k1 bel lt1) trodAll_mk0)), rfl, bel.frame _, fun h => by cases h⟩
theorem over : Rows.fnExactSameResponseRow.holds Try.pinned (OpenSpec.ofChange Rows.fnExactSameResponseSpec) :=
  OpenClaim.holds_of_wide 7 Try.f7 rfl rfl rfl rfl rfl rfl rfl ⟨rfl, rfl, rfl, rfl, rfl⟩ rfl rfl rfl rfl rfl (by kernel_rfl) Try.func7 (by kernel_rfl)
    (of_decide_eq_true (by kernel_rfl)) (by unfold Func.isWrapper; first | (rw [if_pos (by decide +kernel)]; kernel_rfl) | (rw [if_neg (by decide +kernel)]; exact ⟨rfl, rfl⟩))
    (fun os started H enc _ => lifted os started H enc)
end Go.Proofs.Ytcllhbgglokejaa.fnExactSameResponse
namespace Go.Proofs.Ytcllhbgglokejaa
/-- The row. -/
theorem fnExactSameResponse_holds : Rows.FnExactSameResponseSaid := fnExactSameResponse.over
#print axioms fnExactSameResponse_holds
end Go.Proofs.Ytcllhbgglokejaa
