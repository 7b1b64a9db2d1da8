/- The law FnExactDirectives as a row of the program, tied to the program's text by its card, out of its pure statement and the walk. -/
import Derived.Test.YtefnmlglpldgfaaDoorKFnExactDirectives
import Derived.Test.YtefnmlglpldgfaaDoorRows
import Derived.Test.YtefnmlglpldgfaaDoorTie
import Derived.Test.YtefnmlglpldgfaaDoorCards
import Derived.SevenTiedAt
import Derived.LaidMore
import Derived.Lay
import Derived.Stop.Joined
import Derived.Test.YtefnmlglpldgfaaDoorOpen
import Derived.HandedShaped
import Derived.WalkKit
import Derived.ProofKit
import Derived.OpenShut
import Derived.ShutString
import Derived.ChangeOld
import Derived.Below
import Derived.SizedLaws
import Derived.Test.YtefnmlglpldgfaaDoorWSized
namespace Go.Proofs.YtefnmlglpldgfaaDoor.fnExactDirectives
open Go.ChangeShapes Go.WideShapes Go.ChangeAt Go.RowKit Go.Proofs.YtefnmlglpldgfaaDoorW
open Go.ChangeMaps (open_string shut_string)
set_option linter.unusedVariables false
theorem own : ownKnob Tryd.prog.godebug = none := by kernel_rfl
theorem laidOut : laidOutB Tryd.prog = true := by kernel_rfl
theorem rowC {W : World} {A : Option Addr} {l : List (ByteArray × ByteArray)} (h : Open.PairsAt W A l) : PrintWords.Kd.C QL.k79 W A (l.map fun p => (⟨p.1, p.2⟩ : QL.S79)).length (l.map fun p => (⟨p.1, p.2⟩ : QL.S79)) := by
  refine ⟨rfl, by rw [List.length_map]; exact h.1, fun hn => ?_⟩
  rw [List.length_map] at hn
  obtain ⟨ad, e, hc⟩ := h.2.2 hn
  refine ⟨ad, e, fun j p hj => ?_⟩
  rw [List.getElem?_map] at hj
  obtain ⟨q, hq, rfl⟩ := Option.map_eq_some_iff.1 hj
  refine ⟨[.string q.1, .string q.2], rfl, QL.k79_mk W _, fun i u hu => ?_⟩
  obtain ⟨h0, h1⟩ := hc j q hq
  match i, hu with
  | 0, hu => obtain rfl : Value.string q.1 = u := by simpa using hu
             exact h0
  | 1, hu => obtain rfl : Value.string q.2 = u := by simpa using hu
             exact h1
theorem rowB {W : World} {A : Option Addr} {l : List (ByteArray × ByteArray)} (h : Open.PairsAt W A l) : (l.map fun p => (⟨p.1, p.2⟩ : QL.S79)).length ≤ maxLen ∧ ∀ x ∈ l.map fun p => (⟨p.1, p.2⟩ : QL.S79), x.f0.size ≤ maxLen ∧ x.f1.size ≤ maxLen := by
  refine ⟨by rw [List.length_map]; exact h.1, fun x hx => ?_⟩
  obtain ⟨q, hq, rfl⟩ := List.mem_map.1 hx
  exact h.2.1 q hq
set_option maxHeartbeats 1000000 in
set_option maxRecDepth 100000 in
theorem lifted (os : Os) (started : os.Started) (H : Type) (enc : TypeId × Value → H) :
    ReturnsInHanded {} Tryd.checked os 8 .any (fun w args => (Rows.fnExactDirectivesSpec.pre enc Tryd.prog Tryd.f8 [] false w args ∧ laidMetH Tryd.prog [("unicode/utf8.acceptRanges", Rows.laid_unicode_utf8_acceptRanges), ("unicode/utf8.first", Rows.laid_unicode_utf8_first)] w) ∧ sizedMet enc Tryd.prog Tryd.f8 (OpenSpec.ofChange Rows.fnExactDirectivesSpec) false w args) (Rows.fnExactDirectivesSpec.post enc Tryd.prog Tryd.f8 false true false false) := by
  refine Open.returnsInHanded_door (C := Tryd.checked) (X := fun w _ => laidMetH Tryd.prog [("unicode/utf8.acceptRanges", Rows.laid_unicode_utf8_acceptRanges), ("unicode/utf8.first", Rows.laid_unicode_utf8_first)] w) (fun _ _ _ hh h => h.of_heap hh) own started (by kernel_rfl) Tryd.func8
    (ChangeSpec.witness_shaped (enc := enc) (C := Tryd.checked) (os := os) (X := fun w _ => laidMetH Tryd.prog [("unicode/utf8.acceptRanges", Rows.laid_unicode_utf8_acceptRanges), ("unicode/utf8.first", Rows.laid_unicode_utf8_first)] w) false (World.laidAll Tryd.prog os [("unicode/utf8.acceptRanges", Rows.laid_unicode_utf8_acceptRanges), ("unicode/utf8.first", Rows.laid_unicode_utf8_first)]) #[.slice none 0 0] 8 (World.laidAll_os _ _ _) (World.shaped_of_ZipB (by kernel_rfl) (by kernel_rfl)) (by kernel_rfl) (by kernel_rfl) (by kernel_rfl) (by rw [MakeChecks.laidMetH_plain _ _ _ (by kernel_rfl)]; exact laidMet_laidAll _ (by kernel_rfl) (by kernel_rfl))) ?_
  intro W base args ds gs before hval0 hW _ hsz0 hL hsh _
  have hsz : (DataW.weightsEach Tryd.prog (Tryd.f8.params.toList ++ Rows.fnExactDirectivesSpec.plain.varTypes Tryd.prog) (ds ++ gs)).all (· ≤ reachBytes) = true := hsz0
  have hval : ∀ (j : Nat) t v, Tryd.f8.params[j]? = some t → args[j]? = some v → Value.okWide Tryd.prog W .any base t v := hval0
  have hW' := hW
  obtain ⟨p, q, hA0, hV, rfl, hfz, hnd⟩ := hW
  have hA : DataW.TrodAll enc Tryd.prog W 0 (fun _ => true) true Tryd.f8.params.toList args.toList ds p := hA0
  rw [Tryd.params8] at hA hval hsz
  obtain ⟨v0, vs0, d0, ds0, p0, q0, hargs, rfl, rfl, h0, r0⟩ := trodAll_cons hA
  obtain ⟨rfl, rfl, rfl⟩ := trodAll_nil r0
  obtain rfl : args = #[v0] := by cases args; simp_all
  obtain ⟨rfl, rfl⟩ := trodVars_none hV
  obtain ⟨A0, n0, c0, rfl⟩ := okWide_slice Tryd.underlying29 (hval 0 29 v0 rfl rfl)
  have k0 := h0
  have lt0 : ∀ x ∈ p0, x.block < W.heap.size := by obtain ⟨m, hm⟩ := k0; exact DataW.trod_lt m _ _ _ hm
  obtain ⟨fu0, hf0⟩ := h0
  obtain ⟨Ax_, cx_, l0, e0, hl0, hp0⟩ := Open.open_pairs (v := .slice A0 n0 c0) Tryd.underlying29 Tryd.underlying79 (by kernel_rfl) (by kernel_rfl) Tryd.underlying9 Tryd.underlying9 hf0
  injection e0 with e1_ e2_ e3_
  subst e1_ e2_ e3_
  clear hf0
  have hLp := hL
  rw [MakeChecks.laidMetH_plain _ _ _ (by kernel_rfl)] at hLp
  clear hA0 hval0 hsz0 hsz
  have wk := QL.laws_FnExactDirectives.walk Pure.FnExactDirectives A0 c0 _ W (rowC hp0) (by rw [List.length_map]; exact hl0) (rowB hp0).1 (rowB hp0).2 (Glob.GMax.of_shape hsh)
  simp only [List.length_map] at wk
  refine wk.mono fun e W' ⟨he, bel⟩ => ?_
  subst he
  exact ⟨_, rfl, _, _, _, [], _, [], hW', trodAll_mk1 (shut_bool Tryd.underlying4 _), (trodAll_cons_mk (Below.trod laidOut (by kernel_rfl) (of_decide_eq_true (by kernel_rfl)) k0 bel lt0) trodAll_mk0), rfl, bel.frame _, fun h => by cases h⟩
theorem over : Rows.fnExactDirectivesRow.holds Tryd.pinned (OpenSpec.ofChange Rows.fnExactDirectivesSpec) :=
  OpenClaim.holds_of_wide 8 Tryd.f8 rfl rfl rfl rfl rfl rfl rfl ⟨rfl, rfl, rfl, rfl, rfl⟩ rfl rfl rfl rfl rfl (by kernel_rfl) Tryd.func8 (by kernel_rfl)
    (of_decide_eq_true (by kernel_rfl)) (by unfold Func.isWrapper; first | (rw [if_pos (by decide +kernel)]; kernel_rfl) | (rw [if_neg (by decide +kernel)]; exact ⟨rfl, rfl⟩))
    (fun os started H enc _ => lifted os started H enc)
end Go.Proofs.YtefnmlglpldgfaaDoor.fnExactDirectives
namespace Go.Proofs.YtefnmlglpldgfaaDoor
/-- The card: the row, tied to the program's text. -/
theorem fnExactDirectives_holds : Rows.FnExactDirectivesCardSaid :=
  Claim7.holds_tied_plain_at .later [] [.data, .pinned] true (true, "bef291284c7eaaaad499bf54f7f457f5cd6796b547dfc9a8ef09e751db7f211b") true
    fnExactDirectives.over (fun _ h => by cases h) (by kernel_rfl) (fun _ h => by cases h) fnExactDirectives_row_tie rfl ⟨rfl, rfl⟩ (by kernel_rfl) rfl
    (fun f fn hf hfn => by
      obtain rfl : f = 8 := Option.some.inj ((show Tryd.prog.funcNamed Tryd.f8.name = some 8 by kernel_rfl).symm.trans hf) |>.symm
      obtain rfl : fn = Tryd.f8 := (Option.some.inj (Tryd.func8.symm.trans hfn)).symm
      exact ⟨by kernel_rfl, fun j t ht => by
        rw [Tryd.params8] at ht
        have hm : t ∈ [29] := by simpa using Array.mem_of_getElem? ht
        have hall : ([29].all fun u => !Tryd.prog.wantsStandIn u) = true := by kernel_rfl
        exact (show Tryd.prog.wantsStandIn t = false by simpa using List.all_eq_true.1 hall t hm)⟩)
    (by kernel_rfl)
#print axioms fnExactDirectives_holds
end Go.Proofs.YtefnmlglpldgfaaDoor
