/- The law FnExactShowRequest as a row of the program, tied to the program's text by its card, out of its pure statement and the walk. -/
import Derived.Test.YtefnmlglpldgfaaDoorRows
import Derived.Test.YtefnmlglpldgfaaDoorTie
import Derived.Test.YtefnmlglpldgfaaDoorCards
import Derived.SevenTiedAt
import Derived.LaidMore
import Derived.Lay
import Derived.Stop.Joined
import Derived.HandedShaped
import Derived.WalkKit
import Derived.ProofKit
import Derived.OpenShut
import Derived.ShutString
import Derived.ChangeOld
import Derived.Below
import Derived.SizedLaws
import Derived.Test.YtefnmlglpldgfaaDoorCFnExactShowRequestd
namespace Go.Proofs.YtefnmlglpldgfaaDoor.fnExactShowRequest
open Go.ChangeShapes Go.WideShapes Go.ChangeAt Go.RowKit Go.Proofs.YtefnmlglpldgfaaDoorW
open Go.ChangeMaps (open_string shut_string)
set_option linter.unusedVariables false
theorem own : ownKnob Tryd.prog.godebug = none := by kernel_rfl
theorem laidOut : laidOutB Tryd.prog = true := by kernel_rfl
theorem rowC {W : World} {A : Option Addr} {l : List (ByteArray × ByteArray)} (h : Open.PairsAt W A l) : PrintWords.Kd.C QL.k79 W A (l.map fun p => (⟨p.1, p.2⟩ : QL.S79)).length (l.map fun p => (⟨p.1, p.2⟩ : QL.S79)) := by
  refine ⟨rfl, by rw [List.length_map]; exact h.1, fun hn => ?_⟩
  rw [List.length_map] at hn
  obtain ⟨ad, e, hc⟩ := h.2.2 hn
  refine ⟨ad, e, fun j p hj => ?_⟩
  rw [List.getElem?_map] at hj
  obtain ⟨q, hq, rfl⟩ := Option.map_eq_some_iff.1 hj
  refine ⟨[.string q.1, .string q.2], rfl, QL.k79_mk W _, fun i u hu => ?_⟩
  obtain ⟨h0, h1⟩ := hc j q hq
  match i, hu with
  | 0, hu => obtain rfl : Value.string q.1 = u := by simpa using hu
             exact h0
  | 1, hu => obtain rfl : Value.string q.2 = u := by simpa using hu
             exact h1
theorem rowB {W : World} {A : Option Addr} {l : List (ByteArray × ByteArray)} (h : Open.PairsAt W A l) : (l.map fun p => (⟨p.1, p.2⟩ : QL.S79)).length ≤ maxLen ∧ ∀ x ∈ l.map fun p => (⟨p.1, p.2⟩ : QL.S79), x.f0.size ≤ maxLen ∧ x.f1.size ≤ maxLen := by
  refine ⟨by rw [List.length_map]; exact h.1, fun x hx => ?_⟩
  obtain ⟨q, hq, rfl⟩ := List.mem_map.1 hx
  exact h.2.1 q hq
set_option maxHeartbeats 1000000 in
set_option maxRecDepth 100000 in
theorem lifted (os : Os) (started : os.Started) (H : Type) (enc : TypeId × Value → H) :
    ReturnsInHanded {} Tryd.checked os 10 .any (fun w args => (Rows.fnExactShowRequestSpec.pre enc Tryd.prog Tryd.f10 [] false w args ∧ laidMetH Tryd.prog [("math/bits.deBruijn32tab", Rows.laid_math_bits_deBruijn32tab), ("math/bits.deBruijn64tab", Rows.laid_math_bits_deBruijn64tab), ("internal/strconv.uint64pow10", Rows.laid_internal_strconv_uint64pow10), ("unicode/utf8.acceptRanges", Rows.laid_unicode_utf8_acceptRanges), ("unicode/utf8.first", Rows.laid_unicode_utf8_first)] w) ∧ sizedMet enc Tryd.prog Tryd.f10 (OpenSpec.ofChange Rows.fnExactShowRequestSpec) false w args) (Rows.fnExactShowRequestSpec.post enc Tryd.prog Tryd.f10 false true false false) := by
  refine Open.returnsInHanded_door (C := Tryd.checked) (X := fun w _ => laidMetH Tryd.prog [("math/bits.deBruijn32tab", Rows.laid_math_bits_deBruijn32tab), ("math/bits.deBruijn64tab", Rows.laid_math_bits_deBruijn64tab), ("internal/strconv.uint64pow10", Rows.laid_internal_strconv_uint64pow10), ("unicode/utf8.acceptRanges", Rows.laid_unicode_utf8_acceptRanges), ("unicode/utf8.first", Rows.laid_unicode_utf8_first)] w) (fun _ _ _ hh h => h.of_heap hh) own started (by kernel_rfl) Tryd.func10
    (ChangeSpec.witness_shaped (enc := enc) (C := Tryd.checked) (os := os) (X := fun w _ => laidMetH Tryd.prog [("math/bits.deBruijn32tab", Rows.laid_math_bits_deBruijn32tab), ("math/bits.deBruijn64tab", Rows.laid_math_bits_deBruijn64tab), ("internal/strconv.uint64pow10", Rows.laid_internal_strconv_uint64pow10), ("unicode/utf8.acceptRanges", Rows.laid_unicode_utf8_acceptRanges), ("unicode/utf8.first", Rows.laid_unicode_utf8_first)] w) false (World.laidAll Tryd.prog os [("math/bits.deBruijn32tab", Rows.laid_math_bits_deBruijn32tab), ("math/bits.deBruijn64tab", Rows.laid_math_bits_deBruijn64tab), ("internal/strconv.uint64pow10", Rows.laid_internal_strconv_uint64pow10), ("unicode/utf8.acceptRanges", Rows.laid_unicode_utf8_acceptRanges), ("unicode/utf8.first", Rows.laid_unicode_utf8_first)]) #[.agg #[.string ByteArray.empty, .string ByteArray.empty, .slice none 0 0, .string ByteArray.empty]] 8 (World.laidAll_os _ _ _) (World.shaped_of_ZipB (by kernel_rfl) (by kernel_rfl)) (by kernel_rfl) (by kernel_rfl) (by kernel_rfl) (by rw [MakeChecks.laidMetH_plain _ _ _ (by kernel_rfl)]; exact laidMet_laidAll _ (by kernel_rfl) (by kernel_rfl))) ?_
  intro W base args ds gs before hval0 hW _ hsz0 hL hsh _
  have hsz : (DataW.weightsEach Tryd.prog (Tryd.f10.params.toList ++ Rows.fnExactShowRequestSpec.plain.varTypes Tryd.prog) (ds ++ gs)).all (· ≤ reachBytes) = true := hsz0
  have hval : ∀ (j : Nat) t v, Tryd.f10.params[j]? = some t → args[j]? = some v → Value.okWide Tryd.prog W .any base t v := hval0
  have hW' := hW
  obtain ⟨p, q, hA0, hV, rfl, hfz, hnd⟩ := hW
  have hA : DataW.TrodAll enc Tryd.prog W 0 (fun _ => true) true Tryd.f10.params.toList args.toList ds p := hA0
  rw [Tryd.params10] at hA hval hsz
  obtain ⟨v0, vs0, d0, ds0, p0, q0, hargs, rfl, rfl, h0, r0⟩ := trodAll_cons hA
  obtain ⟨rfl, rfl, rfl⟩ := trodAll_nil r0
  obtain rfl : args = #[v0] := by cases args; simp_all
  obtain ⟨rfl, rfl⟩ := trodVars_none hV
  have k0 := h0
  have lt0 : ∀ x ∈ p0, x.block < W.heap.size := by obtain ⟨m, hm⟩ := k0; exact DataW.trod_lt m _ _ _ hm
  obtain ⟨u0_0, u0_1, u0_2, u0_3, y0_0, y0_1, y0_2, y0_3, n_, rfl, _, _, g0_0, g0_1, g0_2, g0_3⟩ := Go.Joins.open_agg4 Tryd.underlying43 (by kernel_rfl) (by kernel_rfl) (hval 0 43 v0 rfl rfl) h0
  obtain ⟨a0_0, e0_0, _, w0_0⟩ := DataW.trod_string Tryd.underlying9 g0_0
  obtain rfl : u0_0 = .string a0_0 := by simpa using e0_0
  obtain ⟨a0_1, e0_1, _, w0_1⟩ := DataW.trod_string Tryd.underlying9 g0_1
  obtain rfl : u0_1 = .string a0_1 := by simpa using e0_1
  obtain ⟨A0_2, c0_2, l0_2, rfl, hl0_2, hp0_2⟩ := Open.open_pairs Tryd.underlying29 Tryd.underlying79 (by kernel_rfl) (by kernel_rfl) Tryd.underlying9 Tryd.underlying9 g0_2
  obtain ⟨a0_3, e0_3, _, w0_3⟩ := DataW.trod_string Tryd.underlying9 g0_3
  obtain rfl : u0_3 = .string a0_3 := by simpa using e0_3
  have hLp := hL
  rw [MakeChecks.laidMetH_plain _ _ _ (by kernel_rfl)] at hLp
  clear hA0 hval0 hsz0 hsz
  have wk := QL.laws_FnExactShowRequest.walk Pure.FnExactShowRequest a0_0 a0_1 A0_2 c0_2 _ a0_3 W w0_0 w0_1 (rowC hp0_2) (by rw [List.length_map]; exact hl0_2) (rowB hp0_2).1 (rowB hp0_2).2 w0_3 (Glob.GPow.of_laid (rest := _) (show laidMet Tryd.prog (("internal/strconv.uint64pow10", Lib.tabData .u64 Lib.pow10Tab) :: _) W from hLp.tail.tail))
  simp only [List.length_map] at wk
  refine wk.mono fun e W' ⟨he, bel⟩ => ?_
  subst he
  exact ⟨_, rfl, _, _, _, [], _, [], hW', trodAll_mk1 (shut_bool Tryd.underlying4 _), (trodAll_cons_mk (Below.trod laidOut (by kernel_rfl) (of_decide_eq_true (by kernel_rfl)) k0 bel lt0) trodAll_mk0), rfl, bel.frame _, fun h => by cases h⟩
theorem over : Rows.fnExactShowRequestRow.holds Tryd.pinned (OpenSpec.ofChange Rows.fnExactShowRequestSpec) :=
  OpenClaim.holds_of_wide 10 Tryd.f10 rfl rfl rfl rfl rfl rfl rfl ⟨rfl, rfl, rfl, rfl, rfl⟩ rfl rfl rfl rfl rfl (by kernel_rfl) Tryd.func10 (by kernel_rfl)
    (of_decide_eq_true (by kernel_rfl)) (by unfold Func.isWrapper; first | (rw [if_pos (by decide +kernel)]; kernel_rfl) | (rw [if_neg (by decide +kernel)]; exact ⟨rfl, rfl⟩))
    (fun os started H enc _ => lifted os started H enc)
end Go.Proofs.YtefnmlglpldgfaaDoor.fnExactShowRequest
namespace Go.Proofs.YtefnmlglpldgfaaDoor
/-- The card: the row, tied to the program's text. -/
theorem fnExactShowRequest_holds : Rows.FnExactShowRequestCardSaid :=
  Claim7.holds_tied_plain_at .later [] [.data, .data, .data, .data, .pinned] true (true, "bef291284c7eaaaad499bf54f7f457f5cd6796b547dfc9a8ef09e751db7f211b") true
    fnExactShowRequest.over (fun _ h => by cases h) (by kernel_rfl) (fun _ h => by cases h) fnExactShowRequest_row_tie rfl ⟨rfl, rfl⟩ (by kernel_rfl) rfl
    (fun f fn hf hfn => by
      obtain rfl : f = 10 := Option.some.inj ((show Tryd.prog.funcNamed Tryd.f10.name = some 10 by kernel_rfl).symm.trans hf) |>.symm
      obtain rfl : fn = Tryd.f10 := (Option.some.inj (Tryd.func10.symm.trans hfn)).symm
      exact ⟨by kernel_rfl, fun j t ht => by
        rw [Tryd.params10] at ht
        have hm : t ∈ [43] := by simpa using Array.mem_of_getElem? ht
        have hall : ([43].all fun u => !Tryd.prog.wantsStandIn u) = true := by kernel_rfl
        exact (show Tryd.prog.wantsStandIn t = false by simpa using List.all_eq_true.1 hall t hm)⟩)
    (by kernel_rfl)
#print axioms fnExactShowRequest_holds
end Go.Proofs.YtefnmlglpldgfaaDoor
