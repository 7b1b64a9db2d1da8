/- The program's ShowResponse returns what the reference's returns, for all answers (where they hold more than 2^20 fields and bytes they are let by). -/
import Derived.Deep.Slices
import Derived.Deep.Fields
import Derived.ChangeSame
import Derived.Lib.SmallJoins
import Derived.HandedShaped
import Derived.Handed
import Derived.SizedLaws
import Derived.ChangeSlices
import Derived.Test.YtefnmlglpldgfaaDoorCFnExactShowResponsed
namespace Go.Proofs.YtefnmlglpldgfaaDoor.Pure
set_option linter.unusedVariables false
set_option linter.unusedSimpArgs false
open Go.RowKit Go.Proofs.YtefnmlglpldgfaaDoor.QL Go.Proofs.YtefnmlglpldgfaaDoorW.PrintWords Go.Proofs.YtefnmlglpldgfaaDoorW.PrintLast Go.Proofs.YtefnmlglpldgfaaDoorW.PrintMore Go.Proofs.YtefnmlglpldgfaaDoor.Aux Go.Proofs.YtefnmlglpldgfaaDoor.Dom Go.Proofs.YtefnmlglpldgfaaDoor.Ext
theorem impl_bodiless_eq (a : Int) : impl_bodiless.f a = some (decide (a = 204 ∨ a = 304)) := by
  unfold impl_bodiless.f
  by_cases h : a = 204
  · rw [if_pos h, decide_eq_true (.inl h)]
  · rw [if_neg h]
    congr 1
    rw [Bool.eq_iff_iff, beq_iff_eq, decide_eq_true_eq]
    omega
theorem impl_ResponseOk_ev (a : Int) (l : List S81) (b : ByteArray) (hl : l.length ≤ 1048576) (hm : ∀ x ∈ l, x.f0.size ≤ 8388608 ∧ x.f1.size ≤ 8388608) (hG : ∀ nm, ((getL nm (l.map fun x => (x.f0, x.f1))).map fun v => v.size + 2).sum ≤ 8388608) :
    Ev (fun k => impl_ResponseOk.f k a l b) (respB a (l.map fun x => (x.f0, x.f1)) b) := by
  refine Ev.congr (fun k => by unfold impl_ResponseOk.f; rfl) (ev_bind (ev_some fun _ => impl_in_eq a 200 599) ?_)
  unfold respB
  by_cases h1 : 200 ≤ a ∧ a ≤ 599
  · rw [decide_eq_true h1]
    refine ev_if_pos rfl (ev_bind (impl_ownFields_ev l hl hm hG) ?_)
    cases h2 : plainB (l.map fun x => (x.f0, x.f1)) with
    | false => exact ev_if_neg (by simp) (ev_eq (Ev.now _) (by simp))
    | true =>
      refine ev_if_pos rfl ?_
      by_cases h3 : (b.size : Int) ≤ 60
      · have e3 : decide (b.size ≤ 60) = true := by rw [decide_eq_true_eq]; omega
        rw [e3]
        refine ev_if_pos h3 ?_
        by_cases h4 : b = ⟨#[]⟩
        · exact ev_if_pos ((trim_nil _).2 h4) (ev_eq (Ev.now _) (by simp [h4]))
        · exact ev_if_neg (fun h => h4 ((trim_nil _).1 h)) (ev_eq (ev_bind (ev_some fun _ => impl_bodiless_eq a) (Ev.now _)) (by simp [h4]))
      · have e3 : decide (b.size ≤ 60) = false := by rw [decide_eq_false_iff_not]; omega
        rw [e3]
        exact ev_if_neg h3 (ev_eq (Ev.now _) (by simp))
  · rw [decide_eq_false h1]
    exact ev_if_neg (by simp) (ev_eq (Ev.now _) (by simp))

end Go.Proofs.YtefnmlglpldgfaaDoor.Pure

namespace Go.Proofs.YtefnmlglpldgfaaDoor.Pure
set_option linter.unusedVariables false
set_option linter.unusedSimpArgs false
open Go.RowKit Go.Proofs.YtefnmlglpldgfaaDoor.QL Go.Proofs.YtefnmlglpldgfaaDoorW.PrintWords Go.Proofs.YtefnmlglpldgfaaDoorW.PrintLast Go.Proofs.YtefnmlglpldgfaaDoorW.PrintMore Go.Proofs.YtefnmlglpldgfaaDoor.Aux Go.Proofs.YtefnmlglpldgfaaDoor.Dom Go.Proofs.YtefnmlglpldgfaaDoor.Ext
theorem impl_ShowFields_l0 (l : List S81) (hl : l.length ≤ 2097152) (hm : ∀ x ∈ l, x.f0.size ≤ 8388608 ∧ x.f1.size ≤ 8388608) : ∀ (d : Nat) (acc : ByteArray) (i : Int), 0 ≤ i → (l.length : Int) - i = d → acc.size + d * 16777220 ≤ 100000000000000 →
    Ev (fun k => impl_ShowFields.l0 k acc l (l.length : Int) i) (acc ++ showR ((l.drop i.toNat).map fun x => (x.f0, x.f1)))
  | 0, acc, i, h0, hd, ha => by
    refine ev_last fun k => ?_
    simp only [impl_ShowFields.l0]
    rw [if_neg (by omega), drop_nil (by omega), if_pos (by omega)]
    rfl
  | d + 1, acc, i, h0, hd, ha => by
    have hlt : i < (l.length : Int) := by omega
    have hdrop : l.drop i.toNat = rd_T81 l i :: l.drop (i + 1).toNat := drop_rdOf (d := z81) h0 hlt
    have hx : rd_T81 l i ∈ l := List.mem_of_mem_drop (i := i.toNat) (by rw [hdrop]; exact List.mem_cons_self)
    have hs := hm _ hx
    rw [hdrop]
    simp only [List.map_cons, showR]
    have ih := impl_ShowFields_l0 l hl hm d (acc ++ ((rd_T81 l i).f0 ++ ⟨#[58, 32]⟩ ++ (rd_T81 l i).f1 ++ ⟨#[13, 10]⟩)) (i + 1) (by omega) (by omega) (by (try simp only [ByteArray.size_append, size_colon, size_crlf]); omega)
    refine Ev.step (f := fun k => impl_ShowFields.l0 k (acc ++ ((rd_T81 l i).f0 ++ ⟨#[58, 32]⟩ ++ (rd_T81 l i).f1 ++ ⟨#[13, 10]⟩)) l (l.length : Int) (i + 1)) (fun k => ?_) (ev_eq ih (by simp only [ByteArray.append_assoc]))
    simp only [impl_ShowFields.l0]
    rw [if_pos hlt, if_pos h0, if_pos hlt, if_pos (by (try simp only [ByteArray.size_append, size_colon, size_crlf]); omega), if_pos (by (try simp only [ByteArray.size_append, size_colon, size_crlf]); omega), if_pos (by (try simp only [ByteArray.size_append, size_colon, size_crlf]); omega), if_pos (by (try simp only [ByteArray.size_append, size_colon, size_crlf]); omega), wrap_id (by omega) (by omega)]
theorem impl_ShowFields_ev (l : List S81) (hl : l.length ≤ 2097152) (hm : ∀ x ∈ l, x.f0.size ≤ 8388608 ∧ x.f1.size ≤ 8388608) : Ev (fun k => impl_ShowFields.f k l) (showB (l.map fun x => (x.f0, x.f1))) := by
  refine Ev.congr (fun k => by unfold impl_ShowFields.f; rfl) (ev_bind (impl_FieldsOk_ev l  hm) ?_)
  unfold showB
  by_cases h : fieldsB (l.map fun x => (x.f0, x.f1)) = true
  · rw [if_pos h]
    have hh := impl_ShowFields_l0 l hl hm l.length ⟨#[]⟩ 0 (by omega) (by omega) (by have : (⟨#[]⟩ : ByteArray).size = 0 := rfl; omega)
    refine ev_if_pos h (ev_eq hh ?_)
    simp only [Int.toNat_zero, List.drop_zero]
    exact ByteArray.empty_append
  · rw [if_neg h]
    exact ev_if_neg h (Ev.now _)

end Go.Proofs.YtefnmlglpldgfaaDoor.Pure

namespace Go.Proofs.YtefnmlglpldgfaaDoor.Pure
set_option linter.unusedVariables false
set_option linter.unusedSimpArgs false
open Go.RowKit Go.Proofs.YtefnmlglpldgfaaDoor.QL Go.Proofs.YtefnmlglpldgfaaDoorW.PrintWords Go.Proofs.YtefnmlglpldgfaaDoorW.PrintLast Go.Proofs.YtefnmlglpldgfaaDoorW.PrintMore Go.Proofs.YtefnmlglpldgfaaDoor.Aux Go.Proofs.YtefnmlglpldgfaaDoor.Dom Go.Proofs.YtefnmlglpldgfaaDoor.Ext
theorem impl_Dec_eq (n : Int) (h0 : -9223372036854775808 ≤ n) (h1 : n ≤ 9223372036854775807) : impl_Dec.f n = some (decB n) := by
  unfold impl_Dec.f strconv_Itoa.f
  rw [if_pos ⟨h0, h1⟩, Option.bind_some]

end Go.Proofs.YtefnmlglpldgfaaDoor.Pure

namespace Go.Proofs.YtefnmlglpldgfaaDoor.Pure
set_option linter.unusedVariables false
set_option linter.unusedSimpArgs false
open Go.RowKit Go.Proofs.YtefnmlglpldgfaaDoor.QL Go.Proofs.YtefnmlglpldgfaaDoorW.PrintWords Go.Proofs.YtefnmlglpldgfaaDoorW.PrintLast Go.Proofs.YtefnmlglpldgfaaDoorW.PrintMore Go.Proofs.YtefnmlglpldgfaaDoor.Aux Go.Proofs.YtefnmlglpldgfaaDoor.Dom Go.Proofs.YtefnmlglpldgfaaDoor.Ext
theorem impl_withLength_eq (l : List S81) (b : ByteArray) (hl : l.length ≤ 1048576) (hb : b.size ≤ 60) : impl_withLength.f l b = some (l ++ [(⟨nmCL, decB (b.size : Int)⟩ : S81)]) := by
  unfold impl_withLength.f impl_Field.f
  rw [if_pos (by omega), Option.bind_some, impl_Dec_eq (b.size : Int) (by omega) (by omega), Option.bind_some, if_pos (by omega)]
  rfl

end Go.Proofs.YtefnmlglpldgfaaDoor.Pure

namespace Go.Proofs.YtefnmlglpldgfaaDoor.Pure
set_option linter.unusedVariables false
set_option linter.unusedSimpArgs false
open Go.RowKit Go.Proofs.YtefnmlglpldgfaaDoor.QL Go.Proofs.YtefnmlglpldgfaaDoorW.PrintWords Go.Proofs.YtefnmlglpldgfaaDoorW.PrintLast Go.Proofs.YtefnmlglpldgfaaDoorW.PrintMore Go.Proofs.YtefnmlglpldgfaaDoor.Aux Go.Proofs.YtefnmlglpldgfaaDoor.Dom Go.Proofs.YtefnmlglpldgfaaDoor.Ext
theorem impl_ShowResponse_ev (a : Int) (l : List S81) (b : ByteArray) (hl : l.length ≤ 1048576) (hm : ∀ x ∈ l, x.f0.size ≤ 8388608 ∧ x.f1.size ≤ 8388608) (hG : ∀ nm, ((getL nm (l.map fun x => (x.f0, x.f1))).map fun v => v.size + 2).sum ≤ 8388608) :
    Ev (fun k => impl_ShowResponse.f k a l b) (respT a (l.map fun x => (x.f0, x.f1)) b) := by
  refine Ev.congr (fun k => by unfold impl_ShowResponse.f; rfl) (ev_bind (impl_ResponseOk_ev a l b hl hm hG) ?_)
  unfold respT
  by_cases h : respB a (l.map fun x => (x.f0, x.f1)) b = true
  · obtain ⟨hp, hb, a0, a1⟩ := respB_true h
    rw [if_pos h]
    refine ev_if_pos h (ev_bind (ev_some fun _ => impl_bodiless_eq a) ?_)
    have dd : Ev (fun _ => impl_Dec.f a) (decB a) := ev_some fun _ => impl_Dec_eq a (by omega) (by omega)
    have rr : Ev (fun _ => impl_Reason.f a) (reasonB a) := ev_some fun _ => (impl_Reason_eq a).1
    have ds := decB_21 a
    have rs := (impl_Reason_eq a).2
    by_cases h4 : a = 204 ∨ a = 304
    · rw [if_pos h4]
      have sh := impl_ShowFields_ev l (by omega) hm
      have hz := plain_size l hl hm
      exact ev_if_pos (decide_eq_true h4) (ev_bind dd (ev_if_pos (by omega) (ev_if_pos (by simp only [ByteArray.size_append, sizeR_1, sizeR_9]; omega) (ev_bind rr (ev_if_pos (by simp only [ByteArray.size_append, sizeR_1, sizeR_9]; omega) (ev_if_pos (by simp only [ByteArray.size_append, sizeR_1, sizeR_9]; omega) (ev_bind sh (ev_if_pos (by simp only [ByteArray.size_append, sizeR_1, sizeR_9, size_crlf]; omega) (ev_if_pos (by simp only [ByteArray.size_append, sizeR_1, sizeR_9, size_crlf]; omega) (Ev.now _))))))))))
    · rw [if_neg h4]
      have sh := impl_ShowFields_ev (l ++ [(⟨nmCL, decB (b.size : Int)⟩ : S81)]) (by rw [List.length_append, List.length_singleton]; omega) (framed_mem l b hm hb)
      rw [framed_map] at sh
      have hz := framed_size l b hl hm hb
      exact ev_if_neg (by simp [h4]) (ev_bind (ev_some fun _ => impl_withLength_eq l b hl hb) (ev_bind dd (ev_if_pos (by omega) (ev_if_pos (by simp only [ByteArray.size_append, sizeR_1, sizeR_9]; omega) (ev_bind rr (ev_if_pos (by simp only [ByteArray.size_append, sizeR_1, sizeR_9]; omega) (ev_if_pos (by simp only [ByteArray.size_append, sizeR_1, sizeR_9]; omega) (ev_bind sh (ev_if_pos (by simp only [ByteArray.size_append, sizeR_1, sizeR_9, size_crlf]; omega) (ev_if_pos (by simp only [ByteArray.size_append, sizeR_1, sizeR_9, size_crlf]; omega) (Ev.now _)))))))))))
  · rw [if_neg h]
    exact ev_if_neg h (Ev.now _)

end Go.Proofs.YtefnmlglpldgfaaDoor.Pure

namespace Go.Proofs.YtefnmlglpldgfaaDoor.Pure
set_option linter.unusedVariables false
set_option linter.unusedSimpArgs false
open Go.RowKit Go.Proofs.YtefnmlglpldgfaaDoor.QL Go.Proofs.YtefnmlglpldgfaaDoorW.PrintWords Go.Proofs.YtefnmlglpldgfaaDoorW.PrintLast Go.Proofs.YtefnmlglpldgfaaDoorW.PrintMore Go.Proofs.YtefnmlglpldgfaaDoor.Aux Go.Proofs.YtefnmlglpldgfaaDoor.Dom Go.Proofs.YtefnmlglpldgfaaDoor.Ext

theorem FnExactShowResponse : laws_FnExactShowResponse.Pure := by
  intro a l b ha hl hlm hb
  refine Ev.rounds (Ev.congr (fun k => by unfold laws_FnExactShowResponse.f; rfl) ?_)
  refine ev_bind (laws_szResponse_ev a l b 1048576 hl hlm hb (by omega) (by omega)) ?_
  by_cases h1 : szR 1048576 (l.map fun x => (x.f0, x.f1)) b < 0
  · exact ev_if_pos h1 (Ev.now _)
  refine ev_if_neg h1 ?_
  have q0 := szR_szF h1
  have q1 := szR_len h1
  have qm := szF_mem q0.1
  rw [List.length_map] at q1
  have eX : ((l.map fun x => (⟨x.f0, x.f1⟩ : S81)).map fun x => (x.f0, x.f1)) = l.map fun x => (x.f0, x.f1) := by rw [List.map_map]; rfl
  have hx : ∀ x ∈ (l.map fun x => (⟨x.f0, x.f1⟩ : S81)), x.f0.size ≤ 8388608 ∧ x.f1.size ≤ 8388608 := by
    intro x hx
    obtain ⟨y, hy, rfl⟩ := List.mem_map.1 hx
    have := qm (y.f0, y.f1) (List.mem_map.2 ⟨y, hy, rfl⟩)
    simp only at this ⊢
    omega
  have hG : ∀ nm, ((getL nm ((l.map fun x => (⟨x.f0, x.f1⟩ : S81)).map fun x => (x.f0, x.f1))).map fun v => v.size + 2).sum ≤ 8388608 := by
    intro nm
    rw [eX]
    have := szF_sum nm (by omega) q0.1
    omega
  have t1 := laws_toResponse_ev a l b (by omega)
  have sp := spec_ShowResponse_ev a (l.map fun x => (⟨x.f0, x.f1⟩ : S81)) b (by rw [List.length_map]; omega) hx hG
  have im := impl_ShowResponse_ev a (l.map fun x => (⟨x.f0, x.f1⟩ : S81)) b (by rw [List.length_map]; omega) hx hG
  have e1 := laws_eqResponse_ev a (l.map fun x => (⟨x.f0, x.f1⟩ : S81)) b (by rw [List.length_map]; omega)
  exact ev_bind t1 (ev_bind sp (ev_bind t1 (ev_bind im (ev_if_pos rfl (ev_bind t1 (ev_bind e1 (ev_if_pos rfl (Ev.now _))))))))

end Go.Proofs.YtefnmlglpldgfaaDoor.Pure

namespace Go.Proofs.YtefnmlglpldgfaaDoor.Open
set_option linter.unusedVariables false
set_option linter.unusedSimpArgs false
open Go.ChangeShapes Go.WideShapes Go.Deep
section
variable {H : Type} {enc : TypeId × Value → H} {P : Program} {w : World} {base : Nat} {spare : Nat → Bool} {held : Bool}
theorem open_slice_fields {t e : TypeId} {fs : Array Field} {fuel : Nat} {cs : List Value} {x : DataW H × List MemPlace} (ht : P.underlying t = some (.slice e)) (he : P.underlying e = some (.struct fs))
    (hone : oneCellFields P fs = true) (hC : P.cellsOf e = fs.size) (h : DataW.trod enc P w base spare held fuel t cs = some x) :
    (cs = [.slice none 0 0] ∧ x = (.nil, [])) ∨
    ∃ (a : Addr) (len cap m : Nat) (D : Nat → DataW H) (Pl : Nat → List MemPlace), cs = [.slice (some a) len cap] ∧ base ≤ a.block ∧ len ≤ cap ∧ cap ≤ maxLen ∧ m = (if spare a.block then cap else len) ∧
      x = (.slice ((List.range len).map D) ((List.range (m - len)).map fun j => D (len + j)), MemPlace.row a (m * fs.size) ++ (List.range m).flatMap Pl) ∧
      ∀ i, i < m → ∃ (ys : List (DataW H × List MemPlace)) (n : Nat), D i = .agg (ys.map (·.1)) ∧ Pl i = ys.flatMap (·.2) ∧ ys.length = fs.size ∧
        ∀ (j : Nat) (f : Field), fs[j]? = some f → ∃ (v : Value) (y : DataW H × List MemPlace), w.cell? (a.add (i * fs.size + j)) = some v ∧ ys[j]? = some y ∧ DataW.trod enc P w base spare held n f.type [v] = some y := by
  rcases open_slice ht h with h0 | ⟨a, len, cap, m, n, D, Pl, hcs, hb, hl, hm, hmm, hx, hi⟩
  · exact .inl h0
  · refine .inr ⟨a, len, cap, m, D, Pl, hcs, hb, hl, hm, hmm, by rw [hC] at hx; exact hx, fun i him => ?_⟩
    obtain ⟨cs', hc, ht'⟩ := hi i him
    rw [hC] at hc
    obtain ⟨ys, n', hn', hy, hlen, hyl, hf⟩ := DataW.trod_struct he ht'
    obtain ⟨_, hcl, hat⟩ := World.cells?_some hc
    simp only [Prod.mk.injEq] at hy
    refine ⟨ys, n', hy.1, hy.2, hyl, fun j f hj => ?_⟩
    obtain ⟨ho, hk⟩ := hone_of hone j f hj
    have hjl : j < fs.size := (Array.getElem?_eq_some_iff.1 hj).1
    have hcell := hat j hjl
    have hv : cs'[j]? = some (cs'[j]'(by omega)) := List.getElem?_eq_getElem (by omega)
    have h1 := hf j f hj
    rw [ho, hk] at h1
    have hone' : (cs'.drop j).take 1 = [cs'[j]'(by omega)] := by
      rw [List.drop_eq_getElem_cons (by omega)]
      rfl
    rw [hone'] at h1
    have hys : ys[j]? = some (ys[j]'(by omega)) := List.getElem?_eq_getElem (by omega)
    refine ⟨_, _, ?_, hys, h1.trans hys⟩
    rw [← Go.Deep.add_add, hcell, hv]
end

theorem list_of {α : Type} (Q : Nat → α → Prop) : ∀ n : Nat, (∀ i, i < n → ∃ p, Q i p) → ∃ l : List α, l.length = n ∧ ∀ (j : Nat) p, l[j]? = some p → Q j p
  | 0, _ => ⟨[], rfl, fun j p h => by simp at h⟩
  | n + 1, h => by
    obtain ⟨l, hl, hq⟩ := list_of Q n (fun i hi => h i (by omega))
    obtain ⟨p, hp⟩ := h n (by omega)
    refine ⟨l ++ [p], by simp [hl], fun j q hj => ?_⟩
    rcases Nat.lt_or_ge j l.length with hlt | hge
    · rw [List.getElem?_append_left hlt] at hj
      exact hq j q hj
    · have hjl : j < (l ++ [p]).length := (List.getElem?_eq_some_iff.1 hj).1
      rw [List.length_append, List.length_singleton] at hjl
      have : j = l.length := by omega
      subst this
      have : p = q := by simpa using hj
      subst this
      rw [hl]; exact hp

def PairsAt (w : World) (A : Option Addr) (l : List (ByteArray × ByteArray)) : Prop :=
  l.length ≤ maxLen ∧ (∀ p ∈ l, p.1.size ≤ maxLen ∧ p.2.size ≤ maxLen) ∧
  (0 < l.length → ∃ ad, A = some ad ∧ ∀ (j : Nat) p, l[j]? = some p → w.cell? (ad.add (j * 2 + 0)) = some (.string p.1) ∧ w.cell? (ad.add (j * 2 + 1)) = some (.string p.2))

section
variable {H : Type} {enc : TypeId × Value → H} {P : Program} {w : World} {base : Nat} {spare : Nat → Bool} {held : Bool}
theorem open_pairs {t e : TypeId} {f0 f1 : Field} {fuel : Nat} {v : Value} {x : DataW H × List MemPlace} (ht : P.underlying t = some (.slice e)) (he : P.underlying e = some (.struct #[f0, f1]))
    (hone : oneCellFields P #[f0, f1] = true) (hC : P.cellsOf e = 2) (h0 : P.underlying f0.type = some .string) (h1 : P.underlying f1.type = some .string) (h : DataW.trod enc P w base spare held fuel t [v] = some x) :
    ∃ (A : Option Addr) (cap : Nat) (l : List (ByteArray × ByteArray)), v = .slice A l.length cap ∧ l.length ≤ cap ∧ PairsAt w A l := by
  rcases open_slice_fields ht he hone hC h with ⟨hcs, _⟩ | ⟨a, len, cap, m, D, Pl, hcs, _, hl, hm, hmm, _, hi⟩
  · obtain rfl : v = .slice none 0 0 := by simpa using hcs
    exact ⟨none, 0, [], rfl, Nat.le_refl _, by simp [maxLen], fun p hp => (by cases hp), fun hp => absurd hp (by simp)⟩
  · obtain rfl : v = .slice (some a) len cap := by simpa using hcs
    have hlm : len ≤ m := by
      rw [hmm]
      split
      · exact hl
      · exact Nat.le_refl _
    obtain ⟨l, hll, hq⟩ := list_of (fun i (p : ByteArray × ByteArray) => (w.cell? (a.add (i * 2 + 0)) = some (.string p.1) ∧ w.cell? (a.add (i * 2 + 1)) = some (.string p.2)) ∧ p.1.size ≤ maxLen ∧ p.2.size ≤ maxLen) len (fun i him => by
      obtain ⟨ys, n, _, _, _, hf⟩ := hi i (by omega)
      obtain ⟨v0, y0, hc0, _, ht0⟩ := hf 0 f0 rfl
      obtain ⟨v1, y1, hc1, _, ht1⟩ := hf 1 f1 rfl
      obtain ⟨s0, e0, _, z0⟩ := DataW.trod_string h0 ht0
      obtain ⟨s1, e1, _, z1⟩ := DataW.trod_string h1 ht1
      obtain rfl : v0 = .string s0 := by simpa using e0
      obtain rfl : v1 = .string s1 := by simpa using e1
      exact ⟨(s0, s1), ⟨hc0, hc1⟩, z0, z1⟩)
    subst hll
    refine ⟨some a, cap, l, rfl, hl, by omega, fun p hp => ?_, fun _ => ⟨a, rfl, fun j p hj => (hq j p hj).1⟩⟩
    obtain ⟨j, hj⟩ := List.getElem?_of_mem hp
    exact (hq j p hj).2
end

theorem returnsInHanded_door {H : Type} {enc : TypeId × Value → H} {a : Assume} {C : Checked} {os : Os} {f : FuncId} {fn : Func} {s : ChangeSpec} {conds : List PathCond} {apart fresh handsOn again : Bool} {X : World → Array Value → Prop}
    (hX : ∀ (w w' : World) (args : Array Value), w.heap = w'.heap → X w args → X w' args)
    (own : ownKnob C.prog.godebug = none) (started : os.Started) (noInit : C.prog.inits.idxOf? f = none) (hfn : C.prog.funcs[f]? = some fn)
    (witness : ∃ (w : World) (tape : Tape) (i : Input), w.os = os ∧ (w.forCall tape i).Shaped C.prog ∧ i.vars = [] ∧ Input.okWide C.prog (w.forCall tape i) .any w.heap.size f i ∧
      ((s.pre enc C.prog fn conds apart (w.forCall tape i).memory i.args ∧ X (w.forCall tape i).memory i.args) ∧ sizedMet enc C.prog fn (OpenSpec.ofChange s) apart (w.forCall tape i).memory i.args) ∧ a.holds C.prog (lone (Frame.enter C.prog f i.args .normal) [] (w.forCall tape i)))
    (contract : ∀ (W : World) (base : Nat) (args : Array Value) (ds gs : List (DataW H)) (before : List MemPlace),
      (∀ (j : Nat) t v, fn.params[j]? = some t → args[j]? = some v → Value.okWide C.prog W .any base t v) →
      DataW.Whole enc C.prog fn.params.toList s.vars apart W args.toList ds gs before →
      conds.all (PathCond.test C.prog ⟨fn.params.toList, ds, s.plain.varTypes C.prog, gs⟩) = true →
      (DataW.weightsEach C.prog (fn.params.toList ++ s.plain.varTypes C.prog) (ds ++ gs)).all (· ≤ reachBytes) = true → X W args →
      W.ShapedOpen C.prog →
      a.holds C.prog (lone (Frame.enter C.prog f args .normal) [] W) →
      Calls C.prog f args W fun e W' => ∃ v, e = .returned v ∧ s.post enc C.prog fn apart fresh handsOn again W args v W') :
    ReturnsInHanded a C os f .any (fun w args => (s.pre enc C.prog fn conds apart w args ∧ X w args) ∧ sizedMet enc C.prog fn (OpenSpec.ofChange s) apart w args) (s.post enc C.prog fn apart fresh handsOn again) := by
  refine returnsInHanded_of_calls own started noInit witness ?_
  intro w tape i _ hsh _ hok hpre hholds
  obtain ⟨_, _, _, fn', hfn', _, _, _, _, hval⟩ := hok
  have e : fn' = fn := Option.some.inj (hfn'.symm.trans hfn)
  subst e
  obtain ⟨⟨⟨ds, gs, before, hw, hc⟩, hx⟩, hz⟩ := hpre
  have hw' := DataW.Whole.of_heap (w' := w.forCall tape i) (by rfl) hw
  refine (contract (w.forCall tape i) w.heap.size i.args ds gs before hval hw' hc (hz.weights hw) (hX _ _ _ (by rfl) hx) hsh hholds).mono fun e W' ⟨v, he, hp⟩ => ?_
  subst he
  exact ChangeSpec.post_blind hp

end Go.Proofs.YtefnmlglpldgfaaDoor.Open

namespace Go.Proofs.YtefnmlglpldgfaaDoorW.PrintWords
open Go.ChangeShapes Go.WideShapes
end Go.Proofs.YtefnmlglpldgfaaDoorW.PrintWords

