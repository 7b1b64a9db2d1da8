/- What is set is there once, what is dropped is not, all else stays in order, and fields are read from their text: for all codes that are drawn from (codes of more than 2^20 bytes are let by). -/
import Derived.Deep.Slices
import Derived.Deep.Fields
import Derived.ChangeSame
import Derived.Lib.SmallJoins
import Derived.HandedShaped
import Derived.Handed
import Derived.SizedLaws
import Derived.ChangeSlices
import Derived.Test.YtjldfmkpdkhnnaaDoorCFnFieldsd
set_option linter.unusedVariables false
set_option linter.unusedSimpArgs false
namespace Go.Proofs.YtjldfmkpdkhnnaaDoor.Pure
open Go.RowKit Go.Proofs.YtjldfmkpdkhnnaaDoor.QL Go.Proofs.YtjldfmkpdkhnnaaDoorW.PrintWords Go.Proofs.YtjldfmkpdkhnnaaDoorW.PrintLast Go.Proofs.YtjldfmkpdkhnnaaDoorW.PrintMore Go.Proofs.YtjldfmkpdkhnnaaDoor.Aux Go.Proofs.YtjldfmkpdkhnnaaDoor.Dom Go.Proofs.YtjldfmkpdkhnnaaDoor.Ext
theorem impl_ShowFields_l0 (l : List S49) (hl : l.length ≤ 2097152) (hm : ∀ x ∈ l, x.f0.size ≤ 8388608 ∧ x.f1.size ≤ 8388608) : ∀ (d : Nat) (acc : ByteArray) (i : Int), 0 ≤ i → (l.length : Int) - i = d → acc.size + d * 16777220 ≤ 100000000000000 →
    Ev (fun k => impl_ShowFields.l0 k acc l (l.length : Int) i) (acc ++ showR ((l.drop i.toNat).map fun x => (x.f0, x.f1)))
  | 0, acc, i, h0, hd, ha => by
    refine ev_last fun k => ?_
    simp only [impl_ShowFields.l0]
    rw [if_neg (by omega), drop_nil (by omega), if_pos (by omega)]
    rfl
  | d + 1, acc, i, h0, hd, ha => by
    have hlt : i < (l.length : Int) := by omega
    have hdrop : l.drop i.toNat = rd_T49 l i :: l.drop (i + 1).toNat := drop_rdOf (d := z49) h0 hlt
    have hx : rd_T49 l i ∈ l := List.mem_of_mem_drop (i := i.toNat) (by rw [hdrop]; exact List.mem_cons_self)
    have hs := hm _ hx
    rw [hdrop]
    simp only [List.map_cons, showR]
    have ih := impl_ShowFields_l0 l hl hm d (acc ++ ((rd_T49 l i).f0 ++ ⟨#[58, 32]⟩ ++ (rd_T49 l i).f1 ++ ⟨#[13, 10]⟩)) (i + 1) (by omega) (by omega) (by (try simp only [ByteArray.size_append, size_colon, size_crlf]); omega)
    refine Ev.step (f := fun k => impl_ShowFields.l0 k (acc ++ ((rd_T49 l i).f0 ++ ⟨#[58, 32]⟩ ++ (rd_T49 l i).f1 ++ ⟨#[13, 10]⟩)) l (l.length : Int) (i + 1)) (fun k => ?_) (ev_eq ih (by simp only [ByteArray.append_assoc]))
    simp only [impl_ShowFields.l0]
    rw [if_pos hlt, if_pos h0, if_pos hlt, if_pos (by (try simp only [ByteArray.size_append, size_colon, size_crlf]); omega), if_pos (by (try simp only [ByteArray.size_append, size_colon, size_crlf]); omega), if_pos (by (try simp only [ByteArray.size_append, size_colon, size_crlf]); omega), if_pos (by (try simp only [ByteArray.size_append, size_colon, size_crlf]); omega), wrap_id (by omega) (by omega)]
theorem impl_ShowFields_ev (l : List S49) (hl : l.length ≤ 2097152) (hm : ∀ x ∈ l, x.f0.size ≤ 8388608 ∧ x.f1.size ≤ 8388608) : Ev (fun k => impl_ShowFields.f k l) (showB (l.map fun x => (x.f0, x.f1))) := by
  refine Ev.congr (fun k => by unfold impl_ShowFields.f; rfl) (ev_bind (impl_FieldsOk_ev l  hm) ?_)
  unfold showB
  by_cases h : fieldsB (l.map fun x => (x.f0, x.f1)) = true
  · rw [if_pos h]
    have hh := impl_ShowFields_l0 l hl hm l.length ⟨#[]⟩ 0 (by omega) (by omega) (by have : (⟨#[]⟩ : ByteArray).size = 0 := rfl; omega)
    refine ev_if_pos h (ev_eq hh ?_)
    simp only [Int.toNat_zero, List.drop_zero]
    exact ByteArray.empty_append
  · rw [if_neg h]
    exact ev_if_neg h (Ev.now _)

end Go.Proofs.YtjldfmkpdkhnnaaDoor.Pure

namespace Go.Proofs.YtjldfmkpdkhnnaaDoor.Pure
open Go.RowKit Go.Proofs.YtjldfmkpdkhnnaaDoor.QL Go.Proofs.YtjldfmkpdkhnnaaDoorW.PrintWords Go.Proofs.YtjldfmkpdkhnnaaDoorW.PrintLast Go.Proofs.YtjldfmkpdkhnnaaDoorW.PrintMore Go.Proofs.YtjldfmkpdkhnnaaDoor.Aux Go.Proofs.YtjldfmkpdkhnnaaDoor.Dom Go.Proofs.YtjldfmkpdkhnnaaDoor.Ext
theorem strings_Cut_eq (s sep : ByteArray) (hs : s.size ≤ 8388608) : strings_Cut.f s sep = some (strOfNums (cutL (bytesOf s) (bytesOf sep)).1, strOfNums (cutL (bytesOf s) (bytesOf sep)).2.1, (cutL (bytesOf s) (bytesOf sep)).2.2) := by unfold strings_Cut.f; rw [if_pos hs]

end Go.Proofs.YtjldfmkpdkhnnaaDoor.Pure

namespace Go.Proofs.YtjldfmkpdkhnnaaDoor.Pure
open Go.RowKit Go.Proofs.YtjldfmkpdkhnnaaDoor.QL Go.Proofs.YtjldfmkpdkhnnaaDoorW.PrintWords Go.Proofs.YtjldfmkpdkhnnaaDoorW.PrintLast Go.Proofs.YtjldfmkpdkhnnaaDoorW.PrintMore Go.Proofs.YtjldfmkpdkhnnaaDoor.Aux Go.Proofs.YtjldfmkpdkhnnaaDoor.Dom Go.Proofs.YtjldfmkpdkhnnaaDoor.Ext
theorem impl_ReadFields_l0 (s : ByteArray) (hs : s.size ≤ 8388608) : ∀ (d : Nat) (acc : List (ByteArray × ByteArray)) (i : Int), 0 ≤ i → i ≤ (s.size : Int) → (s.size : Int) - i < d → acc.length ≤ 12 →
    Ev (fun k => impl_ReadFields.l0 k s (acc.map fun p => (⟨p.1, p.2⟩ : S49)) (strOfNums ((bytesOf s).drop i.toNat))) (((rfP (bytesOf s) d acc i).1.map fun p => (⟨p.1, p.2⟩ : S49)), (rfP (bytesOf s) d acc i).2)
  | 0, acc, i, h0, h1, hd, ha => by omega
  | d + 1, acc, i, h0, h1, hd, ha => by
    have hl := bytesOf_length s
    have hx := idxS_bound [13, 10] ((bytesOf s).drop i.toNat)
    simp only [List.length_cons, List.length_nil, List.length_drop] at hx
    have ih := fun acc' i' => impl_ReadFields_l0 s hs d acc' i'
    have hR : bytesOf (strOfNums ((bytesOf s).drop i.toNat)) = (bytesOf s).drop i.toNat := bytesOf_strOfNums fun c hc => bytesOf_range (List.mem_of_mem_drop hc)
    have hcut := strings_Cut_eq (strOfNums ((bytesOf s).drop i.toNat)) ⟨#[13, 10]⟩ (by rw [strOfNums_size, List.length_drop]; omega)
    rw [hR, show bytesOf (⟨#[13, 10]⟩ : ByteArray) = [13, 10] from by decide +kernel] at hcut
    refine Ev.step (fun k => by simp only [impl_ReadFields.l0]; rfl) (ev_bind (ev_some fun _ => hcut) ?_)
    rw [rfP]
    unfold cutL
    by_cases hi : idxS ((bytesOf s).drop i.toNat) [13, 10] < 0
    · rw [if_neg (show ¬ 0 ≤ idxS ((bytesOf s).drop i.toNat) [13, 10] by omega), if_pos hi]
      exact ev_if_neg (by simp) (Ev.now _)
    · rw [if_pos (show 0 ≤ idxS ((bytesOf s).drop i.toNat) [13, 10] by omega), if_neg hi]
      refine ev_if_pos rfl ?_
      generalize hj : idxS ((bytesOf s).drop i.toNat) [13, 10] = j at hi hx
      have hline : bytesOf (strOfNums (((bytesOf s).drop i.toNat).take j.toNat)) = ((bytesOf s).drop i.toNat).take j.toNat := bytesOf_strOfNums fun c hc => bytesOf_range (List.mem_of_mem_drop (List.mem_of_mem_take hc))
      have hlen : (((bytesOf s).drop i.toNat).take j.toNat).length = j.toNat := by rw [List.length_take, List.length_drop]; omega
      have hrest : ((bytesOf s).drop i.toNat).drop (j.toNat + ([13, 10] : List Int).length) = (bytesOf s).drop (i + j + 2).toNat := by
        rw [List.drop_drop]
        congr 1
        simp only [List.length_cons, List.length_nil]
        omega
      simp only [hrest]
      by_cases hz : j = 0
      · rw [if_pos hz]
        subst hz
        refine ev_if_pos (by simp only [Int.toNat_zero, List.take_zero]; exact nil_toList) (ev_eq (Ev.now _) ?_)
        have e : wrap64 ((s.size : Int) - ((strOfNums ((bytesOf s).drop (i + 0 + 2).toNat)).size : Int)) = i + 2 := by
          rw [strOfNums_size, List.length_drop, wrap_id (by omega) (by omega)]
          omega
        rw [e]
      · rw [if_neg hz]
        refine ev_if_neg (by
          rw [toList_lit, hline]
          intro h
          rw [h] at hlen
          simp at hlen
          omega) ?_
        have hcut2 := strings_Cut_eq (strOfNums (((bytesOf s).drop i.toNat).take j.toNat)) ⟨#[58]⟩ (by rw [strOfNums_size, hlen]; omega)
        rw [hline, show bytesOf (⟨#[58]⟩ : ByteArray) = [58] from by decide +kernel] at hcut2
        refine ev_bind (ev_some fun _ => hcut2) ?_
        generalize hL : ((bytesOf s).drop i.toNat).take j.toNat = L at hline hlen
        have hcb := idxS_bound [58] L
        simp only [List.length_cons, List.length_nil] at hcb
        unfold cutL
        generalize hc : idxS L [58] = c at hcb
        by_cases hc0 : c < 0
        · rw [if_neg (show ¬ 0 ≤ c by omega), if_pos hc0]
          have hlow := impl_Lower_eq (strOfNums L) (by rw [strOfNums_size]; omega)
          have htr := impl_Trim_eq (strOfNums []) (by rw [strOfNums_size]; simp)
          exact ev_bind (ev_some fun _ => hlow) (ev_bind (ev_some fun _ => htr) (ev_if_neg (by simp) (Ev.now _)))
        · rw [if_pos (show 0 ≤ c by omega), if_neg hc0]
          have hlow := impl_Lower_eq (strOfNums (L.take c.toNat)) (by rw [strOfNums_size, List.length_take]; omega)
          have htr := impl_Trim_eq (strOfNums (L.drop (c.toNat + 1))) (by rw [strOfNums_size, List.length_drop]; omega)
          have hok := impl_fieldOk_ev (lowB (strOfNums (L.take c.toNat))) (trimB (strOfNums (L.drop (c.toNat + 1)))) (by rw [low_range, strOfNums_size, List.length_take]; omega) (by have := @trim_range (strOfNums (L.drop (c.toNat + 1))); rw [strOfNums_size, List.length_drop] at this; omega)
          refine ev_bind (ev_some fun _ => hlow) (ev_bind (ev_some fun _ => htr) (ev_if_pos rfl (ev_bind hok ?_)))
          by_cases hfo : fieldB (lowB (strOfNums (L.take c.toNat)), trimB (strOfNums (L.drop (c.toNat + 1)))) = true
          · refine ev_if_pos hfo ?_
            by_cases h12 : acc.length < 12
            · rw [if_pos ⟨hfo, h12⟩]
              refine ev_if_neg (by rw [List.length_map]; omega) (ev_if_pos (by rw [List.length_map]; omega) ?_)
              have h := ih (acc ++ [lineF L c]) (i + j + 2) (by omega) (by omega) (by omega) (by simp; omega)
              simpa [lineF, lowB] using h
            · rw [if_neg (fun h => h12 h.2)]
              exact ev_if_pos (by rw [List.length_map]; omega) (Ev.now _)
          · rw [if_neg (fun h => hfo h.1)]
            exact ev_if_neg hfo (Ev.now _)
theorem impl_ReadFields_ev (s : ByteArray) (hs : s.size ≤ 8388608) : Ev (fun k => impl_ReadFields.f k s) (((rfP (bytesOf s) (s.size + 1) [] 0).1.map fun p => (⟨p.1, p.2⟩ : S49)), (rfP (bytesOf s) (s.size + 1) [] 0).2) := by
  have h := impl_ReadFields_l0 s hs (s.size + 1) [] 0 (by omega) (by omega) (by omega) (by simp)
  have e : strOfNums ((bytesOf s).drop (0 : Int).toNat) = s := by rw [Int.toNat_zero, List.drop_zero, strOfNums_bytesOf]
  rw [e] at h
  exact h

end Go.Proofs.YtjldfmkpdkhnnaaDoor.Pure

namespace Go.Proofs.YtjldfmkpdkhnnaaDoor.Pure
open Go.RowKit Go.Proofs.YtjldfmkpdkhnnaaDoor.QL Go.Proofs.YtjldfmkpdkhnnaaDoorW.PrintWords Go.Proofs.YtjldfmkpdkhnnaaDoorW.PrintLast Go.Proofs.YtjldfmkpdkhnnaaDoorW.PrintMore Go.Proofs.YtjldfmkpdkhnnaaDoor.Aux Go.Proofs.YtjldfmkpdkhnnaaDoor.Dom Go.Proofs.YtjldfmkpdkhnnaaDoor.Ext
theorem spec_l2Token_eq {c : Int} (h0 : 0 ≤ c) (h1 : c < 256) : spec_l2Token.f c = some (tokC c) := by unfold spec_l2Token.f; rw [if_pos ⟨h0, h1⟩]
theorem spec_IsTokenText_l0 (s : ByteArray) (hs : s.size ≤ 8388608) : ∀ (d : Nat) (i : Int), 0 ≤ i → (s.size : Int) - i = d →
    Ev (fun k => spec_IsTokenText.l0 k s i) (((bytesOf s).drop i.toNat).all tokC && !(bytesOf s).isEmpty)
  | 0, i, h0, hd => by
    refine ev_last fun k => ?_
    simp only [spec_IsTokenText.l0]
    rw [if_neg (by omega), drop_end (by omega)]
    have hl := bytesOf_length s
    cases hb : bytesOf s with
    | nil => rw [hb] at hl; simp at hl; simp [← hl]
    | cons a r => rw [hb] at hl; simp at hl; simp; omega
  | d + 1, i, h0, hd => by
    have hb := bt_bound s i
    have hlt : i < (s.size : Int) := by omega
    have e := spec_l2Token_eq hb.1 hb.2
    rw [drop_bt h0 hlt, List.all_cons]
    cases ht : tokC (bt s i) with
    | true =>
      refine Ev.step (f := fun k => spec_IsTokenText.l0 k s (i + 1)) (fun k => ?_) (ev_eq (spec_IsTokenText_l0 s hs d (i + 1) (by omega) (by omega)) (by rw [Bool.true_and]))
      simp only [spec_IsTokenText.l0]
      rw [if_pos hlt, if_pos h0, e, ht, Option.bind_some, if_pos rfl, wrap_id (by omega) (by omega)]
    | false =>
      refine ev_last fun k => ?_
      simp only [spec_IsTokenText.l0]
      rw [if_pos hlt, if_pos h0, e, ht, Option.bind_some, if_neg (by decide)]
      rfl
theorem spec_IsTokenText_ev (s : ByteArray) (hs : s.size ≤ 8388608) : Ev (fun k => spec_IsTokenText.f k s) (tokB (bytesOf s)) := by
  have h := spec_IsTokenText_l0 s hs s.size 0 (by omega) (by omega)
  simpa [spec_IsTokenText.f, tokB] using h

end Go.Proofs.YtjldfmkpdkhnnaaDoor.Pure

namespace Go.Proofs.YtjldfmkpdkhnnaaDoor.Pure
open Go.RowKit Go.Proofs.YtjldfmkpdkhnnaaDoor.QL Go.Proofs.YtjldfmkpdkhnnaaDoorW.PrintWords Go.Proofs.YtjldfmkpdkhnnaaDoorW.PrintLast Go.Proofs.YtjldfmkpdkhnnaaDoorW.PrintMore Go.Proofs.YtjldfmkpdkhnnaaDoor.Aux Go.Proofs.YtjldfmkpdkhnnaaDoor.Dom Go.Proofs.YtjldfmkpdkhnnaaDoor.Ext
theorem spec_l2Blank_eq (c : Int) : spec_l2Blank.f c = some (blkC c) := by
  unfold spec_l2Blank.f blkC
  by_cases h : c = 32
  · rw [if_pos h, decide_eq_true h, Bool.true_or]
  · rw [if_neg h, decide_eq_false h, Bool.false_or]
    congr 1
theorem spec_Trim_l1 : ∀ (d : Nat) (s : ByteArray), s.size = d → d ≤ 8388608 → Ev (fun k => spec_Trim.l1 k s) (strOfNums ((bytesOf s).reverse.dropWhile blkC).reverse)
  | 0, s, h, _ => by
    refine ev_last fun k => ?_
    simp only [spec_Trim.l1]
    rw [if_neg (by omega), bytesOf_nil h]
    congr 1
    rw [← strOfNums_bytesOf s, bytesOf_nil h]
    rfl
  | d + 1, s, h, hd => by
    have hb := bytesOf_last h
    have hw : wrap64 ((s.size : Int) - 1) = (d : Int) := by rw [wrap_id (by omega) (by omega)]; omega
    have er : (bytesOf s).reverse = bt s (d : Int) :: ((bytesOf s).take d).reverse := by
      conv => lhs; rw [hb]
      rw [List.reverse_append, List.reverse_singleton, List.singleton_append]
    by_cases hk : blkC (bt s (d : Int)) = true
    · have hx : bytesOf (s.extract 0 d) = (bytesOf s).take d := by rw [bytesOf_extract, List.drop_zero]
      have ih := spec_Trim_l1 d (s.extract 0 d) (by rw [ByteArray.size_extract]; omega) (by omega)
      rw [hx] at ih
      refine Ev.step (f := fun k => spec_Trim.l1 k (s.extract 0 d)) (fun k => ?_) (ev_eq ih (by rw [er, List.dropWhile_cons_of_pos hk]))
      simp only [spec_Trim.l1, hw]
      rw [if_pos (by omega), if_pos (by omega), if_pos (by omega), spec_l2Blank_eq, hk, Option.bind_some, if_pos rfl, if_pos (by omega), Int.toNat_natCast]
    · refine ev_last fun k => ?_
      simp only [spec_Trim.l1, hw]
      have hk' : blkC (bt s (d : Int)) = false := by simpa using hk
      rw [if_pos (by omega), if_pos (by omega), if_pos (by omega), spec_l2Blank_eq, hk', Option.bind_some, if_neg (by decide), er, List.dropWhile_cons_of_neg hk, ← er, List.reverse_reverse, strOfNums_bytesOf]
theorem spec_Trim_l0 : ∀ (d : Nat) (s : ByteArray), s.size = d → d ≤ 8388608 → Ev (fun k => spec_Trim.l0 k s) (strOfNums (((bytesOf s).dropWhile blkC).reverse.dropWhile blkC).reverse)
  | 0, s, h, hd => by
    refine Ev.step (f := fun k => spec_Trim.j1 k s) (fun k => ?_) (Ev.step (f := fun k => spec_Trim.l1 k s) (fun k => by simp only [spec_Trim.j1]) (ev_eq (spec_Trim_l1 0 s h hd) (by rw [bytesOf_nil h]; rfl)))
    simp only [spec_Trim.l0]
    rw [if_neg (by omega)]
  | d + 1, s, h, hd => by
    have er : bytesOf s = bt s 0 :: (bytesOf s).drop 1 := drop_bt (s := s) (i := 0) (by omega) (by omega)
    by_cases hk : blkC (bt s 0) = true
    · have hx : bytesOf (s.extract 1 s.size) = (bytesOf s).drop 1 := by rw [bytesOf_extract, List.take_of_length_le (by rw [bytesOf_length]; omega)]
      have ih := spec_Trim_l0 d (s.extract 1 s.size) (by rw [ByteArray.size_extract]; omega) (by omega)
      rw [hx] at ih
      refine Ev.step (f := fun k => spec_Trim.l0 k (s.extract 1 s.size)) (fun k => ?_) (ev_eq ih (by conv => rhs; rw [er, List.dropWhile_cons_of_pos hk]))
      simp only [spec_Trim.l0]
      rw [if_pos (by omega), if_pos (by omega), spec_l2Blank_eq, hk, Option.bind_some, if_pos rfl, if_pos (by omega)]
    · have hk' : blkC (bt s 0) = false := by simpa using hk
      refine Ev.step (f := fun k => spec_Trim.j1 k s) (fun k => ?_) (Ev.step (f := fun k => spec_Trim.l1 k s) (fun k => by simp only [spec_Trim.j1]) (ev_eq (spec_Trim_l1 (d + 1) s h hd) (by conv => rhs; rw [er, List.dropWhile_cons_of_neg hk, ← er])))
      simp only [spec_Trim.l0]
      rw [if_pos (by omega), if_pos (by omega), spec_l2Blank_eq, hk', Option.bind_some, if_neg (by decide)]
theorem spec_Trim_ev (s : ByteArray) (hs : s.size ≤ 8388608) : Ev (fun k => spec_Trim.f k s) (trimB s) := by
  have h := spec_Trim_l0 s.size s rfl hs
  rw [← dropWhile_ends] at h
  exact h

end Go.Proofs.YtjldfmkpdkhnnaaDoor.Pure

namespace Go.Proofs.YtjldfmkpdkhnnaaDoor.Pure
open Go.RowKit Go.Proofs.YtjldfmkpdkhnnaaDoor.QL Go.Proofs.YtjldfmkpdkhnnaaDoorW.PrintWords Go.Proofs.YtjldfmkpdkhnnaaDoorW.PrintLast Go.Proofs.YtjldfmkpdkhnnaaDoorW.PrintMore Go.Proofs.YtjldfmkpdkhnnaaDoor.Aux Go.Proofs.YtjldfmkpdkhnnaaDoor.Dom Go.Proofs.YtjldfmkpdkhnnaaDoor.Ext
theorem spec_IsValueText_l0 (s : ByteArray) (hs : s.size ≤ 8388608) : ∀ (d : Nat) (i : Int), 0 ≤ i → (s.size : Int) - i = d →
    Ev (fun k => spec_IsValueText.l0 k s i) (((bytesOf s).drop i.toNat).all valC && decide (trimB s = s))
  | 0, i, h0, hd => by
    refine Ev.step (f := fun k => (spec_Trim.f k s).bind fun t103 => some (t103.toList == s.toList)) (fun k => ?_) (ev_bind (spec_Trim_ev s hs) (ev_some fun k => ?_))
    · simp only [spec_IsValueText.l0]
      rw [if_neg (by omega)]
    · rw [drop_end (by omega), toList_beq]
      rfl
  | d + 1, i, h0, hd => by
    have hlt : i < (s.size : Int) := by omega
    have ih := spec_IsValueText_l0 s hs d (i + 1) (by omega) (by omega)
    rw [drop_bt h0 hlt, List.all_cons]
    by_cases h9 : bt s i = 9
    · refine Ev.step (f := fun k => spec_IsValueText.l0 k s (i + 1)) (fun k => ?_) (ev_eq ih (by rw [valC, h9]; rfl))
      simp only [spec_IsValueText.l0]
      rw [if_pos hlt, if_pos h0, if_pos h9, wrap_id (by omega) (by omega)]
    · by_cases h32 : bt s i < 32
      · refine ev_last fun k => ?_
        simp only [spec_IsValueText.l0]
        rw [if_pos hlt, if_pos h0, if_neg h9, if_pos h32, valC, decide_eq_false h9, decide_eq_false (by omega : ¬ 32 ≤ bt s i)]
        rfl
      · by_cases h7 : bt s i = 127
        · refine ev_last fun k => ?_
          simp only [spec_IsValueText.l0]
          rw [if_pos hlt, if_pos h0, if_neg h9, if_neg h32, if_pos h7, valC, h7]
          rfl
        · refine Ev.step (f := fun k => spec_IsValueText.l0 k s (i + 1)) (fun k => ?_) (ev_eq ih (by rw [valC, decide_eq_true (by omega : 32 ≤ bt s i), decide_eq_true h7]; simp))
          simp only [spec_IsValueText.l0]
          rw [if_pos hlt, if_pos h0, if_neg h9, if_neg h32, if_neg h7, wrap_id (by omega) (by omega)]
theorem spec_IsValueText_ev (s : ByteArray) (hs : s.size ≤ 8388608) : Ev (fun k => spec_IsValueText.f k s) (valB s) :=
  spec_IsValueText_l0 s hs s.size 0 (by omega) (by omega)

end Go.Proofs.YtjldfmkpdkhnnaaDoor.Pure

namespace Go.Proofs.YtjldfmkpdkhnnaaDoor.Pure
open Go.RowKit Go.Proofs.YtjldfmkpdkhnnaaDoor.QL Go.Proofs.YtjldfmkpdkhnnaaDoorW.PrintWords Go.Proofs.YtjldfmkpdkhnnaaDoorW.PrintLast Go.Proofs.YtjldfmkpdkhnnaaDoorW.PrintMore Go.Proofs.YtjldfmkpdkhnnaaDoor.Aux Go.Proofs.YtjldfmkpdkhnnaaDoor.Dom Go.Proofs.YtjldfmkpdkhnnaaDoor.Ext
theorem spec_Lower_eq (s : ByteArray) (hs : s.size ≤ 8388608) : spec_Lower.f s = some (strOfNums ((bytesOf s).map lowC)) := by unfold spec_Lower.f; rw [if_pos hs]

end Go.Proofs.YtjldfmkpdkhnnaaDoor.Pure

namespace Go.Proofs.YtjldfmkpdkhnnaaDoor.Pure
open Go.RowKit Go.Proofs.YtjldfmkpdkhnnaaDoor.QL Go.Proofs.YtjldfmkpdkhnnaaDoorW.PrintWords Go.Proofs.YtjldfmkpdkhnnaaDoorW.PrintLast Go.Proofs.YtjldfmkpdkhnnaaDoorW.PrintMore Go.Proofs.YtjldfmkpdkhnnaaDoor.Aux Go.Proofs.YtjldfmkpdkhnnaaDoor.Dom Go.Proofs.YtjldfmkpdkhnnaaDoor.Ext
theorem spec_l3FieldOk_ev (nm v : ByteArray) (hn : nm.size ≤ 8388608) (hv : v.size ≤ 8388608) : Ev (fun k => spec_l3FieldOk.f k nm v) (fieldB (nm, v)) := by
  refine Ev.congr (fun k => by unfold spec_l3FieldOk.f; rfl) ?_
  refine ev_bind (spec_IsTokenText_ev nm hn) ?_
  by_cases a : tokB (bytesOf nm) = true
  · refine ev_if_pos a (ev_bind (ev_some fun _ => spec_Lower_eq nm hn) ?_)
    by_cases b : lowB nm = nm
    · refine ev_if_pos (by rw [toList_eq_iff]; exact b.symm) ?_
      by_cases c : nm.size ≤ 24
      · refine ev_if_pos (by omega) (ev_bind (spec_IsValueText_ev v hv) ?_)
        by_cases d : valB v = true
        · refine ev_if_pos d (ev_some fun _ => ?_)
          congr 1
          have e : decide ((v.size : Int) ≤ 60) = decide (v.size ≤ 60) := by rw [decide_eq_decide]; omega
          rw [e]
          simp [fieldB, a, b, c, d]
        · exact ev_if_neg d (ev_eq (Ev.now _) (by simp [fieldB, d]))
      · exact ev_if_neg (by omega) (ev_eq (Ev.now _) (by simp [fieldB, c]))
    · exact ev_if_neg (by rw [toList_eq_iff]; exact fun h => b h.symm) (ev_eq (Ev.now _) (by simp [fieldB, b]))
  · exact ev_if_neg a (ev_eq (Ev.now _) (by simp [fieldB, a]))

end Go.Proofs.YtjldfmkpdkhnnaaDoor.Pure

namespace Go.Proofs.YtjldfmkpdkhnnaaDoor.Pure
open Go.RowKit Go.Proofs.YtjldfmkpdkhnnaaDoor.QL Go.Proofs.YtjldfmkpdkhnnaaDoorW.PrintWords Go.Proofs.YtjldfmkpdkhnnaaDoorW.PrintLast Go.Proofs.YtjldfmkpdkhnnaaDoorW.PrintMore Go.Proofs.YtjldfmkpdkhnnaaDoor.Aux Go.Proofs.YtjldfmkpdkhnnaaDoor.Dom Go.Proofs.YtjldfmkpdkhnnaaDoor.Ext
theorem spec_FieldsOk_l0 (l : List S49) (hl : l.length ≤ 2097152) (hm : ∀ x ∈ l, x.f0.size ≤ 8388608 ∧ x.f1.size ≤ 8388608) : ∀ (d : Nat) (i : Int), 0 ≤ i → (l.length : Int) - i = d →
    Ev (fun k => spec_FieldsOk.l0 k l i) (((l.drop i.toNat).map fun x => (x.f0, x.f1)).all fieldB && decide (l.length ≤ 12))
  | 0, i, h0, hd => by
    refine ev_last fun k => ?_
    simp only [spec_FieldsOk.l0]
    rw [if_neg (by omega), drop_nil (by omega)]
    congr 1
    have e : decide ((l.length : Int) ≤ 12) = decide (l.length ≤ 12) := by rw [decide_eq_decide]; omega
    rw [e]
    rfl
  | d + 1, i, h0, hd => by
    have hlt : i < (l.length : Int) := by omega
    have hdrop : l.drop i.toNat = rd_T49 l i :: l.drop (i + 1).toNat := drop_rdOf (d := z49) h0 hlt
    have hx : rd_T49 l i ∈ l := List.mem_of_mem_drop (i := i.toNat) (by rw [hdrop]; exact List.mem_cons_self)
    have hs := hm _ hx
    rw [hdrop]
    simp only [List.map_cons, List.all_cons]
    refine Ev.step (f := fun k => (spec_l3FieldOk.f k (rd_T49 l i).f0 (rd_T49 l i).f1).bind fun t => if t = true then spec_FieldsOk.l0 k l (i + 1) else some false) (fun k => ?_) (ev_bind (spec_l3FieldOk_ev _ _ hs.1 hs.2) ?_)
    · simp only [spec_FieldsOk.l0]
      rw [if_pos hlt, if_pos h0, wrap_id (by omega) (by omega)]
    · by_cases a : fieldB ((rd_T49 l i).f0, (rd_T49 l i).f1) = true
      · exact ev_if_pos a (ev_eq (spec_FieldsOk_l0 l hl hm d (i + 1) (by omega) (by omega)) (by rw [a, Bool.true_and]))
      · exact ev_if_neg a (ev_eq (Ev.now _) (by simp [a]))
theorem spec_FieldsOk_ev (l : List S49) (hl : l.length ≤ 2097152) (hm : ∀ x ∈ l, x.f0.size ≤ 8388608 ∧ x.f1.size ≤ 8388608) : Ev (fun k => spec_FieldsOk.f k l) (fieldsB (l.map fun x => (x.f0, x.f1))) := by
  have h := spec_FieldsOk_l0 l hl hm l.length 0 (by omega) (by omega)
  simpa [spec_FieldsOk.f, fieldsB] using h

end Go.Proofs.YtjldfmkpdkhnnaaDoor.Pure

namespace Go.Proofs.YtjldfmkpdkhnnaaDoor.Pure
open Go.RowKit Go.Proofs.YtjldfmkpdkhnnaaDoor.QL Go.Proofs.YtjldfmkpdkhnnaaDoorW.PrintWords Go.Proofs.YtjldfmkpdkhnnaaDoorW.PrintLast Go.Proofs.YtjldfmkpdkhnnaaDoorW.PrintMore Go.Proofs.YtjldfmkpdkhnnaaDoor.Aux Go.Proofs.YtjldfmkpdkhnnaaDoor.Dom Go.Proofs.YtjldfmkpdkhnnaaDoor.Ext
theorem idxS_at (r : List Int) : ∀ (H : List Int), (∀ c ∈ H, c ≠ 13) → idxS (H ++ 13 :: 10 :: r) [13, 10] = H.length
  | [], _ => by
    rw [List.nil_append, idxS_crlf, if_pos ⟨rfl, rfl⟩]
    rfl
  | [a], h => by
    have ha := h a List.mem_cons_self
    have e := idxS_at r [] (fun c hc => by cases hc)
    rw [List.nil_append] at e
    rw [List.singleton_append, idxS_crlf, if_neg (fun x => ha x.1), e]
    rfl
  | a :: b :: H, h => by
    have ha := h a List.mem_cons_self
    have e := idxS_at r (b :: H) (fun c hc => h c (List.mem_cons_of_mem _ hc))
    rw [List.cons_append] at e
    rw [List.cons_append, List.cons_append, idxS_crlf, if_neg (fun x => ha x.1), e, if_neg (by omega), List.length_cons, List.length_cons, List.length_cons]
    omega
theorem line_take (H r : List Int) : (H ++ 13 :: 10 :: r).take ((H.length : Nat) : Int).toNat = H := by rw [Int.toNat_natCast, List.take_left]
theorem line_drop (H r : List Int) : (H ++ 13 :: 10 :: r).drop (((H.length : Nat) : Int).toNat + 2) = r := by
  rw [Int.toNat_natCast, List.drop_append, List.drop_of_length_le (by omega), show H.length + 2 - H.length = 2 by omega]
  rfl
end Go.Proofs.YtjldfmkpdkhnnaaDoor.Pure

namespace Go.Proofs.YtjldfmkpdkhnnaaDoor.Pure
open Go.RowKit Go.Proofs.YtjldfmkpdkhnnaaDoor.QL Go.Proofs.YtjldfmkpdkhnnaaDoorW.PrintWords Go.Proofs.YtjldfmkpdkhnnaaDoorW.PrintLast Go.Proofs.YtjldfmkpdkhnnaaDoorW.PrintMore Go.Proofs.YtjldfmkpdkhnnaaDoor.Aux Go.Proofs.YtjldfmkpdkhnnaaDoor.Dom Go.Proofs.YtjldfmkpdkhnnaaDoor.Ext
theorem getL_set (nm v : ByteArray) : ∀ (l : List (ByteArray × ByteArray)) (d : Bool), getL nm (setL nm v d l) = if d = true then [] else [v]
  | [], true => rfl
  | [], false => by simp [setL, getL]
  | p :: r, d => by
    have ih := getL_set nm v r
    rw [setL]
    by_cases h : p.1 = nm
    · rw [if_pos h]
      cases d with
      | true => rw [if_pos rfl]; exact ih true
      | false =>
        rw [if_neg (by decide), getL, if_pos rfl, ih true]
        rfl
    · rw [if_neg h, getL, if_neg h]
      exact ih d
theorem drop_set (nm v : ByteArray) : ∀ (l : List (ByteArray × ByteArray)) (d : Bool), dropL nm (setL nm v d l) = dropL nm l
  | [], true => rfl
  | [], false => by simp [setL, dropL]
  | p :: r, d => by
    have ih := drop_set nm v r
    rw [setL, dropL]
    by_cases h : p.1 = nm
    · rw [if_pos h, if_pos h]
      cases d with
      | true => rw [if_pos rfl]; exact ih true
      | false => rw [if_neg (by decide), dropL, if_pos rfl]; exact ih true
    · rw [if_neg h, if_neg h, dropL, if_neg h, ih d]
theorem set_len (nm v : ByteArray) : ∀ (l : List (ByteArray × ByteArray)) (d : Bool), (setL nm v d l).length = (dropL nm l).length + if d = true then 0 else 1
  | [], true => rfl
  | [], false => rfl
  | p :: r, d => by
    have ih := set_len nm v r
    rw [setL, dropL]
    by_cases h : p.1 = nm
    · rw [if_pos h, if_pos h]
      cases d with
      | true => rw [if_pos rfl]; exact ih true
      | false => rw [if_neg (by decide), List.length_cons, ih true]; rfl
    · rw [if_neg h, if_neg h, List.length_cons, List.length_cons, ih d]
      omega
theorem set_mem (nm v : ByteArray) : ∀ (l : List (ByteArray × ByteArray)) (d : Bool), ∀ p ∈ setL nm v d l, p ∈ l ∨ p = (nm, v)
  | [], true, p, h => by simp [setL] at h
  | [], false, p, h => by simp [setL] at h; exact Or.inr h
  | q :: r, d, p, h => by
    have ih := set_mem nm v r
    rw [setL] at h
    split at h
    · cases d with
      | true =>
        rw [if_pos rfl] at h
        rcases ih true p h with a | a
        · exact Or.inl (List.mem_cons_of_mem _ a)
        · exact Or.inr a
      | false =>
        rw [if_neg (by decide)] at h
        rcases List.mem_cons.1 h with a | h
        · exact Or.inr a
        · rcases ih true p h with a | a
          · exact Or.inl (List.mem_cons_of_mem _ a)
          · exact Or.inr a
    · rcases List.mem_cons.1 h with rfl | h
      · exact Or.inl List.mem_cons_self
      · rcases ih d p h with a | a
        · exact Or.inl (List.mem_cons_of_mem _ a)
        · exact Or.inr a
theorem drop_mem (nm : ByteArray) : ∀ (l : List (ByteArray × ByteArray)), ∀ p ∈ dropL nm l, p ∈ l
  | [], p, h => h
  | q :: r, p, h => by
    rw [dropL] at h
    split at h
    · exact List.mem_cons_of_mem _ (drop_mem nm r p h)
    · rcases List.mem_cons.1 h with rfl | h
      · exact List.mem_cons_self
      · exact List.mem_cons_of_mem _ (drop_mem nm r p h)
theorem getL_drop (nm n : ByteArray) : ∀ l : List (ByteArray × ByteArray), getL n (dropL nm l) = if n = nm then [] else getL n l
  | [] => by simp [dropL, getL]
  | p :: r => by
    have ih := getL_drop nm n r
    rw [dropL]
    by_cases h : p.1 = nm
    · rw [if_pos h, ih]
      by_cases hn : n = nm
      · rw [if_pos hn, if_pos hn]
      · rw [if_neg hn, if_neg hn, getL, if_neg (fun e => hn (e.symm.trans h))]
    · rw [if_neg h, getL, ih]
      by_cases hn : n = nm
      · rw [if_pos hn, if_pos hn, if_neg (fun e => h (e.trans hn))]
      · rw [if_neg hn, if_neg hn, getL]
theorem getL_has {p : ByteArray × ByteArray} : ∀ {l : List (ByteArray × ByteArray)}, p ∈ l → (getL p.1 l).isEmpty = false
  | q :: r, h => by
    rw [getL]
    split
    · rfl
    · rename_i hq
      rcases List.mem_cons.1 h with rfl | h
      · exact absurd rfl hq
      · exact getL_has h
theorem sameL_refl : ∀ l : List (ByteArray × ByteArray), sameL l l = true
  | [] => rfl
  | p :: r => by rw [sameL, if_pos ⟨rfl, rfl⟩]; exact sameL_refl r
theorem sameF_refl (l : List (ByteArray × ByteArray)) : sameF l l = true := by
  unfold sameF
  rw [if_pos rfl]
  exact sameL_refl l
theorem idxS_58 (r : List Int) : ∀ (H : List Int), (∀ c ∈ H, c ≠ 58) → idxS (H ++ 58 :: r) [58] = H.length
  | [], _ => by
    rw [List.nil_append, idxS_one, if_pos rfl]
    rfl
  | a :: H, h => by
    have ha := h a List.mem_cons_self
    have e := idxS_58 r H (fun c hc => h c (List.mem_cons_of_mem _ hc))
    rw [List.cons_append, idxS_one, if_neg (fun x => ha x.symm), e, if_neg (by omega), List.length_cons]
    omega
theorem fieldB_parts {p : ByteArray × ByteArray} (h : fieldB p = true) : (bytesOf p.1).all tokC = true ∧ 1 ≤ p.1.size ∧ lowB p.1 = p.1 ∧ (bytesOf p.2).all valC = true ∧ trimB p.2 = p.2 := by
  unfold fieldB tokB valB at h
  simp only [Bool.and_eq_true, decide_eq_true_eq] at h
  refine ⟨h.1.1.1.1.1, ?_, h.1.1.2, h.1.2.1, h.1.2.2⟩
  have h2 := h.1.1.1.1.2
  rcases Nat.eq_zero_or_pos p.1.size with e | e
  · rw [bytesOf_nil e] at h2
    cases h2
  · exact e
theorem tok_no {l : List Int} (h : l.all tokC = true) : ∀ c ∈ l, c ≠ 13 ∧ c ≠ 58 := by
  intro c hc
  have := List.all_eq_true.1 h c hc
  constructor
  · rintro rfl
    exact absurd this (by decide)
  · rintro rfl
    exact absurd this (by decide)
theorem val_no {l : List Int} (h : l.all valC = true) : ∀ c ∈ l, c ≠ 13 := by
  intro c hc
  have := List.all_eq_true.1 h c hc
  rintro rfl
  exact absurd this (by decide)
theorem showR_len : ∀ l : List (ByteArray × ByteArray), l.length + 2 ≤ (showR l).size
  | [] => by decide
  | p :: r => by
    have ih := showR_len r
    rw [showR]
    simp only [ByteArray.size_append, size_colon, size_crlf, List.length_cons]
    omega
theorem read_show (L T : List Int) : ∀ (l : List (ByteArray × ByteArray)) (d : Nat) (acc : List (ByteArray × ByteArray)) (i : Int), 0 ≤ i → (∀ p ∈ l, fieldB p = true) → acc.length + l.length ≤ 12 → l.length < d → L.drop i.toNat = bytesOf (showR l) ++ T → rfP L d acc i = (acc ++ l, i + (showR l).size, true)
  | _, 0, _, _, _, _, _, hd, _ => by omega
  | [], d + 1, acc, i, h0, hf, ha, hd, hl => by
    have e : bytesOf (showR []) ++ T = 13 :: 10 :: T := rfl
    have e0 : idxS (13 :: 10 :: T) [13, 10] = 0 := by rw [idxS_crlf, if_pos ⟨rfl, rfl⟩]
    rw [rfP, hl, e, e0, if_neg (by decide), if_pos rfl, List.append_nil]
    rfl
  | p :: r, d + 1, acc, i, h0, hf, ha, hd, hl => by
    have hp := hf p List.mem_cons_self
    obtain ⟨t1, t2, t3, t4, t5⟩ := fieldB_parts hp
    have hn1 := tok_no t1
    have hn2 := val_no t4
    have hlen1 := bytesOf_length p.1
    have hlen2 := bytesOf_length p.2
    have e : bytesOf (showR (p :: r)) ++ T = (bytesOf p.1 ++ 58 :: 32 :: bytesOf p.2) ++ 13 :: 10 :: (bytesOf (showR r) ++ T) := by
      rw [showR]
      simp only [bytesOf_append, List.append_assoc]
      rfl
    have eL : (bytesOf p.1 ++ 58 :: 32 :: bytesOf p.2).length = p.1.size + p.2.size + 2 := by
      rw [List.length_append, List.length_cons, List.length_cons]
      omega
    have e1 := idxS_at (bytesOf (showR r) ++ T) (bytesOf p.1 ++ 58 :: 32 :: bytesOf p.2) (fun c hc => by
      rcases List.mem_append.1 hc with hc | hc
      · exact (hn1 c hc).1
      · rcases List.mem_cons.1 hc with rfl | hc
        · decide
        · rcases List.mem_cons.1 hc with rfl | hc
          · decide
          · exact hn2 c hc)
    have e2 := idxS_58 (32 :: bytesOf p.2) (bytesOf p.1) (fun c hc => (hn1 c hc).2)
    have e3 : lineF (bytesOf p.1 ++ 58 :: 32 :: bytesOf p.2) ((bytesOf p.1).length : Int) = p := by
      unfold lineF
      have a1 : (bytesOf p.1 ++ 58 :: 32 :: bytesOf p.2).take (((bytesOf p.1).length : Int)).toNat = bytesOf p.1 := by rw [Int.toNat_natCast, List.take_left]
      have a2 : (bytesOf p.1 ++ 58 :: 32 :: bytesOf p.2).drop ((((bytesOf p.1).length : Int)).toNat + 1) = 32 :: bytesOf p.2 := by
        rw [Int.toNat_natCast, List.drop_append, List.drop_of_length_le (by omega), show (bytesOf p.1).length + 1 - (bytesOf p.1).length = 1 by omega]
        rfl
      rw [a1, a2, strOfNums_bytesOf, t3]
      have a3 : strOfNums (32 :: bytesOf p.2) = ⟨#[32]⟩ ++ p.2 := by
        have : strOfNums ([32] ++ bytesOf p.2) = strOfNums [32] ++ strOfNums (bytesOf p.2) := strOfNums_append _ _
        rw [strOfNums_bytesOf] at this
        exact this
      rw [a3, trimB_blank, t5]
    rw [List.length_cons] at ha hd
    have ih := read_show L T r d (acc ++ [p]) (i + ((bytesOf p.1 ++ 58 :: 32 :: bytesOf p.2).length : Int) + 2) (by omega) (fun q hq => hf q (List.mem_cons_of_mem _ hq)) (by rw [List.length_append, List.length_singleton]; omega) (by omega) (by
      rw [show (i + ((bytesOf p.1 ++ 58 :: 32 :: bytesOf p.2).length : Int) + 2).toNat = i.toNat + (((((bytesOf p.1 ++ 58 :: 32 :: bytesOf p.2).length : Nat) : Int)).toNat + 2) by omega, ← List.drop_drop, hl, e, line_drop])
    rw [rfP, hl, e, e1]
    simp only [line_take]
    rw [e2, e3, if_neg (by omega), if_neg (by omega), if_neg (by omega), if_pos ⟨hp, by omega⟩, ih]
    refine Prod.ext ?_ (Prod.ext ?_ rfl)
    · simp
    · show i + ((bytesOf p.1 ++ 58 :: 32 :: bytesOf p.2).length : Int) + 2 + ((showR r).size : Int) = i + ((showR (p :: r)).size : Int)
      rw [showR]
      simp only [ByteArray.size_append, size_colon, size_crlf]
      omega
theorem show_read (l : List (ByteArray × ByteArray)) (t : ByteArray) (h : fieldsB l = true) : rfP (bytesOf (showR l ++ t)) ((showR l ++ t).size + 1) [] 0 = (l, ((showR l).size : Int), true) := by
  unfold fieldsB at h
  rw [Bool.and_eq_true, decide_eq_true_eq, List.all_eq_true] at h
  have hs := showR_len l
  have e := read_show (bytesOf (showR l ++ t)) (bytesOf t) l ((showR l ++ t).size + 1) [] 0 (by omega) h.1 (by simpa using h.2) (by rw [ByteArray.size_append]; omega) (by rw [Int.toNat_zero, List.drop_zero, bytesOf_append])
  rw [e, List.nil_append, show (0 : Int) + ((showR l).size : Int) = (showR l).size by omega]

end Go.Proofs.YtjldfmkpdkhnnaaDoor.Pure

namespace Go.Proofs.YtjldfmkpdkhnnaaDoor.Pure
open Go.RowKit Go.Proofs.YtjldfmkpdkhnnaaDoor.QL Go.Proofs.YtjldfmkpdkhnnaaDoorW.PrintWords Go.Proofs.YtjldfmkpdkhnnaaDoorW.PrintLast Go.Proofs.YtjldfmkpdkhnnaaDoorW.PrintMore Go.Proofs.YtjldfmkpdkhnnaaDoor.Aux Go.Proofs.YtjldfmkpdkhnnaaDoor.Dom Go.Proofs.YtjldfmkpdkhnnaaDoor.Ext

theorem FnFields : laws_FnFields.Pure := by
  intro b hl hl2 hw
  refine Ev.rounds (Ev.congr (fun k => by unfold laws_FnFields.f laws_big.f; rw [Option.bind_some]) ?_)
  by_cases hb : (b.length : Int) > 1048576
  · exact ev_if_pos (decide_eq_true hb) (Ev.now _)
  refine ev_if_neg (by rw [decide_eq_true_eq]; exact hb) ?_
  have hb' : b.length ≤ 1048576 := by omega
  have eP : ∀ P : List (ByteArray × ByteArray), ((P.map fun p => (⟨p.1, p.2⟩ : S49)).map fun x => (x.f0, x.f1)) = P := fun P => by rw [List.map_map]; exact List.map_id P
  -- the fields that are shown
  obtain ⟨m, em, hokm, hlm⟩ := spec_DrawShowFields_ev b hb'
  have hmm : ∀ x ∈ m, x.f0.size ≤ 8388608 ∧ x.f1.size ≤ 8388608 := fun x hx => ⟨Nat.le_trans (hokm x hx).1 (by decide), Nat.le_trans (hokm x hx).2.1 (by decide)⟩
  have hm1 := impl_ShowFields_ev m (by omega) hmm
  have hm2 := spec_FieldsOk_ev m (by omega) hmm
  have hsz : (showB (m.map fun x => (x.f0, x.f1))).size ≤ 10000 := by
    unfold showB
    split
    · have key : ∀ l : List (ByteArray × ByteArray), (∀ p ∈ l, p.1.size ≤ 60 ∧ p.2.size ≤ 60) → (showR l).size ≤ 124 * l.length + 2 := by
        intro l
        induction l with
        | nil => intro _; decide
        | cons p r ih =>
          intro h
          have h1 := h p List.mem_cons_self
          have h2 := ih fun q hq => h q (List.mem_cons_of_mem _ hq)
          rw [showR]
          simp only [ByteArray.size_append, size_colon, size_crlf, List.length_cons]
          omega
      have := key (m.map fun x => (x.f0, x.f1)) fun p hp => by
        obtain ⟨x, hx, rfl⟩ := List.mem_map.1 hp
        exact ⟨(hokm x hx).1, (hokm x hx).2.1⟩
      rw [List.length_map] at this
      omega
    · decide
  have hrd := impl_ReadFields_ev (showB (m.map fun x => (x.f0, x.f1)) ++ ⟨#[98, 111, 100, 121]⟩) (by rw [ByteArray.size_append, show (⟨#[98, 111, 100, 121]⟩ : ByteArray).size = 4 from rfl]; omega)
  have hsame := spec_SameFields_ev ((m.map fun x => (x.f0, x.f1)).map fun p => (⟨p.1, p.2⟩ : S49)) m (by rw [List.length_map, List.length_map]; omega)
  rw [eP, sameF_refl] at hsame
  generalize hM : (m.map fun x => (x.f0, x.f1)) = M at hm1 hm2 hsz hrd hsame
  have tail : ∀ l nm Y i, ¬ i < ((l : List S49).length : Int) → Ev (fun k => laws_FnFields.l0 k b l nm Y i) true := by
    intro l nm Y i hi
    refine Ev.step (fun k => by simp only [laws_FnFields.l0]; rw [if_neg hi]) (ev_bind em (ev_bind hm1 (ev_if_pos (show (showB M).size + 4 ≤ 9223372036854775807 by omega) (ev_bind hrd (ev_bind hm2 ?_)))))
    by_cases hf : fieldsB M = true
    · have es : showB M = showR M := if_pos hf
      have hne : ¬ (showB M).toList = ([] : List UInt8) := by
        intro h
        have h1 := (trim_nil _).1 h
        rw [es] at h1
        have h2 := showR_len M
        rw [h1, show (⟨#[]⟩ : ByteArray).size = 0 from rfl] at h2
        omega
      have e1 : (((showB M).toList != ([] : List UInt8)) == fieldsB M) = true := by
        rw [hf, bne_iff_ne.2 hne]
        rfl
      have e2 := show_read M ⟨#[98, 111, 100, 121]⟩ hf
      rw [← es] at e2
      rw [e2]
      exact ev_if_pos e1 (ev_if_neg hne (ev_if_pos rfl (ev_if_pos rfl (ev_bind hsame (Ev.now _)))))
    · have es : showB M = ⟨#[]⟩ := if_neg hf
      have he : (showB M).toList = ([] : List UInt8) := (trim_nil _).2 es
      have e1 : (((showB M).toList != ([] : List UInt8)) == fieldsB M) = true := by
        rw [he, Bool.eq_false_iff.2 hf]
        rfl
      exact ev_if_pos e1 (ev_if_pos he (Ev.now _))
  obtain ⟨l, nm, v, ed, hok, hln, hnm, hv⟩ := spec_DrawFieldSet_ev b hb'
  have f1 := impl_FieldSet_ev l nm v (by omega)
  have f5 := spec_FieldDrop_ev l nm (by omega)
  have hz := okL_size hok (by omega)
  have hokL : ∀ p ∈ (l.map fun x => (x.f0, x.f1)), p.1.size ≤ 60 ∧ p.2.size ≤ 60 := fun p hp => by
    obtain ⟨x, hx, rfl⟩ := List.mem_map.1 hp
    exact ⟨(hok x hx).1, (hok x hx).2.1⟩
  have gl : ∀ n, Ev (fun k => impl_FieldGet.f k l n) (joinB ⟨#[44, 32]⟩ (getL n (l.map fun x => (x.f0, x.f1))), !(getL n (l.map fun x => (x.f0, x.f1))).isEmpty) := fun n => impl_FieldGet_ev l n (by omega) (by have := szF_sum n (by omega) hz; omega)
  have hlL : (l.map fun x => (x.f0, x.f1)).length = l.length := List.length_map _
  generalize hLe : (l.map fun x => (x.f0, x.f1)) = L at f1 f5 hz hokL gl hlL
  have hXm : ∀ p ∈ setL nm v false L, p.1.size ≤ 60 ∧ p.2.size ≤ 60 := fun p hp => by
    rcases set_mem nm v L false p hp with h | rfl
    · exact hokL p h
    · exact ⟨hnm, hv⟩
  have hXl := set_len nm v L false
  have hdl := dropL_length nm L
  rw [if_neg (by decide)] at hXl
  have small : ∀ (P : List (ByteArray × ByteArray)), (∀ p ∈ P, p.1.size ≤ 60 ∧ p.2.size ≤ 60) → P.length ≤ 1000 → ¬ szF 1048576 P < 0 := fun P h hP => by
    unfold szF
    rw [if_neg (by omega)]
    exact szL_small P _ h (by omega)
  have gen : ∀ (P : List (ByteArray × ByteArray)), (∀ p ∈ P, p.1.size ≤ 60 ∧ p.2.size ≤ 60) → P.length ≤ 1000 → ∀ n, Ev (fun k => impl_FieldGet.f k (P.map fun p => (⟨p.1, p.2⟩ : S49)) n) (joinB ⟨#[44, 32]⟩ (getL n P), !(getL n P).isEmpty) := fun P h hP n => by
    have g := impl_FieldGet_ev (P.map fun p => (⟨p.1, p.2⟩ : S49)) n (by rw [List.length_map]; omega) (by
      rw [eP]
      have := szF_sum n (by omega) (small P h hP)
      omega)
    rw [eP] at g
    exact g
  have gx := gen (setL nm v false L) hXm (by omega) nm
  have gy := gen (dropL nm L) (fun p hp => hokL p (drop_mem nm L p hp)) (by omega)
  have f2 := impl_FieldDrop_eq ((setL nm v false L).map fun p => (⟨p.1, p.2⟩ : S49)) nm (by rw [List.length_map]; omega)
  rw [eP, drop_set] at f2
  have f2E : Ev (fun _ => impl_FieldDrop.f ((setL nm v false L).map fun p => (⟨p.1, p.2⟩ : S49)) nm) ((dropL nm L).map fun p => (⟨p.1, p.2⟩ : S49)) := ev_some fun _ => f2
  rw [getL_set, if_neg (by decide)] at gx
  have gy0 := gy nm
  rw [getL_drop, if_pos rfl] at gy0
  have f6 := spec_SameFields_ev ((dropL nm L).map fun p => (⟨p.1, p.2⟩ : S49)) ((dropL nm L).map fun p => (⟨p.1, p.2⟩ : S49)) (by rw [List.length_map]; omega)
  rw [sameF_refl] at f6
  have loop : ∀ (d : Nat) (i : Int), 0 ≤ i → (l.length : Int) - i = d → Ev (fun k => laws_FnFields.l0 k b l nm ((dropL nm L).map fun p => (⟨p.1, p.2⟩ : S49)) i) true := by
    intro d
    induction d with
    | zero => exact fun i h0 hd => tail _ _ _ i (by omega)
    | succ d ih =>
      intro i h0 hd
      have hlt : i < (l.length : Int) := by omega
      have hdrop : l.drop i.toNat = rd_T49 l i :: l.drop (i + 1).toNat := drop_rdOf (d := z49) h0 hlt
      have hmem : rd_T49 l i ∈ l := List.mem_of_mem_drop (i := i.toNat) (by rw [hdrop]; exact List.mem_cons_self)
      have hmL : ((rd_T49 l i).f0, (rd_T49 l i).f1) ∈ L := by
        rw [← hLe]
        exact List.mem_map.2 ⟨_, hmem, rfl⟩
      have has := getL_has hmL
      simp only at has
      have hw1 : wrap64 (i + 1) = i + 1 := wrap_id (by omega) (by omega)
      have ihn := ih (i + 1) (by omega) (by omega)
      have g1 := gl (rd_T49 l i).f0
      have g2 := gy (rd_T49 l i).f0
      rw [has] at g1
      by_cases hn : (rd_T49 l i).f0 = nm
      · exact Ev.step (fun k => by simp only [laws_FnFields.l0]; rw [if_pos hlt, if_pos h0, hw1]) (ev_bind g1 (ev_bind g2 (ev_if_pos rfl (ev_if_pos (show (rd_T49 l i).f0.toList = nm.toList by rw [hn]) ihn))))
      · rw [getL_drop, if_neg hn, has] at g2
        exact Ev.step (fun k => by simp only [laws_FnFields.l0]; rw [if_pos hlt, if_pos h0, hw1]) (ev_bind g1 (ev_bind g2 (ev_if_pos rfl (ev_if_neg (show ¬ (rd_T49 l i).f0.toList = nm.toList by rw [toList_eq_iff]; exact hn) (ev_if_pos rfl (ev_if_pos rfl ihn))))))
  have hj0 : Ev (fun k => laws_FnFields.j0 k b l nm ((dropL nm L).map fun p => (⟨p.1, p.2⟩ : S49)) false) true :=
    Ev.step (fun k => by simp only [laws_FnFields.j0]; rfl) (ev_if_neg (by decide) (loop l.length 0 (by omega) (by omega)))
  have hlen : ((((setL nm v false L).map fun p => (⟨p.1, p.2⟩ : S49)).length : Nat) : Int) = wrap64 (((((dropL nm L).map fun p => (⟨p.1, p.2⟩ : S49)).length : Nat) : Int) + 1) := by
    rw [List.length_map, List.length_map, wrap_id (by omega) (by omega)]
    omega
  exact ev_bind ed (ev_bind f1 (ev_bind f2E (ev_bind gx (ev_bind gy0 (ev_if_pos rfl (ev_if_pos rfl (ev_if_neg (by decide) (ev_if_pos hlen (ev_bind f5 (ev_bind f6 hj0))))))))))

end Go.Proofs.YtjldfmkpdkhnnaaDoor.Pure

namespace Go.Proofs.YtjldfmkpdkhnnaaDoor.Open
open Go.ChangeShapes Go.WideShapes Go.Deep
section
variable {H : Type} {enc : TypeId × Value → H} {P : Program} {w : World} {base : Nat} {spare : Nat → Bool} {held : Bool}
end

section
variable {H : Type} {enc : TypeId × Value → H} {P : Program} {w : World} {base : Nat} {spare : Nat → Bool} {held : Bool}
end

theorem returnsInHanded_door {H : Type} {enc : TypeId × Value → H} {a : Assume} {C : Checked} {os : Os} {f : FuncId} {fn : Func} {s : ChangeSpec} {conds : List PathCond} {apart fresh handsOn again : Bool} {X : World → Array Value → Prop}
    (hX : ∀ (w w' : World) (args : Array Value), w.heap = w'.heap → X w args → X w' args)
    (own : ownKnob C.prog.godebug = none) (started : os.Started) (noInit : C.prog.inits.idxOf? f = none) (hfn : C.prog.funcs[f]? = some fn)
    (witness : ∃ (w : World) (tape : Tape) (i : Input), w.os = os ∧ (w.forCall tape i).Shaped C.prog ∧ i.vars = [] ∧ Input.okWide C.prog (w.forCall tape i) .any w.heap.size f i ∧
      ((s.pre enc C.prog fn conds apart (w.forCall tape i).memory i.args ∧ X (w.forCall tape i).memory i.args) ∧ sizedMet enc C.prog fn (OpenSpec.ofChange s) apart (w.forCall tape i).memory i.args) ∧ a.holds C.prog (lone (Frame.enter C.prog f i.args .normal) [] (w.forCall tape i)))
    (contract : ∀ (W : World) (base : Nat) (args : Array Value) (ds gs : List (DataW H)) (before : List MemPlace),
      (∀ (j : Nat) t v, fn.params[j]? = some t → args[j]? = some v → Value.okWide C.prog W .any base t v) →
      DataW.Whole enc C.prog fn.params.toList s.vars apart W args.toList ds gs before →
      conds.all (PathCond.test C.prog ⟨fn.params.toList, ds, s.plain.varTypes C.prog, gs⟩) = true →
      (DataW.weightsEach C.prog (fn.params.toList ++ s.plain.varTypes C.prog) (ds ++ gs)).all (· ≤ reachBytes) = true → X W args →
      W.ShapedOpen C.prog →
      a.holds C.prog (lone (Frame.enter C.prog f args .normal) [] W) →
      Calls C.prog f args W fun e W' => ∃ v, e = .returned v ∧ s.post enc C.prog fn apart fresh handsOn again W args v W') :
    ReturnsInHanded a C os f .any (fun w args => (s.pre enc C.prog fn conds apart w args ∧ X w args) ∧ sizedMet enc C.prog fn (OpenSpec.ofChange s) apart w args) (s.post enc C.prog fn apart fresh handsOn again) := by
  refine returnsInHanded_of_calls own started noInit witness ?_
  intro w tape i _ hsh _ hok hpre hholds
  obtain ⟨_, _, _, fn', hfn', _, _, _, _, hval⟩ := hok
  have e : fn' = fn := Option.some.inj (hfn'.symm.trans hfn)
  subst e
  obtain ⟨⟨⟨ds, gs, before, hw, hc⟩, hx⟩, hz⟩ := hpre
  have hw' := DataW.Whole.of_heap (w' := w.forCall tape i) (by rfl) hw
  refine (contract (w.forCall tape i) w.heap.size i.args ds gs before hval hw' hc (hz.weights hw) (hX _ _ _ (by rfl) hx) hsh hholds).mono fun e W' ⟨v, he, hp⟩ => ?_
  subst he
  exact ChangeSpec.post_blind hp

end Go.Proofs.YtjldfmkpdkhnnaaDoor.Open

namespace Go.Proofs.YtjldfmkpdkhnnaaDoorW.PrintWords
open Go.ChangeShapes Go.WideShapes
theorem sized_ints {H : Type} {enc : TypeId × Value → H} {P : Program} {W : World} {base : Nat} {spare : Nat → Bool} {held : Bool} {t e : TypeId} {k : IntKind} {a : Option Addr} {len cap : Nat} {d : DataW H} {ps : List MemPlace} {ts : List TypeId} {ds : List (DataW H)} {j : Nat}
    (hsz : (DataW.weightsEach P ts ds).all (· ≤ reachBytes) = true) (ht : ts[j]? = some t) (hd : ds[j]? = some d) (hu : P.underlying t = some (.slice e)) (he : P.underlying e = some (.int k)) (hc : P.cellsOf e = 1) {B : Nat} (hB : P.bytesOf e = B)
    (h : DataW.Trod enc P W base spare held t (.slice a len cap) d ps) : len * B ≤ 140737488351232 := by
  obtain ⟨fuel, hf⟩ := h
  rcases open_ints hu he hc hf with ⟨hcs, _⟩ | ⟨x, l, c, zs, hcs, _, hl, _, hz, hx, _, _⟩
  · simp [Value.cells] at hcs
    obtain ⟨rfl, rfl, rfl⟩ := hcs
    simp
  · simp [Value.cells] at hcs
    obtain ⟨rfl, rfl, rfl⟩ := hcs
    obtain ⟨hx, _⟩ := Prod.mk.inj hx
    subst hx
    have z := sized_slice hsz ht hd hu
    rw [hB] at z
    have hl2 : len ≤ zs.length := by
      rw [hz]
      split
      · exact hl
      · exact Nat.le_refl _
    have h1 : (lits (H := H) k (zs.take len)).length + (lits (H := H) k (zs.drop len)).length = zs.length := by
      simp [lits]
      omega
    rw [h1] at z
    exact Nat.le_trans (Nat.mul_le_mul_right _ hl2) z
end Go.Proofs.YtjldfmkpdkhnnaaDoorW.PrintWords

