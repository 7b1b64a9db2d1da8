/- Names of directives are small, a number is the least that is said, and what stands twice counts once: for all codes that are drawn from (codes of more than 2^20 bytes are let by). -/
import Derived.Deep.Slices
import Derived.Deep.Fields
import Derived.ChangeSame
import Derived.Lib.SmallJoins
import Derived.HandedShaped
import Derived.Handed
import Derived.SizedLaws
import Derived.ChangeSlices
import Derived.Test.YtjldfmkpdkhnnaaGreatDoorCFnDirectivese
set_option linter.unusedVariables false
set_option linter.unusedSimpArgs false
namespace Go.Proofs.YtjldfmkpdkhnnaaGreatDoor.Pure
open Go.RowKit Go.Proofs.YtjldfmkpdkhnnaaGreatDoor.QL Go.Proofs.YtjldfmkpdkhnnaaGreatDoorW.PrintWords Go.Proofs.YtjldfmkpdkhnnaaGreatDoorW.PrintLast Go.Proofs.YtjldfmkpdkhnnaaGreatDoorW.PrintMore Go.Proofs.YtjldfmkpdkhnnaaGreatDoor.Aux Go.Proofs.YtjldfmkpdkhnnaaGreatDoor.Dom Go.Proofs.YtjldfmkpdkhnnaaGreatDoor.Ext
theorem spec_SplitList_over (s : ByteArray) (hs : s.size ≤ 8388608) (acc : List ByteArray) (a : Int) (h0 : 0 ≤ a) (ha : a < (s.size : Int)) (hacc : (acc.length : Int) ≤ s.size) :
    Ev (fun k => spec_SplitList.l0 k s acc a true ((s.size : Int) + 1)) (acc ++ splL s a [(s.size : Int)]) := by
  have ht := spec_Trim_ev (s.extract a.toNat s.size) (by rw [ByteArray.size_extract]; omega)
  refine Ev.step (f := fun k => spec_SplitList.j5 k s acc a true) (fun k => ?_) (Ev.step (f := fun k => (spec_Trim.f k (s.extract a.toNat s.size)).bind fun t => if t.toList = ([] : List UInt8) then some acc else if acc.length < 8796093022208 then some (acc ++ [t]) else none) (fun k => ?_) (ev_bind ht ?_))
  · simp only [spec_SplitList.l0]
    rw [if_neg (by omega), if_pos ha]
  · simp only [spec_SplitList.j5]
    rw [if_pos trivial, if_pos h0, if_pos (by omega)]
  · simp only [splL, Int.toNat_natCast]
    by_cases he : trimB (s.extract a.toNat s.size) = ⟨#[]⟩
    · rw [if_pos he]
      exact ev_if_pos ((trim_nil _).2 he) (ev_eq (Ev.now _) (by simp))
    · rw [if_neg he]
      exact ev_if_neg (fun h => he ((trim_nil _).1 h)) (ev_if_pos (by omega) (Ev.now _))
theorem spec_SplitList_take (s : ByteArray) (hs : s.size ≤ 8388608) (acc : List ByteArray) (a i : Int) (q : Bool) (h0 : 0 ≤ a) (ha : a ≤ i) (hi : i ≤ (s.size : Int)) (hacc : (acc.length : Int) ≤ i) (R : List Int)
    (h : ∀ acc' : List ByteArray, (acc'.length : Int) ≤ i + 1 → Ev (fun k => spec_SplitList.l0 k s acc' (i + 1) q (i + 1)) (acc' ++ splL s (i + 1) R)) :
    Ev (fun k => spec_SplitList.j4 k s acc a q i true) (acc ++ splL s a (i :: R)) := by
  have ht := spec_Trim_ev (s.extract a.toNat i.toNat) (by rw [ByteArray.size_extract]; omega)
  have w1 : wrap64 (i + 1) = i + 1 := wrap_id (by omega) (by omega)
  have hm : mn i (s.size : Int) = i := by unfold mn; split <;> omega
  refine Ev.step (f := fun k => (spec_Trim.f k (s.extract a.toNat i.toNat)).bind fun t => if t.toList = ([] : List UInt8) then spec_SplitList.l0 k s acc (i + 1) q (i + 1) else if acc.length < 8796093022208 then spec_SplitList.l0 k s (acc ++ [t]) (i + 1) q (i + 1) else none) (fun k => ?_) (ev_bind ht ?_)
  · simp only [spec_SplitList.j4, hm, w1]
    rw [if_pos (by trivial), if_pos h0, if_pos ha, if_pos hi]
  · rw [splL]
    by_cases he : trimB (s.extract a.toNat i.toNat) = ⟨#[]⟩
    · rw [if_pos he]
      exact ev_if_pos ((trim_nil _).2 he) (h acc (by omega))
    · rw [if_neg he]
      exact ev_if_neg (fun h => he ((trim_nil _).1 h)) (ev_if_pos (by omega) (ev_eq (h (acc ++ [trimB (s.extract a.toNat i.toNat)]) (by simp; omega)) (by simp)))
theorem spec_SplitList_l0 (s : ByteArray) (hs : s.size ≤ 8388608) : ∀ (d : Nat) (acc : List ByteArray) (a : Int) (q : Bool) (i : Int), 0 ≤ a → a ≤ i → (s.size : Int) - i ≤ d → (acc.length : Int) ≤ i → i ≤ (s.size : Int) →
    Ev (fun k => spec_SplitList.l0 k s acc a q i) (acc ++ splL s a (comL ((bytesOf s).drop i.toNat) q false i ++ [(s.size : Int)])) := by
  intro d
  induction d with
  | zero =>
    intro acc a q i h0 ha hd hacc hi
    have hie : i = (s.size : Int) := by omega
    subst hie
    rw [drop_end (by omega)]
    simp only [comL, List.nil_append]
    refine Ev.step (f := fun k => spec_SplitList.j1 k s acc a q (s.size : Int) false) (fun k => ?_) (Ev.step (f := fun k => spec_SplitList.j2 k s acc a q (s.size : Int)) (fun k => ?_) (Ev.step (f := fun k => spec_SplitList.j3 k s acc a q (s.size : Int) false) (fun k => ?_) (Ev.step (f := fun k => spec_SplitList.j4 k s acc a q (s.size : Int) true) (fun k => ?_) (spec_SplitList_take s hs acc a (s.size : Int) q h0 ha (by omega) hacc [] ?_))))
    · simp only [spec_SplitList.l0]
      rw [if_pos (by omega), if_neg (by omega)]
    · simp only [spec_SplitList.j1]
      rw [if_neg (by decide)]
    · simp only [spec_SplitList.j2]
      rw [if_neg (by omega)]
    · simp only [spec_SplitList.j3]
      rw [if_neg (by decide), if_pos (by omega)]
    · intro acc' _
      refine Ev.step (f := fun k => spec_SplitList.j5 k s acc' ((s.size : Int) + 1) false) (fun k => ?_) (ev_last fun k => ?_)
      · simp only [spec_SplitList.l0]
        rw [if_neg (by omega), if_neg (by omega)]
      · simp only [spec_SplitList.j5]
        rw [if_neg (by decide)]
        simp [splL]
  | succ d ih =>
    intro acc a q i h0 ha hd hacc hi
    by_cases hlt : i < (s.size : Int)
    · rw [drop_bt (by omega) hlt]
      have hi0 : 0 ≤ i := by omega
      have w1 : wrap64 (i + 1) = i + 1 := wrap_id (by omega) (by omega)
      have w2 : wrap64 (i + 1 + 1) = i + 2 := by rw [wrap_id (by omega) (by omega)]; omega
      -- the quotes
      have hq1 : ∀ r, Ev (fun k => spec_SplitList.j2 k s acc a (if bt s i = 34 then !q else q) i) r → Ev (fun k => spec_SplitList.l0 k s acc a q i) r := by
        intro r hr
        by_cases h34 : bt s i = 34
        · rw [if_pos h34] at hr
          refine Ev.step (f := fun k => spec_SplitList.j1 k s acc a q i true) (fun k => ?_) (Ev.step (f := fun k => spec_SplitList.j2 k s acc a (!q) i) (fun k => ?_) hr)
          · simp only [spec_SplitList.l0]
            rw [if_pos hi, if_pos hlt, if_pos hi0, h34]
            rfl
          · simp only [spec_SplitList.j1]
            rw [if_pos (by trivial)]
        · rw [if_neg h34] at hr
          have e : (bt s i == 34) = false := by rw [beq_eq_false_iff_ne]; exact h34
          refine Ev.step (f := fun k => spec_SplitList.j1 k s acc a q i false) (fun k => ?_) (Ev.step (f := fun k => spec_SplitList.j2 k s acc a q i) (fun k => ?_) hr)
          · simp only [spec_SplitList.l0]
            rw [if_pos hi, if_pos hlt, if_pos hi0, e]
          · simp only [spec_SplitList.j1]
            rw [if_neg (by decide)]
      -- no escape
      have hj3 : ∀ (q' : Bool) r, ¬(q' = true ∧ bt s i = 92) → Ev (fun k => spec_SplitList.j3 k s acc a q' i false) r → Ev (fun k => spec_SplitList.j2 k s acc a q' i) r := by
        intro q' r hn hr
        refine Ev.step (f := fun k => spec_SplitList.j3 k s acc a q' i false) (fun k => ?_) hr
        simp only [spec_SplitList.j2]
        rw [if_pos hlt]
        by_cases hq : q' = true
        · have e : (bt s i == 92) = false := by rw [beq_eq_false_iff_ne]; exact fun h => hn ⟨hq, h⟩
          rw [if_pos hq, if_pos hi0, e]
        · rw [if_neg hq]
      have hgo : ∀ (q' : Bool), bt s i ≠ 44 ∨ q' = true → Ev (fun k => spec_SplitList.j3 k s acc a q' i false) (acc ++ splL s a (comL ((bytesOf s).drop (i + 1).toNat) q' false (i + 1) ++ [(s.size : Int)])) := by
        intro q' hn
        refine Ev.step (f := fun k => spec_SplitList.j4 k s acc a q' i false) (fun k => ?_) (Ev.step (f := fun k => spec_SplitList.l0 k s acc a q' (i + 1)) (fun k => ?_) (ih acc a q' (i + 1) h0 (by omega) (by omega) (by omega) (by omega)))
        · simp only [spec_SplitList.j3]
          rw [if_neg (by decide), if_neg (by omega), if_pos hi0, if_pos hlt]
          by_cases h44 : bt s i = 44
          · rw [if_pos h44]
            rcases hn with hn | hn
            · exact absurd h44 hn
            · rw [hn]; rfl
          · rw [if_neg h44]
        · simp only [spec_SplitList.j4]
          rw [if_neg (by decide), w1]
      refine hq1 _ ?_
      rw [comL]
      by_cases h34 : bt s i = 34
      · rw [if_pos h34, if_pos h34]
        exact hj3 _ _ (fun h => by have := h.2; omega) (hgo _ (.inl (by omega)))
      · rw [if_neg h34, if_neg h34]
        by_cases hesc : q = true ∧ bt s i = 92
        · rw [if_pos hesc]
          obtain ⟨rfl, h92⟩ := hesc
          refine Ev.step (f := fun k => spec_SplitList.j3 k s acc a true i true) (fun k => ?_) (Ev.step (f := fun k => spec_SplitList.l0 k s acc a true (i + 2)) (fun k => ?_) ?_)
          · simp only [spec_SplitList.j2]
            rw [if_pos hlt, if_pos (by trivial), if_pos hi0, h92]
            rfl
          · simp only [spec_SplitList.j3]
            rw [if_pos (by trivial), w1, w2]
          · by_cases h2 : i + 1 < (s.size : Int)
            · rw [drop_bt (by omega) h2, comL, show i + 1 + 1 = i + 2 by omega]
              exact ih acc a true (i + 2) h0 (by omega) (by omega) (by omega) (by omega)
            · rw [drop_end (by omega)]
              simp only [comL, List.nil_append]
              have e : i + 2 = (s.size : Int) + 1 := by omega
              rw [e]
              exact spec_SplitList_over s hs acc a h0 (by omega) (by omega)
        · rw [if_neg hesc]
          refine hj3 _ _ hesc ?_
          by_cases hc : q = false ∧ bt s i = 44
          · rw [if_pos hc]
            obtain ⟨rfl, h44⟩ := hc
            rw [List.cons_append]
            refine Ev.step (f := fun k => spec_SplitList.j4 k s acc a false i true) (fun k => ?_) (spec_SplitList_take s hs acc a i false h0 ha hi hacc _ fun acc' hacc' => ih acc' (i + 1) false (i + 1) (by omega) (by omega) (by omega) (by omega) (by omega))
            simp only [spec_SplitList.j3]
            rw [if_neg (by decide), if_neg (by omega), if_pos hi0, if_pos hlt, if_pos h44]
            rfl
          · rw [if_neg hc]
            refine hgo q ?_
            cases q with
            | true => exact .inr rfl
            | false => exact .inl fun h => hc ⟨rfl, h⟩
    · exact ih acc a q i h0 ha (by omega) hacc hi
theorem spec_SplitList_ev (s : ByteArray) (hs : s.size ≤ 8388608) : Ev (fun k => spec_SplitList.f k s) (splL s 0 (comL (bytesOf s) false false 0 ++ [(s.size : Int)])) := by
  have h := spec_SplitList_l0 s hs s.size [] 0 false 0 (by omega) (by omega) (by omega) (by simp) (by omega)
  simpa [spec_SplitList.f] using h

end Go.Proofs.YtjldfmkpdkhnnaaGreatDoor.Pure

namespace Go.Proofs.YtjldfmkpdkhnnaaGreatDoor.Pure
open Go.RowKit Go.Proofs.YtjldfmkpdkhnnaaGreatDoor.QL Go.Proofs.YtjldfmkpdkhnnaaGreatDoorW.PrintWords Go.Proofs.YtjldfmkpdkhnnaaGreatDoorW.PrintLast Go.Proofs.YtjldfmkpdkhnnaaGreatDoorW.PrintMore Go.Proofs.YtjldfmkpdkhnnaaGreatDoor.Aux Go.Proofs.YtjldfmkpdkhnnaaGreatDoor.Dom Go.Proofs.YtjldfmkpdkhnnaaGreatDoor.Ext
theorem spec_l2Token_eq {c : Int} (h0 : 0 ≤ c) (h1 : c < 256) : spec_l2Token.f c = some (tokC c) := by unfold spec_l2Token.f; rw [if_pos ⟨h0, h1⟩]
theorem spec_IsTokenText_l0 (s : ByteArray) (hs : s.size ≤ 8388608) : ∀ (d : Nat) (i : Int), 0 ≤ i → (s.size : Int) - i = d →
    Ev (fun k => spec_IsTokenText.l0 k s i) (((bytesOf s).drop i.toNat).all tokC && !(bytesOf s).isEmpty)
  | 0, i, h0, hd => by
    refine ev_last fun k => ?_
    simp only [spec_IsTokenText.l0]
    rw [if_neg (by omega), drop_end (by omega)]
    have hl := bytesOf_length s
    cases hb : bytesOf s with
    | nil => rw [hb] at hl; simp at hl; simp [← hl]
    | cons a r => rw [hb] at hl; simp at hl; simp; omega
  | d + 1, i, h0, hd => by
    have hb := bt_bound s i
    have hlt : i < (s.size : Int) := by omega
    have e := spec_l2Token_eq hb.1 hb.2
    rw [drop_bt h0 hlt, List.all_cons]
    cases ht : tokC (bt s i) with
    | true =>
      refine Ev.step (f := fun k => spec_IsTokenText.l0 k s (i + 1)) (fun k => ?_) (ev_eq (spec_IsTokenText_l0 s hs d (i + 1) (by omega) (by omega)) (by rw [Bool.true_and]))
      simp only [spec_IsTokenText.l0]
      rw [if_pos hlt, if_pos h0, e, ht, Option.bind_some, if_pos rfl, wrap_id (by omega) (by omega)]
    | false =>
      refine ev_last fun k => ?_
      simp only [spec_IsTokenText.l0]
      rw [if_pos hlt, if_pos h0, e, ht, Option.bind_some, if_neg (by decide)]
      rfl
theorem spec_IsTokenText_ev (s : ByteArray) (hs : s.size ≤ 8388608) : Ev (fun k => spec_IsTokenText.f k s) (tokB (bytesOf s)) := by
  have h := spec_IsTokenText_l0 s hs s.size 0 (by omega) (by omega)
  simpa [spec_IsTokenText.f, tokB] using h

end Go.Proofs.YtjldfmkpdkhnnaaGreatDoor.Pure

namespace Go.Proofs.YtjldfmkpdkhnnaaGreatDoor.Pure
open Go.RowKit Go.Proofs.YtjldfmkpdkhnnaaGreatDoor.QL Go.Proofs.YtjldfmkpdkhnnaaGreatDoorW.PrintWords Go.Proofs.YtjldfmkpdkhnnaaGreatDoorW.PrintLast Go.Proofs.YtjldfmkpdkhnnaaGreatDoorW.PrintMore Go.Proofs.YtjldfmkpdkhnnaaGreatDoor.Aux Go.Proofs.YtjldfmkpdkhnnaaGreatDoor.Dom Go.Proofs.YtjldfmkpdkhnnaaGreatDoor.Ext
theorem spec_Lower_eq (s : ByteArray) (hs : s.size ≤ 8388608) : spec_Lower.f s = some (strOfNums ((bytesOf s).map lowC)) := by unfold spec_Lower.f; rw [if_pos hs]

end Go.Proofs.YtjldfmkpdkhnnaaGreatDoor.Pure

namespace Go.Proofs.YtjldfmkpdkhnnaaGreatDoor.Pure
open Go.RowKit Go.Proofs.YtjldfmkpdkhnnaaGreatDoor.QL Go.Proofs.YtjldfmkpdkhnnaaGreatDoorW.PrintWords Go.Proofs.YtjldfmkpdkhnnaaGreatDoorW.PrintLast Go.Proofs.YtjldfmkpdkhnnaaGreatDoorW.PrintMore Go.Proofs.YtjldfmkpdkhnnaaGreatDoor.Aux Go.Proofs.YtjldfmkpdkhnnaaGreatDoor.Dom Go.Proofs.YtjldfmkpdkhnnaaGreatDoor.Ext
theorem spec_l7Unquote_eq (R : ByteArray) (hR : R.size ≤ 8388608) : spec_l7Unquote.f R = some (unqB R) := by
  have w1 : wrap64 ((R.size : Int) - 1) = (R.size : Int) - 1 := wrap_id (by omega) (by omega)
  unfold spec_l7Unquote.f
  by_cases h2 : (R.size : Int) ≥ 2
  · rw [if_pos h2, if_pos (by omega)]
    by_cases hq : bt R 0 = 34
    · rw [if_pos hq, w1, if_pos (by omega), if_pos (by omega)]
      by_cases hr : bt R ((R.size : Int) - 1) = 34
      · rw [if_pos hr, if_pos (by omega), if_pos (by omega), show unqB R = R.extract 1 (R.size - 1) from if_pos ⟨by omega, hq, hr⟩, show ((R.size : Int) - 1).toNat = R.size - 1 by omega]
      · rw [if_neg hr, show unqB R = R from if_neg (fun h => hr h.2.2)]
    · rw [if_neg hq, show unqB R = R from if_neg (fun h => hq h.2.1)]
  · rw [if_neg h2, show unqB R = R from if_neg (fun h => h2 (by have := h.1; omega))]

end Go.Proofs.YtjldfmkpdkhnnaaGreatDoor.Pure

namespace Go.Proofs.YtjldfmkpdkhnnaaGreatDoor.Pure
open Go.RowKit Go.Proofs.YtjldfmkpdkhnnaaGreatDoor.QL Go.Proofs.YtjldfmkpdkhnnaaGreatDoorW.PrintWords Go.Proofs.YtjldfmkpdkhnnaaGreatDoorW.PrintLast Go.Proofs.YtjldfmkpdkhnnaaGreatDoorW.PrintMore Go.Proofs.YtjldfmkpdkhnnaaGreatDoor.Aux Go.Proofs.YtjldfmkpdkhnnaaGreatDoor.Dom Go.Proofs.YtjldfmkpdkhnnaaGreatDoor.Ext
theorem spec_Dir_l1 (p : ByteArray) (hs : p.size ≤ 8388608) (acc : List S46) (L : List ByteArray) (j : Int) (r : List S46) : ∀ (d : Nat) (i : Int), 0 ≤ i → (p.size : Int) - i = d →
    Ev (fun k => spec_Directives.j2 k acc L j p (if 0 ≤ idxS ((bytesOf p).drop i.toNat) [61] then idxS ((bytesOf p).drop i.toNat) [61] + i else (p.size : Int))) r → Ev (fun k => spec_Directives.l1 k acc L j p i) r
  | 0, i, h0, hd, h => by
    rw [drop_end (by omega)] at h
    rw [show (p.size : Int) = i by omega] at h
    refine Ev.step (fun k => by simp only [spec_Directives.l1]; rw [if_neg (by omega)]) ?_
    exact h
  | d + 1, i, h0, hd, h => by
    have hlt : i < (p.size : Int) := by omega
    rw [drop_bt h0 hlt, idxS_one] at h
    by_cases he : bt p i = 61
    · rw [if_pos (c := (61 : Int) = bt p i) he.symm, if_pos (by decide), Int.zero_add] at h
      exact Ev.step (fun k => by simp only [spec_Directives.l1]; rw [if_pos hlt, if_pos h0, if_pos he]) h
    · rw [if_neg (c := (61 : Int) = bt p i) (fun e => he e.symm)] at h
      refine Ev.step (fun k => by simp only [spec_Directives.l1]; rw [if_pos hlt, if_pos h0, if_neg he, wrap_id (x := i + 1) (by omega) (by omega)]) (spec_Dir_l1 p hs acc L j r d (i + 1) (by omega) (by omega) ?_)
      have hb := idxS_bound [61] ((bytesOf p).drop (i + 1).toNat)
      by_cases h1 : idxS ((bytesOf p).drop (i + 1).toNat) [61] = -1
      · rw [if_pos h1, if_neg (by decide)] at h
        rw [h1, if_neg (by decide)]
        exact h
      · rw [if_neg h1, if_pos (by omega)] at h
        rw [if_pos (by omega), show idxS ((bytesOf p).drop (i + 1).toNat) [61] + (i + 1) = idxS ((bytesOf p).drop (i + 1).toNat) [61] + 1 + i by omega]
        exact h
theorem strOfNums_take (p : ByteArray) (n : Nat) : p.extract 0 n = strOfNums ((bytesOf p).take n) := bytesOf_inj (by rw [bytesOf_extract, take_range, List.drop_zero])
theorem strOfNums_drop (p : ByteArray) (n : Nat) : p.extract n p.size = strOfNums ((bytesOf p).drop n) := bytesOf_inj (by rw [bytesOf_extract, drop_range, List.take_of_length_le (by rw [bytesOf_length]; exact Nat.le_refl _)])
theorem spec_Directives_l0 (L : List ByteArray) (hL : L.length ≤ 16777216) (hm : ∀ p ∈ L, p.size ≤ 8388608) : ∀ (d : Nat) (acc : List S46) (i : Int), 0 ≤ i → (L.length : Int) - i = d → (acc.length : Int) ≤ i →
    Ev (fun k => spec_Directives.l0 k acc L i) (acc ++ (dirL (L.drop i.toNat)).map fun p => (⟨p.1, p.2⟩ : S46))
  | 0, acc, i, h0, hd, ha => by
    refine ev_last fun k => ?_
    simp only [spec_Directives.l0]
    rw [if_neg (by omega), drop_nil (by omega)]
    simp [dirL]
  | d + 1, acc, i, h0, hd, ha => by
    have hlt : i < (L.length : Int) := by omega
    have hdrop : L.drop i.toNat = rdOf ByteArray.empty L i :: L.drop (i + 1).toNat := drop_rdOf (d := ByteArray.empty) h0 hlt
    have hmem : rdOf ByteArray.empty L i ∈ L := List.mem_of_mem_drop (i := i.toNat) (by rw [hdrop]; exact List.mem_cons_self)
    have hsz := hm _ hmem
    have hw : wrap64 (i + 1) = i + 1 := wrap_id (by omega) (by omega)
    rw [hdrop]
    simp only [dirL]
    refine Ev.step (fun k => by simp only [spec_Directives.l0]; rw [if_pos hlt, if_pos h0]) ?_
    generalize rdOf ByteArray.empty L i = p at hsz
    refine spec_Dir_l1 p hsz acc L i _ p.size 0 (by omega) (by omega) ?_
    simp only [Int.toNat_zero, List.drop_zero, Int.add_zero]
    have hl := bytesOf_length p
    have ib := idxS_bound [61] (bytesOf p)
    obtain ⟨n1, n2⟩ := cut_name p [61]
    have n3 := cut_rest p [61]
    have ih := fun acc' ha' => spec_Directives_l0 L hL hm d acc' (i + 1) (by omega) (by omega) ha'
    unfold dirOf
    by_cases h1 : 0 ≤ idxS (bytesOf p) [61]
    · have hc : cutL (bytesOf p) [61] = ((bytesOf p).take (idxS (bytesOf p) [61]).toNat, (bytesOf p).drop ((idxS (bytesOf p) [61]).toNat + 1), true) := by unfold cutL; rw [if_pos h1]; rfl
      rw [hc] at n1 n2 n3 ⊢
      rw [if_pos h1]
      simp only at n1 n2 n3 ⊢
      rcases ib with ib | ib
      · omega
      simp only [List.length_cons, List.length_nil] at ib
      have e1 : p.extract 0 (idxS (bytesOf p) [61]).toNat = strOfNums ((bytesOf p).take (idxS (bytesOf p) [61]).toNat) := strOfNums_take p _
      have e2 : p.extract (idxS (bytesOf p) [61] + 1).toNat p.size = strOfNums ((bytesOf p).drop ((idxS (bytesOf p) [61]).toNat + 1)) := by
        rw [show (idxS (bytesOf p) [61] + 1).toNat = (idxS (bytesOf p) [61]).toNat + 1 by omega]
        exact strOfNums_drop p _
      generalize strOfNums ((bytesOf p).drop ((idxS (bytesOf p) [61]).toNat + 1)) = R at n3 e2
      have tk := spec_IsTokenText_ev (strOfNums ((bytesOf p).take (idxS (bytesOf p) [61]).toNat)) (by omega)
      rw [n1] at tk
      refine Ev.step (fun k => by simp only [spec_Directives.j2]; rw [if_pos h1, if_pos (by omega), e1]) (ev_bind tk ?_)
      by_cases hT : tokB ((bytesOf p).take (idxS (bytesOf p) [61]).toNat) = true
      · rw [if_pos hT]
        refine ev_if_pos hT (ev_bind (ev_some fun _ => spec_Lower_eq _ (by omega)) ?_)
        refine Ev.congr (fun k => by rw [if_pos (by omega), wrap_id (x := idxS (bytesOf p) [61] + 1) (by omega) (by omega), if_pos (by omega), if_pos (by omega), e2, spec_l7Unquote_eq R (by omega), Option.bind_some, if_pos (by omega), hw]) ?_
        refine ev_eq (ih _ (by simp; omega)) ?_
        simp [lowB]
      · rw [if_neg hT]
        exact ev_if_neg hT (Ev.congr (fun k => by rw [hw]) (ih acc (by omega)))
    · have hc : cutL (bytesOf p) [61] = (bytesOf p, [], false) := by unfold cutL; rw [if_neg h1]
      rw [hc] at n1 n2 n3 ⊢
      rw [if_neg h1]
      simp only at n1 n2 n3 ⊢
      have e1 : p.extract 0 (p.size : Int).toNat = strOfNums (bytesOf p) := by rw [Int.toNat_natCast, strOfNums_take, List.take_of_length_le (by omega)]
      have tk := spec_IsTokenText_ev (strOfNums (bytesOf p)) (by omega)
      rw [n1] at tk
      refine Ev.step (fun k => by simp only [spec_Directives.j2]; rw [if_pos (by omega), if_pos (by omega), e1]) (ev_bind tk ?_)
      by_cases hT : tokB (bytesOf p) = true
      · rw [if_pos hT]
        refine ev_if_pos hT (ev_bind (ev_some fun _ => spec_Lower_eq _ (by omega)) ?_)
        refine Ev.congr (fun k => by rw [if_neg (by omega), if_pos (by omega), hw]) ?_
        refine ev_eq (ih _ (by simp; omega)) ?_
        have hu : unqB (strOfNums []) = ⟨#[]⟩ := by unfold unqB; rw [if_neg (fun h => by have := h.1; rw [strOfNums_size] at this; simp at this)]; rfl
        simp [lowB, hu]
      · rw [if_neg hT]
        exact ev_if_neg hT (Ev.congr (fun k => by rw [hw]) (ih acc (by omega)))
theorem spec_Directives_ev (l : List S99) (hl : l.length ≤ 1048576) (hz : ¬ szF 1048576 (l.map fun x => (x.f0, x.f1)) < 0) : Ev (fun k => spec_Directives.f k l) ((dirsL (l.map fun x => (x.f0, x.f1))).map fun p => (⟨p.1, p.2⟩ : S46)) := by
  have hs := ccB_size _ (by omega) hz
  have hq := szF_sum nmCC (by omega) hz
  have hc := comL_length (bytesOf (ccB (l.map fun x => (x.f0, x.f1)))) false false 0
  rw [bytesOf_length] at hc
  have hp := splL_length (ccB (l.map fun x => (x.f0, x.f1))) (comL (bytesOf (ccB (l.map fun x => (x.f0, x.f1)))) false false 0 ++ [((ccB (l.map fun x => (x.f0, x.f1))).size : Int)]) 0
  rw [List.length_append, List.length_singleton] at hp
  refine Ev.congr (fun k => by unfold spec_Directives.f; rfl) (ev_bind (spec_FieldGet_ev l nmCC hl (by omega)) (ev_bind (spec_SplitList_ev (ccB (l.map fun x => (x.f0, x.f1))) (by omega)) ?_))
  have h := spec_Directives_l0 (splL (ccB (l.map fun x => (x.f0, x.f1))) 0 (comL (bytesOf (ccB (l.map fun x => (x.f0, x.f1)))) false false 0 ++ [((ccB (l.map fun x => (x.f0, x.f1))).size : Int)])) (by omega) (fun p hp => Nat.le_trans (splL_size _ _ _ p hp) (by omega)) (splL (ccB (l.map fun x => (x.f0, x.f1))) 0 (comL (bytesOf (ccB (l.map fun x => (x.f0, x.f1)))) false false 0 ++ [((ccB (l.map fun x => (x.f0, x.f1))).size : Int)])).length [] 0 (by omega) (by omega) (by simp)
  exact h

end Go.Proofs.YtjldfmkpdkhnnaaGreatDoor.Pure

namespace Go.Proofs.YtjldfmkpdkhnnaaGreatDoor.Pure
open Go.RowKit Go.Proofs.YtjldfmkpdkhnnaaGreatDoor.QL Go.Proofs.YtjldfmkpdkhnnaaGreatDoorW.PrintWords Go.Proofs.YtjldfmkpdkhnnaaGreatDoorW.PrintLast Go.Proofs.YtjldfmkpdkhnnaaGreatDoorW.PrintMore Go.Proofs.YtjldfmkpdkhnnaaGreatDoor.Aux Go.Proofs.YtjldfmkpdkhnnaaGreatDoor.Dom Go.Proofs.YtjldfmkpdkhnnaaGreatDoor.Ext
theorem spec_Seconds_l0 (s : ByteArray) (hs : s.size ≤ 8388608) : ∀ (d : Nat) (n i : Int), 0 ≤ i → (s.size : Int) - i = d → 0 ≤ n → n ≤ 2147483648 →
    Ev (fun k => spec_Seconds.l0 k s n i) (if ((bytesOf s).drop i.toNat).all digC = true then (satV n ((bytesOf s).drop i.toNat), decide (0 < s.size)) else (0, false))
  | 0, n, i, h0, hd, hn, hm => by
    refine ev_last fun k => ?_
    simp only [spec_Seconds.l0]
    rw [if_neg (by omega), drop_end (by omega), if_pos (show ([] : List Int).all digC = true from rfl), satV]
    congr 2
    rw [decide_eq_decide]
    omega
  | d + 1, n, i, h0, hd, hn, hm => by
    have hlt : i < (s.size : Int) := by omega
    rw [drop_bt h0 hlt, List.all_cons]
    by_cases h1 : bt s i < 48
    · refine ev_last fun k => ?_
      simp only [spec_Seconds.l0]
      have e : digC (bt s i) = false := by rw [Bool.eq_false_iff, Ne, digC_iff]; omega
      rw [if_pos hlt, if_pos h0, if_pos h1, e]
      rfl
    · by_cases h2 : bt s i > 57
      · refine ev_last fun k => ?_
        simp only [spec_Seconds.l0]
        have e : digC (bt s i) = false := by rw [Bool.eq_false_iff, Ne, digC_iff]; omega
        rw [if_pos hlt, if_pos h0, if_neg h1, if_pos h2, e]
        rfl
      · have e : digC (bt s i) = true := digC_iff.2 (by omega)
        have w1 : wrap64 (n * 10) = n * 10 := wrap_id (by omega) (by omega)
        have w2 : (bt s i - 48) % 256 = bt s i - 48 := Int.emod_eq_of_lt (by omega) (by omega)
        have w3 : wrap64 (n * 10 + (bt s i - 48)) = n * 10 + (bt s i - 48) := wrap_id (by omega) (by omega)
        have hmn : 0 ≤ mn (n * 10 + (bt s i - 48)) 2147483648 ∧ mn (n * 10 + (bt s i - 48)) 2147483648 ≤ 2147483648 := by unfold mn; split <;> omega
        refine Ev.step (f := fun k => spec_Seconds.l0 k s (mn (n * 10 + (bt s i - 48)) 2147483648) (i + 1)) (fun k => ?_) (ev_eq (spec_Seconds_l0 s hs d _ (i + 1) (by omega) (by omega) hmn.1 hmn.2) (by rw [e, Bool.true_and, satV]))
        simp only [spec_Seconds.l0]
        rw [if_pos hlt, if_pos h0, if_neg h1, if_neg h2, w1, w2, w3, wrap_id (by omega) (by omega)]
theorem spec_Seconds_ev (s : ByteArray) (hs : s.size ≤ 8388608) : Ev (fun k => spec_Seconds.f k s) (secP (bytesOf s)) := by
  have h := spec_Seconds_l0 s hs s.size 0 0 (by omega) (by omega) (by omega) (by omega)
  unfold secP
  rw [bytesOf_length]
  exact h

end Go.Proofs.YtjldfmkpdkhnnaaGreatDoor.Pure

namespace Go.Proofs.YtjldfmkpdkhnnaaGreatDoor.Pure
open Go.RowKit Go.Proofs.YtjldfmkpdkhnnaaGreatDoor.QL Go.Proofs.YtjldfmkpdkhnnaaGreatDoorW.PrintWords Go.Proofs.YtjldfmkpdkhnnaaGreatDoorW.PrintLast Go.Proofs.YtjldfmkpdkhnnaaGreatDoorW.PrintMore Go.Proofs.YtjldfmkpdkhnnaaGreatDoor.Aux Go.Proofs.YtjldfmkpdkhnnaaGreatDoor.Dom Go.Proofs.YtjldfmkpdkhnnaaGreatDoor.Ext
theorem spec_CcSeconds_l0 (D : List S46) (nm : ByteArray) (hl : D.length ≤ 16777216) (hm : ∀ x ∈ D, x.f1.size ≤ 8388608) : ∀ (d : Nat) (n : Int) (b : Bool) (i : Int), 0 ≤ i → (D.length : Int) - i = d →
    Ev (fun k => spec_CcSeconds.l0 k nm D n b i) (finS n b (ccL nm ((D.drop i.toNat).map fun x => (x.f0, x.f1))))
  | 0, n, b, i, h0, hd => by
    refine ev_last fun k => ?_
    simp only [spec_CcSeconds.l0]
    rw [if_neg (by omega), drop_nil (by omega)]
    cases b <;> rfl
  | d + 1, n, b, i, h0, hd => by
    have hlt : i < (D.length : Int) := by omega
    have hdrop : D.drop i.toNat = rd_T46 D i :: D.drop (i + 1).toNat := drop_rdOf (d := z46) h0 hlt
    have hmem : rd_T46 D i ∈ D := List.mem_of_mem_drop (i := i.toNat) (by rw [hdrop]; exact List.mem_cons_self)
    have hsz := hm _ hmem
    have hw : wrap64 (i + 1) = i + 1 := wrap_id (by omega) (by omega)
    rw [hdrop]
    simp only [List.map_cons, ccL]
    by_cases h : (rd_T46 D i).f0 = nm
    · rw [if_pos h, finS]
      refine Ev.step (fun k => by simp only [spec_CcSeconds.l0]; rw [if_pos hlt, if_pos h0, if_pos (by rw [h])]) (ev_bind (spec_Seconds_ev _ hsz) ?_)
      exact Ev.congr (fun k => by rw [hw]) (spec_CcSeconds_l0 D nm hl hm d _ true (i + 1) (by omega) (by omega))
    · rw [if_neg h]
      exact Ev.step (fun k => by simp only [spec_CcSeconds.l0]; rw [if_pos hlt, if_pos h0, if_neg (by rw [toList_eq_iff]; exact h), hw]) (spec_CcSeconds_l0 D nm hl hm d n b (i + 1) (by omega) (by omega))
theorem spec_CcSeconds_ev (l : List S99) (nm : ByteArray) (hl : l.length ≤ 1048576) (hz : ¬ szF 1048576 (l.map fun x => (x.f0, x.f1)) < 0) : Ev (fun k => spec_CcSeconds.f k l nm) (ccSec (l.map fun x => (x.f0, x.f1)) nm) := by
  have q1 := dirsL_length _ (by omega) hz
  have q2 := dirsL_size _ (by omega) hz
  refine Ev.congr (fun k => by unfold spec_CcSeconds.f; rfl) (ev_bind (spec_Directives_ev l hl hz) ?_)
  refine ev_eq (spec_CcSeconds_l0 ((dirsL (l.map fun x => (x.f0, x.f1))).map fun p => (⟨p.1, p.2⟩ : S46)) nm (by rw [List.length_map]; omega) (fun x hx => ?_) ((dirsL (l.map fun x => (x.f0, x.f1))).map fun p => (⟨p.1, p.2⟩ : S46)).length 2147483648 false 0 (by omega) (by omega)) ?_
  · obtain ⟨p, hp, rfl⟩ := List.mem_map.1 hx
    have := q2 p hp
    simp only
    omega
  · simp only [Int.toNat_zero, List.drop_zero, List.map_map]
    rw [show ((fun x : S46 => (x.f0, x.f1)) ∘ fun p : ByteArray × ByteArray => (⟨p.1, p.2⟩ : S46)) = id from rfl, List.map_id]
    rfl

end Go.Proofs.YtjldfmkpdkhnnaaGreatDoor.Pure

namespace Go.Proofs.YtjldfmkpdkhnnaaGreatDoor.Pure
open Go.RowKit Go.Proofs.YtjldfmkpdkhnnaaGreatDoor.QL Go.Proofs.YtjldfmkpdkhnnaaGreatDoorW.PrintWords Go.Proofs.YtjldfmkpdkhnnaaGreatDoorW.PrintLast Go.Proofs.YtjldfmkpdkhnnaaGreatDoorW.PrintMore Go.Proofs.YtjldfmkpdkhnnaaGreatDoor.Aux Go.Proofs.YtjldfmkpdkhnnaaGreatDoor.Dom Go.Proofs.YtjldfmkpdkhnnaaGreatDoor.Ext

theorem FnDirectives : laws_FnDirectives.Pure := by
  intro b hl hl2 hw
  refine Ev.rounds (Ev.congr (fun k => by unfold laws_FnDirectives.f laws_big.f; rw [Option.bind_some]) ?_)
  by_cases hb : (b.length : Int) > 1048576
  · exact ev_if_pos (decide_eq_true hb) (Ev.now _)
  refine ev_if_neg (by rw [decide_eq_true_eq]; exact hb) ?_
  have hb' : b.length ≤ 1048576 := by omega
  obtain ⟨l, nm, ed, hok, hln, hnm⟩ := spec_DrawCcSeconds_ev b hb'
  have hz := okL_size hok (by omega)
  have hbal := okL_bal hok
  have hok2 : okL (([] : List S99) ++ l ++ l) := by
    intro x hx
    rw [List.nil_append] at hx
    rcases List.mem_append.1 hx with hx | hx <;> exact hok x hx
  have hl2' : (([] : List S99) ++ l ++ l).length = l.length + l.length := by rw [List.nil_append, List.length_append]
  have hz2 := okL_size hok2 (by omega)
  have eM : (([] : List S99) ++ l ++ l).map (fun x => (x.f0, x.f1)) = (l.map fun x => (x.f0, x.f1)) ++ (l.map fun x => (x.f0, x.f1)) := by rw [List.nil_append, List.map_append]
  have c1 := impl_CcSeconds_ev l nm (by omega) hz
  have c2 := impl_Directives_ev l (by omega) hz
  have c3 := spec_CcSeconds_ev l nm (by omega) hz
  have c4 := spec_Directives_ev l (by omega) hz
  have c5 := fun n => impl_CcHas_ev l n (by omega) hz
  have t1 := impl_CcSeconds_ev (([] : List S99) ++ l ++ l) nm (by omega) hz2
  have t2 := impl_Directives_ev (([] : List S99) ++ l ++ l) (by omega) hz2
  have sz := dirsL_size _ (by omega) hz
  have ln := dirsL_length _ (by omega) hz
  have low : ∀ d ∈ dirsL (l.map fun x => (x.f0, x.f1)), lowB d.1 = d.1 := dirL_low _
  rw [eM] at t1 t2
  generalize hL : (l.map fun x => (x.f0, x.f1)) = L at *
  rw [ccSec_twice L nm hbal] at t1
  rw [dirsL_twice L hbal] at t2
  have bd := ccSec_bd L nm
  have any := ccSec_any L nm
  have least := fun p hp hq => ccSec_least (L := L) (nm := nm) (p := p) hp hq
  generalize hD : dirsL L = D at *
  generalize hq : ccSec L nm = q at *
  have hj2 : Ev (fun k => laws_FnDirectives.j2 k l nm q.1 q.2 (D.map fun p => (⟨p.1, p.2⟩ : S46)) false) true := by
    have lenD : ((D ++ D).map fun p => (⟨p.1, p.2⟩ : S46)).length = D.length + D.length := by rw [List.length_map, List.length_append]
    have lenD1 : (D.map fun p => (⟨p.1, p.2⟩ : S46)).length = D.length := List.length_map _
    refine Ev.step (fun k => by simp only [laws_FnDirectives.j2]; rfl) (ev_if_neg (by decide) (ev_bind (Ev.now _) (ev_if_pos (show ([] : List S99).length + l.length < 4398046511104 by rw [List.length_nil]; omega) (ev_bind (Ev.now _) (ev_if_pos (show (([] : List S99) ++ l).length + l.length < 4398046511104 by rw [List.nil_append]; omega) (ev_bind (Ev.now _) (ev_bind t1 (ev_if_pos bd.1 (ev_if_pos bd.2 (ev_if_pos rfl (ev_if_pos (beq_self_eq_true _) (ev_bind t2 (ev_if_pos ?_ (ev_bind (c5 nm) (ev_eq (Ev.now _) ?_)))))))))))))))
    · rw [lenD, lenD1, wrap_id (x := 2 * ((D.length : Nat) : Int)) (by omega) (by omega), wrap_id (by omega) (by omega)]
      omega
    · rw [any]
      exact beq_self_eq_true _
  have loop : ∀ (d : Nat) (i : Int), 0 ≤ i → (((D.map fun p => (⟨p.1, p.2⟩ : S46)).length : Nat) : Int) - i = d → Ev (fun k => laws_FnDirectives.l0 k l nm q.1 q.2 (D.map fun p => (⟨p.1, p.2⟩ : S46)) i) true := by
    intro d
    induction d with
    | zero =>
      intro i h0 hd
      have e1 : ¬ (q.2 != q.2) = true := by rw [bne_self_eq_false]; decide
      have e2 : ((((D.map fun p => (⟨p.1, p.2⟩ : S46)).length : Nat) : Int) != (((D.map fun p => (⟨p.1, p.2⟩ : S46)).length : Nat) : Int)) = false := bne_self_eq_false _
      refine Ev.step (fun k => by simp only [laws_FnDirectives.l0]; rw [if_neg (by omega)]) (ev_bind c3 (ev_if_pos rfl (ev_if_neg e1 (ev_bind c4 ?_))))
      simp only [e2]
      exact hj2
    | succ d ih =>
      intro i h0 hd
      have hlt : i < (((D.map fun p => (⟨p.1, p.2⟩ : S46)).length : Nat) : Int) := by omega
      have hdrop := drop_rdOf (d := z46) h0 hlt
      have hmem : rd_T46 (D.map fun p => (⟨p.1, p.2⟩ : S46)) i ∈ (D.map fun p => (⟨p.1, p.2⟩ : S46)) := List.mem_of_mem_drop (i := i.toNat) (by rw [hdrop]; exact List.mem_cons_self)
      obtain ⟨p, hp, hpe⟩ := List.mem_map.1 hmem
      have hs := sz p hp
      have hw : wrap64 (i + 1) = i + 1 := wrap_id (by rw [List.length_map] at hlt; omega) (by rw [List.length_map] at hlt; omega)
      have elow : impl_Lower.f p.1 = some (lowB p.1) := impl_Lower_eq p.1 (by omega)
      rw [low p hp] at elow
      have eany : (D.any fun x => decide (x.1 = p.1)) = true := List.any_eq_true.2 ⟨p, hp, decide_eq_true rfl⟩
      have ihn := ih (i + 1) (by omega) (by omega)
      have hj1 : Ev (fun k => laws_FnDirectives.j1 k l nm q.1 q.2 (D.map fun p => (⟨p.1, p.2⟩ : S46)) i false) true := by
        by_cases hn : p.1 = nm
        · obtain ⟨h1, h2⟩ := least p hp hn
          exact Ev.step (fun k => by simp only [laws_FnDirectives.j1]; rw [if_neg (by decide), if_pos h0, if_pos hlt, ← hpe, if_pos (by rw [hn]), hw]) (ev_bind (spec_Seconds_ev p.2 (by omega)) (ev_if_pos h2 (ev_if_neg (show ¬ q.1 > (secP (bytesOf p.2)).1 by omega) ihn)))
        · exact Ev.step (fun k => by simp only [laws_FnDirectives.j1]; rw [if_neg (by decide), if_pos h0, if_pos hlt, ← hpe, if_neg (by rw [toList_eq_iff]; exact hn), hw]) ihn
      refine Ev.step (fun k => by simp only [laws_FnDirectives.l0]; rw [if_pos hlt, if_pos h0, ← hpe, elow, Option.bind_some, if_pos rfl]) (ev_bind (c5 p.1) ?_)
      rw [eany]
      exact hj1
  exact ev_bind ed (ev_bind c1 (ev_bind c2 (loop _ 0 (by omega) (Int.sub_zero _))))

end Go.Proofs.YtjldfmkpdkhnnaaGreatDoor.Pure

namespace Go.Proofs.YtjldfmkpdkhnnaaGreatDoor.Open
open Go.ChangeShapes Go.WideShapes Go.Deep
section
variable {H : Type} {enc : TypeId × Value → H} {P : Program} {w : World} {base : Nat} {spare : Nat → Bool} {held : Bool}
end

section
variable {H : Type} {enc : TypeId × Value → H} {P : Program} {w : World} {base : Nat} {spare : Nat → Bool} {held : Bool}
end

theorem returnsInHanded_door {H : Type} {enc : TypeId × Value → H} {a : Assume} {C : Checked} {os : Os} {f : FuncId} {fn : Func} {s : ChangeSpec} {conds : List PathCond} {apart fresh handsOn again : Bool} {X : World → Array Value → Prop}
    (hX : ∀ (w w' : World) (args : Array Value), w.heap = w'.heap → X w args → X w' args)
    (own : ownKnob C.prog.godebug = none) (started : os.Started) (noInit : C.prog.inits.idxOf? f = none) (hfn : C.prog.funcs[f]? = some fn)
    (witness : ∃ (w : World) (tape : Tape) (i : Input), w.os = os ∧ (w.forCall tape i).Shaped C.prog ∧ i.vars = [] ∧ Input.okWide C.prog (w.forCall tape i) .any w.heap.size f i ∧
      ((s.pre enc C.prog fn conds apart (w.forCall tape i).memory i.args ∧ X (w.forCall tape i).memory i.args) ∧ sizedMet enc C.prog fn (OpenSpec.ofChange s) apart (w.forCall tape i).memory i.args) ∧ a.holds C.prog (lone (Frame.enter C.prog f i.args .normal) [] (w.forCall tape i)))
    (contract : ∀ (W : World) (base : Nat) (args : Array Value) (ds gs : List (DataW H)) (before : List MemPlace),
      (∀ (j : Nat) t v, fn.params[j]? = some t → args[j]? = some v → Value.okWide C.prog W .any base t v) →
      DataW.Whole enc C.prog fn.params.toList s.vars apart W args.toList ds gs before →
      conds.all (PathCond.test C.prog ⟨fn.params.toList, ds, s.plain.varTypes C.prog, gs⟩) = true →
      (DataW.weightsEach C.prog (fn.params.toList ++ s.plain.varTypes C.prog) (ds ++ gs)).all (· ≤ reachBytes) = true → X W args →
      W.ShapedOpen C.prog →
      a.holds C.prog (lone (Frame.enter C.prog f args .normal) [] W) →
      Calls C.prog f args W fun e W' => ∃ v, e = .returned v ∧ s.post enc C.prog fn apart fresh handsOn again W args v W') :
    ReturnsInHanded a C os f .any (fun w args => (s.pre enc C.prog fn conds apart w args ∧ X w args) ∧ sizedMet enc C.prog fn (OpenSpec.ofChange s) apart w args) (s.post enc C.prog fn apart fresh handsOn again) := by
  refine returnsInHanded_of_calls own started noInit witness ?_
  intro w tape i _ hsh _ hok hpre hholds
  obtain ⟨_, _, _, fn', hfn', _, _, _, _, hval⟩ := hok
  have e : fn' = fn := Option.some.inj (hfn'.symm.trans hfn)
  subst e
  obtain ⟨⟨⟨ds, gs, before, hw, hc⟩, hx⟩, hz⟩ := hpre
  have hw' := DataW.Whole.of_heap (w' := w.forCall tape i) (by rfl) hw
  refine (contract (w.forCall tape i) w.heap.size i.args ds gs before hval hw' hc (hz.weights hw) (hX _ _ _ (by rfl) hx) hsh hholds).mono fun e W' ⟨v, he, hp⟩ => ?_
  subst he
  exact ChangeSpec.post_blind hp

end Go.Proofs.YtjldfmkpdkhnnaaGreatDoor.Open

namespace Go.Proofs.YtjldfmkpdkhnnaaGreatDoorW.PrintWords
open Go.ChangeShapes Go.WideShapes
theorem sized_ints {H : Type} {enc : TypeId × Value → H} {P : Program} {W : World} {base : Nat} {spare : Nat → Bool} {held : Bool} {t e : TypeId} {k : IntKind} {a : Option Addr} {len cap : Nat} {d : DataW H} {ps : List MemPlace} {ts : List TypeId} {ds : List (DataW H)} {j : Nat}
    (hsz : (DataW.weightsEach P ts ds).all (· ≤ reachBytes) = true) (ht : ts[j]? = some t) (hd : ds[j]? = some d) (hu : P.underlying t = some (.slice e)) (he : P.underlying e = some (.int k)) (hc : P.cellsOf e = 1) {B : Nat} (hB : P.bytesOf e = B)
    (h : DataW.Trod enc P W base spare held t (.slice a len cap) d ps) : len * B ≤ 140737488351232 := by
  obtain ⟨fuel, hf⟩ := h
  rcases open_ints hu he hc hf with ⟨hcs, _⟩ | ⟨x, l, c, zs, hcs, _, hl, _, hz, hx, _, _⟩
  · simp [Value.cells] at hcs
    obtain ⟨rfl, rfl, rfl⟩ := hcs
    simp
  · simp [Value.cells] at hcs
    obtain ⟨rfl, rfl, rfl⟩ := hcs
    obtain ⟨hx, _⟩ := Prod.mk.inj hx
    subst hx
    have z := sized_slice hsz ht hd hu
    rw [hB] at z
    have hl2 : len ≤ zs.length := by
      rw [hz]
      split
      · exact hl
      · exact Nat.le_refl _
    have h1 : (lits (H := H) k (zs.take len)).length + (lits (H := H) k (zs.drop len)).length = zs.length := by
      simp [lits]
      omega
    rw [h1] at z
    exact Nat.le_trans (Nat.mul_le_mul_right _ hl2) z
end Go.Proofs.YtjldfmkpdkhnnaaGreatDoorW.PrintWords

