/- What is stored grows older as time goes by, second by second, and once it is not fresh it stays so; no age runs over: for all codes that are drawn from (codes of more than 2^20 bytes are let by). -/
import Derived.Deep.Slices
import Derived.Deep.Fields
import Derived.ChangeSame
import Derived.Lib.SmallJoins
import Derived.HandedShaped
import Derived.Handed
import Derived.SizedLaws
import Derived.ChangeSlices
import Derived.Test.YtjldfmkpdkhnnaaGreatDoorCFnAgesf
set_option linter.unusedVariables false
set_option linter.unusedSimpArgs false
namespace Go.Proofs.YtjldfmkpdkhnnaaGreatDoor.Pure
open Go.RowKit Go.Proofs.YtjldfmkpdkhnnaaGreatDoor.QL Go.Proofs.YtjldfmkpdkhnnaaGreatDoorW.PrintWords Go.Proofs.YtjldfmkpdkhnnaaGreatDoorW.PrintLast Go.Proofs.YtjldfmkpdkhnnaaGreatDoorW.PrintMore Go.Proofs.YtjldfmkpdkhnnaaGreatDoor.Aux Go.Proofs.YtjldfmkpdkhnnaaGreatDoor.Dom Go.Proofs.YtjldfmkpdkhnnaaGreatDoor.Ext
theorem impl_SplitList_l0 (s : ByteArray) (hs : s.size ≤ 8388608) (L : List Int) (hL : L.length ≤ 8388609) : ∀ (d : Nat) (acc : List ByteArray) (a : Int) (j : Int), 0 ≤ j → (L.length : Int) - j = d → (acc.length : Int) ≤ j → 0 ≤ a → upL s.size a (L.drop j.toNat) →
    Ev (fun k => impl_SplitList.l0 k s acc a L (L.length : Int) j) (acc ++ splL s a (L.drop j.toNat))
  | 0, acc, a, j, h0, hd, ha, ha0, hu => by
    refine ev_last fun k => ?_
    simp only [impl_SplitList.l0]
    rw [if_neg (by omega), drop_nil (by omega)]
    simp [splL]
  | d + 1, acc, a, j, h0, hd, ha, ha0, hu => by
    have hlt : j < (L.length : Int) := by omega
    have hdrop : L.drop j.toNat = rd L j :: L.drop (j + 1).toNat := drop_rdOf (d := 0) h0 hlt
    rw [hdrop] at hu ⊢
    obtain ⟨u1, u2, u3⟩ := hu
    have w1 : wrap64 (rd L j + 1) = rd L j + 1 := wrap_id (by omega) (by omega)
    have w2 : wrap64 (j + 1) = j + 1 := wrap_id (by omega) (by omega)
    have ht := impl_Trim_eq (s.extract a.toNat (rd L j).toNat) (by rw [ByteArray.size_extract]; omega)
    by_cases he : trimB (s.extract a.toNat (rd L j).toNat) = ⟨#[]⟩
    · refine Ev.step (f := fun k => impl_SplitList.l0 k s acc (rd L j + 1) L (L.length : Int) (j + 1)) (fun k => ?_) (ev_eq (impl_SplitList_l0 s hs L hL d acc (rd L j + 1) (j + 1) (by omega) (by omega) (by omega) (by omega) u3) (by rw [splL, if_pos he]))
      simp only [impl_SplitList.l0]
      rw [if_pos hlt, if_pos h0, if_pos hlt, if_pos ha0, if_pos u1, if_pos u2, ht, Option.bind_some, if_pos ((trim_nil _).2 he), w1, w2]
    · refine Ev.step (f := fun k => impl_SplitList.l0 k s (acc ++ [trimB (s.extract a.toNat (rd L j).toNat)]) (rd L j + 1) L (L.length : Int) (j + 1)) (fun k => ?_) (ev_eq (impl_SplitList_l0 s hs L hL d _ (rd L j + 1) (j + 1) (by omega) (by omega) (by simp; omega) (by omega) u3) (by rw [splL, if_neg he]; simp))
      simp only [impl_SplitList.l0]
      rw [if_pos hlt, if_pos h0, if_pos hlt, if_pos ha0, if_pos u1, if_pos u2, ht, Option.bind_some, if_neg (fun h => he ((trim_nil _).1 h)), if_pos (by omega), w1, w2]
theorem impl_SplitList_ev (s : ByteArray) (hs : s.size ≤ 8388608) : Ev (fun k => impl_SplitList.f k s) (splL s 0 (comL (bytesOf s) false false 0 ++ [(s.size : Int)])) := by
  have hc := comL_length (bytesOf s) false false 0
  rw [bytesOf_length] at hc
  have hu := comL_up (s.size : Int) (bytesOf s) false false 0 0 (by omega) (by rw [bytesOf_length]; omega)
  refine Ev.congr (fun k => by unfold impl_SplitList.f; rfl) (ev_bind (impl_commas_ev s hs) ?_)
  refine ev_if_pos (show (comL (bytesOf s) false false 0).length < 17592186044416 by omega) ?_
  refine Ev.congr (fun k => by rw [Option.bind_some]) ?_
  have h := impl_SplitList_l0 s hs (comL (bytesOf s) false false 0 ++ [(s.size : Int)]) (by simp; omega) (comL (bytesOf s) false false 0 ++ [(s.size : Int)]).length [] 0 0 (by omega) (by omega) (by simp) (by omega) (by simpa using hu)
  exact h

end Go.Proofs.YtjldfmkpdkhnnaaGreatDoor.Pure

namespace Go.Proofs.YtjldfmkpdkhnnaaGreatDoor.Pure
open Go.RowKit Go.Proofs.YtjldfmkpdkhnnaaGreatDoor.QL Go.Proofs.YtjldfmkpdkhnnaaGreatDoorW.PrintWords Go.Proofs.YtjldfmkpdkhnnaaGreatDoorW.PrintLast Go.Proofs.YtjldfmkpdkhnnaaGreatDoorW.PrintMore Go.Proofs.YtjldfmkpdkhnnaaGreatDoor.Aux Go.Proofs.YtjldfmkpdkhnnaaGreatDoor.Dom Go.Proofs.YtjldfmkpdkhnnaaGreatDoor.Ext
theorem strings_IndexByte_eq (s : ByteArray) (c : Int) (h0 : 0 ≤ c) (h1 : c < 256) : strings_IndexByte.f s c = some (idxB (bytesOf s) c) := by unfold strings_IndexByte.f; rw [if_pos ⟨h0, h1⟩]

end Go.Proofs.YtjldfmkpdkhnnaaGreatDoor.Pure

namespace Go.Proofs.YtjldfmkpdkhnnaaGreatDoor.Pure
open Go.RowKit Go.Proofs.YtjldfmkpdkhnnaaGreatDoor.QL Go.Proofs.YtjldfmkpdkhnnaaGreatDoorW.PrintWords Go.Proofs.YtjldfmkpdkhnnaaGreatDoorW.PrintLast Go.Proofs.YtjldfmkpdkhnnaaGreatDoorW.PrintMore Go.Proofs.YtjldfmkpdkhnnaaGreatDoor.Aux Go.Proofs.YtjldfmkpdkhnnaaGreatDoor.Dom Go.Proofs.YtjldfmkpdkhnnaaGreatDoor.Ext
def lodC (c : Int) : Bool := decide (97 ≤ c ∧ c ≤ 122) || decide (65 ≤ c ∧ c ≤ 90) || decide (48 ≤ c ∧ c ≤ 57)
theorem impl_isLetterOrDigit_eq {c : Int} (h0 : 0 ≤ c) (h1 : c < 256) : impl_isLetterOrDigit.f c = some (lodC c) :=
  byte_all (P := fun c => impl_isLetterOrDigit.f c = some (lodC c)) (by decide +kernel) h0 h1
theorem impl_tok {c : Int} (h0 : 0 ≤ c) (h1 : c < 256) : tokC c = (lodC c || !decide (idxB [33, 35, 36, 37, 38, 39, 42, 43, 45, 46, 94, 95, 124, 126, 96] c < 0)) :=
  byte_all (P := fun c => tokC c = (lodC c || !decide (idxB [33, 35, 36, 37, 38, 39, 42, 43, 45, 46, 94, 95, 124, 126, 96] c < 0))) (by decide +kernel) h0 h1
theorem impl_IsTokenText_l0 (s : ByteArray) (hs : s.size ≤ 8388608) : ∀ (d : Nat) (i : Int), 0 ≤ i → (s.size : Int) - i = d →
    Ev (fun k => impl_IsTokenText.l0 k s (s.size : Int) i) (((bytesOf s).drop i.toNat).all tokC && !(bytesOf s).isEmpty)
  | 0, i, h0, hd => by
    refine ev_last fun k => ?_
    simp only [impl_IsTokenText.l0]
    rw [if_neg (by omega), drop_end (by omega)]
    congr 1
    rw [Bool.eq_iff_iff]
    simp only [bne_iff_ne, ne_eq, List.all_nil, Bool.true_and, Bool.not_eq_true', List.isEmpty_eq_false_iff]
    constructor
    · intro h he
      apply h
      exact (toList_lit _ _).2 he
    · intro h he
      exact h ((toList_lit _ _).1 he)
  | d + 1, i, h0, hd => by
    have hb := bt_bound s i
    have hlt : i < (s.size : Int) := by omega
    have e := impl_isLetterOrDigit_eq hb.1 hb.2
    have et := impl_tok hb.1 hb.2
    rw [drop_bt h0 hlt, List.all_cons]
    have ei := strings_IndexByte_eq (⟨#[33, 35, 36, 37, 38, 39, 42, 43, 45, 46, 94, 95, 124, 126, 96]⟩ : ByteArray) (bt s i) hb.1 hb.2
    have eb : bytesOf (⟨#[33, 35, 36, 37, 38, 39, 42, 43, 45, 46, 94, 95, 124, 126, 96]⟩ : ByteArray) = [33, 35, 36, 37, 38, 39, 42, 43, 45, 46, 94, 95, 124, 126, 96] := by decide +kernel
    rw [eb] at ei
    cases hl : lodC (bt s i) with
    | true =>
      rw [hl, Bool.true_or] at et
      refine Ev.step (f := fun k => impl_IsTokenText.l0 k s (s.size : Int) (i + 1)) (fun k => ?_) (ev_eq (impl_IsTokenText_l0 s hs d (i + 1) (by omega) (by omega)) (by rw [et, Bool.true_and]))
      simp only [impl_IsTokenText.l0]
      rw [if_pos hlt, if_pos h0, if_pos hlt, e, hl, Option.bind_some, if_pos rfl, wrap_id (by omega) (by omega)]
    | false =>
      rw [hl, Bool.false_or] at et
      by_cases hx : idxB [33, 35, 36, 37, 38, 39, 42, 43, 45, 46, 94, 95, 124, 126, 96] (bt s i) < 0
      · refine ev_last fun k => ?_
        simp only [impl_IsTokenText.l0]
        rw [if_pos hlt, if_pos h0, if_pos hlt, e, hl, Option.bind_some, if_neg (by decide), ei, Option.bind_some, if_pos hx, et, decide_eq_true hx]
        rfl
      · refine Ev.step (f := fun k => impl_IsTokenText.l0 k s (s.size : Int) (i + 1)) (fun k => ?_) (ev_eq (impl_IsTokenText_l0 s hs d (i + 1) (by omega) (by omega)) (by rw [et, decide_eq_false hx]; rfl))
        simp only [impl_IsTokenText.l0]
        rw [if_pos hlt, if_pos h0, if_pos hlt, e, hl, Option.bind_some, if_neg (by decide), ei, Option.bind_some, if_neg hx, wrap_id (by omega) (by omega)]
theorem impl_IsTokenText_ev (s : ByteArray) (hs : s.size ≤ 8388608) : Ev (fun k => impl_IsTokenText.f k s) (tokB (bytesOf s)) := by
  have h := impl_IsTokenText_l0 s hs s.size 0 (by omega) (by omega)
  simpa [impl_IsTokenText.f, tokB] using h

end Go.Proofs.YtjldfmkpdkhnnaaGreatDoor.Pure

namespace Go.Proofs.YtjldfmkpdkhnnaaGreatDoor.Pure
open Go.RowKit Go.Proofs.YtjldfmkpdkhnnaaGreatDoor.QL Go.Proofs.YtjldfmkpdkhnnaaGreatDoorW.PrintWords Go.Proofs.YtjldfmkpdkhnnaaGreatDoorW.PrintLast Go.Proofs.YtjldfmkpdkhnnaaGreatDoorW.PrintMore Go.Proofs.YtjldfmkpdkhnnaaGreatDoor.Aux Go.Proofs.YtjldfmkpdkhnnaaGreatDoor.Dom Go.Proofs.YtjldfmkpdkhnnaaGreatDoor.Ext
theorem impl_Lower_eq (s : ByteArray) (hs : s.size ≤ 8388608) : impl_Lower.f s = some (strOfNums ((bytesOf s).map lowC)) := by unfold impl_Lower.f; rw [if_pos hs]

end Go.Proofs.YtjldfmkpdkhnnaaGreatDoor.Pure

namespace Go.Proofs.YtjldfmkpdkhnnaaGreatDoor.Pure
open Go.RowKit Go.Proofs.YtjldfmkpdkhnnaaGreatDoor.QL Go.Proofs.YtjldfmkpdkhnnaaGreatDoorW.PrintWords Go.Proofs.YtjldfmkpdkhnnaaGreatDoorW.PrintLast Go.Proofs.YtjldfmkpdkhnnaaGreatDoorW.PrintMore Go.Proofs.YtjldfmkpdkhnnaaGreatDoor.Aux Go.Proofs.YtjldfmkpdkhnnaaGreatDoor.Dom Go.Proofs.YtjldfmkpdkhnnaaGreatDoor.Ext
theorem strings_Cut_eq (s sep : ByteArray) (hs : s.size ≤ 8388608) : strings_Cut.f s sep = some (strOfNums (cutL (bytesOf s) (bytesOf sep)).1, strOfNums (cutL (bytesOf s) (bytesOf sep)).2.1, (cutL (bytesOf s) (bytesOf sep)).2.2) := by unfold strings_Cut.f; rw [if_pos hs]

end Go.Proofs.YtjldfmkpdkhnnaaGreatDoor.Pure

namespace Go.Proofs.YtjldfmkpdkhnnaaGreatDoor.Pure
open Go.RowKit Go.Proofs.YtjldfmkpdkhnnaaGreatDoor.QL Go.Proofs.YtjldfmkpdkhnnaaGreatDoorW.PrintWords Go.Proofs.YtjldfmkpdkhnnaaGreatDoorW.PrintLast Go.Proofs.YtjldfmkpdkhnnaaGreatDoorW.PrintMore Go.Proofs.YtjldfmkpdkhnnaaGreatDoor.Aux Go.Proofs.YtjldfmkpdkhnnaaGreatDoor.Dom Go.Proofs.YtjldfmkpdkhnnaaGreatDoor.Ext
theorem impl_Directives_l0 (L : List ByteArray) (hL : L.length ≤ 16777216) (hm : ∀ p ∈ L, p.size ≤ 8388608) : ∀ (d : Nat) (acc : List S46) (i : Int), 0 ≤ i → (L.length : Int) - i = d → (acc.length : Int) ≤ i →
    Ev (fun k => impl_Directives.l0 k acc L (L.length : Int) i) (acc ++ (dirL (L.drop i.toNat)).map fun p => (⟨p.1, p.2⟩ : S46))
  | 0, acc, i, h0, hd, ha => by
    refine ev_last fun k => ?_
    simp only [impl_Directives.l0]
    rw [if_neg (by omega), drop_nil (by omega)]
    simp [dirL]
  | d + 1, acc, i, h0, hd, ha => by
    have hlt : i < (L.length : Int) := by omega
    have hdrop : L.drop i.toNat = rdOf ByteArray.empty L i :: L.drop (i + 1).toNat := drop_rdOf (d := ByteArray.empty) h0 hlt
    have hmem : rdOf ByteArray.empty L i ∈ L := List.mem_of_mem_drop (i := i.toNat) (by rw [hdrop]; exact List.mem_cons_self)
    have hsz := hm _ hmem
    have hw : wrap64 (i + 1) = i + 1 := wrap_id (by omega) (by omega)
    rw [hdrop]
    simp only [dirL]
    obtain ⟨p, hp⟩ : ∃ p, p = rdOf ByteArray.empty L i := ⟨_, rfl⟩
    rw [← hp] at hsz ⊢
    obtain ⟨n1, n2⟩ := cut_name p [61]
    have n3 := cut_rest p [61]
    have hc := strings_Cut_eq p ⟨#[61]⟩ hsz
    rw [show bytesOf (⟨#[61]⟩ : ByteArray) = [61] from rfl] at hc
    unfold dirOf
    generalize hN : strOfNums (cutL (bytesOf p) [61]).1 = N at n1 n2 hc
    generalize hR : strOfNums (cutL (bytesOf p) [61]).2.1 = R at n3 hc
    have w1 : wrap64 ((R.size : Int) - 1) = (R.size : Int) - 1 := wrap_id (by omega) (by omega)
    have hg : ∀ k, impl_Directives.l0 (k + 1) acc L (L.length : Int) i = (impl_IsTokenText.f k N).bind fun t113 => if t113 = true then (impl_Lower.f N).bind (fun t => if acc.length < 4398046511104 then impl_Directives.l0 k (acc ++ [(⟨t, unqB R⟩ : S46)]) L (L.length : Int) (i + 1) else none) else impl_Directives.l0 k acc L (L.length : Int) (i + 1) := by
      intro k
      simp only [impl_Directives.l0]
      rw [if_pos hlt, if_pos h0, if_pos hlt, ← hp, hc]
      simp only [Option.bind_some]
      rw [hw]
      congr 1
      funext t
      by_cases ht : t = true
      · rw [if_pos ht, if_pos ht]
        by_cases h2 : (R.size : Int) ≥ 2
        · rw [if_pos h2, if_pos (by omega)]
          by_cases hq : bt R 0 = 34
          · rw [if_pos hq, w1, if_pos (by omega), if_pos (by omega)]
            by_cases hr : bt R ((R.size : Int) - 1) = 34
            · rw [if_pos hr, if_pos (by omega), if_pos (by omega), show unqB R = R.extract 1 (R.size - 1) from if_pos ⟨by omega, hq, hr⟩, show ((R.size : Int) - 1).toNat = R.size - 1 by omega]
            · rw [if_neg hr, show unqB R = R from if_neg (fun h => hr h.2.2)]
          · rw [if_neg hq, show unqB R = R from if_neg (fun h => hq h.2.1)]
        · rw [if_neg h2, show unqB R = R from if_neg (fun h => h2 (by have := h.1; omega))]
      · rw [if_neg ht, if_neg ht]
    refine Ev.step hg (ev_bind (impl_IsTokenText_ev N (by omega)) ?_)
    rw [n1]
    by_cases hT : tokB (cutL (bytesOf p) [61]).1 = true
    · rw [if_pos hT]
      refine ev_if_pos hT (ev_bind (ev_some fun _ => impl_Lower_eq N (by omega)) (ev_if_pos (by omega) (ev_eq (impl_Directives_l0 L hL hm d _ (i + 1) (by omega) (by omega) (by simp; omega)) ?_)))
      simp [lowB]
    · rw [if_neg hT]
      exact ev_if_neg hT (impl_Directives_l0 L hL hm d acc (i + 1) (by omega) (by omega) (by omega))
theorem impl_Directives_ev (l : List S99) (hl : l.length ≤ 1048576) (hz : ¬ szF 1048576 (l.map fun x => (x.f0, x.f1)) < 0) : Ev (fun k => impl_Directives.f k l) ((dirsL (l.map fun x => (x.f0, x.f1))).map fun p => (⟨p.1, p.2⟩ : S46)) := by
  have hs := ccB_size _ (by omega) hz
  have hq := szF_sum nmCC (by omega) hz
  have hc := comL_length (bytesOf (ccB (l.map fun x => (x.f0, x.f1)))) false false 0
  rw [bytesOf_length] at hc
  have hp := splL_length (ccB (l.map fun x => (x.f0, x.f1))) (comL (bytesOf (ccB (l.map fun x => (x.f0, x.f1)))) false false 0 ++ [((ccB (l.map fun x => (x.f0, x.f1))).size : Int)]) 0
  rw [List.length_append, List.length_singleton] at hp
  refine Ev.congr (fun k => by unfold impl_Directives.f; rfl) (ev_bind (impl_FieldGet_ev l nmCC hl (by omega)) (ev_bind (impl_SplitList_ev (ccB (l.map fun x => (x.f0, x.f1))) (by omega)) ?_))
  have h := impl_Directives_l0 (splL (ccB (l.map fun x => (x.f0, x.f1))) 0 (comL (bytesOf (ccB (l.map fun x => (x.f0, x.f1)))) false false 0 ++ [((ccB (l.map fun x => (x.f0, x.f1))).size : Int)])) (by omega) (fun p hp => Nat.le_trans (splL_size _ _ _ p hp) (by omega)) (splL (ccB (l.map fun x => (x.f0, x.f1))) 0 (comL (bytesOf (ccB (l.map fun x => (x.f0, x.f1)))) false false 0 ++ [((ccB (l.map fun x => (x.f0, x.f1))).size : Int)])).length [] 0 (by omega) (by omega) (by simp)
  exact h

end Go.Proofs.YtjldfmkpdkhnnaaGreatDoor.Pure

namespace Go.Proofs.YtjldfmkpdkhnnaaGreatDoor.Pure
open Go.RowKit Go.Proofs.YtjldfmkpdkhnnaaGreatDoor.QL Go.Proofs.YtjldfmkpdkhnnaaGreatDoorW.PrintWords Go.Proofs.YtjldfmkpdkhnnaaGreatDoorW.PrintLast Go.Proofs.YtjldfmkpdkhnnaaGreatDoorW.PrintMore Go.Proofs.YtjldfmkpdkhnnaaGreatDoor.Aux Go.Proofs.YtjldfmkpdkhnnaaGreatDoor.Dom Go.Proofs.YtjldfmkpdkhnnaaGreatDoor.Ext
theorem impl_CcSeconds_l0 (D : List S46) (nm : ByteArray) (hl : D.length ≤ 16777216) (hm : ∀ x ∈ D, x.f1.size ≤ 8388608) : ∀ (d : Nat) (n : Int) (b : Bool) (i : Int), 0 ≤ i → (D.length : Int) - i = d →
    Ev (fun k => impl_CcSeconds.l0 k nm n b D (D.length : Int) i) (finI n b (ccL nm ((D.drop i.toNat).map fun x => (x.f0, x.f1))))
  | 0, n, b, i, h0, hd => by
    refine ev_last fun k => ?_
    simp only [impl_CcSeconds.l0]
    rw [if_neg (by omega), drop_nil (by omega)]
    rfl
  | d + 1, n, b, i, h0, hd => by
    have hlt : i < (D.length : Int) := by omega
    have hdrop : D.drop i.toNat = rd_T46 D i :: D.drop (i + 1).toNat := drop_rdOf (d := z46) h0 hlt
    have hmem : rd_T46 D i ∈ D := List.mem_of_mem_drop (i := i.toNat) (by rw [hdrop]; exact List.mem_cons_self)
    have hsz := hm _ hmem
    have hw : wrap64 (i + 1) = i + 1 := wrap_id (by omega) (by omega)
    rw [hdrop]
    simp only [List.map_cons, ccL]
    by_cases h : (rd_T46 D i).f0 = nm
    · rw [if_pos h, finI]
      refine Ev.step (fun k => by simp only [impl_CcSeconds.l0]; rw [if_pos hlt, if_pos h0, if_pos hlt, if_pos (by rw [h])]) (ev_bind (impl_Seconds_ev _ hsz) ?_)
      cases b with
      | true =>
        rw [if_pos rfl]
        refine ev_if_pos rfl ?_
        by_cases hv : (secP (bytesOf (rd_T46 D i).f1)).1 < n
        · rw [if_pos hv]
          exact ev_if_pos hv (Ev.congr (fun k => by rw [hw]) (impl_CcSeconds_l0 D nm hl hm d _ true (i + 1) (by omega) (by omega)))
        · rw [if_neg hv]
          exact ev_if_neg hv (Ev.congr (fun k => by rw [hw]) (impl_CcSeconds_l0 D nm hl hm d _ true (i + 1) (by omega) (by omega)))
      | false =>
        rw [if_neg (by decide)]
        exact ev_if_neg (by decide) (Ev.congr (fun k => by rw [hw]) (impl_CcSeconds_l0 D nm hl hm d _ true (i + 1) (by omega) (by omega)))
    · rw [if_neg h]
      exact Ev.step (fun k => by simp only [impl_CcSeconds.l0]; rw [if_pos hlt, if_pos h0, if_pos hlt, if_neg (by rw [toList_eq_iff]; exact h), hw]) (impl_CcSeconds_l0 D nm hl hm d n b (i + 1) (by omega) (by omega))
theorem impl_CcSeconds_ev (l : List S99) (nm : ByteArray) (hl : l.length ≤ 1048576) (hz : ¬ szF 1048576 (l.map fun x => (x.f0, x.f1)) < 0) : Ev (fun k => impl_CcSeconds.f k l nm) (ccSec (l.map fun x => (x.f0, x.f1)) nm) := by
  have q1 := dirsL_length _ (by omega) hz
  have q2 := dirsL_size _ (by omega) hz
  refine Ev.congr (fun k => by unfold impl_CcSeconds.f; rfl) (ev_bind (impl_Directives_ev l hl hz) ?_)
  refine ev_eq (impl_CcSeconds_l0 ((dirsL (l.map fun x => (x.f0, x.f1))).map fun p => (⟨p.1, p.2⟩ : S46)) nm (by rw [List.length_map]; omega) (fun x hx => ?_) ((dirsL (l.map fun x => (x.f0, x.f1))).map fun p => (⟨p.1, p.2⟩ : S46)).length 0 false 0 (by omega) (by omega)) ?_
  · obtain ⟨p, hp, rfl⟩ := List.mem_map.1 hx
    have := q2 p hp
    simp only
    omega
  · simp only [Int.toNat_zero, List.drop_zero, List.map_map]
    rw [show ((fun x : S46 => (x.f0, x.f1)) ∘ fun p : ByteArray × ByteArray => (⟨p.1, p.2⟩ : S46)) = id from rfl, List.map_id]
    exact finI_eq _ (fun v hv => (ccL_bd nm _ v hv).2)

end Go.Proofs.YtjldfmkpdkhnnaaGreatDoor.Pure

namespace Go.Proofs.YtjldfmkpdkhnnaaGreatDoor.Pure
open Go.RowKit Go.Proofs.YtjldfmkpdkhnnaaGreatDoor.QL Go.Proofs.YtjldfmkpdkhnnaaGreatDoorW.PrintWords Go.Proofs.YtjldfmkpdkhnnaaGreatDoorW.PrintLast Go.Proofs.YtjldfmkpdkhnnaaGreatDoorW.PrintMore Go.Proofs.YtjldfmkpdkhnnaaGreatDoor.Aux Go.Proofs.YtjldfmkpdkhnnaaGreatDoor.Dom Go.Proofs.YtjldfmkpdkhnnaaGreatDoor.Ext
theorem impl_Lifetime_ev (st : Int) (l : List S99) (b : ByteArray) (hl : l.length ≤ 1048576) (hz : ¬ szF 1048576 (l.map fun x => (x.f0, x.f1)) < 0) : Ev (fun k => impl_Lifetime.f k st l b) (lifetimeP (l.map fun x => (x.f0, x.f1))) := by
  have q1 := szF_sum nmExp (by omega) hz
  have b1 := dateOfP_bd (l.map fun x => (x.f0, x.f1)) nmDate
  have b2 := dateOfP_bd (l.map fun x => (x.f0, x.f1)) nmExp
  have c1 := impl_CcSeconds_ev l nmSM hl hz
  have c2 := impl_CcSeconds_ev l nmMA hl hz
  have hh : Ev (fun k => impl_hasField.f k l nmExp) (!(getL nmExp (l.map fun x => (x.f0, x.f1))).isEmpty) := Ev.congr (fun k => by unfold impl_hasField.f; rfl) (ev_bind (impl_FieldGet_ev l nmExp hl (by omega)) (Ev.now _))
  have hfin : Ev (fun k => impl_Lifetime.l0 k [nmSM, nmMA] 2 2 st l b) (lifeD (l.map fun x => (x.f0, x.f1))) := by
    unfold lifeD
    refine Ev.step (fun k => by simp only [impl_Lifetime.l0]; rw [if_neg (by decide)]; rfl) (ev_bind (impl_DateOf_ev l nmDate hl hz) (ev_bind hh (ev_ite (fun h1 => ?_) (fun h1 => ?_))))
    · refine ev_bind (impl_DateOf_ev l nmExp hl hz) (ev_ite (fun h2 => ev_ite (fun h3 => ?_) (fun _ => Ev.now _)) (fun _ => Ev.now _))
      exact ev_some fun k => by rw [impl_later_eq (by omega), Option.bind_some]
    · refine ev_bind (impl_DateOf_ev l nmLast hl hz) (ev_ite (fun h2 => ev_ite (fun h3 => ?_) (fun _ => Ev.now _)) (fun _ => Ev.now _))
      have hb := laterP_bd (a := (dateOfP (l.map fun x => (x.f0, x.f1)) nmDate).1) (b := (dateOfP (l.map fun x => (x.f0, x.f1)) nmLast).1) (by omega)
      exact ev_some fun k => by rw [impl_later_eq (by omega), Option.bind_some, Int.tdiv_eq_ediv_of_nonneg hb.1, wrap_id (by omega) (by omega)]
  refine Ev.congr (fun k => by unfold impl_Lifetime.f; rw [Option.bind_some]) ?_
  unfold lifetimeP
  have s0 : ∀ k, impl_Lifetime.l0 (k + 1) [nmSM, nmMA] 2 0 st l b = (impl_CcSeconds.f k l nmSM).bind fun q => if q.2 = true then some q.1 else impl_Lifetime.l0 k [nmSM, nmMA] 2 1 st l b := by
    intro k
    simp only [impl_Lifetime.l0]
    rw [if_pos (by decide), if_pos (by decide), if_pos (by decide), show wrap64 (0 + 1) = 1 from wrap_id (by omega) (by omega), show rdOf ByteArray.empty [nmSM, nmMA] 0 = nmSM from rfl]
  have s1 : ∀ k, impl_Lifetime.l0 (k + 1) [nmSM, nmMA] 2 1 st l b = (impl_CcSeconds.f k l nmMA).bind fun q => if q.2 = true then some q.1 else impl_Lifetime.l0 k [nmSM, nmMA] 2 2 st l b := by
    intro k
    simp only [impl_Lifetime.l0]
    rw [if_pos (by decide), if_pos (by decide), if_pos (by decide), show wrap64 (1 + 1) = 2 from wrap_id (by omega) (by omega), show rdOf ByteArray.empty [nmSM, nmMA] 1 = nmMA from rfl]
  show Ev (fun k => impl_Lifetime.l0 k [nmSM, nmMA] 2 0 st l b) _
  refine Ev.step s0 (ev_bind c1 (ev_ite (fun _ => Ev.now _) (fun _ => ?_)))
  exact Ev.step s1 (ev_bind c2 (ev_ite (fun _ => Ev.now _) (fun _ => hfin)))

end Go.Proofs.YtjldfmkpdkhnnaaGreatDoor.Pure

namespace Go.Proofs.YtjldfmkpdkhnnaaGreatDoor.Pure
open Go.RowKit Go.Proofs.YtjldfmkpdkhnnaaGreatDoor.QL Go.Proofs.YtjldfmkpdkhnnaaGreatDoorW.PrintWords Go.Proofs.YtjldfmkpdkhnnaaGreatDoorW.PrintLast Go.Proofs.YtjldfmkpdkhnnaaGreatDoorW.PrintMore Go.Proofs.YtjldfmkpdkhnnaaGreatDoor.Aux Go.Proofs.YtjldfmkpdkhnnaaGreatDoor.Dom Go.Proofs.YtjldfmkpdkhnnaaGreatDoor.Ext
theorem wf_u8 {a : Int} (h : (Lit.int .u8 a).wf = true) : 0 ≤ a ∧ a ≤ 255 := by
  simp [Lit.wf, IntKind.min, IntKind.max, IntKind.signed, IntKind.bits] at h
  omega
theorem laws_at_ok (b : List Int) (hb : b.length ≤ 1048576) (hw : ∀ x ∈ b, (Lit.int .u8 x).wf = true) : ∃ v, laws_at.f b 0 = some v ∧ 0 ≤ v ∧ v ≤ 255 := by
  unfold laws_at.f
  by_cases h : 0 < (b.length : Int)
  · have hm := drop_rd (xs := b) (i := 0) (by omega) h
    have h1 := wf_u8 (hw (rd b 0) (List.mem_of_mem_drop (i := (0 : Int).toNat) (by rw [hm]; exact List.mem_cons_self)))
    rw [if_pos h, if_pos (by omega), wrap_id (by omega) (by omega)]
    exact ⟨_, rfl, h1.1, h1.2⟩
  · have h0 : (b.length : Int) = 0 := by omega
    have e : wrap64 (wrap64 (0 * 37) + wrap64 (0 * 11)) = 0 := by unfold wrap64; omega
    rw [if_neg h, h0, e]
    exact ⟨_, rfl, by decide, by decide⟩

end Go.Proofs.YtjldfmkpdkhnnaaGreatDoor.Pure

namespace Go.Proofs.YtjldfmkpdkhnnaaGreatDoor.Pure
open Go.RowKit Go.Proofs.YtjldfmkpdkhnnaaGreatDoor.QL Go.Proofs.YtjldfmkpdkhnnaaGreatDoorW.PrintWords Go.Proofs.YtjldfmkpdkhnnaaGreatDoorW.PrintLast Go.Proofs.YtjldfmkpdkhnnaaGreatDoorW.PrintMore Go.Proofs.YtjldfmkpdkhnnaaGreatDoor.Aux Go.Proofs.YtjldfmkpdkhnnaaGreatDoor.Dom Go.Proofs.YtjldfmkpdkhnnaaGreatDoor.Ext

theorem within_mono {a c : Int} (h : a ≤ c) : withinP a ≤ withinP c := by unfold withinP mx mn; (repeat' split) <;> omega
theorem satP_comm (a c : Int) : satP a c = satP c a := by unfold satP mn; (repeat' split) <;> omega
theorem within_id {a : Int} (h0 : 0 ≤ a) (h1 : a ≤ 2147483648) : withinP a = a := by unfold withinP mx mn; (repeat' split) <;> omega
theorem sat_mono {f x y : Int} (h : x ≤ y) : satP f x ≤ satP f y := by
  have := within_mono h
  unfold satP mn
  (repeat' split) <;> omega
theorem later_mono {x y c : Int} (h : x ≤ y) : laterP x c ≤ laterP y c := by unfold laterP; (repeat' split) <;> omega
theorem ageAt_mono (l : List (ByteArray × ByteArray)) (a c : Int) {x y : Int} (h : x ≤ y) : ageAtP l a c x ≤ ageAtP l a c y := sat_mono (later_mono h)
theorem ageAt_bd (l : List (ByteArray × ByteArray)) (a c x : Int) : 0 ≤ ageAtP l a c x ∧ ageAtP l a c x ≤ 2147483648 := satP_bd _ _
theorem sat_step {f d : Int} (h0 : 0 ≤ d) : satP f (d + 1) = mn (satP f d + 1) 2147483648 := by
  have hf := withinP_bd f
  unfold satP
  by_cases h1 : d + 1 ≤ 2147483648
  · rw [within_id (a := d + 1) (by omega) h1, within_id (a := d) h0 (by omega)]
    unfold mn
    (repeat' split) <;> omega
  · have e1 : withinP (d + 1) = 2147483648 := by unfold withinP mx mn; (repeat' split) <;> omega
    have e2 : withinP d = 2147483648 := by unfold withinP mx mn; (repeat' split) <;> omega
    rw [e1, e2]
    unfold mn
    (repeat' split) <;> omega
theorem ageAt_next (l : List (ByteArray × ByteArray)) (a c x : Int) (hc : 0 ≤ c) (hx : c ≤ x) : ageAtP l a c (x + 1) = mn (ageAtP l a c x + 1) 2147483648 := by
  have e : ∀ y, c ≤ y → laterP y c = y - c := by intro y hy; unfold laterP; (repeat' split) <;> omega
  unfold ageAtP
  rw [e x hx, e (x + 1) (by omega), show x + 1 - c = x - c + 1 by omega, sat_step (by omega)]
theorem ageAt_same (l : List (ByteArray × ByteArray)) (a c x : Int) (hx : x < c) : ageAtP l a c (x + 1) = ageAtP l a c x := by
  have e : ∀ y, y ≤ c → laterP y c = 0 := by intro y hy; unfold laterP; (repeat' split) <;> omega
  unfold ageAtP
  rw [e x (by omega), e (x + 1) (by omega)]
theorem ageAt_one (l : List (ByteArray × ByteArray)) (a c x : Int) (hc : 0 ≤ c) : ageAtP l a c (x + 1) ≤ ageAtP l a c x + 1 := by
  by_cases h : c ≤ x
  · rw [ageAt_next l a c x hc h]
    unfold mn
    split <;> omega
  · rw [ageAt_same l a c x (by omega)]
    omega
theorem first_ageAt (l : List (ByteArray × ByteArray)) (a c x : Int) : firstAgeP l a c ≤ ageAtP l a c x := by
  have h := firstAgeP_bd l a c
  have w := withinP_bd (laterP x c)
  unfold ageAtP satP
  rw [within_id h.1 h.2]
  unfold mn
  split <;> omega
theorem impl_IsFresh_ev (st : Int) (l : List S99) (t : ByteArray) (asked came now : Int) (hl : l.length ≤ 1048576) (hz : ¬ szF 1048576 (l.map fun x => (x.f0, x.f1)) < 0) (hc : came ≤ 9223372036854775807) (hn : now ≤ 9223372036854775807) : Ev (fun k => impl_IsFresh.f k st l t asked came now) (decide (ageAtP (l.map fun x => (x.f0, x.f1)) asked came now < lifetimeP (l.map fun x => (x.f0, x.f1)))) := by
  have a := impl_AgeAt_ev st l t asked came now hl hz hc hn
  have b := impl_Lifetime_ev st l t hl hz
  exact Ev.congr (fun k => by unfold impl_IsFresh.f; rfl) (ev_bind b (ev_bind a (Ev.now _)))
theorem FnAges : laws_FnAges.Pure := by
  intro b hl hl2 hw
  refine Ev.rounds (Ev.congr (fun k => by unfold laws_FnAges.f laws_big.f; rw [Option.bind_some]) ?_)
  by_cases hb : (b.length : Int) > 1048576
  · exact ev_if_pos (decide_eq_true hb) (Ev.now _)
  refine ev_if_neg (by rw [decide_eq_true_eq]; exact hb) ?_
  have hb' : b.length ≤ 1048576 := by omega
  obtain ⟨st, l, t, asked, came, now, ed, hok, hln, a0, a1, c0, c1, n0, n1⟩ := spec_DrawAgeAt_ev b hb'
  have hz := okL_size hok (by omega)
  obtain ⟨v, ev, v0, v1⟩ := laws_at_ok b hb' hw
  obtain ⟨x, y, exy⟩ := spec_DrawSatAdd_ev b hb'
  have w1 : wrap64 (now + 1) = now + 1 := wrap_id (by omega) (by omega)
  have w2 : wrap64 (now + v) = now + v := wrap_id (by omega) (by omega)
  have g1 := impl_AgeAt_ev st l t asked came now (by omega) hz (by omega) (by omega)
  have g2 := impl_AgeAt_ev st l t asked came (now + 1) (by omega) hz (by omega) (by omega)
  have g3 := impl_AgeAt_ev st l t asked came (now + v) (by omega) hz (by omega) (by omega)
  have g4 := impl_FirstAge_ev st l t asked came (by omega) hz (by omega)
  have g5 := impl_Lifetime_ev st l t (by omega) hz
  have g6 := impl_IsFresh_ev st l t asked came now (by omega) hz (by omega) (by omega)
  have g7 := impl_IsFresh_ev st l t asked came (now + v) (by omega) hz (by omega) (by omega)
  generalize hL : (l.map fun x => (x.f0, x.f1)) = L at g1 g2 g3 g4 g5 g6 g7
  have m1 := ageAt_bd L asked came now
  have m2 := ageAt_mono L asked came (show now ≤ now + 1 by omega)
  have m3 := ageAt_mono L asked came (show now ≤ now + v by omega)
  have m4 := ageAt_one L asked came now c0
  have m5 := ageAt_bd L asked came (now + v)
  have m6 := first_ageAt L asked came now
  have m7 := lifetimeP_bd L
  have wa : wrap64 (ageAtP L asked came now + 1) = ageAtP L asked came now + 1 := wrap_id (by omega) (by omega)
  have hj1 : Ev (fun k => laws_FnAges.j1 k b asked came now (ageAtP L asked came now) false st l t) true := by
    have s1 : Ev (fun _ => impl_SatAdd.f x y) (satP x y) := ev_some fun _ => impl_SatAdd_eq x y
    have s2 : Ev (fun _ => impl_SatAdd.f y x) (satP y x) := ev_some fun _ => impl_SatAdd_eq y x
    have s3 := satP_bd x y
    refine Ev.step (fun k => by simp only [laws_FnAges.j1]; rfl) (ev_if_neg (by decide) (ev_bind exy (ev_bind s1 (ev_bind s2 (ev_if_pos (satP_comm x y) (ev_if_pos s3.1 (ev_if_pos s3.2 (ev_bind g6 (ev_bind g5 (ev_eq (Ev.now _) ?_))))))))))
    exact beq_self_eq_true _
  have hfr : ∀ (f : Bool → Nat → Option Bool), Ev (f false) true → Ev (fun k => (impl_IsFresh.f k st l t asked came (now + v)).bind fun t118 => if t118 = true then ((impl_IsFresh.f k st l t asked came now).bind fun t119 => f (!t119) k) else f false k) true := by
    intro f hf
    refine ev_bind g7 ?_
    by_cases h : ageAtP L asked came (now + v) < lifetimeP L
    · refine ev_if_pos (decide_eq_true h) (ev_bind g6 ?_)
      rw [decide_eq_true (show ageAtP L asked came now < lifetimeP L by omega)]
      exact hf
    · exact ev_if_neg (by rw [decide_eq_true_eq]; exact h) hf
  have hj0 : Ev (fun k => laws_FnAges.j0 k b asked came now (ageAtP L asked came now) (ageAtP L asked came (now + 1)) v false st l t) true := by
    have hq := hfr (fun q k => laws_FnAges.j1 k b asked came now (ageAtP L asked came now) q st l t) hj1
    by_cases hc : now ≥ came
    · have e := ageAt_next L asked came now c0 hc
      exact Ev.step (fun k => by simp only [laws_FnAges.j0]; rw [w2, wa]) (ev_if_neg (by decide) (ev_if_pos hc (ev_if_pos e hq)))
    · exact Ev.step (fun k => by simp only [laws_FnAges.j0]; rw [w2, wa]) (ev_if_neg (by decide) (ev_if_neg hc hq))
  have g2' : Ev (fun k => impl_AgeAt.f k st l t asked came (wrap64 (now + 1))) (ageAtP L asked came (now + 1)) := by rw [w1]; exact g2
  have g3' : Ev (fun k => impl_AgeAt.f k st l t asked came (wrap64 (now + v))) (ageAtP L asked came (now + v)) := by rw [w2]; exact g3
  refine ev_bind ed (ev_bind g1 (ev_bind g2' (ev_bind (ev_k ev) (ev_bind g3' (ev_if_neg (by omega) (ev_if_neg (by omega) (ev_if_neg (by rw [wa]; omega) (ev_if_neg (by omega) (ev_if_neg (by omega) (ev_bind g4 (ev_if_neg (by omega) (ev_bind g5 (ev_if_neg (by omega) (ev_bind g5 ?_))))))))))))))
  rw [decide_eq_false (show ¬ lifetimeP L > 2147483648 by omega)]
  exact hj0

end Go.Proofs.YtjldfmkpdkhnnaaGreatDoor.Pure

namespace Go.Proofs.YtjldfmkpdkhnnaaGreatDoor.Open
open Go.ChangeShapes Go.WideShapes Go.Deep
section
variable {H : Type} {enc : TypeId × Value → H} {P : Program} {w : World} {base : Nat} {spare : Nat → Bool} {held : Bool}
end

section
variable {H : Type} {enc : TypeId × Value → H} {P : Program} {w : World} {base : Nat} {spare : Nat → Bool} {held : Bool}
end

theorem returnsInHanded_door {H : Type} {enc : TypeId × Value → H} {a : Assume} {C : Checked} {os : Os} {f : FuncId} {fn : Func} {s : ChangeSpec} {conds : List PathCond} {apart fresh handsOn again : Bool} {X : World → Array Value → Prop}
    (hX : ∀ (w w' : World) (args : Array Value), w.heap = w'.heap → X w args → X w' args)
    (own : ownKnob C.prog.godebug = none) (started : os.Started) (noInit : C.prog.inits.idxOf? f = none) (hfn : C.prog.funcs[f]? = some fn)
    (witness : ∃ (w : World) (tape : Tape) (i : Input), w.os = os ∧ (w.forCall tape i).Shaped C.prog ∧ i.vars = [] ∧ Input.okWide C.prog (w.forCall tape i) .any w.heap.size f i ∧
      ((s.pre enc C.prog fn conds apart (w.forCall tape i).memory i.args ∧ X (w.forCall tape i).memory i.args) ∧ sizedMet enc C.prog fn (OpenSpec.ofChange s) apart (w.forCall tape i).memory i.args) ∧ a.holds C.prog (lone (Frame.enter C.prog f i.args .normal) [] (w.forCall tape i)))
    (contract : ∀ (W : World) (base : Nat) (args : Array Value) (ds gs : List (DataW H)) (before : List MemPlace),
      (∀ (j : Nat) t v, fn.params[j]? = some t → args[j]? = some v → Value.okWide C.prog W .any base t v) →
      DataW.Whole enc C.prog fn.params.toList s.vars apart W args.toList ds gs before →
      conds.all (PathCond.test C.prog ⟨fn.params.toList, ds, s.plain.varTypes C.prog, gs⟩) = true →
      (DataW.weightsEach C.prog (fn.params.toList ++ s.plain.varTypes C.prog) (ds ++ gs)).all (· ≤ reachBytes) = true → X W args →
      W.ShapedOpen C.prog →
      a.holds C.prog (lone (Frame.enter C.prog f args .normal) [] W) →
      Calls C.prog f args W fun e W' => ∃ v, e = .returned v ∧ s.post enc C.prog fn apart fresh handsOn again W args v W') :
    ReturnsInHanded a C os f .any (fun w args => (s.pre enc C.prog fn conds apart w args ∧ X w args) ∧ sizedMet enc C.prog fn (OpenSpec.ofChange s) apart w args) (s.post enc C.prog fn apart fresh handsOn again) := by
  refine returnsInHanded_of_calls own started noInit witness ?_
  intro w tape i _ hsh _ hok hpre hholds
  obtain ⟨_, _, _, fn', hfn', _, _, _, _, hval⟩ := hok
  have e : fn' = fn := Option.some.inj (hfn'.symm.trans hfn)
  subst e
  obtain ⟨⟨⟨ds, gs, before, hw, hc⟩, hx⟩, hz⟩ := hpre
  have hw' := DataW.Whole.of_heap (w' := w.forCall tape i) (by rfl) hw
  refine (contract (w.forCall tape i) w.heap.size i.args ds gs before hval hw' hc (hz.weights hw) (hX _ _ _ (by rfl) hx) hsh hholds).mono fun e W' ⟨v, he, hp⟩ => ?_
  subst he
  exact ChangeSpec.post_blind hp

end Go.Proofs.YtjldfmkpdkhnnaaGreatDoor.Open

namespace Go.Proofs.YtjldfmkpdkhnnaaGreatDoorW.PrintWords
open Go.ChangeShapes Go.WideShapes
theorem sized_ints {H : Type} {enc : TypeId × Value → H} {P : Program} {W : World} {base : Nat} {spare : Nat → Bool} {held : Bool} {t e : TypeId} {k : IntKind} {a : Option Addr} {len cap : Nat} {d : DataW H} {ps : List MemPlace} {ts : List TypeId} {ds : List (DataW H)} {j : Nat}
    (hsz : (DataW.weightsEach P ts ds).all (· ≤ reachBytes) = true) (ht : ts[j]? = some t) (hd : ds[j]? = some d) (hu : P.underlying t = some (.slice e)) (he : P.underlying e = some (.int k)) (hc : P.cellsOf e = 1) {B : Nat} (hB : P.bytesOf e = B)
    (h : DataW.Trod enc P W base spare held t (.slice a len cap) d ps) : len * B ≤ 140737488351232 := by
  obtain ⟨fuel, hf⟩ := h
  rcases open_ints hu he hc hf with ⟨hcs, _⟩ | ⟨x, l, c, zs, hcs, _, hl, _, hz, hx, _, _⟩
  · simp [Value.cells] at hcs
    obtain ⟨rfl, rfl, rfl⟩ := hcs
    simp
  · simp [Value.cells] at hcs
    obtain ⟨rfl, rfl, rfl⟩ := hcs
    obtain ⟨hx, _⟩ := Prod.mk.inj hx
    subst hx
    have z := sized_slice hsz ht hd hu
    rw [hB] at z
    have hl2 : len ≤ zs.length := by
      rw [hz]
      split
      · exact hl
      · exact Nat.le_refl _
    have h1 : (lits (H := H) k (zs.take len)).length + (lits (H := H) k (zs.drop len)).length = zs.length := by
      simp [lits]
      omega
    rw [h1] at z
    exact Nat.le_trans (Nat.mul_le_mul_right _ hl2) z
end Go.Proofs.YtjldfmkpdkhnnaaGreatDoorW.PrintWords

