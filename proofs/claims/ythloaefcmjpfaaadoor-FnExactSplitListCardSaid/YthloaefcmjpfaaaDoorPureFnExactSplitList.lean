/- The program's SplitList returns what the reference's returns, for every text, in new memory (a text of more than 2^20 bytes is let by). -/
import Derived.Test.YthloaefcmjpfaaaDoorWalkFnExactSplitList
import Derived.Test.YthloaefcmjpfaaaDoorDom
namespace Go.Proofs.YthloaefcmjpfaaaDoor.Pure
set_option linter.unusedVariables false
set_option linter.unusedSimpArgs false
open Go.RowKit Go.Proofs.YthloaefcmjpfaaaDoor.QFnExactSplitList Go.Proofs.YthloaefcmjpfaaaDoorW.PrintWords Go.Proofs.YthloaefcmjpfaaaDoorW.PrintLast Go.Proofs.YthloaefcmjpfaaaDoorW.PrintMore Go.Proofs.YthloaefcmjpfaaaDoor.Aux Go.Proofs.YthloaefcmjpfaaaDoor.Dom Go.Proofs.YthloaefcmjpfaaaDoor.Ext

/-! ### laws_eqStringS -/
theorem laws_eqStringS_l0 (l : List ByteArray) (hl : l.length ≤ 9223372036854775806) : ∀ (d : Nat) (i : Int), 0 ≤ i → (l.length : Int) - i = d → Ev (fun k => laws_eqStringS.l0 k l l i) true
  | 0, i, h0, hd => by
    refine ev_last fun k => ?_
    simp only [laws_eqStringS.l0]
    rw [if_neg (by omega)]
  | d + 1, i, h0, hd => by
    have hlt : i < (l.length : Int) := by omega
    refine Ev.step (f := fun k => laws_eqStringS.l0 k l l (i + 1)) (fun k => ?_) (laws_eqStringS_l0 l hl d (i + 1) (by omega) (by omega))
    simp only [laws_eqStringS.l0]
    rw [if_pos hlt, if_pos h0, if_pos hlt, if_pos trivial, wrap_id (by omega) (by omega)]
theorem laws_eqStringS_ev (l : List ByteArray) (hl : l.length ≤ 9223372036854775806) : Ev (fun k => laws_eqStringS.f k l l) true := by
  refine Ev.congr (fun k => by unfold laws_eqStringS.f; rw [if_pos rfl]) ?_
  exact laws_eqStringS_l0 l hl l.length 0 (by omega) (by omega)

/-! ### laws_markText -/
theorem laws_markText_l0 : ∀ (f : Nat) (n : Int) (acc : List Int), n < 10 ^ f → f < 19 → acc.length + f ≤ 100 →
    Ev (fun k => laws_markText.l0 k n (strOfNums acc)) ((⟨#[109]⟩ : ByteArray) ++ strOfNums (decL f n acc))
  | 0, n, acc, hn, hf, ha => by
    refine ev_last fun k => ?_
    simp only [laws_markText.l0]
    rw [if_neg (by simp at hn; omega), if_pos (by rw [strOfNums_size]; omega)]
    rfl
  | f + 1, n, acc, hn, hf, ha => by
    by_cases h : n > 0
    · have hm : (10 : Int) ^ (f + 1) ≤ 10 ^ 18 := pow_le 10 (by decide) (by omega)
      refine Ev.step (f := fun k => laws_markText.l0 k (n / 10) (strOfNums ((48 + n % 10) :: acc))) (fun k => ?_) (ev_eq (laws_markText_l0 f (n / 10) _ (by rw [Int.pow_succ] at hn; omega) (by omega) (by simp; omega)) ?_)
      · simp only [laws_markText.l0, Option.bind_some]
        rw [if_pos h, if_pos (by rw [strOfNums_size, strOfNums_size]; simp; omega), Int.tmod_eq_emod_of_nonneg (by omega), Int.tdiv_eq_ediv_of_nonneg (by omega), wrap_id (x := 48 + n % 10) (by omega) (by omega), wrap_id (by omega) (by omega), Int.emod_eq_of_lt (a := 48 + n % 10) (by omega) (by omega), ← strOfNums_append]
        rfl
      · rw [decL, if_pos h]
    · refine ev_last fun k => ?_
      simp only [laws_markText.l0]
      rw [if_neg h, if_pos (by rw [strOfNums_size]; omega), decL, if_neg h]
theorem laws_markText_ev (n : Int) (hn : n < 10 ^ 18) : Ev (fun k => laws_markText.f k n) (markB n) := by
  unfold markB
  by_cases h : n ≤ 0
  · rw [if_pos h]
    exact ev_some fun k => by unfold laws_markText.f; rw [if_pos h]
  · rw [if_neg h]
    refine Ev.congr (fun k => by unfold laws_markText.f; rw [if_neg h]) ?_
    refine ev_eq (laws_markText_l0 18 n [] hn (by omega) (by simp)) ?_
    have e : decL 20 n [] = decL 18 n [] := decL_more 2 18 n [] hn
    rw [e]

/-! ### laws_markStringS -/
theorem laws_markStringS_l0 : ∀ (d : Nat) (ys zs : List ByteArray) (n i : Int), zs.length = d → (ys.length : Int) = i → i + d ≤ 2097152 → 0 ≤ n → n + d ≤ 10000000 →
    Ev (fun k => laws_markStringS.l0 k (ys ++ zs) n i) (n + d, ys ++ markS d n)
  | 0, ys, zs, n, i, hd, hy, hi, h0, hn => by
    obtain rfl := List.eq_nil_of_length_eq_zero hd
    refine ev_last fun k => ?_
    simp only [laws_markStringS.l0]
    rw [if_neg (by simp; omega)]
    simp [markS]
  | d + 1, ys, [], n, i, hd, hy, hi, h0, hn => by simp at hd
  | d + 1, ys, z :: zs, n, i, hd, hy, hi, h0, hn => by
    have hz : zs.length = d := by simpa using hd
    have i0 : i.toNat = ys.length := by omega
    have hs1 : ∀ v : ByteArray, (ys ++ z :: zs).set i.toNat v = ys ++ v :: zs := fun v => by rw [i0, List.set_append_right _ _ (Nat.le_refl _)]; simp
    have ih := laws_markStringS_l0 d (ys ++ [markB n]) zs (n + 1) (i + 1) hz (by simp; omega) (by omega) (by omega) (by omega)
    refine Ev.step (f := fun k => (laws_markText.f k n).bind fun t1 => laws_markStringS.l0 k (ys ++ t1 :: zs) (n + 1) (i + 1)) (fun k => ?_) (ev_bind (laws_markText_ev n (by omega)) (ev_eq (by simpa using ih) ?_))
    · simp only [laws_markStringS.l0]
      have hi0 : 0 ≤ i := by omega
      rw [if_pos (by simp; omega), wrap_id (x := n + 1) (by omega) (by omega), wrap_id (x := i + 1) (by omega) (by omega)]
      simp only [hi0, if_true, hs1]
    · refine Prod.ext (by simp; omega) ?_
      simp [markS]
theorem laws_markStringS_ev (l : List ByteArray) (hl : l.length ≤ 2097152) : Ev (fun k => laws_markStringS.f k l 1) (1 + (l.length : Int), markS l.length 1) := by
  have h := laws_markStringS_l0 l.length [] l 1 0 rfl (by simp) (by omega) (by omega) (by omega)
  simpa [laws_markStringS.f] using h

/-! ### laws_heldStringS -/
theorem laws_heldStringS_l0 : ∀ (d : Nat) (ys : List ByteArray) (n i : Int), (ys.length : Int) = i → i + d ≤ 2097152 → 0 ≤ n → n + d ≤ 10000000 →
    Ev (fun k => laws_heldStringS.l0 k (ys ++ markS d n) n i) (n + d)
  | 0, ys, n, i, hy, hi, h0, hn => by
    refine ev_last fun k => ?_
    simp only [laws_heldStringS.l0]
    rw [if_neg (by simp [markS]; omega)]
    simp
  | d + 1, ys, n, i, hy, hi, h0, hn => by
    have i0 : i.toNat = ys.length := by omega
    have hr : ∀ (v : ByteArray) (r : List ByteArray), rdOf ByteArray.empty (ys ++ v :: r) i = v := fun v r => by unfold rdOf; rw [i0]; simp [List.getD_eq_getElem?_getD]
    have ih := laws_heldStringS_l0 d (ys ++ [markB n]) (n + 1) (i + 1) (by simp; omega) (by omega) (by omega) (by omega)
    simp only [markS]
    refine Ev.step (f := fun k => (laws_markText.f k n).bind fun t1 => if (markB n).toList = t1.toList then laws_heldStringS.l0 k (ys ++ markB n :: markS d (n + 1)) (n + 1) (i + 1) else some (-1)) (fun k => ?_) (ev_bind (laws_markText_ev n (by omega)) (ev_if_pos rfl (ev_eq (by simpa using ih) (by omega))))
    simp only [laws_heldStringS.l0]
    rw [if_pos (by simp; omega), if_pos (show 0 ≤ i by omega), wrap_id (x := n + 1) (by omega) (by omega), wrap_id (x := i + 1) (by omega) (by omega)]
    simp only [hr]
theorem laws_heldStringS_ev (d : Nat) (hl : d ≤ 2097152) : Ev (fun k => laws_heldStringS.f k (markS d 1) 1) (1 + (d : Int)) := by
  have h := laws_heldStringS_l0 d [] 1 0 (by simp) (by omega) (by omega) (by omega)
  simpa [laws_heldStringS.f] using h

/-! ### spec_Trim -/
theorem spec_l2Blank_eq (c : Int) : spec_l2Blank.f c = some (blkC c) := by
  unfold spec_l2Blank.f blkC
  by_cases h : c = 32
  · rw [if_pos h, decide_eq_true h, Bool.true_or]
  · rw [if_neg h, decide_eq_false h, Bool.false_or]
    congr 1
theorem spec_Trim_l1 : ∀ (d : Nat) (s : ByteArray), s.size = d → d ≤ 2097152 → Ev (fun k => spec_Trim.l1 k s) (strOfNums ((bytesOf s).reverse.dropWhile blkC).reverse)
  | 0, s, h, _ => by
    refine ev_last fun k => ?_
    simp only [spec_Trim.l1]
    rw [if_neg (by omega), bytesOf_nil h]
    congr 1
    rw [← strOfNums_bytesOf s, bytesOf_nil h]
    rfl
  | d + 1, s, h, hd => by
    have hb := bytesOf_last h
    have hw : wrap64 ((s.size : Int) - 1) = (d : Int) := by rw [wrap_id (by omega) (by omega)]; omega
    have er : (bytesOf s).reverse = bt s (d : Int) :: ((bytesOf s).take d).reverse := by
      conv => lhs; rw [hb]
      rw [List.reverse_append, List.reverse_singleton, List.singleton_append]
    by_cases hk : blkC (bt s (d : Int)) = true
    · have hx : bytesOf (s.extract 0 d) = (bytesOf s).take d := by rw [bytesOf_extract, List.drop_zero]
      have ih := spec_Trim_l1 d (s.extract 0 d) (by rw [ByteArray.size_extract]; omega) (by omega)
      rw [hx] at ih
      refine Ev.step (f := fun k => spec_Trim.l1 k (s.extract 0 d)) (fun k => ?_) (ev_eq ih (by rw [er, List.dropWhile_cons_of_pos hk]))
      simp only [spec_Trim.l1, hw]
      rw [if_pos (by omega), if_pos (by omega), if_pos (by omega), spec_l2Blank_eq, hk, Option.bind_some, if_pos rfl, if_pos (by omega), Int.toNat_natCast]
    · refine ev_last fun k => ?_
      simp only [spec_Trim.l1, hw]
      have hk' : blkC (bt s (d : Int)) = false := by simpa using hk
      rw [if_pos (by omega), if_pos (by omega), if_pos (by omega), spec_l2Blank_eq, hk', Option.bind_some, if_neg (by decide), er, List.dropWhile_cons_of_neg hk, ← er, List.reverse_reverse, strOfNums_bytesOf]
theorem spec_Trim_l0 : ∀ (d : Nat) (s : ByteArray), s.size = d → d ≤ 2097152 → Ev (fun k => spec_Trim.l0 k s) (strOfNums (((bytesOf s).dropWhile blkC).reverse.dropWhile blkC).reverse)
  | 0, s, h, hd => by
    refine Ev.step (f := fun k => spec_Trim.j1 k s) (fun k => ?_) (Ev.step (f := fun k => spec_Trim.l1 k s) (fun k => by simp only [spec_Trim.j1]) (ev_eq (spec_Trim_l1 0 s h hd) (by rw [bytesOf_nil h]; rfl)))
    simp only [spec_Trim.l0]
    rw [if_neg (by omega)]
  | d + 1, s, h, hd => by
    have er : bytesOf s = bt s 0 :: (bytesOf s).drop 1 := drop_bt (s := s) (i := 0) (by omega) (by omega)
    by_cases hk : blkC (bt s 0) = true
    · have hx : bytesOf (s.extract 1 s.size) = (bytesOf s).drop 1 := by rw [bytesOf_extract, List.take_of_length_le (by rw [bytesOf_length]; omega)]
      have ih := spec_Trim_l0 d (s.extract 1 s.size) (by rw [ByteArray.size_extract]; omega) (by omega)
      rw [hx] at ih
      refine Ev.step (f := fun k => spec_Trim.l0 k (s.extract 1 s.size)) (fun k => ?_) (ev_eq ih (by conv => rhs; rw [er, List.dropWhile_cons_of_pos hk]))
      simp only [spec_Trim.l0]
      rw [if_pos (by omega), if_pos (by omega), spec_l2Blank_eq, hk, Option.bind_some, if_pos rfl, if_pos (by omega)]
    · have hk' : blkC (bt s 0) = false := by simpa using hk
      refine Ev.step (f := fun k => spec_Trim.j1 k s) (fun k => ?_) (Ev.step (f := fun k => spec_Trim.l1 k s) (fun k => by simp only [spec_Trim.j1]) (ev_eq (spec_Trim_l1 (d + 1) s h hd) (by conv => rhs; rw [er, List.dropWhile_cons_of_neg hk, ← er])))
      simp only [spec_Trim.l0]
      rw [if_pos (by omega), if_pos (by omega), spec_l2Blank_eq, hk', Option.bind_some, if_neg (by decide)]
theorem spec_Trim_ev (s : ByteArray) (hs : s.size ≤ 2097152) : Ev (fun k => spec_Trim.f k s) (trimB s) := by
  have h := spec_Trim_l0 s.size s rfl hs
  rw [← dropWhile_ends] at h
  exact h

/-! ### spec_SplitList -/
/-- The end of the text reached by a jump. -/
theorem spec_SplitList_over (s : ByteArray) (hs : s.size ≤ 2097152) (acc : List ByteArray) (a : Int) (h0 : 0 ≤ a) (ha : a < (s.size : Int)) (hacc : (acc.length : Int) ≤ s.size) :
    Ev (fun k => spec_SplitList.l0 k s acc a true ((s.size : Int) + 1)) (acc ++ splL s a [(s.size : Int)]) := by
  have ht := spec_Trim_ev (s.extract a.toNat s.size) (by rw [ByteArray.size_extract]; omega)
  refine Ev.step (f := fun k => spec_SplitList.j5 k s acc a true) (fun k => ?_) (Ev.step (f := fun k => (spec_Trim.f k (s.extract a.toNat s.size)).bind fun t => if t.toList = ([] : List UInt8) then some acc else if acc.length < 8796093022208 then some (acc ++ [t]) else none) (fun k => ?_) (ev_bind ht ?_))
  · simp only [spec_SplitList.l0]
    rw [if_neg (by omega), if_pos ha]
  · simp only [spec_SplitList.j5]
    rw [if_pos trivial, if_pos h0, if_pos (by omega)]
  · simp only [splL, Int.toNat_natCast]
    by_cases he : trimB (s.extract a.toNat s.size) = ⟨#[]⟩
    · rw [if_pos he]
      exact ev_if_pos ((trim_nil _).2 he) (ev_eq (Ev.now _) (by simp))
    · rw [if_neg he]
      exact ev_if_neg (fun h => he ((trim_nil _).1 h)) (ev_if_pos (by omega) (Ev.now _))
/-- A part is taken. -/
theorem spec_SplitList_take (s : ByteArray) (hs : s.size ≤ 2097152) (acc : List ByteArray) (a i : Int) (q : Bool) (h0 : 0 ≤ a) (ha : a ≤ i) (hi : i ≤ (s.size : Int)) (hacc : (acc.length : Int) ≤ i) (R : List Int)
    (h : ∀ acc' : List ByteArray, (acc'.length : Int) ≤ i + 1 → Ev (fun k => spec_SplitList.l0 k s acc' (i + 1) q (i + 1)) (acc' ++ splL s (i + 1) R)) :
    Ev (fun k => spec_SplitList.j4 k s acc a q i true) (acc ++ splL s a (i :: R)) := by
  have ht := spec_Trim_ev (s.extract a.toNat i.toNat) (by rw [ByteArray.size_extract]; omega)
  have w1 : wrap64 (i + 1) = i + 1 := wrap_id (by omega) (by omega)
  have hm : mn i (s.size : Int) = i := by unfold mn; split <;> omega
  refine Ev.step (f := fun k => (spec_Trim.f k (s.extract a.toNat i.toNat)).bind fun t => if t.toList = ([] : List UInt8) then spec_SplitList.l0 k s acc (i + 1) q (i + 1) else if acc.length < 8796093022208 then spec_SplitList.l0 k s (acc ++ [t]) (i + 1) q (i + 1) else none) (fun k => ?_) (ev_bind ht ?_)
  · simp only [spec_SplitList.j4, hm, w1]
    rw [if_pos (by trivial), if_pos h0, if_pos ha, if_pos hi]
  · rw [splL]
    by_cases he : trimB (s.extract a.toNat i.toNat) = ⟨#[]⟩
    · rw [if_pos he]
      exact ev_if_pos ((trim_nil _).2 he) (h acc (by omega))
    · rw [if_neg he]
      exact ev_if_neg (fun h => he ((trim_nil _).1 h)) (ev_if_pos (by omega) (ev_eq (h (acc ++ [trimB (s.extract a.toNat i.toNat)]) (by simp; omega)) (by simp)))
theorem spec_SplitList_l0 (s : ByteArray) (hs : s.size ≤ 2097152) : ∀ (d : Nat) (acc : List ByteArray) (a : Int) (q : Bool) (i : Int), 0 ≤ a → a ≤ i → (s.size : Int) - i ≤ d → (acc.length : Int) ≤ i → i ≤ (s.size : Int) →
    Ev (fun k => spec_SplitList.l0 k s acc a q i) (acc ++ splL s a (comL ((bytesOf s).drop i.toNat) q false i ++ [(s.size : Int)])) := by
  intro d
  induction d with
  | zero =>
    intro acc a q i h0 ha hd hacc hi
    have hie : i = (s.size : Int) := by omega
    subst hie
    rw [drop_end (by omega)]
    simp only [comL, List.nil_append]
    refine Ev.step (f := fun k => spec_SplitList.j1 k s acc a q (s.size : Int) false) (fun k => ?_) (Ev.step (f := fun k => spec_SplitList.j2 k s acc a q (s.size : Int)) (fun k => ?_) (Ev.step (f := fun k => spec_SplitList.j3 k s acc a q (s.size : Int) false) (fun k => ?_) (Ev.step (f := fun k => spec_SplitList.j4 k s acc a q (s.size : Int) true) (fun k => ?_) (spec_SplitList_take s hs acc a (s.size : Int) q h0 ha (by omega) hacc [] ?_))))
    · simp only [spec_SplitList.l0]
      rw [if_pos (by omega), if_neg (by omega)]
    · simp only [spec_SplitList.j1]
      rw [if_neg (by decide)]
    · simp only [spec_SplitList.j2]
      rw [if_neg (by omega)]
    · simp only [spec_SplitList.j3]
      rw [if_neg (by decide), if_pos (by omega)]
    · intro acc' _
      refine Ev.step (f := fun k => spec_SplitList.j5 k s acc' ((s.size : Int) + 1) false) (fun k => ?_) (ev_last fun k => ?_)
      · simp only [spec_SplitList.l0]
        rw [if_neg (by omega), if_neg (by omega)]
      · simp only [spec_SplitList.j5]
        rw [if_neg (by decide)]
        simp [splL]
  | succ d ih =>
    intro acc a q i h0 ha hd hacc hi
    by_cases hlt : i < (s.size : Int)
    · rw [drop_bt (by omega) hlt]
      have hi0 : 0 ≤ i := by omega
      have w1 : wrap64 (i + 1) = i + 1 := wrap_id (by omega) (by omega)
      have w2 : wrap64 (i + 1 + 1) = i + 2 := by rw [wrap_id (by omega) (by omega)]; omega
      -- the quotes
      have hq1 : ∀ r, Ev (fun k => spec_SplitList.j2 k s acc a (if bt s i = 34 then !q else q) i) r → Ev (fun k => spec_SplitList.l0 k s acc a q i) r := by
        intro r hr
        by_cases h34 : bt s i = 34
        · rw [if_pos h34] at hr
          refine Ev.step (f := fun k => spec_SplitList.j1 k s acc a q i true) (fun k => ?_) (Ev.step (f := fun k => spec_SplitList.j2 k s acc a (!q) i) (fun k => ?_) hr)
          · simp only [spec_SplitList.l0]
            rw [if_pos hi, if_pos hlt, if_pos hi0, h34]
            rfl
          · simp only [spec_SplitList.j1]
            rw [if_pos (by trivial)]
        · rw [if_neg h34] at hr
          have e : (bt s i == 34) = false := by rw [beq_eq_false_iff_ne]; exact h34
          refine Ev.step (f := fun k => spec_SplitList.j1 k s acc a q i false) (fun k => ?_) (Ev.step (f := fun k => spec_SplitList.j2 k s acc a q i) (fun k => ?_) hr)
          · simp only [spec_SplitList.l0]
            rw [if_pos hi, if_pos hlt, if_pos hi0, e]
          · simp only [spec_SplitList.j1]
            rw [if_neg (by decide)]
      -- no escape
      have hj3 : ∀ (q' : Bool) r, ¬(q' = true ∧ bt s i = 92) → Ev (fun k => spec_SplitList.j3 k s acc a q' i false) r → Ev (fun k => spec_SplitList.j2 k s acc a q' i) r := by
        intro q' r hn hr
        refine Ev.step (f := fun k => spec_SplitList.j3 k s acc a q' i false) (fun k => ?_) hr
        simp only [spec_SplitList.j2]
        rw [if_pos hlt]
        by_cases hq : q' = true
        · have e : (bt s i == 92) = false := by rw [beq_eq_false_iff_ne]; exact fun h => hn ⟨hq, h⟩
          rw [if_pos hq, if_pos hi0, e]
        · rw [if_neg hq]
      have hgo : ∀ (q' : Bool), bt s i ≠ 44 ∨ q' = true → Ev (fun k => spec_SplitList.j3 k s acc a q' i false) (acc ++ splL s a (comL ((bytesOf s).drop (i + 1).toNat) q' false (i + 1) ++ [(s.size : Int)])) := by
        intro q' hn
        refine Ev.step (f := fun k => spec_SplitList.j4 k s acc a q' i false) (fun k => ?_) (Ev.step (f := fun k => spec_SplitList.l0 k s acc a q' (i + 1)) (fun k => ?_) (ih acc a q' (i + 1) h0 (by omega) (by omega) (by omega) (by omega)))
        · simp only [spec_SplitList.j3]
          rw [if_neg (by decide), if_neg (by omega), if_pos hi0, if_pos hlt]
          by_cases h44 : bt s i = 44
          · rw [if_pos h44]
            rcases hn with hn | hn
            · exact absurd h44 hn
            · rw [hn]; rfl
          · rw [if_neg h44]
        · simp only [spec_SplitList.j4]
          rw [if_neg (by decide), w1]
      refine hq1 _ ?_
      rw [comL]
      by_cases h34 : bt s i = 34
      · rw [if_pos h34, if_pos h34]
        exact hj3 _ _ (fun h => by have := h.2; omega) (hgo _ (.inl (by omega)))
      · rw [if_neg h34, if_neg h34]
        by_cases hesc : q = true ∧ bt s i = 92
        · rw [if_pos hesc]
          obtain ⟨rfl, h92⟩ := hesc
          refine Ev.step (f := fun k => spec_SplitList.j3 k s acc a true i true) (fun k => ?_) (Ev.step (f := fun k => spec_SplitList.l0 k s acc a true (i + 2)) (fun k => ?_) ?_)
          · simp only [spec_SplitList.j2]
            rw [if_pos hlt, if_pos (by trivial), if_pos hi0, h92]
            rfl
          · simp only [spec_SplitList.j3]
            rw [if_pos (by trivial), w1, w2]
          · by_cases h2 : i + 1 < (s.size : Int)
            · rw [drop_bt (by omega) h2, comL, show i + 1 + 1 = i + 2 by omega]
              exact ih acc a true (i + 2) h0 (by omega) (by omega) (by omega) (by omega)
            · rw [drop_end (by omega)]
              simp only [comL, List.nil_append]
              have e : i + 2 = (s.size : Int) + 1 := by omega
              rw [e]
              exact spec_SplitList_over s hs acc a h0 (by omega) (by omega)
        · rw [if_neg hesc]
          refine hj3 _ _ hesc ?_
          by_cases hc : q = false ∧ bt s i = 44
          · rw [if_pos hc]
            obtain ⟨rfl, h44⟩ := hc
            rw [List.cons_append]
            refine Ev.step (f := fun k => spec_SplitList.j4 k s acc a false i true) (fun k => ?_) (spec_SplitList_take s hs acc a i false h0 ha hi hacc _ fun acc' hacc' => ih acc' (i + 1) false (i + 1) (by omega) (by omega) (by omega) (by omega) (by omega))
            simp only [spec_SplitList.j3]
            rw [if_neg (by decide), if_neg (by omega), if_pos hi0, if_pos hlt, if_pos h44]
            rfl
          · rw [if_neg hc]
            refine hgo q ?_
            cases q with
            | true => exact .inr rfl
            | false => exact .inl fun h => hc ⟨rfl, h⟩
    · exact ih acc a q i h0 ha (by omega) hacc hi
theorem spec_SplitList_ev (s : ByteArray) (hs : s.size ≤ 2097152) : Ev (fun k => spec_SplitList.f k s) (splL s 0 (comL (bytesOf s) false false 0 ++ [(s.size : Int)])) := by
  have h := spec_SplitList_l0 s hs s.size [] 0 false 0 (by omega) (by omega) (by omega) (by simp) (by omega)
  simpa [spec_SplitList.f] using h

/-! ### impl_Trim -/
theorem impl_Trim_eq (s : ByteArray) (hs : s.size ≤ 2097152) : impl_Trim.f s = some (trimB s) := by
  unfold impl_Trim.f strings_Trim.f
  rw [if_pos ⟨hs, rfl⟩, Option.bind_some]

/-! ### impl_commas -/
theorem impl_commas_l0 (s : ByteArray) (hs : s.size ≤ 2097152) : ∀ (d : Nat) (acc : List Int) (q : Bool) (i : Int), 0 ≤ i → (s.size : Int) - i ≤ d → (acc.length : Int) ≤ i → i ≤ (s.size : Int) + 1 →
    Ev (fun k => impl_commas.l0 k s acc q i) (acc ++ comL ((bytesOf s).drop i.toNat) q false i)
  | 0, acc, q, i, h0, hd, ha, hi => by
    refine ev_last fun k => ?_
    simp only [impl_commas.l0]
    rw [if_neg (by omega), drop_end (by omega)]
    simp [comL]
  | d + 1, acc, q, i, h0, hd, ha, hi => by
    by_cases hlt : i < (s.size : Int)
    · rw [drop_bt h0 hlt]
      have w1 : wrap64 (i + 1) = i + 1 := wrap_id (by omega) (by omega)
      have w2 : wrap64 (i + 1 + 1) = i + 2 := by rw [wrap_id (by omega) (by omega)]; omega
      by_cases h34 : bt s i = 34
      · refine Ev.step (f := fun k => impl_commas.l0 k s acc (!q) (i + 1)) (fun k => ?_) (ev_eq (impl_commas_l0 s hs d acc (!q) (i + 1) (by omega) (by omega) (by omega) (by omega)) (by rw [comL, if_pos h34]))
        simp only [impl_commas.l0]
        rw [if_pos hlt, if_pos h0, if_pos h34, w1]
      · by_cases hq : q = true
        · subst hq
          by_cases h92 : bt s i = 92
          · refine Ev.step (f := fun k => impl_commas.j1 k s acc true i true) (fun k => ?_) (Ev.step (f := fun k => impl_commas.l0 k s acc true (i + 2)) (fun k => ?_) (ev_eq (impl_commas_l0 s hs d acc true (i + 2) (by omega) (by omega) (by omega) (by omega)) ?_))
            · simp only [impl_commas.l0]
              rw [if_pos hlt, if_pos h0, if_neg h34, if_pos (by trivial), h92]
              rfl
            · simp only [impl_commas.j1]
              rw [if_pos (by trivial), w1, w2]
            · rw [comL, if_neg h34, if_pos ⟨rfl, h92⟩]
              by_cases h2 : i + 1 < (s.size : Int)
              · rw [drop_bt (by omega) h2, comL, show i + 1 + 1 = i + 2 by omega]
              · rw [drop_end (by omega), drop_end (by omega)]
                simp [comL]
          · refine Ev.step (f := fun k => impl_commas.j1 k s acc true i false) (fun k => ?_) (Ev.step (f := fun k => impl_commas.l0 k s acc true (i + 1)) (fun k => ?_) (ev_eq (impl_commas_l0 s hs d acc true (i + 1) (by omega) (by omega) (by omega) (by omega)) ?_))
            · simp only [impl_commas.l0]
              have e : (bt s i == 92) = false := by rw [beq_eq_false_iff_ne]; exact h92
              rw [if_pos hlt, if_pos h0, if_neg h34, if_pos (by trivial), e]
            · simp only [impl_commas.j1]
              rw [if_neg (by decide), if_pos (by trivial), w1]
            · rw [comL, if_neg h34, if_neg (fun h => h92 h.2), if_neg (fun h => by simp at h)]
        · have hq' : q = false := by simpa using hq
          subst hq'
          by_cases h44 : bt s i = 44
          · refine Ev.step (f := fun k => impl_commas.j1 k s acc false i false) (fun k => ?_) (Ev.step (f := fun k => impl_commas.l0 k s (acc ++ [i]) false (i + 1)) (fun k => ?_) (ev_eq (impl_commas_l0 s hs d (acc ++ [i]) false (i + 1) (by omega) (by omega) (by simp; omega) (by omega)) ?_))
            · simp only [impl_commas.l0]
              rw [if_pos hlt, if_pos h0, if_neg h34, if_neg (by decide)]
            · simp only [impl_commas.j1]
              rw [if_neg (by decide), if_neg (by decide), if_pos h0, if_pos hlt, if_pos h44, if_pos (by omega), w1]
            · rw [comL, if_neg h34, if_neg (fun h => by simp at h), if_pos ⟨rfl, h44⟩]
              simp
          · refine Ev.step (f := fun k => impl_commas.j1 k s acc false i false) (fun k => ?_) (Ev.step (f := fun k => impl_commas.l0 k s acc false (i + 1)) (fun k => ?_) (ev_eq (impl_commas_l0 s hs d acc false (i + 1) (by omega) (by omega) (by omega) (by omega)) ?_))
            · simp only [impl_commas.l0]
              rw [if_pos hlt, if_pos h0, if_neg h34, if_neg (by decide)]
            · simp only [impl_commas.j1]
              rw [if_neg (by decide), if_neg (by decide), if_pos h0, if_pos hlt, if_neg h44, w1]
            · rw [comL, if_neg h34, if_neg (fun h => by simp at h), if_neg (fun h => h44 h.2)]
    · refine ev_last fun k => ?_
      simp only [impl_commas.l0]
      rw [if_neg (by omega), drop_end (by omega)]
      simp [comL]
theorem impl_commas_ev (s : ByteArray) (hs : s.size ≤ 2097152) : Ev (fun k => impl_commas.f k s) (comL (bytesOf s) false false 0) := by
  have h := impl_commas_l0 s hs s.size [] false 0 (by omega) (by omega) (by simp) (by omega)
  simpa [impl_commas.f] using h

/-! ### impl_SplitList -/
theorem impl_SplitList_l0 (s : ByteArray) (hs : s.size ≤ 2097152) (L : List Int) (hL : L.length ≤ 2097153) : ∀ (d : Nat) (acc : List ByteArray) (a : Int) (j : Int), 0 ≤ j → (L.length : Int) - j = d → (acc.length : Int) ≤ j → 0 ≤ a → upL s.size a (L.drop j.toNat) →
    Ev (fun k => impl_SplitList.l0 k s acc a L (L.length : Int) j) (acc ++ splL s a (L.drop j.toNat))
  | 0, acc, a, j, h0, hd, ha, ha0, hu => by
    refine ev_last fun k => ?_
    simp only [impl_SplitList.l0]
    rw [if_neg (by omega), drop_nil (by omega)]
    simp [splL]
  | d + 1, acc, a, j, h0, hd, ha, ha0, hu => by
    have hlt : j < (L.length : Int) := by omega
    have hdrop : L.drop j.toNat = rd L j :: L.drop (j + 1).toNat := drop_rdOf (d := 0) h0 hlt
    rw [hdrop] at hu ⊢
    obtain ⟨u1, u2, u3⟩ := hu
    have w1 : wrap64 (rd L j + 1) = rd L j + 1 := wrap_id (by omega) (by omega)
    have w2 : wrap64 (j + 1) = j + 1 := wrap_id (by omega) (by omega)
    have ht := impl_Trim_eq (s.extract a.toNat (rd L j).toNat) (by rw [ByteArray.size_extract]; omega)
    by_cases he : trimB (s.extract a.toNat (rd L j).toNat) = ⟨#[]⟩
    · refine Ev.step (f := fun k => impl_SplitList.l0 k s acc (rd L j + 1) L (L.length : Int) (j + 1)) (fun k => ?_) (ev_eq (impl_SplitList_l0 s hs L hL d acc (rd L j + 1) (j + 1) (by omega) (by omega) (by omega) (by omega) u3) (by rw [splL, if_pos he]))
      simp only [impl_SplitList.l0]
      rw [if_pos hlt, if_pos h0, if_pos hlt, if_pos ha0, if_pos u1, if_pos u2, ht, Option.bind_some, if_pos ((trim_nil _).2 he), w1, w2]
    · refine Ev.step (f := fun k => impl_SplitList.l0 k s (acc ++ [trimB (s.extract a.toNat (rd L j).toNat)]) (rd L j + 1) L (L.length : Int) (j + 1)) (fun k => ?_) (ev_eq (impl_SplitList_l0 s hs L hL d _ (rd L j + 1) (j + 1) (by omega) (by omega) (by simp; omega) (by omega) u3) (by rw [splL, if_neg he]; simp))
      simp only [impl_SplitList.l0]
      rw [if_pos hlt, if_pos h0, if_pos hlt, if_pos ha0, if_pos u1, if_pos u2, ht, Option.bind_some, if_neg (fun h => he ((trim_nil _).1 h)), if_pos (by omega), w1, w2]
theorem impl_SplitList_ev (s : ByteArray) (hs : s.size ≤ 2097152) : Ev (fun k => impl_SplitList.f k s) (splL s 0 (comL (bytesOf s) false false 0 ++ [(s.size : Int)])) := by
  have hc := comL_length (bytesOf s) false false 0
  rw [bytesOf_length] at hc
  have hu := comL_up (s.size : Int) (bytesOf s) false false 0 0 (by omega) (by rw [bytesOf_length]; omega)
  refine Ev.congr (fun k => by unfold impl_SplitList.f; rfl) (ev_bind (impl_commas_ev s hs) ?_)
  refine ev_if_pos (show (comL (bytesOf s) false false 0).length < 17592186044416 by omega) ?_
  refine Ev.congr (fun k => by rw [Option.bind_some]) ?_
  have h := impl_SplitList_l0 s hs (comL (bytesOf s) false false 0 ++ [(s.size : Int)]) (by simp; omega) (comL (bytesOf s) false false 0 ++ [(s.size : Int)]).length [] 0 0 (by omega) (by omega) (by simp) (by omega) (by simpa using hu)
  exact h

theorem FnExactSplitList : laws_FnExactSplitList.Pure := by
  intro s _
  by_cases h : (s.size : Int) > 1048576
  · exact ⟨0, by unfold laws_FnExactSplitList.f; rw [if_pos h]⟩
  refine Ev.rounds (Ev.congr (fun k => by unfold laws_FnExactSplitList.f; rw [if_neg h]) ?_)
  have sp := spec_SplitList_ev s (by omega)
  have im := impl_SplitList_ev s (by omega)
  have hl := splL_length s (comL (bytesOf s) false false 0 ++ [(s.size : Int)]) 0
  have hc := comL_length (bytesOf s) false false 0
  rw [bytesOf_length] at hc
  rw [List.length_append, List.length_singleton] at hl
  generalize splL s 0 (comL (bytesOf s) false false 0 ++ [(s.size : Int)]) = L at sp im hl
  have eq := laws_eqStringS_ev L (by omega)
  have mk := laws_markStringS_ev L (by omega)
  have hd := laws_heldStringS_ev L.length (by omega)
  have hlt : ¬ (1 + (L.length : Int) < 0) := by omega
  exact ev_bind sp (ev_bind im (ev_bind eq (ev_if_pos rfl (ev_bind mk (ev_bind hd (ev_if_neg hlt (ev_if_pos rfl (ev_bind im (ev_bind eq (ev_if_pos rfl (ev_bind hd (ev_if_neg hlt (ev_if_pos rfl (Ev.now _))))))))))))))

end Go.Proofs.YthloaefcmjpfaaaDoor.Pure
