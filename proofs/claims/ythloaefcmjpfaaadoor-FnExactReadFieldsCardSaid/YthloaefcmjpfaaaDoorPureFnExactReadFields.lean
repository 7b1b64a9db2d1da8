/- The program's ReadFields returns what the reference's returns, for every text, in new memory (a text of more than 2^20 bytes is let by). -/
import Derived.Test.YthloaefcmjpfaaaDoorWalkFnExactReadFields
import Derived.Test.YthloaefcmjpfaaaDoorDom
namespace Go.Proofs.YthloaefcmjpfaaaDoor.Pure
set_option linter.unusedVariables false
set_option linter.unusedSimpArgs false
open Go.RowKit Go.Proofs.YthloaefcmjpfaaaDoor.QFnExactReadFields Go.Proofs.YthloaefcmjpfaaaDoorW.PrintWords Go.Proofs.YthloaefcmjpfaaaDoorW.PrintLast Go.Proofs.YthloaefcmjpfaaaDoorW.PrintMore Go.Proofs.YthloaefcmjpfaaaDoor.Aux Go.Proofs.YthloaefcmjpfaaaDoor.Dom Go.Proofs.YthloaefcmjpfaaaDoor.Ext

/-! ### laws_eqFieldS -/
theorem laws_eqFieldS_l0 (l : List S77) (hl : l.length ≤ 9223372036854775806) : ∀ (d : Nat) (i : Int), 0 ≤ i → (l.length : Int) - i = d → Ev (fun k => laws_eqFieldS.l0 k l l i) true
  | 0, i, h0, hd => by
    refine ev_last fun k => ?_
    simp only [laws_eqFieldS.l0]
    rw [if_neg (by omega)]
  | d + 1, i, h0, hd => by
    have hlt : i < (l.length : Int) := by omega
    refine Ev.step (f := fun k => laws_eqFieldS.l0 k l l (i + 1)) (fun k => ?_) (laws_eqFieldS_l0 l hl d (i + 1) (by omega) (by omega))
    simp only [laws_eqFieldS.l0, laws_eqField.f]
    rw [if_pos hlt, if_pos h0, if_pos hlt]
    simp only [if_true, Option.bind_some]
    rw [wrap_id (by omega) (by omega)]
/-- Two that are one are alike. -/
theorem laws_eqFieldS_ev (l : List S77) (hl : l.length ≤ 9223372036854775806) : Ev (fun k => laws_eqFieldS.f k l l) true := by
  refine Ev.congr (fun k => by unfold laws_eqFieldS.f; rw [if_pos rfl]) ?_
  exact laws_eqFieldS_l0 l hl l.length 0 (by omega) (by omega)

/-! ### laws_markText -/
theorem laws_markText_l0 : ∀ (f : Nat) (n : Int) (acc : List Int), n < 10 ^ f → f < 19 → acc.length + f ≤ 100 →
    Ev (fun k => laws_markText.l0 k n (strOfNums acc)) ((⟨#[109]⟩ : ByteArray) ++ strOfNums (decL f n acc))
  | 0, n, acc, hn, hf, ha => by
    refine ev_last fun k => ?_
    simp only [laws_markText.l0]
    rw [if_neg (by simp at hn; omega), if_pos (by rw [strOfNums_size]; omega)]
    rfl
  | f + 1, n, acc, hn, hf, ha => by
    by_cases h : n > 0
    · have hm : (10 : Int) ^ (f + 1) ≤ 10 ^ 18 := pow_le 10 (by decide) (by omega)
      refine Ev.step (f := fun k => laws_markText.l0 k (n / 10) (strOfNums ((48 + n % 10) :: acc))) (fun k => ?_) (ev_eq (laws_markText_l0 f (n / 10) _ (by rw [Int.pow_succ] at hn; omega) (by omega) (by simp; omega)) ?_)
      · simp only [laws_markText.l0, Option.bind_some]
        rw [if_pos h, if_pos (by rw [strOfNums_size, strOfNums_size]; simp; omega), Int.tmod_eq_emod_of_nonneg (by omega), Int.tdiv_eq_ediv_of_nonneg (by omega), wrap_id (x := 48 + n % 10) (by omega) (by omega), wrap_id (by omega) (by omega), Int.emod_eq_of_lt (a := 48 + n % 10) (by omega) (by omega), ← strOfNums_append]
        rfl
      · rw [decL, if_pos h]
    · refine ev_last fun k => ?_
      simp only [laws_markText.l0]
      rw [if_neg h, if_pos (by rw [strOfNums_size]; omega), decL, if_neg h]
theorem laws_markText_ev (n : Int) (hn : n < 10 ^ 18) : Ev (fun k => laws_markText.f k n) (markB n) := by
  unfold markB
  by_cases h : n ≤ 0
  · rw [if_pos h]
    exact ev_some fun k => by unfold laws_markText.f; rw [if_pos h]
  · rw [if_neg h]
    refine Ev.congr (fun k => by unfold laws_markText.f; rw [if_neg h]) ?_
    refine ev_eq (laws_markText_l0 18 n [] hn (by omega) (by simp)) ?_
    have e : decL 20 n [] = decL 18 n [] := decL_more 2 18 n [] hn
    rw [e]

/-! ### laws_markFieldS -/
theorem laws_markFieldS_l0 : ∀ (d : Nat) (ys zs : List S77) (n i : Int), zs.length = d → (ys.length : Int) = i → i + d ≤ 2097152 → 0 ≤ n → n + 2 * d ≤ 10000000 →
    Ev (fun k => laws_markFieldS.l0 k (ys ++ zs) n i) (n + 2 * d, ys ++ (markF (zs.map fun x => (x.f0, x.f1)) n).map fun p => (⟨p.1, p.2⟩ : S77))
  | 0, ys, zs, n, i, hd, hy, hi, h0, hn => by
    obtain rfl := List.eq_nil_of_length_eq_zero hd
    refine ev_last fun k => ?_
    simp only [laws_markFieldS.l0]
    rw [if_neg (by simp; omega)]
    simp [markF]
  | d + 1, ys, [], n, i, hd, hy, hi, h0, hn => by simp at hd
  | d + 1, ys, z :: zs, n, i, hd, hy, hi, h0, hn => by
    have hz : zs.length = d := by simpa using hd
    have i0 : i.toNat = ys.length := by omega
    have hs1 : ∀ v : S77, (ys ++ z :: zs).set i.toNat v = ys ++ v :: zs := fun v => by rw [i0, List.set_append_right _ _ (Nat.le_refl _)]; simp
    have hs2 : ∀ v v' : S77, (ys ++ v' :: zs).set i.toNat v = ys ++ v :: zs := fun v v' => by rw [i0, List.set_append_right _ _ (Nat.le_refl _)]; simp
    have hr : ∀ v : S77, rd_T77 (ys ++ v :: zs) i = v := fun v => by unfold rd_T77; rw [i0]; simp [List.getD_eq_getElem?_getD]
    have ih := laws_markFieldS_l0 d (ys ++ [(⟨markB n, markB (n + 1)⟩ : S77)]) zs (n + 2) (i + 1) hz (by simp; omega) (by omega) (by omega) (by omega)
    refine Ev.step (f := fun k => (laws_markText.f k n).bind fun t1 => (laws_markText.f k (n + 1)).bind fun t2 => laws_markFieldS.l0 k (ys ++ (⟨t1, t2⟩ : S77) :: zs) (n + 2) (i + 1)) (fun k => ?_) (ev_bind (laws_markText_ev n (by omega)) (ev_bind (laws_markText_ev (n + 1) (by omega)) (ev_eq (by simpa using ih) ?_)))
    · simp only [laws_markFieldS.l0]
      have hi0 : 0 ≤ i := by omega
      rw [if_pos (by simp; omega), wrap_id (x := n + 1) (by omega) (by omega), wrap_id (x := n + 1 + 1) (by omega) (by omega), wrap_id (x := i + 1) (by omega) (by omega), show n + 1 + 1 = n + 2 by omega]
      simp only [hi0, if_true, Option.bind_some, hs1, hs2, hr]
    · refine Prod.ext (by simp; omega) ?_
      simp [markF]
theorem laws_markFieldS_ev (l : List S77) (hl : l.length ≤ 2097152) : Ev (fun k => laws_markFieldS.f k l 1) (1 + 2 * (l.length : Int), (markF (l.map fun x => (x.f0, x.f1)) 1).map fun p => (⟨p.1, p.2⟩ : S77)) := by
  have h := laws_markFieldS_l0 l.length [] l 1 0 rfl (by simp) (by omega) (by omega) (by omega)
  simpa [laws_markFieldS.f] using h

/-! ### laws_heldFieldS -/
theorem laws_heldFieldS_l0 : ∀ (d : Nat) (ys : List S77) (zs : List (ByteArray × ByteArray)) (n i : Int), zs.length = d → (ys.length : Int) = i → i + d ≤ 2097152 → 0 ≤ n → n + 2 * d ≤ 10000000 →
    Ev (fun k => laws_heldFieldS.l0 k (ys ++ (markF zs n).map fun p => (⟨p.1, p.2⟩ : S77)) n i) (n + 2 * d)
  | 0, ys, zs, n, i, hd, hy, hi, h0, hn => by
    obtain rfl := List.eq_nil_of_length_eq_zero hd
    refine ev_last fun k => ?_
    simp only [laws_heldFieldS.l0]
    rw [if_neg (by simp [markF]; omega)]
    simp
  | d + 1, ys, [], n, i, hd, hy, hi, h0, hn => by simp at hd
  | d + 1, ys, z :: zs, n, i, hd, hy, hi, h0, hn => by
    have hz : zs.length = d := by simpa using hd
    have i0 : i.toNat = ys.length := by omega
    have hr : ∀ (v : S77) (r : List S77), rd_T77 (ys ++ v :: r) i = v := fun v r => by unfold rd_T77; rw [i0]; simp [List.getD_eq_getElem?_getD]
    have ih := laws_heldFieldS_l0 d (ys ++ [(⟨markB n, markB (n + 1)⟩ : S77)]) zs (n + 2) (i + 1) hz (by simp; omega) (by omega) (by omega) (by omega)
    simp only [markF, List.map_cons]
    refine Ev.step (f := fun k => (laws_markText.f k n).bind fun t1 => if (markB n).toList = t1.toList then (laws_markText.f k (n + 1)).bind (fun t2 => if (markB (n + 1)).toList = t2.toList then laws_heldFieldS.l0 k (ys ++ (⟨markB n, markB (n + 1)⟩ : S77) :: ((markF zs (n + 2)).map fun p => (⟨p.1, p.2⟩ : S77))) (n + 2) (i + 1) else some (-1)) else some (-1)) (fun k => ?_) (ev_bind (laws_markText_ev n (by omega)) (ev_if_pos rfl (ev_bind (laws_markText_ev (n + 1) (by omega)) (ev_if_pos rfl (ev_eq (by simpa using ih) (by omega))))))
    simp only [laws_heldFieldS.l0]
    rw [if_pos (by simp; omega), if_pos (show 0 ≤ i by omega), wrap_id (x := n + 1) (by omega) (by omega), wrap_id (x := n + 1 + 1) (by omega) (by omega), wrap_id (x := i + 1) (by omega) (by omega), show n + 1 + 1 = n + 2 by omega]
    simp only [hr]
theorem laws_heldFieldS_ev (zs : List (ByteArray × ByteArray)) (hl : zs.length ≤ 2097152) : Ev (fun k => laws_heldFieldS.f k ((markF zs 1).map fun p => (⟨p.1, p.2⟩ : S77)) 1) (1 + 2 * (zs.length : Int)) := by
  have h := laws_heldFieldS_l0 zs.length [] zs 1 0 rfl (by simp) (by omega) (by omega) (by omega)
  simpa [laws_heldFieldS.f] using h

/-! ### spec_l3Line -/
theorem spec_l3Line_l0 (s : ByteArray) (hs : s.size ≤ 2097152) (at0 : Int) (ha : 0 ≤ at0) : ∀ (d : Nat) (i : Int), at0 ≤ i → (s.size : Int) - i = d →
    Ev (fun k => spec_l3Line.l0 k s at0 i) (if idxS ((bytesOf s).drop i.toNat) [13, 10] < 0 then ((⟨#[]⟩ : ByteArray), -1) else (s.extract at0.toNat (i + idxS ((bytesOf s).drop i.toNat) [13, 10]).toNat, i + idxS ((bytesOf s).drop i.toNat) [13, 10] + 2))
  | 0, i, h0, hd => by
    have hl := bytesOf_length s
    refine ev_last fun k => ?_
    simp only [spec_l3Line.l0]
    rw [wrap_id (by omega) (by omega), if_neg (by omega), idxS_short (by rw [List.length_drop]; omega), if_pos (by omega)]
  | d + 1, i, h0, hd => by
    have hl := bytesOf_length s
    by_cases h1 : i + 1 < (s.size : Int)
    · have ih := spec_l3Line_l0 s hs at0 ha d (i + 1) (by omega) (by omega)
      have hx := idxS_bound [13, 10] ((bytesOf s).drop (i + 1).toNat)
      have e := idxS_crlf (bt s i) (bt s (i + 1)) ((bytesOf s).drop (i + 1 + 1).toNat)
      rw [← drop_bt (by omega) h1, ← drop_bt (by omega) (by omega)] at e
      rw [e]
      by_cases h13 : bt s i = 13 ∧ bt s (i + 1) = 10
      · refine ev_last fun k => ?_
        simp only [spec_l3Line.l0]
        rw [wrap_id (x := i + 1) (by omega) (by omega), if_pos h1, if_pos (by omega), if_pos (by omega), if_pos h13.1, if_pos (by omega), if_pos h13.2, if_pos ha, if_pos h0, if_pos (by omega), wrap_id (by omega) (by omega), if_pos h13, if_neg (by omega)]
        simp
      · rw [if_neg h13]
        refine Ev.step (f := fun k => spec_l3Line.l0 k s at0 (i + 1)) (fun k => ?_) (ev_eq ih ?_)
        · simp only [spec_l3Line.l0]
          rw [wrap_id (x := i + 1) (by omega) (by omega), if_pos h1, if_pos (by omega), if_pos (by omega)]
          by_cases ha13 : bt s i = 13
          · rw [if_pos ha13, if_pos (by omega), if_neg (fun hh => h13 ⟨ha13, hh⟩)]
          · rw [if_neg ha13]
        · rcases hx with hx | hx
          · rw [hx, if_pos (by omega), if_pos rfl, if_pos (by omega)]
          · rw [if_neg (show ¬ idxS ((bytesOf s).drop (i + 1).toNat) [13, 10] < 0 by omega), if_neg (show ¬ idxS ((bytesOf s).drop (i + 1).toNat) [13, 10] = -1 by omega), if_neg (by omega)]
            congr 2 <;> omega
    · refine ev_last fun k => ?_
      simp only [spec_l3Line.l0]
      rw [wrap_id (by omega) (by omega), if_neg (by omega), idxS_short (by rw [List.length_drop]; omega), if_pos (by omega)]
theorem spec_l3Line_ev (s : ByteArray) (hs : s.size ≤ 2097152) (i : Int) (h0 : 0 ≤ i) (h1 : i ≤ (s.size : Int)) :
    Ev (fun k => spec_l3Line.f k s i) (if idxS ((bytesOf s).drop i.toNat) [13, 10] < 0 then ((⟨#[]⟩ : ByteArray), -1) else (strOfNums (((bytesOf s).drop i.toNat).take (idxS ((bytesOf s).drop i.toNat) [13, 10]).toNat), i + idxS ((bytesOf s).drop i.toNat) [13, 10] + 2)) := by
  have e := spec_l3Line_l0 s hs i h0 ((s.size : Int) - i).toNat i (by omega) (by omega)
  refine ev_eq (by simpa only [spec_l3Line.f] using e) ?_
  by_cases h : idxS ((bytesOf s).drop i.toNat) [13, 10] < 0
  · rw [if_pos h, if_pos h]
  · rw [if_neg h, if_neg h]
    congr 1
    refine bytesOf_inj ?_
    rw [bytesOf_extract, bytesOf_strOfNums (fun c hc => bytesOf_range (List.mem_of_mem_drop (List.mem_of_mem_take hc))), List.drop_take]
    congr 1
    omega

/-! ### spec_l3Colon -/
theorem spec_l3Colon_l0 (s : ByteArray) (hs : s.size ≤ 2097152) : ∀ (d : Nat) (i : Int), 0 ≤ i → (s.size : Int) - i = d →
    Ev (fun k => spec_l3Colon.l0 k s i) (if idxS ((bytesOf s).drop i.toNat) [58] < 0 then -1 else i + idxS ((bytesOf s).drop i.toNat) [58])
  | 0, i, h0, hd => by
    refine ev_last fun k => ?_
    simp only [spec_l3Colon.l0]
    rw [if_neg (by omega), drop_end (by omega)]
    rfl
  | d + 1, i, h0, hd => by
    have hlt : i < (s.size : Int) := by omega
    have ih := spec_l3Colon_l0 s hs d (i + 1) (by omega) (by omega)
    have hb := idxS_bound [58] ((bytesOf s).drop (i + 1).toNat)
    rw [drop_bt h0 hlt, idxS_one]
    by_cases h : bt s i = 58
    · refine ev_last fun k => ?_
      simp only [spec_l3Colon.l0]
      rw [if_pos hlt, if_pos h0, if_pos h, if_pos h.symm, if_neg (by omega), Int.add_zero]
    · refine Ev.step (f := fun k => spec_l3Colon.l0 k s (i + 1)) (fun k => ?_) (ev_eq ih ?_)
      · simp only [spec_l3Colon.l0]
        rw [if_pos hlt, if_pos h0, if_neg h, wrap_id (by omega) (by omega)]
      · have e : ∀ x y : Int, (if (58 : Int) = bt s i then x else y) = y := fun x y => if_neg fun e => h e.symm
        rw [e]
        by_cases h1 : idxS ((bytesOf s).drop (i + 1).toNat) [58] = -1
        · rw [if_pos h1, if_pos (by omega), if_pos (by omega)]
        · rw [if_neg h1, if_neg (by omega), if_neg (by omega)]
          omega
theorem spec_l3Colon_ev (s : ByteArray) (hs : s.size ≤ 2097152) : Ev (fun k => spec_l3Colon.f k s) (if idxS (bytesOf s) [58] < 0 then -1 else idxS (bytesOf s) [58]) := by
  have h := spec_l3Colon_l0 s hs s.size 0 (by omega) (by omega)
  simpa [spec_l3Colon.f] using h

/-! ### spec_IsTokenText -/
theorem spec_l2Token_eq {c : Int} (h0 : 0 ≤ c) (h1 : c < 256) : spec_l2Token.f c = some (tokC c) := by unfold spec_l2Token.f; rw [if_pos ⟨h0, h1⟩]
theorem spec_IsTokenText_l0 (s : ByteArray) (hs : s.size ≤ 2097152) : ∀ (d : Nat) (i : Int), 0 ≤ i → (s.size : Int) - i = d →
    Ev (fun k => spec_IsTokenText.l0 k s i) (((bytesOf s).drop i.toNat).all tokC && !(bytesOf s).isEmpty)
  | 0, i, h0, hd => by
    refine ev_last fun k => ?_
    simp only [spec_IsTokenText.l0]
    rw [if_neg (by omega), drop_end (by omega)]
    have hl := bytesOf_length s
    cases hb : bytesOf s with
    | nil => rw [hb] at hl; simp at hl; simp [← hl]
    | cons a r => rw [hb] at hl; simp at hl; simp; omega
  | d + 1, i, h0, hd => by
    have hb := bt_bound s i
    have hlt : i < (s.size : Int) := by omega
    have e := spec_l2Token_eq hb.1 hb.2
    rw [drop_bt h0 hlt, List.all_cons]
    cases ht : tokC (bt s i) with
    | true =>
      refine Ev.step (f := fun k => spec_IsTokenText.l0 k s (i + 1)) (fun k => ?_) (ev_eq (spec_IsTokenText_l0 s hs d (i + 1) (by omega) (by omega)) (by rw [Bool.true_and]))
      simp only [spec_IsTokenText.l0]
      rw [if_pos hlt, if_pos h0, e, ht, Option.bind_some, if_pos rfl, wrap_id (by omega) (by omega)]
    | false =>
      refine ev_last fun k => ?_
      simp only [spec_IsTokenText.l0]
      rw [if_pos hlt, if_pos h0, e, ht, Option.bind_some, if_neg (by decide)]
      rfl
theorem spec_IsTokenText_ev (s : ByteArray) (hs : s.size ≤ 2097152) : Ev (fun k => spec_IsTokenText.f k s) (tokB (bytesOf s)) := by
  have h := spec_IsTokenText_l0 s hs s.size 0 (by omega) (by omega)
  simpa [spec_IsTokenText.f, tokB] using h

/-! ### spec_Trim -/
theorem spec_l2Blank_eq (c : Int) : spec_l2Blank.f c = some (blkC c) := by
  unfold spec_l2Blank.f blkC
  by_cases h : c = 32
  · rw [if_pos h, decide_eq_true h, Bool.true_or]
  · rw [if_neg h, decide_eq_false h, Bool.false_or]
    congr 1
theorem spec_Trim_l1 : ∀ (d : Nat) (s : ByteArray), s.size = d → d ≤ 2097152 → Ev (fun k => spec_Trim.l1 k s) (strOfNums ((bytesOf s).reverse.dropWhile blkC).reverse)
  | 0, s, h, _ => by
    refine ev_last fun k => ?_
    simp only [spec_Trim.l1]
    rw [if_neg (by omega), bytesOf_nil h]
    congr 1
    rw [← strOfNums_bytesOf s, bytesOf_nil h]
    rfl
  | d + 1, s, h, hd => by
    have hb := bytesOf_last h
    have hw : wrap64 ((s.size : Int) - 1) = (d : Int) := by rw [wrap_id (by omega) (by omega)]; omega
    have er : (bytesOf s).reverse = bt s (d : Int) :: ((bytesOf s).take d).reverse := by
      conv => lhs; rw [hb]
      rw [List.reverse_append, List.reverse_singleton, List.singleton_append]
    by_cases hk : blkC (bt s (d : Int)) = true
    · have hx : bytesOf (s.extract 0 d) = (bytesOf s).take d := by rw [bytesOf_extract, List.drop_zero]
      have ih := spec_Trim_l1 d (s.extract 0 d) (by rw [ByteArray.size_extract]; omega) (by omega)
      rw [hx] at ih
      refine Ev.step (f := fun k => spec_Trim.l1 k (s.extract 0 d)) (fun k => ?_) (ev_eq ih (by rw [er, List.dropWhile_cons_of_pos hk]))
      simp only [spec_Trim.l1, hw]
      rw [if_pos (by omega), if_pos (by omega), if_pos (by omega), spec_l2Blank_eq, hk, Option.bind_some, if_pos rfl, if_pos (by omega), Int.toNat_natCast]
    · refine ev_last fun k => ?_
      simp only [spec_Trim.l1, hw]
      have hk' : blkC (bt s (d : Int)) = false := by simpa using hk
      rw [if_pos (by omega), if_pos (by omega), if_pos (by omega), spec_l2Blank_eq, hk', Option.bind_some, if_neg (by decide), er, List.dropWhile_cons_of_neg hk, ← er, List.reverse_reverse, strOfNums_bytesOf]
theorem spec_Trim_l0 : ∀ (d : Nat) (s : ByteArray), s.size = d → d ≤ 2097152 → Ev (fun k => spec_Trim.l0 k s) (strOfNums (((bytesOf s).dropWhile blkC).reverse.dropWhile blkC).reverse)
  | 0, s, h, hd => by
    refine Ev.step (f := fun k => spec_Trim.j1 k s) (fun k => ?_) (Ev.step (f := fun k => spec_Trim.l1 k s) (fun k => by simp only [spec_Trim.j1]) (ev_eq (spec_Trim_l1 0 s h hd) (by rw [bytesOf_nil h]; rfl)))
    simp only [spec_Trim.l0]
    rw [if_neg (by omega)]
  | d + 1, s, h, hd => by
    have er : bytesOf s = bt s 0 :: (bytesOf s).drop 1 := drop_bt (s := s) (i := 0) (by omega) (by omega)
    by_cases hk : blkC (bt s 0) = true
    · have hx : bytesOf (s.extract 1 s.size) = (bytesOf s).drop 1 := by rw [bytesOf_extract, List.take_of_length_le (by rw [bytesOf_length]; omega)]
      have ih := spec_Trim_l0 d (s.extract 1 s.size) (by rw [ByteArray.size_extract]; omega) (by omega)
      rw [hx] at ih
      refine Ev.step (f := fun k => spec_Trim.l0 k (s.extract 1 s.size)) (fun k => ?_) (ev_eq ih (by conv => rhs; rw [er, List.dropWhile_cons_of_pos hk]))
      simp only [spec_Trim.l0]
      rw [if_pos (by omega), if_pos (by omega), spec_l2Blank_eq, hk, Option.bind_some, if_pos rfl, if_pos (by omega)]
    · have hk' : blkC (bt s 0) = false := by simpa using hk
      refine Ev.step (f := fun k => spec_Trim.j1 k s) (fun k => ?_) (Ev.step (f := fun k => spec_Trim.l1 k s) (fun k => by simp only [spec_Trim.j1]) (ev_eq (spec_Trim_l1 (d + 1) s h hd) (by conv => rhs; rw [er, List.dropWhile_cons_of_neg hk, ← er])))
      simp only [spec_Trim.l0]
      rw [if_pos (by omega), if_pos (by omega), spec_l2Blank_eq, hk', Option.bind_some, if_neg (by decide)]
theorem spec_Trim_ev (s : ByteArray) (hs : s.size ≤ 2097152) : Ev (fun k => spec_Trim.f k s) (trimB s) := by
  have h := spec_Trim_l0 s.size s rfl hs
  rw [← dropWhile_ends] at h
  exact h

/-! ### spec_IsValueText -/
theorem spec_IsValueText_l0 (s : ByteArray) (hs : s.size ≤ 2097152) : ∀ (d : Nat) (i : Int), 0 ≤ i → (s.size : Int) - i = d →
    Ev (fun k => spec_IsValueText.l0 k s i) (((bytesOf s).drop i.toNat).all valC && decide (trimB s = s))
  | 0, i, h0, hd => by
    refine Ev.step (f := fun k => (spec_Trim.f k s).bind fun t103 => some (t103.toList == s.toList)) (fun k => ?_) (ev_bind (spec_Trim_ev s hs) (ev_some fun k => ?_))
    · simp only [spec_IsValueText.l0]
      rw [if_neg (by omega)]
    · rw [drop_end (by omega), toList_beq]
      rfl
  | d + 1, i, h0, hd => by
    have hlt : i < (s.size : Int) := by omega
    have ih := spec_IsValueText_l0 s hs d (i + 1) (by omega) (by omega)
    rw [drop_bt h0 hlt, List.all_cons]
    by_cases h9 : bt s i = 9
    · refine Ev.step (f := fun k => spec_IsValueText.l0 k s (i + 1)) (fun k => ?_) (ev_eq ih (by rw [valC, h9]; rfl))
      simp only [spec_IsValueText.l0]
      rw [if_pos hlt, if_pos h0, if_pos h9, wrap_id (by omega) (by omega)]
    · by_cases h32 : bt s i < 32
      · refine ev_last fun k => ?_
        simp only [spec_IsValueText.l0]
        rw [if_pos hlt, if_pos h0, if_neg h9, if_pos h32, valC, decide_eq_false h9, decide_eq_false (by omega : ¬ 32 ≤ bt s i)]
        rfl
      · by_cases h7 : bt s i = 127
        · refine ev_last fun k => ?_
          simp only [spec_IsValueText.l0]
          rw [if_pos hlt, if_pos h0, if_neg h9, if_neg h32, if_pos h7, valC, h7]
          rfl
        · refine Ev.step (f := fun k => spec_IsValueText.l0 k s (i + 1)) (fun k => ?_) (ev_eq ih (by rw [valC, decide_eq_true (by omega : 32 ≤ bt s i), decide_eq_true h7]; simp))
          simp only [spec_IsValueText.l0]
          rw [if_pos hlt, if_pos h0, if_neg h9, if_neg h32, if_neg h7, wrap_id (by omega) (by omega)]
theorem spec_IsValueText_ev (s : ByteArray) (hs : s.size ≤ 2097152) : Ev (fun k => spec_IsValueText.f k s) (valB s) :=
  spec_IsValueText_l0 s hs s.size 0 (by omega) (by omega)

/-! ### spec_Lower -/
theorem spec_Lower_eq (s : ByteArray) (hs : s.size ≤ 2097152) : spec_Lower.f s = some (strOfNums ((bytesOf s).map lowC)) := by unfold spec_Lower.f; rw [if_pos hs]

/-! ### spec_l3FieldOk -/
theorem spec_l3FieldOk_ev (nm v : ByteArray) (hn : nm.size ≤ 2097152) (hv : v.size ≤ 2097152) : Ev (fun k => spec_l3FieldOk.f k nm v) (fieldB (nm, v)) := by
  refine Ev.congr (fun k => by unfold spec_l3FieldOk.f; rfl) ?_
  refine ev_bind (spec_IsTokenText_ev nm hn) ?_
  by_cases a : tokB (bytesOf nm) = true
  · refine ev_if_pos a (ev_bind (ev_some fun _ => spec_Lower_eq nm hn) ?_)
    by_cases b : lowB nm = nm
    · refine ev_if_pos (by rw [toList_eq_iff]; exact b.symm) ?_
      by_cases c : nm.size ≤ 24
      · refine ev_if_pos (by omega) (ev_bind (spec_IsValueText_ev v hv) ?_)
        by_cases d : valB v = true
        · refine ev_if_pos d (ev_some fun _ => ?_)
          congr 1
          have e : decide ((v.size : Int) ≤ 60) = decide (v.size ≤ 60) := by rw [decide_eq_decide]; omega
          rw [e]
          simp [fieldB, a, b, c, d]
        · exact ev_if_neg d (ev_eq (Ev.now _) (by simp [fieldB, d]))
      · exact ev_if_neg (by omega) (ev_eq (Ev.now _) (by simp [fieldB, c]))
    · exact ev_if_neg (by rw [toList_eq_iff]; exact fun h => b h.symm) (ev_eq (Ev.now _) (by simp [fieldB, b]))
  · exact ev_if_neg a (ev_eq (Ev.now _) (by simp [fieldB, a]))

/-! ### spec_FieldsOk -/
theorem spec_FieldsOk_l0 (l : List S77) (hl : l.length ≤ 2097152) (hm : ∀ x ∈ l, x.f0.size ≤ 2097152 ∧ x.f1.size ≤ 2097152) : ∀ (d : Nat) (i : Int), 0 ≤ i → (l.length : Int) - i = d →
    Ev (fun k => spec_FieldsOk.l0 k l i) (((l.drop i.toNat).map fun x => (x.f0, x.f1)).all fieldB && decide (l.length ≤ 12))
  | 0, i, h0, hd => by
    refine ev_last fun k => ?_
    simp only [spec_FieldsOk.l0]
    rw [if_neg (by omega), drop_nil (by omega)]
    congr 1
    have e : decide ((l.length : Int) ≤ 12) = decide (l.length ≤ 12) := by rw [decide_eq_decide]; omega
    rw [e]
    rfl
  | d + 1, i, h0, hd => by
    have hlt : i < (l.length : Int) := by omega
    have hdrop : l.drop i.toNat = rd_T77 l i :: l.drop (i + 1).toNat := drop_rdOf (d := z77) h0 hlt
    have hx : rd_T77 l i ∈ l := List.mem_of_mem_drop (i := i.toNat) (by rw [hdrop]; exact List.mem_cons_self)
    have hs := hm _ hx
    rw [hdrop]
    simp only [List.map_cons, List.all_cons]
    refine Ev.step (f := fun k => (spec_l3FieldOk.f k (rd_T77 l i).f0 (rd_T77 l i).f1).bind fun t => if t = true then spec_FieldsOk.l0 k l (i + 1) else some false) (fun k => ?_) (ev_bind (spec_l3FieldOk_ev _ _ hs.1 hs.2) ?_)
    · simp only [spec_FieldsOk.l0]
      rw [if_pos hlt, if_pos h0, wrap_id (by omega) (by omega)]
    · by_cases a : fieldB ((rd_T77 l i).f0, (rd_T77 l i).f1) = true
      · exact ev_if_pos a (ev_eq (spec_FieldsOk_l0 l hl hm d (i + 1) (by omega) (by omega)) (by rw [a, Bool.true_and]))
      · exact ev_if_neg a (ev_eq (Ev.now _) (by simp [a]))
theorem spec_FieldsOk_ev (l : List S77) (hl : l.length ≤ 2097152) (hm : ∀ x ∈ l, x.f0.size ≤ 2097152 ∧ x.f1.size ≤ 2097152) : Ev (fun k => spec_FieldsOk.f k l) (fieldsB (l.map fun x => (x.f0, x.f1))) := by
  have h := spec_FieldsOk_l0 l hl hm l.length 0 (by omega) (by omega)
  simpa [spec_FieldsOk.f, fieldsB] using h

/-! ### spec_ReadFields -/
theorem spec_ReadFields_l0 (s : ByteArray) (hs : s.size ≤ 2097152) : ∀ (d : Nat) (acc : List (ByteArray × ByteArray)) (i : Int), 0 ≤ i → i ≤ (s.size : Int) → (s.size : Int) - i < d → acc.length ≤ 12 → (∀ p ∈ acc, fieldB p = true) →
    Ev (fun k => spec_ReadFields.l0 k s (acc.map fun p => (⟨p.1, p.2⟩ : S77)) i) (((rfP (bytesOf s) d acc i).1.map fun p => (⟨p.1, p.2⟩ : S77)), (rfP (bytesOf s) d acc i).2)
  | 0, acc, i, h0, h1, hd, ha, hf => by omega
  | d + 1, acc, i, h0, h1, hd, ha, hf => by
    have hl := bytesOf_length s
    have hx := idxS_bound [13, 10] ((bytesOf s).drop i.toNat)
    simp only [List.length_cons, List.length_nil, List.length_drop] at hx
    have ih := fun acc' i' => spec_ReadFields_l0 s hs d acc' i'
    refine Ev.step (fun k => by simp only [spec_ReadFields.l0]; rw [if_pos (by rw [List.length_map]; omega)]) (ev_bind (spec_l3Line_ev s hs i h0 h1) ?_)
    rw [rfP]
    by_cases hi : idxS ((bytesOf s).drop i.toNat) [13, 10] < 0
    · rw [if_pos hi, if_pos hi]
      exact ev_if_pos (by decide) (Ev.now _)
    · rw [if_neg hi, if_neg hi]
      refine ev_if_neg (by simp only; omega) ?_
      generalize hj : idxS ((bytesOf s).drop i.toNat) [13, 10] = j at hi hx
      have hline : bytesOf (strOfNums (((bytesOf s).drop i.toNat).take j.toNat)) = ((bytesOf s).drop i.toNat).take j.toNat := bytesOf_strOfNums fun c hc => bytesOf_range (List.mem_of_mem_drop (List.mem_of_mem_take hc))
      have hlen : (((bytesOf s).drop i.toNat).take j.toNat).length = j.toNat := by rw [List.length_take, List.length_drop]; omega
      by_cases hz : j = 0
      · rw [if_pos hz]
        subst hz
        refine ev_if_pos (by simp only [Int.toNat_zero, List.take_zero]; exact nil_toList) ?_
        have hF := spec_FieldsOk_ev (acc.map fun p => (⟨p.1, p.2⟩ : S77)) (by rw [List.length_map]; omega) (fun x hx => by
          obtain ⟨p, hp, rfl⟩ := List.mem_map.1 hx
          have := hf p hp
          simp [fieldB] at this
          simp only
          omega)
        have e : ((acc.map fun p => (⟨p.1, p.2⟩ : S77)).map fun x => (x.f0, x.f1)) = acc := by rw [List.map_map]; exact List.map_id acc
        rw [e] at hF
        have hok : fieldsB acc = true := by
          unfold fieldsB
          rw [Bool.and_eq_true, List.all_eq_true, decide_eq_true_eq]
          exact ⟨hf, ha⟩
        rw [hok] at hF
        exact ev_bind hF (ev_eq (Ev.now _) (by simp))
      · rw [if_neg hz]
        refine ev_if_neg (by
          simp only
          rw [toList_lit, hline]
          intro h
          rw [h] at hlen
          simp at hlen
          omega) ?_
        have hcl := spec_l3Colon_ev (strOfNums (((bytesOf s).drop i.toNat).take j.toNat)) (by rw [strOfNums_size, hlen]; omega)
        rw [hline] at hcl
        refine ev_bind hcl ?_
        generalize hL : ((bytesOf s).drop i.toNat).take j.toNat = L at hline hlen
        have hcb := idxS_bound [58] L
        simp only [List.length_cons, List.length_nil] at hcb
        generalize hc : idxS L [58] = c at hcb
        by_cases hc0 : c < 0
        · rw [if_pos hc0, if_pos hc0]
          exact ev_if_pos (by decide) (Ev.now _)
        · rw [if_neg hc0, if_neg hc0]
          have hsz : (strOfNums L).size = L.length := strOfNums_size L
          have w1 : wrap64 (c + 1) = c + 1 := wrap_id (by omega) (by omega)
          have e1 : (strOfNums L).extract 0 c.toNat = strOfNums (L.take c.toNat) := bytesOf_inj (by rw [bytesOf_extract, hline, List.drop_zero, bytesOf_strOfNums]; intro x hx; exact bytesOf_range (s := strOfNums L) (by rw [hline]; exact List.mem_of_mem_take hx))
          have e2 : (strOfNums L).extract (c + 1).toNat L.length = strOfNums (L.drop (c.toNat + 1)) := bytesOf_inj (by
            rw [bytesOf_extract, hline, List.take_length, show (c + 1).toNat = c.toNat + 1 by omega, bytesOf_strOfNums]
            intro x hx
            exact bytesOf_range (s := strOfNums L) (by rw [hline]; exact List.mem_of_mem_drop hx))
          have hlow := spec_Lower_eq (strOfNums (L.take c.toNat)) (by rw [strOfNums_size, List.length_take]; omega)
          have htr := spec_Trim_ev (strOfNums (L.drop (c.toNat + 1))) (by rw [strOfNums_size, List.length_drop]; omega)
          have hok := spec_l3FieldOk_ev (lowB (strOfNums (L.take c.toNat))) (trimB (strOfNums (L.drop (c.toNat + 1)))) (by rw [low_range, strOfNums_size, List.length_take]; omega) (by have := @trim_range (strOfNums (L.drop (c.toNat + 1))); rw [strOfNums_size, List.length_drop] at this; omega)
          refine ev_if_neg hc0 (ev_if_pos (by omega) (ev_if_pos (by simp only [hsz]; omega) ?_))
          rw [w1]
          simp only [hsz, e1, e2]
          refine ev_bind (ev_some fun _ => hlow) (ev_if_pos (by omega) (ev_if_pos (by omega) (ev_bind htr (ev_bind hok ?_))))
          by_cases hfo : fieldB (lowB (strOfNums (L.take c.toNat)), trimB (strOfNums (L.drop (c.toNat + 1)))) = true
          · refine ev_if_pos hfo (ev_if_pos (by rw [List.length_map]; omega) ?_)
            by_cases h12 : acc.length < 12
            · rw [if_pos ⟨hfo, h12⟩]
              have h := ih (acc ++ [lineF L c]) (i + j + 2) (by omega) (by omega) (by omega) (by simp; omega) (fun p hp => by
                rcases List.mem_append.1 hp with hp | hp
                · exact hf p hp
                · rw [List.mem_singleton.1 hp]; exact hfo)
              simpa [lineF, lowB] using h
            · rw [if_neg (fun h => h12 h.2)]
              refine ev_last fun k => ?_
              simp only [spec_ReadFields.l0]
              rw [if_neg (by simp; omega)]
              rfl
          · rw [if_neg (fun h => hfo h.1)]
            exact ev_if_neg hfo (Ev.now _)
theorem spec_ReadFields_ev (s : ByteArray) (hs : s.size ≤ 2097152) : Ev (fun k => spec_ReadFields.f k s) (((rfP (bytesOf s) (s.size + 1) [] 0).1.map fun p => (⟨p.1, p.2⟩ : S77)), (rfP (bytesOf s) (s.size + 1) [] 0).2) :=
  spec_ReadFields_l0 s hs (s.size + 1) [] 0 (by omega) (by omega) (by omega) (by simp) (fun p hp => by cases hp)

/-! ### strings_Cut -/
theorem strings_Cut_eq (s sep : ByteArray) (hs : s.size ≤ 2097152) : strings_Cut.f s sep = some (strOfNums (cutL (bytesOf s) (bytesOf sep)).1, strOfNums (cutL (bytesOf s) (bytesOf sep)).2.1, (cutL (bytesOf s) (bytesOf sep)).2.2) := by unfold strings_Cut.f; rw [if_pos hs]

/-! ### impl_Lower -/
theorem impl_Lower_eq (s : ByteArray) (hs : s.size ≤ 2097152) : impl_Lower.f s = some (strOfNums ((bytesOf s).map lowC)) := by unfold impl_Lower.f; rw [if_pos hs]

/-! ### impl_Trim -/
theorem impl_Trim_eq (s : ByteArray) (hs : s.size ≤ 2097152) : impl_Trim.f s = some (trimB s) := by
  unfold impl_Trim.f strings_Trim.f
  rw [if_pos ⟨hs, rfl⟩, Option.bind_some]

/-! ### strings_IndexByte -/
theorem strings_IndexByte_eq (s : ByteArray) (c : Int) (h0 : 0 ≤ c) (h1 : c < 256) : strings_IndexByte.f s c = some (idxB (bytesOf s) c) := by unfold strings_IndexByte.f; rw [if_pos ⟨h0, h1⟩]

/-! ### impl_IsTokenText -/
def lodC (c : Int) : Bool := decide (97 ≤ c ∧ c ≤ 122) || decide (65 ≤ c ∧ c ≤ 90) || decide (48 ≤ c ∧ c ≤ 57)
theorem impl_isLetterOrDigit_eq {c : Int} (h0 : 0 ≤ c) (h1 : c < 256) : impl_isLetterOrDigit.f c = some (lodC c) :=
  byte_all (P := fun c => impl_isLetterOrDigit.f c = some (lodC c)) (by decide +kernel) h0 h1
theorem impl_tok {c : Int} (h0 : 0 ≤ c) (h1 : c < 256) : tokC c = (lodC c || !decide (idxB [33, 35, 36, 37, 38, 39, 42, 43, 45, 46, 94, 95, 124, 126, 96] c < 0)) :=
  byte_all (P := fun c => tokC c = (lodC c || !decide (idxB [33, 35, 36, 37, 38, 39, 42, 43, 45, 46, 94, 95, 124, 126, 96] c < 0))) (by decide +kernel) h0 h1
theorem impl_IsTokenText_l0 (s : ByteArray) (hs : s.size ≤ 2097152) : ∀ (d : Nat) (i : Int), 0 ≤ i → (s.size : Int) - i = d →
    Ev (fun k => impl_IsTokenText.l0 k s (s.size : Int) i) (((bytesOf s).drop i.toNat).all tokC && !(bytesOf s).isEmpty)
  | 0, i, h0, hd => by
    refine ev_last fun k => ?_
    simp only [impl_IsTokenText.l0]
    rw [if_neg (by omega), drop_end (by omega)]
    congr 1
    rw [Bool.eq_iff_iff]
    simp only [bne_iff_ne, ne_eq, List.all_nil, Bool.true_and, Bool.not_eq_true', List.isEmpty_eq_false_iff]
    constructor
    · intro h he
      apply h
      exact (toList_lit _ _).2 he
    · intro h he
      exact h ((toList_lit _ _).1 he)
  | d + 1, i, h0, hd => by
    have hb := bt_bound s i
    have hlt : i < (s.size : Int) := by omega
    have e := impl_isLetterOrDigit_eq hb.1 hb.2
    have et := impl_tok hb.1 hb.2
    rw [drop_bt h0 hlt, List.all_cons]
    have ei := strings_IndexByte_eq (⟨#[33, 35, 36, 37, 38, 39, 42, 43, 45, 46, 94, 95, 124, 126, 96]⟩ : ByteArray) (bt s i) hb.1 hb.2
    have eb : bytesOf (⟨#[33, 35, 36, 37, 38, 39, 42, 43, 45, 46, 94, 95, 124, 126, 96]⟩ : ByteArray) = [33, 35, 36, 37, 38, 39, 42, 43, 45, 46, 94, 95, 124, 126, 96] := by decide +kernel
    rw [eb] at ei
    cases hl : lodC (bt s i) with
    | true =>
      rw [hl, Bool.true_or] at et
      refine Ev.step (f := fun k => impl_IsTokenText.l0 k s (s.size : Int) (i + 1)) (fun k => ?_) (ev_eq (impl_IsTokenText_l0 s hs d (i + 1) (by omega) (by omega)) (by rw [et, Bool.true_and]))
      simp only [impl_IsTokenText.l0]
      rw [if_pos hlt, if_pos h0, if_pos hlt, e, hl, Option.bind_some, if_pos rfl, wrap_id (by omega) (by omega)]
    | false =>
      rw [hl, Bool.false_or] at et
      by_cases hx : idxB [33, 35, 36, 37, 38, 39, 42, 43, 45, 46, 94, 95, 124, 126, 96] (bt s i) < 0
      · refine ev_last fun k => ?_
        simp only [impl_IsTokenText.l0]
        rw [if_pos hlt, if_pos h0, if_pos hlt, e, hl, Option.bind_some, if_neg (by decide), ei, Option.bind_some, if_pos hx, et, decide_eq_true hx]
        rfl
      · refine Ev.step (f := fun k => impl_IsTokenText.l0 k s (s.size : Int) (i + 1)) (fun k => ?_) (ev_eq (impl_IsTokenText_l0 s hs d (i + 1) (by omega) (by omega)) (by rw [et, decide_eq_false hx]; rfl))
        simp only [impl_IsTokenText.l0]
        rw [if_pos hlt, if_pos h0, if_pos hlt, e, hl, Option.bind_some, if_neg (by decide), ei, Option.bind_some, if_neg hx, wrap_id (by omega) (by omega)]
theorem impl_IsTokenText_ev (s : ByteArray) (hs : s.size ≤ 2097152) : Ev (fun k => impl_IsTokenText.f k s) (tokB (bytesOf s)) := by
  have h := impl_IsTokenText_l0 s hs s.size 0 (by omega) (by omega)
  simpa [impl_IsTokenText.f, tokB] using h

/-! ### impl_IsValueText -/
theorem impl_IsValueText_l0 (s : ByteArray) (hs : s.size ≤ 2097152) : ∀ (d : Nat) (i : Int), 0 ≤ i → (s.size : Int) - i = d →
    Ev (fun k => impl_IsValueText.l0 k s (s.size : Int) i) (((bytesOf s).drop i.toNat).all valC && decide (trimB s = s))
  | 0, i, h0, hd => by
    refine ev_last fun k => ?_
    simp only [impl_IsValueText.l0]
    rw [if_neg (by omega), impl_Trim_eq s hs, Option.bind_some, drop_end (by omega), toList_beq]
    rfl
  | d + 1, i, h0, hd => by
    have hlt : i < (s.size : Int) := by omega
    have ih := impl_IsValueText_l0 s hs d (i + 1) (by omega) (by omega)
    rw [drop_bt h0 hlt, List.all_cons]
    by_cases h9 : bt s i = 9
    · refine Ev.step (f := fun k => impl_IsValueText.l0 k s (s.size : Int) (i + 1)) (fun k => ?_) (ev_eq ih (by rw [valC, h9]; rfl))
      simp only [impl_IsValueText.l0]
      rw [if_pos hlt, if_pos h0, if_pos hlt, if_pos (by omega), if_pos h9, if_neg (by omega), wrap_id (by omega) (by omega)]
    · by_cases h32 : bt s i < 32
      · refine ev_last fun k => ?_
        simp only [impl_IsValueText.l0]
        rw [if_pos hlt, if_pos h0, if_pos hlt, if_pos h32, if_neg h9, valC, decide_eq_false h9, decide_eq_false (by omega : ¬ 32 ≤ bt s i)]
        rfl
      · by_cases h7 : bt s i = 127
        · refine ev_last fun k => ?_
          simp only [impl_IsValueText.l0]
          rw [if_pos hlt, if_pos h0, if_pos hlt, if_neg h32, if_pos h7, valC, h7]
          rfl
        · refine Ev.step (f := fun k => impl_IsValueText.l0 k s (s.size : Int) (i + 1)) (fun k => ?_) (ev_eq ih (by rw [valC, decide_eq_true (by omega : 32 ≤ bt s i), decide_eq_true h7]; simp))
          simp only [impl_IsValueText.l0]
          rw [if_pos hlt, if_pos h0, if_pos hlt, if_neg h32, if_neg h7, wrap_id (by omega) (by omega)]
theorem impl_IsValueText_ev (s : ByteArray) (hs : s.size ≤ 2097152) : Ev (fun k => impl_IsValueText.f k s) (valB s) :=
  impl_IsValueText_l0 s hs s.size 0 (by omega) (by omega)

/-! ### impl_fieldOk -/
theorem impl_fieldOk_ev (nm v : ByteArray) (hn : nm.size ≤ 2097152) (hv : v.size ≤ 2097152) : Ev (fun k => impl_fieldOk.f k nm v) (fieldB (nm, v)) := by
  refine Ev.congr (fun k => by unfold impl_fieldOk.f; rfl) ?_
  refine ev_bind (impl_IsTokenText_ev nm hn) ?_
  by_cases a : tokB (bytesOf nm) = true
  · refine ev_if_pos a ?_
    by_cases c : nm.size ≤ 24
    · refine ev_if_pos (by omega) (ev_bind (ev_some fun _ => impl_Lower_eq nm hn) ?_)
      by_cases b : lowB nm = nm
      · refine ev_if_pos (by rw [toList_eq_iff]; exact b) (ev_bind (impl_IsValueText_ev v hv) ?_)
        by_cases d : valB v = true
        · refine ev_if_pos d (ev_some fun _ => ?_)
          congr 1
          have e : decide ((v.size : Int) ≤ 60) = decide (v.size ≤ 60) := by rw [decide_eq_decide]; omega
          rw [e]
          simp [fieldB, a, b, c, d]
        · exact ev_if_neg d (ev_eq (Ev.now _) (by simp [fieldB, d]))
      · exact ev_if_neg (by rw [toList_eq_iff]; exact b) (ev_eq (Ev.now _) (by simp [fieldB, b]))
    · exact ev_if_neg (by omega) (ev_eq (Ev.now _) (by simp [fieldB, c]))
  · exact ev_if_neg a (ev_eq (Ev.now _) (by simp [fieldB, a]))

/-! ### impl_ReadFields -/
theorem impl_ReadFields_l0 (s : ByteArray) (hs : s.size ≤ 2097152) : ∀ (d : Nat) (acc : List (ByteArray × ByteArray)) (i : Int), 0 ≤ i → i ≤ (s.size : Int) → (s.size : Int) - i < d → acc.length ≤ 12 →
    Ev (fun k => impl_ReadFields.l0 k s (acc.map fun p => (⟨p.1, p.2⟩ : S77)) (strOfNums ((bytesOf s).drop i.toNat))) (((rfP (bytesOf s) d acc i).1.map fun p => (⟨p.1, p.2⟩ : S77)), (rfP (bytesOf s) d acc i).2)
  | 0, acc, i, h0, h1, hd, ha => by omega
  | d + 1, acc, i, h0, h1, hd, ha => by
    have hl := bytesOf_length s
    have hx := idxS_bound [13, 10] ((bytesOf s).drop i.toNat)
    simp only [List.length_cons, List.length_nil, List.length_drop] at hx
    have ih := fun acc' i' => impl_ReadFields_l0 s hs d acc' i'
    have hR : bytesOf (strOfNums ((bytesOf s).drop i.toNat)) = (bytesOf s).drop i.toNat := bytesOf_strOfNums fun c hc => bytesOf_range (List.mem_of_mem_drop hc)
    have hcut := strings_Cut_eq (strOfNums ((bytesOf s).drop i.toNat)) ⟨#[13, 10]⟩ (by rw [strOfNums_size, List.length_drop]; omega)
    rw [hR, show bytesOf (⟨#[13, 10]⟩ : ByteArray) = [13, 10] from by decide +kernel] at hcut
    refine Ev.step (fun k => by simp only [impl_ReadFields.l0]; rfl) (ev_bind (ev_some fun _ => hcut) ?_)
    rw [rfP]
    unfold cutL
    by_cases hi : idxS ((bytesOf s).drop i.toNat) [13, 10] < 0
    · rw [if_neg (show ¬ 0 ≤ idxS ((bytesOf s).drop i.toNat) [13, 10] by omega), if_pos hi]
      exact ev_if_neg (by simp) (Ev.now _)
    · rw [if_pos (show 0 ≤ idxS ((bytesOf s).drop i.toNat) [13, 10] by omega), if_neg hi]
      refine ev_if_pos rfl ?_
      generalize hj : idxS ((bytesOf s).drop i.toNat) [13, 10] = j at hi hx
      have hline : bytesOf (strOfNums (((bytesOf s).drop i.toNat).take j.toNat)) = ((bytesOf s).drop i.toNat).take j.toNat := bytesOf_strOfNums fun c hc => bytesOf_range (List.mem_of_mem_drop (List.mem_of_mem_take hc))
      have hlen : (((bytesOf s).drop i.toNat).take j.toNat).length = j.toNat := by rw [List.length_take, List.length_drop]; omega
      have hrest : ((bytesOf s).drop i.toNat).drop (j.toNat + ([13, 10] : List Int).length) = (bytesOf s).drop (i + j + 2).toNat := by
        rw [List.drop_drop]
        congr 1
        simp only [List.length_cons, List.length_nil]
        omega
      simp only [hrest]
      by_cases hz : j = 0
      · rw [if_pos hz]
        subst hz
        refine ev_if_pos (by simp only [Int.toNat_zero, List.take_zero]; exact nil_toList) (ev_eq (Ev.now _) ?_)
        have e : wrap64 ((s.size : Int) - ((strOfNums ((bytesOf s).drop (i + 0 + 2).toNat)).size : Int)) = i + 2 := by
          rw [strOfNums_size, List.length_drop, wrap_id (by omega) (by omega)]
          omega
        rw [e]
      · rw [if_neg hz]
        refine ev_if_neg (by
          rw [toList_lit, hline]
          intro h
          rw [h] at hlen
          simp at hlen
          omega) ?_
        have hcut2 := strings_Cut_eq (strOfNums (((bytesOf s).drop i.toNat).take j.toNat)) ⟨#[58]⟩ (by rw [strOfNums_size, hlen]; omega)
        rw [hline, show bytesOf (⟨#[58]⟩ : ByteArray) = [58] from by decide +kernel] at hcut2
        refine ev_bind (ev_some fun _ => hcut2) ?_
        generalize hL : ((bytesOf s).drop i.toNat).take j.toNat = L at hline hlen
        have hcb := idxS_bound [58] L
        simp only [List.length_cons, List.length_nil] at hcb
        unfold cutL
        generalize hc : idxS L [58] = c at hcb
        by_cases hc0 : c < 0
        · rw [if_neg (show ¬ 0 ≤ c by omega), if_pos hc0]
          have hlow := impl_Lower_eq (strOfNums L) (by rw [strOfNums_size]; omega)
          have htr := impl_Trim_eq (strOfNums []) (by rw [strOfNums_size]; simp)
          exact ev_bind (ev_some fun _ => hlow) (ev_bind (ev_some fun _ => htr) (ev_if_neg (by simp) (Ev.now _)))
        · rw [if_pos (show 0 ≤ c by omega), if_neg hc0]
          have hlow := impl_Lower_eq (strOfNums (L.take c.toNat)) (by rw [strOfNums_size, List.length_take]; omega)
          have htr := impl_Trim_eq (strOfNums (L.drop (c.toNat + 1))) (by rw [strOfNums_size, List.length_drop]; omega)
          have hok := impl_fieldOk_ev (lowB (strOfNums (L.take c.toNat))) (trimB (strOfNums (L.drop (c.toNat + 1)))) (by rw [low_range, strOfNums_size, List.length_take]; omega) (by have := @trim_range (strOfNums (L.drop (c.toNat + 1))); rw [strOfNums_size, List.length_drop] at this; omega)
          refine ev_bind (ev_some fun _ => hlow) (ev_bind (ev_some fun _ => htr) (ev_if_pos rfl (ev_bind hok ?_)))
          by_cases hfo : fieldB (lowB (strOfNums (L.take c.toNat)), trimB (strOfNums (L.drop (c.toNat + 1)))) = true
          · refine ev_if_pos hfo ?_
            by_cases h12 : acc.length < 12
            · rw [if_pos ⟨hfo, h12⟩]
              refine ev_if_neg (by rw [List.length_map]; omega) (ev_if_pos (by rw [List.length_map]; omega) ?_)
              have h := ih (acc ++ [lineF L c]) (i + j + 2) (by omega) (by omega) (by omega) (by simp; omega)
              simpa [lineF, lowB] using h
            · rw [if_neg (fun h => h12 h.2)]
              exact ev_if_pos (by rw [List.length_map]; omega) (Ev.now _)
          · rw [if_neg (fun h => hfo h.1)]
            exact ev_if_neg hfo (Ev.now _)
theorem impl_ReadFields_ev (s : ByteArray) (hs : s.size ≤ 2097152) : Ev (fun k => impl_ReadFields.f k s) (((rfP (bytesOf s) (s.size + 1) [] 0).1.map fun p => (⟨p.1, p.2⟩ : S77)), (rfP (bytesOf s) (s.size + 1) [] 0).2) := by
  have h := impl_ReadFields_l0 s hs (s.size + 1) [] 0 (by omega) (by omega) (by omega) (by simp)
  have e : strOfNums ((bytesOf s).drop (0 : Int).toNat) = s := by rw [Int.toNat_zero, List.drop_zero, strOfNums_bytesOf]
  rw [e] at h
  exact h

theorem FnExactReadFields : laws_FnExactReadFields.Pure := by
  intro s _
  by_cases h : (s.size : Int) > 1048576
  · exact ⟨0, by unfold laws_FnExactReadFields.f; rw [if_pos h]⟩
  refine Ev.rounds (Ev.congr (fun k => by unfold laws_FnExactReadFields.f; rw [if_neg h]) ?_)
  have sp := spec_ReadFields_ev s (by omega)
  have im := impl_ReadFields_ev s (by omega)
  have q2 := rfP_length (bytesOf s) (s.size + 1) [] 0 (by simp)
  generalize rfP (bytesOf s) (s.size + 1) [] 0 = R at sp im q2
  obtain ⟨S, n, b⟩ := R
  simp only at sp im q2
  have eqS := laws_eqFieldS_ev (S.map fun p => (⟨p.1, p.2⟩ : S77)) (by rw [List.length_map]; omega)
  have mkS := laws_markFieldS_ev (S.map fun p => (⟨p.1, p.2⟩ : S77)) (by rw [List.length_map]; omega)
  have eS : ((S.map fun p => (⟨p.1, p.2⟩ : S77)).map fun x => (x.f0, x.f1)) = S := by rw [List.map_map]; exact List.map_id S
  rw [eS, List.length_map] at mkS
  have hdS := laws_heldFieldS_ev S (by omega)
  have hlt : ¬ (1 + 2 * (S.length : Int) < 0) := by omega
  refine ev_bind sp (ev_bind im (ev_bind eqS (ev_if_pos rfl (ev_if_pos rfl ?_))))
  refine Ev.step (fun k => by simp only [laws_FnExactReadFields.j0]; rfl) ?_
  refine ev_if_neg (by simp) (ev_bind mkS (ev_bind hdS (ev_if_neg hlt (ev_if_pos rfl (ev_bind im (ev_bind eqS (ev_if_pos rfl (ev_if_pos rfl ?_))))))))
  refine Ev.step (fun k => by simp only [laws_FnExactReadFields.j1]; rfl) ?_
  refine ev_if_neg (by simp) (ev_bind hdS (ev_if_neg hlt ?_))
  exact ev_if_pos rfl (Ev.now _)

end Go.Proofs.YthloaefcmjpfaaaDoor.Pure
