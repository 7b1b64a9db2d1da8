/- The program's IsValueText returns what the reference's returns, for every text (a text of more than 2^20 bytes is let by). -/
import Derived.Test.YthloaefcmjpfaaaDoorWalkFnExactIsValueText
import Derived.Test.YthloaefcmjpfaaaDoorDom
namespace Go.Proofs.YthloaefcmjpfaaaDoor.Pure
set_option linter.unusedVariables false
set_option linter.unusedSimpArgs false
open Go.RowKit Go.Proofs.YthloaefcmjpfaaaDoor.QFnExactIsValueText Go.Proofs.YthloaefcmjpfaaaDoorW.PrintWords Go.Proofs.YthloaefcmjpfaaaDoorW.PrintLast Go.Proofs.YthloaefcmjpfaaaDoorW.PrintMore Go.Proofs.YthloaefcmjpfaaaDoor.Aux Go.Proofs.YthloaefcmjpfaaaDoor.Dom Go.Proofs.YthloaefcmjpfaaaDoor.Ext

/-! ### spec_Trim -/
theorem spec_l2Blank_eq (c : Int) : spec_l2Blank.f c = some (blkC c) := by
  unfold spec_l2Blank.f blkC
  by_cases h : c = 32
  · rw [if_pos h, decide_eq_true h, Bool.true_or]
  · rw [if_neg h, decide_eq_false h, Bool.false_or]
    congr 1
theorem spec_Trim_l1 : ∀ (d : Nat) (s : ByteArray), s.size = d → d ≤ 2097152 → Ev (fun k => spec_Trim.l1 k s) (strOfNums ((bytesOf s).reverse.dropWhile blkC).reverse)
  | 0, s, h, _ => by
    refine ev_last fun k => ?_
    simp only [spec_Trim.l1]
    rw [if_neg (by omega), bytesOf_nil h]
    congr 1
    rw [← strOfNums_bytesOf s, bytesOf_nil h]
    rfl
  | d + 1, s, h, hd => by
    have hb := bytesOf_last h
    have hw : wrap64 ((s.size : Int) - 1) = (d : Int) := by rw [wrap_id (by omega) (by omega)]; omega
    have er : (bytesOf s).reverse = bt s (d : Int) :: ((bytesOf s).take d).reverse := by
      conv => lhs; rw [hb]
      rw [List.reverse_append, List.reverse_singleton, List.singleton_append]
    by_cases hk : blkC (bt s (d : Int)) = true
    · have hx : bytesOf (s.extract 0 d) = (bytesOf s).take d := by rw [bytesOf_extract, List.drop_zero]
      have ih := spec_Trim_l1 d (s.extract 0 d) (by rw [ByteArray.size_extract]; omega) (by omega)
      rw [hx] at ih
      refine Ev.step (f := fun k => spec_Trim.l1 k (s.extract 0 d)) (fun k => ?_) (ev_eq ih (by rw [er, List.dropWhile_cons_of_pos hk]))
      simp only [spec_Trim.l1, hw]
      rw [if_pos (by omega), if_pos (by omega), if_pos (by omega), spec_l2Blank_eq, hk, Option.bind_some, if_pos rfl, if_pos (by omega), Int.toNat_natCast]
    · refine ev_last fun k => ?_
      simp only [spec_Trim.l1, hw]
      have hk' : blkC (bt s (d : Int)) = false := by simpa using hk
      rw [if_pos (by omega), if_pos (by omega), if_pos (by omega), spec_l2Blank_eq, hk', Option.bind_some, if_neg (by decide), er, List.dropWhile_cons_of_neg hk, ← er, List.reverse_reverse, strOfNums_bytesOf]
theorem spec_Trim_l0 : ∀ (d : Nat) (s : ByteArray), s.size = d → d ≤ 2097152 → Ev (fun k => spec_Trim.l0 k s) (strOfNums (((bytesOf s).dropWhile blkC).reverse.dropWhile blkC).reverse)
  | 0, s, h, hd => by
    refine Ev.step (f := fun k => spec_Trim.j1 k s) (fun k => ?_) (Ev.step (f := fun k => spec_Trim.l1 k s) (fun k => by simp only [spec_Trim.j1]) (ev_eq (spec_Trim_l1 0 s h hd) (by rw [bytesOf_nil h]; rfl)))
    simp only [spec_Trim.l0]
    rw [if_neg (by omega)]
  | d + 1, s, h, hd => by
    have er : bytesOf s = bt s 0 :: (bytesOf s).drop 1 := drop_bt (s := s) (i := 0) (by omega) (by omega)
    by_cases hk : blkC (bt s 0) = true
    · have hx : bytesOf (s.extract 1 s.size) = (bytesOf s).drop 1 := by rw [bytesOf_extract, List.take_of_length_le (by rw [bytesOf_length]; omega)]
      have ih := spec_Trim_l0 d (s.extract 1 s.size) (by rw [ByteArray.size_extract]; omega) (by omega)
      rw [hx] at ih
      refine Ev.step (f := fun k => spec_Trim.l0 k (s.extract 1 s.size)) (fun k => ?_) (ev_eq ih (by conv => rhs; rw [er, List.dropWhile_cons_of_pos hk]))
      simp only [spec_Trim.l0]
      rw [if_pos (by omega), if_pos (by omega), spec_l2Blank_eq, hk, Option.bind_some, if_pos rfl, if_pos (by omega)]
    · have hk' : blkC (bt s 0) = false := by simpa using hk
      refine Ev.step (f := fun k => spec_Trim.j1 k s) (fun k => ?_) (Ev.step (f := fun k => spec_Trim.l1 k s) (fun k => by simp only [spec_Trim.j1]) (ev_eq (spec_Trim_l1 (d + 1) s h hd) (by conv => rhs; rw [er, List.dropWhile_cons_of_neg hk, ← er])))
      simp only [spec_Trim.l0]
      rw [if_pos (by omega), if_pos (by omega), spec_l2Blank_eq, hk', Option.bind_some, if_neg (by decide)]
theorem spec_Trim_ev (s : ByteArray) (hs : s.size ≤ 2097152) : Ev (fun k => spec_Trim.f k s) (trimB s) := by
  have h := spec_Trim_l0 s.size s rfl hs
  rw [← dropWhile_ends] at h
  exact h

/-! ### spec_IsValueText -/
theorem spec_IsValueText_l0 (s : ByteArray) (hs : s.size ≤ 2097152) : ∀ (d : Nat) (i : Int), 0 ≤ i → (s.size : Int) - i = d →
    Ev (fun k => spec_IsValueText.l0 k s i) (((bytesOf s).drop i.toNat).all valC && decide (trimB s = s))
  | 0, i, h0, hd => by
    refine Ev.step (f := fun k => (spec_Trim.f k s).bind fun t103 => some (t103.toList == s.toList)) (fun k => ?_) (ev_bind (spec_Trim_ev s hs) (ev_some fun k => ?_))
    · simp only [spec_IsValueText.l0]
      rw [if_neg (by omega)]
    · rw [drop_end (by omega), toList_beq]
      rfl
  | d + 1, i, h0, hd => by
    have hlt : i < (s.size : Int) := by omega
    have ih := spec_IsValueText_l0 s hs d (i + 1) (by omega) (by omega)
    rw [drop_bt h0 hlt, List.all_cons]
    by_cases h9 : bt s i = 9
    · refine Ev.step (f := fun k => spec_IsValueText.l0 k s (i + 1)) (fun k => ?_) (ev_eq ih (by rw [valC, h9]; rfl))
      simp only [spec_IsValueText.l0]
      rw [if_pos hlt, if_pos h0, if_pos h9, wrap_id (by omega) (by omega)]
    · by_cases h32 : bt s i < 32
      · refine ev_last fun k => ?_
        simp only [spec_IsValueText.l0]
        rw [if_pos hlt, if_pos h0, if_neg h9, if_pos h32, valC, decide_eq_false h9, decide_eq_false (by omega : ¬ 32 ≤ bt s i)]
        rfl
      · by_cases h7 : bt s i = 127
        · refine ev_last fun k => ?_
          simp only [spec_IsValueText.l0]
          rw [if_pos hlt, if_pos h0, if_neg h9, if_neg h32, if_pos h7, valC, h7]
          rfl
        · refine Ev.step (f := fun k => spec_IsValueText.l0 k s (i + 1)) (fun k => ?_) (ev_eq ih (by rw [valC, decide_eq_true (by omega : 32 ≤ bt s i), decide_eq_true h7]; simp))
          simp only [spec_IsValueText.l0]
          rw [if_pos hlt, if_pos h0, if_neg h9, if_neg h32, if_neg h7, wrap_id (by omega) (by omega)]
theorem spec_IsValueText_ev (s : ByteArray) (hs : s.size ≤ 2097152) : Ev (fun k => spec_IsValueText.f k s) (valB s) :=
  spec_IsValueText_l0 s hs s.size 0 (by omega) (by omega)

/-! ### impl_Trim -/
theorem impl_Trim_eq (s : ByteArray) (hs : s.size ≤ 2097152) : impl_Trim.f s = some (trimB s) := by
  unfold impl_Trim.f strings_Trim.f
  rw [if_pos ⟨hs, rfl⟩, Option.bind_some]

/-! ### impl_IsValueText -/
theorem impl_IsValueText_l0 (s : ByteArray) (hs : s.size ≤ 2097152) : ∀ (d : Nat) (i : Int), 0 ≤ i → (s.size : Int) - i = d →
    Ev (fun k => impl_IsValueText.l0 k s (s.size : Int) i) (((bytesOf s).drop i.toNat).all valC && decide (trimB s = s))
  | 0, i, h0, hd => by
    refine ev_last fun k => ?_
    simp only [impl_IsValueText.l0]
    rw [if_neg (by omega), impl_Trim_eq s hs, Option.bind_some, drop_end (by omega), toList_beq]
    rfl
  | d + 1, i, h0, hd => by
    have hlt : i < (s.size : Int) := by omega
    have ih := impl_IsValueText_l0 s hs d (i + 1) (by omega) (by omega)
    rw [drop_bt h0 hlt, List.all_cons]
    by_cases h9 : bt s i = 9
    · refine Ev.step (f := fun k => impl_IsValueText.l0 k s (s.size : Int) (i + 1)) (fun k => ?_) (ev_eq ih (by rw [valC, h9]; rfl))
      simp only [impl_IsValueText.l0]
      rw [if_pos hlt, if_pos h0, if_pos hlt, if_pos (by omega), if_pos h9, if_neg (by omega), wrap_id (by omega) (by omega)]
    · by_cases h32 : bt s i < 32
      · refine ev_last fun k => ?_
        simp only [impl_IsValueText.l0]
        rw [if_pos hlt, if_pos h0, if_pos hlt, if_pos h32, if_neg h9, valC, decide_eq_false h9, decide_eq_false (by omega : ¬ 32 ≤ bt s i)]
        rfl
      · by_cases h7 : bt s i = 127
        · refine ev_last fun k => ?_
          simp only [impl_IsValueText.l0]
          rw [if_pos hlt, if_pos h0, if_pos hlt, if_neg h32, if_pos h7, valC, h7]
          rfl
        · refine Ev.step (f := fun k => impl_IsValueText.l0 k s (s.size : Int) (i + 1)) (fun k => ?_) (ev_eq ih (by rw [valC, decide_eq_true (by omega : 32 ≤ bt s i), decide_eq_true h7]; simp))
          simp only [impl_IsValueText.l0]
          rw [if_pos hlt, if_pos h0, if_pos hlt, if_neg h32, if_neg h7, wrap_id (by omega) (by omega)]
theorem impl_IsValueText_ev (s : ByteArray) (hs : s.size ≤ 2097152) : Ev (fun k => impl_IsValueText.f k s) (valB s) :=
  impl_IsValueText_l0 s hs s.size 0 (by omega) (by omega)

theorem FnExactIsValueText : laws_FnExactIsValueText.Pure := by
  intro s _
  by_cases h : (s.size : Int) > 1048576
  · exact ⟨0, by unfold laws_FnExactIsValueText.f; rw [if_pos h]⟩
  · refine Ev.rounds (Ev.congr (fun k => by unfold laws_FnExactIsValueText.f; rw [if_neg h]) ?_)
    exact ev_bind (spec_IsValueText_ev s (by omega)) (ev_bind (impl_IsValueText_ev s (by omega)) (ev_if_neg (by simp) (Ev.now _)))

end Go.Proofs.YthloaefcmjpfaaaDoor.Pure
