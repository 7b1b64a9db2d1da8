/- The program's Trim returns what the reference's returns, for every text (a text of more than 2^20 bytes is let by). -/
import Derived.Test.YtcllhbgglokejaaDoorWalkFnExactTrim
import Derived.Test.YtcllhbgglokejaaDoorDom
namespace Go.Proofs.YtcllhbgglokejaaDoor.Pure
set_option linter.unusedVariables false
set_option linter.unusedSimpArgs false
open Go.RowKit Go.Proofs.YtcllhbgglokejaaDoor.QFnExactTrim Go.Proofs.YtcllhbgglokejaaDoorW.PrintWords Go.Proofs.YtcllhbgglokejaaDoorW.PrintLast Go.Proofs.YtcllhbgglokejaaDoorW.PrintMore Go.Proofs.YtcllhbgglokejaaDoor.Aux Go.Proofs.YtcllhbgglokejaaDoor.Dom Go.Proofs.YtcllhbgglokejaaDoor.Ext

/-! ### spec_Trim -/
theorem spec_l2Blank_eq (c : Int) : spec_l2Blank.f c = some (blkC c) := by
  unfold spec_l2Blank.f blkC
  by_cases h : c = 32
  · rw [if_pos h, decide_eq_true h, Bool.true_or]
  · rw [if_neg h, decide_eq_false h, Bool.false_or]
    congr 1
theorem spec_Trim_l1 : ∀ (d : Nat) (s : ByteArray), s.size = d → d ≤ 2097152 → Ev (fun k => spec_Trim.l1 k s) (strOfNums ((bytesOf s).reverse.dropWhile blkC).reverse)
  | 0, s, h, _ => by
    refine ev_last fun k => ?_
    simp only [spec_Trim.l1]
    rw [if_neg (by omega), bytesOf_nil h]
    congr 1
    rw [← strOfNums_bytesOf s, bytesOf_nil h]
    rfl
  | d + 1, s, h, hd => by
    have hb := bytesOf_last h
    have hw : wrap64 ((s.size : Int) - 1) = (d : Int) := by rw [wrap_id (by omega) (by omega)]; omega
    have er : (bytesOf s).reverse = bt s (d : Int) :: ((bytesOf s).take d).reverse := by
      conv => lhs; rw [hb]
      rw [List.reverse_append, List.reverse_singleton, List.singleton_append]
    by_cases hk : blkC (bt s (d : Int)) = true
    · have hx : bytesOf (s.extract 0 d) = (bytesOf s).take d := by rw [bytesOf_extract, List.drop_zero]
      have ih := spec_Trim_l1 d (s.extract 0 d) (by rw [ByteArray.size_extract]; omega) (by omega)
      rw [hx] at ih
      refine Ev.step (f := fun k => spec_Trim.l1 k (s.extract 0 d)) (fun k => ?_) (ev_eq ih (by rw [er, List.dropWhile_cons_of_pos hk]))
      simp only [spec_Trim.l1, hw]
      rw [if_pos (by omega), if_pos (by omega), if_pos (by omega), spec_l2Blank_eq, hk, Option.bind_some, if_pos rfl, if_pos (by omega), Int.toNat_natCast]
    · refine ev_last fun k => ?_
      simp only [spec_Trim.l1, hw]
      have hk' : blkC (bt s (d : Int)) = false := by simpa using hk
      rw [if_pos (by omega), if_pos (by omega), if_pos (by omega), spec_l2Blank_eq, hk', Option.bind_some, if_neg (by decide), er, List.dropWhile_cons_of_neg hk, ← er, List.reverse_reverse, strOfNums_bytesOf]
theorem spec_Trim_l0 : ∀ (d : Nat) (s : ByteArray), s.size = d → d ≤ 2097152 → Ev (fun k => spec_Trim.l0 k s) (strOfNums (((bytesOf s).dropWhile blkC).reverse.dropWhile blkC).reverse)
  | 0, s, h, hd => by
    refine Ev.step (f := fun k => spec_Trim.j1 k s) (fun k => ?_) (Ev.step (f := fun k => spec_Trim.l1 k s) (fun k => by simp only [spec_Trim.j1]) (ev_eq (spec_Trim_l1 0 s h hd) (by rw [bytesOf_nil h]; rfl)))
    simp only [spec_Trim.l0]
    rw [if_neg (by omega)]
  | d + 1, s, h, hd => by
    have er : bytesOf s = bt s 0 :: (bytesOf s).drop 1 := drop_bt (s := s) (i := 0) (by omega) (by omega)
    by_cases hk : blkC (bt s 0) = true
    · have hx : bytesOf (s.extract 1 s.size) = (bytesOf s).drop 1 := by rw [bytesOf_extract, List.take_of_length_le (by rw [bytesOf_length]; omega)]
      have ih := spec_Trim_l0 d (s.extract 1 s.size) (by rw [ByteArray.size_extract]; omega) (by omega)
      rw [hx] at ih
      refine Ev.step (f := fun k => spec_Trim.l0 k (s.extract 1 s.size)) (fun k => ?_) (ev_eq ih (by conv => rhs; rw [er, List.dropWhile_cons_of_pos hk]))
      simp only [spec_Trim.l0]
      rw [if_pos (by omega), if_pos (by omega), spec_l2Blank_eq, hk, Option.bind_some, if_pos rfl, if_pos (by omega)]
    · have hk' : blkC (bt s 0) = false := by simpa using hk
      refine Ev.step (f := fun k => spec_Trim.j1 k s) (fun k => ?_) (Ev.step (f := fun k => spec_Trim.l1 k s) (fun k => by simp only [spec_Trim.j1]) (ev_eq (spec_Trim_l1 (d + 1) s h hd) (by conv => rhs; rw [er, List.dropWhile_cons_of_neg hk, ← er])))
      simp only [spec_Trim.l0]
      rw [if_pos (by omega), if_pos (by omega), spec_l2Blank_eq, hk', Option.bind_some, if_neg (by decide)]
theorem spec_Trim_ev (s : ByteArray) (hs : s.size ≤ 2097152) : Ev (fun k => spec_Trim.f k s) (trimB s) := by
  have h := spec_Trim_l0 s.size s rfl hs
  rw [← dropWhile_ends] at h
  exact h

/-! ### impl_Trim -/
theorem impl_Trim_eq (s : ByteArray) (hs : s.size ≤ 2097152) : impl_Trim.f s = some (trimB s) := by
  unfold impl_Trim.f strings_Trim.f
  rw [if_pos ⟨hs, rfl⟩, Option.bind_some]

theorem FnExactTrim : laws_FnExactTrim.Pure := by
  intro s _
  by_cases h : (s.size : Int) > 1048576
  · exact ⟨0, by unfold laws_FnExactTrim.f; rw [if_pos h]⟩
  · refine Ev.rounds (Ev.congr (fun k => by unfold laws_FnExactTrim.f; rw [if_neg h, impl_Trim_eq s (by omega)]) ?_)
    exact ev_bind (spec_Trim_ev s (by omega)) (ev_some fun k => by rw [Option.bind_some, if_pos rfl])

end Go.Proofs.YtcllhbgglokejaaDoor.Pure
