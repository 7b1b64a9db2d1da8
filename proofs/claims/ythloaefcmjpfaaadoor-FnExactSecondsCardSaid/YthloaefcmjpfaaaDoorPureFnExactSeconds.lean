/- The program's Seconds returns what the reference's returns, for every text (a text of more than 2^20 bytes is let by). -/
import Derived.Test.YthloaefcmjpfaaaDoorWalkFnExactSeconds
import Derived.Test.YthloaefcmjpfaaaDoorDom
namespace Go.Proofs.YthloaefcmjpfaaaDoor.Pure
set_option linter.unusedVariables false
set_option linter.unusedSimpArgs false
open Go.RowKit Go.Proofs.YthloaefcmjpfaaaDoor.QFnExactSeconds Go.Proofs.YthloaefcmjpfaaaDoorW.PrintWords Go.Proofs.YthloaefcmjpfaaaDoorW.PrintLast Go.Proofs.YthloaefcmjpfaaaDoorW.PrintMore Go.Proofs.YthloaefcmjpfaaaDoor.Aux Go.Proofs.YthloaefcmjpfaaaDoor.Dom Go.Proofs.YthloaefcmjpfaaaDoor.Ext

/-! ### spec_Seconds -/
theorem spec_Seconds_l0 (s : ByteArray) (hs : s.size ≤ 2097152) : ∀ (d : Nat) (n i : Int), 0 ≤ i → (s.size : Int) - i = d → 0 ≤ n → n ≤ 2147483648 →
    Ev (fun k => spec_Seconds.l0 k s n i) (if ((bytesOf s).drop i.toNat).all digC = true then (satV n ((bytesOf s).drop i.toNat), decide (0 < s.size)) else (0, false))
  | 0, n, i, h0, hd, hn, hm => by
    refine ev_last fun k => ?_
    simp only [spec_Seconds.l0]
    rw [if_neg (by omega), drop_end (by omega), if_pos (show ([] : List Int).all digC = true from rfl), satV]
    congr 2
    rw [decide_eq_decide]
    omega
  | d + 1, n, i, h0, hd, hn, hm => by
    have hlt : i < (s.size : Int) := by omega
    rw [drop_bt h0 hlt, List.all_cons]
    by_cases h1 : bt s i < 48
    · refine ev_last fun k => ?_
      simp only [spec_Seconds.l0]
      have e : digC (bt s i) = false := by rw [Bool.eq_false_iff, Ne, digC_iff]; omega
      rw [if_pos hlt, if_pos h0, if_pos h1, e]
      rfl
    · by_cases h2 : bt s i > 57
      · refine ev_last fun k => ?_
        simp only [spec_Seconds.l0]
        have e : digC (bt s i) = false := by rw [Bool.eq_false_iff, Ne, digC_iff]; omega
        rw [if_pos hlt, if_pos h0, if_neg h1, if_pos h2, e]
        rfl
      · have e : digC (bt s i) = true := digC_iff.2 (by omega)
        have w1 : wrap64 (n * 10) = n * 10 := wrap_id (by omega) (by omega)
        have w2 : (bt s i - 48) % 256 = bt s i - 48 := Int.emod_eq_of_lt (by omega) (by omega)
        have w3 : wrap64 (n * 10 + (bt s i - 48)) = n * 10 + (bt s i - 48) := wrap_id (by omega) (by omega)
        have hmn : 0 ≤ mn (n * 10 + (bt s i - 48)) 2147483648 ∧ mn (n * 10 + (bt s i - 48)) 2147483648 ≤ 2147483648 := by unfold mn; split <;> omega
        refine Ev.step (f := fun k => spec_Seconds.l0 k s (mn (n * 10 + (bt s i - 48)) 2147483648) (i + 1)) (fun k => ?_) (ev_eq (spec_Seconds_l0 s hs d _ (i + 1) (by omega) (by omega) hmn.1 hmn.2) (by rw [e, Bool.true_and, satV]))
        simp only [spec_Seconds.l0]
        rw [if_pos hlt, if_pos h0, if_neg h1, if_neg h2, w1, w2, w3, wrap_id (by omega) (by omega)]
theorem spec_Seconds_ev (s : ByteArray) (hs : s.size ≤ 2097152) : Ev (fun k => spec_Seconds.f k s) (secP (bytesOf s)) := by
  have h := spec_Seconds_l0 s hs s.size 0 0 (by omega) (by omega) (by omega) (by omega)
  unfold secP
  rw [bytesOf_length]
  exact h

/-! ### impl_Seconds -/
theorem strconv_Atoi_dec (ds : List Int) (hd : ds.all digC = true) (hl : ds.length ≤ 10) : strconv_Atoi.f ((⟨#[48]⟩ : ByteArray) ++ strOfNums ds) = some (valL 0 ds, none) := by
  have hr : bytesOf (strOfNums ds) = ds := bytesOf_strOfNums fun c hc => by
    have := digC_iff.1 (List.all_eq_true.1 hd c hc)
    omega
  have hm : ((strOfNums ds).data.toList.map fun b : UInt8 => (b.toNat : Int)) = ds := hr
  unfold strconv_Atoi.f
  rw [if_pos (by rw [ByteArray.size_append, strOfNums_size]; have : (⟨#[48]⟩ : ByteArray).size = 1 := rfl; omega)]
  have e1 : ((⟨#[48]⟩ : ByteArray) ++ strOfNums ds).data.toList = 48 :: (strOfNums ds).data.toList := by simp [ByteArray.data_append]
  obtain ⟨m, h1, h2⟩ := decFrom_val (48 :: (strOfNums ds).data.toList) 0 (by rw [List.map_cons, hm, List.all_cons, hd]; rfl)
  rw [List.map_cons, hm] at h2
  have e2 : Lib.atoi (48 :: (strOfNums ds).data.toList) = some (m : Int) := by
    rw [Lib.atoi, if_neg (by decide), if_neg (by decide), Lib.decNat, if_neg (by simp), h1]
    rfl
  rw [e1, e2, h2]
  rfl
theorem impl_Seconds_l0 (s : ByteArray) (hs : s.size ≤ 2097152) (hA : (bytesOf s).all digC = true ∨ True) : ∀ (d : Nat) (i : Int), 0 ≤ i → (s.size : Int) - i = d → ((bytesOf s).take i.toNat).all digC = true →
    Ev (fun k => impl_Seconds.l0 k s (s.size : Int) i) (secP (bytesOf s))
  | 0, i, h0, hd, ht => by
    have hl := bytesOf_length s
    have hall : (bytesOf s).all digC = true := by rw [List.take_of_length_le (by omega)] at ht; exact ht
    refine Ev.step (fun k => by simp only [impl_Seconds.l0]; rw [if_neg (by omega)]) ?_
    unfold secP
    rw [if_pos hall, satV_eq _ 0 (by omega) (by omega) hall, ← valL_cut]
    by_cases he : s.toList = ([] : List UInt8)
    · have hb : bytesOf s = [] := by have := (toList_lit _ _).1 he; simpa using this
      refine ev_if_pos he (ev_eq (Ev.now _) ?_)
      rw [hb]
      rfl
    · have hne : 0 < (bytesOf s).length := by
        rcases Nat.eq_zero_or_pos (bytesOf s).length with h | h
        · exact absurd ((toList_lit _ _).2 (by rw [List.eq_nil_of_length_eq_zero h]; rfl)) he
        · exact h
      rw [decide_eq_true hne]
      have htl : strings_TrimLeft.f s (⟨#[48]⟩ : ByteArray) = some (strOfNums (cutC 48 (bytesOf s))) := by unfold strings_TrimLeft.f; rw [if_pos rfl]
      refine ev_if_neg he (ev_bind (ev_some fun _ => htl) ?_)
      have hca := cutC_all hall
      by_cases h10 : 10 < (cutC 48 (bytesOf s)).length
      · refine ev_if_pos (by rw [strOfNums_size]; omega) (ev_eq (Ev.now _) ?_)
        rw [mn_ge (cutC_big hall h10)]
      · refine ev_if_neg (by rw [strOfNums_size]; omega) (ev_if_pos (by rw [strOfNums_size]; omega) ?_)
        exact ev_bind (ev_some fun _ => strconv_Atoi_dec _ hca (by omega)) (Ev.now _)
  | d + 1, i, h0, hd, ht => by
    have hlt : i < (s.size : Int) := by omega
    have hl := bytesOf_length s
    have hmem : bt s i ∈ bytesOf s := List.mem_of_mem_drop (i := i.toNat) (by rw [drop_bt h0 hlt]; exact List.mem_cons_self)
    by_cases h1 : digC (bt s i) = true
    · have h2 := digC_iff.1 h1
      refine Ev.step (f := fun k => impl_Seconds.l0 k s (s.size : Int) (i + 1)) (fun k => ?_) (impl_Seconds_l0 s hs hA d (i + 1) (by omega) (by omega) ?_)
      · simp only [impl_Seconds.l0]
        rw [if_pos hlt, if_pos h0, if_pos hlt, if_neg (by omega), if_neg (by omega), wrap_id (by omega) (by omega)]
      · have e : (bytesOf s).take (i + 1).toNat = (bytesOf s).take i.toNat ++ [bt s i] := by
          have h3 := List.take_append_drop i.toNat ((bytesOf s).take (i + 1).toNat)
          rw [List.take_take, Nat.min_eq_left (by omega), List.drop_take, drop_bt h0 hlt, show (i + 1).toNat - i.toNat = 1 by omega] at h3
          rw [← h3]
          rfl
        rw [e, List.all_append, ht, List.all_cons, h1]
        rfl
    · have hn : ¬ (bytesOf s).all digC = true := fun h => h1 (List.all_eq_true.1 h _ hmem)
      unfold secP
      rw [if_neg hn]
      rw [digC_iff] at h1
      refine ev_last fun k => ?_
      simp only [impl_Seconds.l0]
      rw [if_pos hlt, if_pos h0, if_pos hlt]
      by_cases h3 : bt s i < 48
      · rw [if_pos h3]
      · rw [if_neg h3, if_pos (by omega)]
theorem impl_Seconds_ev (s : ByteArray) (hs : s.size ≤ 2097152) : Ev (fun k => impl_Seconds.f k s) (secP (bytesOf s)) :=
  impl_Seconds_l0 s hs (.inr trivial) s.size 0 (by omega) (by omega) (by simp)

theorem FnExactSeconds : laws_FnExactSeconds.Pure := by
  intro s _
  by_cases h : (s.size : Int) > 1048576
  · exact ⟨0, by unfold laws_FnExactSeconds.f; rw [if_pos h]⟩
  · refine Ev.rounds (Ev.congr (fun k => by unfold laws_FnExactSeconds.f; rw [if_neg h]) ?_)
    exact ev_bind (spec_Seconds_ev s (by omega)) (ev_bind (impl_Seconds_ev s (by omega)) (ev_if_pos rfl (ev_if_neg (by simp) (Ev.now _))))

end Go.Proofs.YthloaefcmjpfaaaDoor.Pure
