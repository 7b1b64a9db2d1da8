/- The program's ReadHexNum returns what the reference's returns, for every text (a text of more than 2^20 bytes is let by). -/
import Derived.Test.YtcllhbgglokejaaWalkFnExactReadHexNum
import Derived.Test.YtcllhbgglokejaaDom
namespace Go.Proofs.Ytcllhbgglokejaa.Pure
set_option linter.unusedVariables false
set_option linter.unusedSimpArgs false
open Go.RowKit Go.Proofs.Ytcllhbgglokejaa.QFnExactReadHexNum Go.Proofs.YtcllhbgglokejaaW.PrintWords Go.Proofs.YtcllhbgglokejaaW.PrintLast Go.Proofs.YtcllhbgglokejaaW.PrintMore Go.Proofs.Ytcllhbgglokejaa.Aux Go.Proofs.Ytcllhbgglokejaa.Dom

/-! ### spec_l1In -/
theorem spec_l1In_eq (a b c : Int) : spec_l1In.f a b c = some (decide (b ≤ a ∧ a ≤ c)) := by
  unfold spec_l1In.f
  by_cases h : a ≥ b
  · rw [if_pos h]; simp [show b ≤ a from h]
  · rw [if_neg h]; simp [show ¬ b ≤ a from h]

/-! ### spec_ReadHexNum -/
theorem spec_ReadHexNum_l0 (s : ByteArray) (hs : s.size ≤ 2097152) : ∀ (d : Nat) (n i : Int), 0 ≤ i → (s.size : Int) - i = d →
    Ev (fun k => spec_ReadHexNum.l0 k s n i) (bif (((bytesOf s).drop i.toNat).all fun c => decide (0 ≤ hexV c)) && decide (1 ≤ (s.size : Int) ∧ (s.size : Int) ≤ 6) then (hexW n ((bytesOf s).drop i.toNat), true) else (0, false))
  | 0, n, i, h0, hd => by
    refine ev_last fun k => ?_
    simp only [spec_ReadHexNum.l0]
    rw [if_neg (by omega), drop_end (by omega), spec_l1In_eq, Option.bind_some]
    simp only [List.all_nil, Bool.true_and, hexW]
    by_cases h : 1 ≤ (s.size : Int) ∧ (s.size : Int) ≤ 6
    · rw [decide_eq_true h]; simp
    · rw [decide_eq_false h]; simp
  | d + 1, n, i, h0, hd => by
    have hb := bt_bound s i
    have hlt : i < (s.size : Int) := by omega
    have ih := fun n' => spec_ReadHexNum_l0 s hs d n' (i + 1) (by omega) (by omega)
    have wi : wrap64 (i + 1) = i + 1 := wrap_id (by omega) (by omega)
    rw [drop_bt h0 hlt]
    simp only [List.all_cons, hexW]
    generalize hc : bt s i = c at hb
    have hgo : 0 ≤ hexV c → ∀ n', n' = wrap64 (n * 16 + hexV c) → Ev (fun k => spec_ReadHexNum.l0 k s n' (i + 1)) (bif (decide (0 ≤ hexV c) && ((bytesOf s).drop (i + 1).toNat).all fun c => decide (0 ≤ hexV c)) && decide (1 ≤ (s.size : Int) ∧ (s.size : Int) ≤ 6) then (hexW (wrap64 (n * 16 + hexV c)) ((bytesOf s).drop (i + 1).toNat), true) else (0, false)) := by
      intro hv n' hn'
      rw [decide_eq_true hv, Bool.true_and, ← hn']
      exact ih n'
    by_cases hd1 : 48 ≤ c ∧ c ≤ 57
    · have hv : hexV c = c - 48 := by unfold hexV; rw [if_pos hd1]
      refine Ev.step (f := fun k => spec_ReadHexNum.j1 k s n i c true) (fun k => ?_) (Ev.step (f := fun k => spec_ReadHexNum.l0 k s (wrap64 (wrap64 (n * 16) + (c - 48) % 256)) (i + 1)) (fun k => ?_) (hgo (by omega) _ (by rw [wrap_wrap, hv, Int.emod_eq_of_lt (by omega) (by omega)])))
      · simp only [spec_ReadHexNum.l0]
        rw [if_pos hlt, if_pos h0, hc, if_pos (by omega), decide_eq_true (by omega)]
      · simp only [spec_ReadHexNum.j1]
        rw [if_pos trivial, wi]
    · have hj1 : ∀ k, spec_ReadHexNum.l0 (k + 1) s n i = spec_ReadHexNum.j1 k s n i c false := by
        intro k
        simp only [spec_ReadHexNum.l0]
        rw [if_pos hlt, if_pos h0, hc]
        by_cases h48 : c ≥ 48
        · rw [if_pos h48, decide_eq_false (by omega)]
        · rw [if_neg h48]
      refine Ev.step hj1 ?_
      by_cases hd2 : 97 ≤ c ∧ c ≤ 102
      · have hv : hexV c = c - 87 := by unfold hexV; rw [if_neg hd1, if_pos hd2]
        refine Ev.step (f := fun k => spec_ReadHexNum.j2 k s n i c true) (fun k => ?_) (Ev.step (f := fun k => spec_ReadHexNum.l0 k s (wrap64 (wrap64 (wrap64 (n * 16) + (c - 97) % 256) + 10)) (i + 1)) (fun k => ?_) (hgo (by omega) _ (by rw [wrap_wrap, show wrap64 (n * 16) + (c - 97) % 256 + 10 = wrap64 (n * 16) + ((c - 97) % 256 + 10) by omega, wrap_wrap, hv, Int.emod_eq_of_lt (by omega) (by omega)]; congr 1; omega)))
        · simp only [spec_ReadHexNum.j1]
          rw [if_neg (by decide), if_pos (by omega), decide_eq_true (by omega)]
        · simp only [spec_ReadHexNum.j2]
          rw [if_pos trivial, wi]
      · have hj2 : ∀ k, spec_ReadHexNum.j1 (k + 1) s n i c false = spec_ReadHexNum.j2 k s n i c false := by
          intro k
          simp only [spec_ReadHexNum.j1]
          rw [if_neg (by decide)]
          by_cases h97 : c ≥ 97
          · rw [if_pos h97, decide_eq_false (by omega)]
          · rw [if_neg h97]
        refine Ev.step hj2 ?_
        by_cases hd3 : 65 ≤ c ∧ c ≤ 70
        · have hv : hexV c = c - 55 := by unfold hexV; rw [if_neg hd1, if_neg hd2, if_pos hd3]
          refine Ev.step (f := fun k => spec_ReadHexNum.l0 k s (wrap64 (wrap64 (wrap64 (n * 16) + (c - 65) % 256) + 10)) (i + 1)) (fun k => ?_) (hgo (by omega) _ (by rw [wrap_wrap, show wrap64 (n * 16) + (c - 65) % 256 + 10 = wrap64 (n * 16) + ((c - 65) % 256 + 10) by omega, wrap_wrap, hv, Int.emod_eq_of_lt (by omega) (by omega)]; congr 1; omega))
          simp only [spec_ReadHexNum.j2]
          rw [if_neg (by decide), if_pos (by omega), if_pos (by omega), wi]
        · have hv : hexV c = -1 := by unfold hexV; rw [if_neg hd1, if_neg hd2, if_neg hd3]
          refine ev_last fun k => ?_
          simp only [spec_ReadHexNum.j2]
          rw [if_neg (by decide), hv]
          by_cases h65 : c ≥ 65
          · rw [if_pos h65, if_neg (by omega)]; simp
          · rw [if_neg h65]; simp
theorem spec_ReadHexNum_ev (s : ByteArray) (hs : s.size ≤ 2097152) : Ev (fun k => spec_ReadHexNum.f k s) (readHexP (bytesOf s)) := by
  have h := spec_ReadHexNum_l0 s hs s.size 0 0 (by omega) (by omega)
  simpa [spec_ReadHexNum.f, readHexP, bytesOf_length] using h

/-! ### impl_in -/
theorem impl_in_eq (a b c : Int) : impl_in.f a b c = some (decide (b ≤ a ∧ a ≤ c)) := by
  unfold impl_in.f
  by_cases h : a ≥ b
  · rw [if_pos h]; simp [show b ≤ a from h]
  · rw [if_neg h]; simp [show ¬ b ≤ a from h]

/-! ### strings_IndexByte -/
theorem strings_IndexByte_eq (s : ByteArray) (c : Int) (h0 : 0 ≤ c) (h1 : c < 256) : strings_IndexByte.f s c = some (idxB (bytesOf s) c) := by unfold strings_IndexByte.f; rw [if_pos ⟨h0, h1⟩]

/-! ### impl_ReadHexNum -/
theorem impl_hexdigit (c : Int) (h0 : 0 ≤ c) (h1 : c < 256) : strings_IndexByte.f (⟨#[48, 49, 50, 51, 52, 53, 54, 55, 56, 57, 97, 98, 99, 100, 101, 102]⟩ : ByteArray) c = some (idxB hexDs c) := strings_IndexByte_eq _ c h0 h1
theorem impl_hexV {c : Int} (h0 : 0 ≤ c) (h1 : c < 256) : hexV c = if 65 ≤ c ∧ c ≤ 70 then c - 55 else idxB hexDs c :=
  byte_all (P := fun c => hexV c = if 65 ≤ c ∧ c ≤ 70 then c - 55 else idxB hexDs c) (by decide +kernel) h0 h1
theorem impl_ReadHexNum_l0 (s : ByteArray) (hs : s.size ≤ 2097152) : ∀ (d : Nat) (n i : Int), 0 ≤ i → (s.size : Int) - i = d →
    Ev (fun k => impl_ReadHexNum.l0 k s n (s.size : Int) i) (bif (((bytesOf s).drop i.toNat).all fun c => decide (0 ≤ hexV c)) then (hexW n ((bytesOf s).drop i.toNat), true) else (0, false))
  | 0, n, i, h0, hd => by
    refine ev_last fun k => ?_
    simp only [impl_ReadHexNum.l0]
    rw [if_neg (by omega), drop_end (by omega)]
    simp [hexW]
  | d + 1, n, i, h0, hd => by
    have hb := bt_bound s i
    have hlt : i < (s.size : Int) := by omega
    have wi : wrap64 (i + 1) = i + 1 := wrap_id (by omega) (by omega)
    have hvv := impl_hexV hb.1 hb.2
    rw [drop_bt h0 hlt]
    simp only [List.all_cons, hexW]
    by_cases hd3 : 65 ≤ bt s i ∧ bt s i ≤ 70
    · rw [if_pos hd3] at hvv
      refine Ev.step (f := fun k => impl_ReadHexNum.j1 k s n i (idxB hexDs (bt s i)) (s.size : Int) i true) (fun k => ?_) (Ev.step (f := fun k => impl_ReadHexNum.l0 k s (wrap64 (n * 16 + hexV (bt s i))) (s.size : Int) (i + 1)) (fun k => ?_) (ev_eq (impl_ReadHexNum_l0 s hs d _ (i + 1) (by omega) (by omega)) (by rw [decide_eq_true (show 0 ≤ hexV (bt s i) by omega), Bool.true_and])))
      · simp only [impl_ReadHexNum.l0]
        rw [if_pos hlt, if_pos h0, if_pos hlt, impl_hexdigit _ hb.1 hb.2, Option.bind_some, if_pos (by omega), decide_eq_true (by omega)]
      · simp only [impl_ReadHexNum.j1]
        rw [if_pos trivial, if_pos h0, if_pos hlt, if_neg (by omega), wi, wrap_wrap, hvv, Int.emod_eq_of_lt (by omega) (by omega), show 16 * n + (bt s i - 65 + 10) = n * 16 + (bt s i - 55) by omega]
    · rw [if_neg hd3] at hvv
      have hj1 : ∀ k, impl_ReadHexNum.l0 (k + 1) s n (s.size : Int) i = impl_ReadHexNum.j1 k s n i (idxB hexDs (bt s i)) (s.size : Int) i false := by
        intro k
        simp only [impl_ReadHexNum.l0]
        rw [if_pos hlt, if_pos h0, if_pos hlt, impl_hexdigit _ hb.1 hb.2, Option.bind_some]
        by_cases h65 : bt s i ≥ 65
        · rw [if_pos h65, decide_eq_false (by omega)]
        · rw [if_neg h65]
      refine Ev.step hj1 ?_
      rw [hvv]
      by_cases hx : idxB hexDs (bt s i) < 0
      · refine ev_last fun k => ?_
        simp only [impl_ReadHexNum.j1]
        rw [if_neg (by decide), if_pos hx, decide_eq_false (by omega)]
        simp
      · refine Ev.step (f := fun k => impl_ReadHexNum.l0 k s (wrap64 (n * 16 + idxB hexDs (bt s i))) (s.size : Int) (i + 1)) (fun k => ?_) (ev_eq (impl_ReadHexNum_l0 s hs d _ (i + 1) (by omega) (by omega)) (by rw [decide_eq_true (show 0 ≤ idxB hexDs (bt s i) by omega), Bool.true_and]))
        simp only [impl_ReadHexNum.j1]
        rw [if_neg (by decide), if_neg hx, wi, wrap_wrap, show 16 * n + idxB hexDs (bt s i) = n * 16 + idxB hexDs (bt s i) by omega]
theorem impl_ReadHexNum_ev (s : ByteArray) (hs : s.size ≤ 2097152) : Ev (fun k => impl_ReadHexNum.f k s) (readHexP (bytesOf s)) := by
  refine Ev.congr (fun k => by unfold impl_ReadHexNum.f; rw [impl_in_eq, Option.bind_some]) ?_
  unfold readHexP
  rw [bytesOf_length]
  by_cases h : 1 ≤ (s.size : Int) ∧ (s.size : Int) ≤ 6
  · refine ev_if_pos (by simpa using h) (ev_eq (impl_ReadHexNum_l0 s hs s.size 0 0 (by omega) (by omega)) ?_)
    rw [decide_eq_true h, Bool.and_true]; rfl
  · refine ev_if_neg (by simpa using h) (ev_eq (Ev.now _) ?_)
    rw [decide_eq_false h, Bool.and_false]; rfl

theorem FnExactReadHexNum : laws_FnExactReadHexNum.Pure := by
  intro s _
  by_cases h : (s.size : Int) > 1048576
  · exact ⟨0, by unfold laws_FnExactReadHexNum.f; rw [if_pos h]⟩
  · refine Ev.rounds (Ev.congr (fun k => by unfold laws_FnExactReadHexNum.f; rw [if_neg h]) ?_)
    exact ev_bind (spec_ReadHexNum_ev s (by omega)) (ev_bind (impl_ReadHexNum_ev s (by omega)) (ev_if_pos rfl (ev_if_neg (by simp) (Ev.now _))))

end Go.Proofs.Ytcllhbgglokejaa.Pure
