/- The program's Unhex returns what the reference's returns, for every text (a text of more than 2^20 bytes is let by). -/
import Derived.Test.YtcllhbgglokejaaWalkFnExactUnhex
import Derived.Test.YtcllhbgglokejaaDom
namespace Go.Proofs.Ytcllhbgglokejaa.Pure
set_option linter.unusedVariables false
set_option linter.unusedSimpArgs false
open Go.RowKit Go.Proofs.Ytcllhbgglokejaa.QFnExactUnhex Go.Proofs.YtcllhbgglokejaaW.PrintWords Go.Proofs.YtcllhbgglokejaaW.PrintLast Go.Proofs.YtcllhbgglokejaaW.PrintMore Go.Proofs.Ytcllhbgglokejaa.Aux Go.Proofs.Ytcllhbgglokejaa.Dom

/-! ### spec_l1Digit -/
theorem spec_l1Digit_eq {c : Int} (h0 : 0 ≤ c) (h1 : c < 16) : spec_l1Digit.f c = some (hxd c) := by
  unfold spec_l1Digit.f
  rw [if_pos h0, if_pos h1]; rfl

/-! ### spec_Unhex -/
theorem spec_l1FromHex_ev {c : Int} (h0 : 0 ≤ c) (h1 : c < 256) : Ev (fun k => spec_l1FromHex.f k c) (idxB hexDs c) :=
  Ev.of (spec_l1FromHex.mono c) (k := 20) (byte_all (P := fun c => spec_l1FromHex.f 20 c = some (idxB hexDs c)) (by decide +kernel) h0 h1)
theorem hexDs_lt (c : Int) : idxB hexDs c < 16 := (idxB_ge hexDs c).2
theorem spec_Unhex_l0 (s : ByteArray) (hs : s.size ≤ 2097152) : ∀ (d : Nat) (xs : List Int) (i : Int), 0 ≤ i → (s.size : Int) - i = 2 * d → (xs.length : Int) ≤ i →
    Ev (fun k => spec_Unhex.l0 k s xs i) (unhexR xs (unhexL ((bytesOf s).drop i.toNat)))
  | 0, xs, i, h0, hd, hl => by
    refine ev_last fun k => ?_
    simp only [spec_Unhex.l0]
    rw [if_neg (by omega), drop_end (by omega)]
    simp [unhexL, unhexR]
  | d + 1, xs, i, h0, hd, hl => by
    have hb := bt_bound s i
    have hb' := bt_bound s (i + 1)
    have hlt : i < (s.size : Int) := by omega
    have hlt' : i + 1 < (s.size : Int) := by omega
    rw [drop_bt h0 hlt, drop_bt (by omega) hlt']
    refine Ev.step (f := fun k => (spec_l1FromHex.f k (bt s i)).bind fun a => (spec_l1FromHex.f k (bt s (i + 1))).bind fun b => if a < 0 then some ((⟨#[]⟩ : ByteArray), false) else if b < 0 then some ((⟨#[]⟩ : ByteArray), false) else spec_Unhex.l0 k s (xs ++ [(wrap64 (wrap64 (16 * a) + b)) % 256]) (i + 2)) (fun k => ?_) ?_
    · simp only [spec_Unhex.l0]
      have p1 : 0 ≤ i + 1 := by omega
      have p2 : xs.length < 140737488355328 := by omega
      rw [if_pos hlt, if_pos h0, wrap_id (x := i + 1) (by omega) (by omega), wrap_id (x := i + 2) (by omega) (by omega)]
      simp only [p1, hlt', p2, if_true]
    · refine ev_bind (spec_l1FromHex_ev hb.1 hb.2) (ev_bind (spec_l1FromHex_ev hb'.1 hb'.2) ?_)
      have ha := hexDs_lt (bt s i)
      have hc := hexDs_lt (bt s (i + 1))
      simp only [unhexL]
      by_cases h1 : idxB hexDs (bt s i) < 0
      · rw [if_pos (Or.inl h1)]
        exact ev_if_pos h1 (Ev.now _)
      · by_cases h2 : idxB hexDs (bt s (i + 1)) < 0
        · rw [if_pos (Or.inr h2)]
          exact ev_if_neg h1 (ev_if_pos h2 (Ev.now _))
        · rw [if_neg (fun h => h.elim h1 h2)]
          refine ev_if_neg h1 (ev_if_neg h2 ?_)
          have e : (wrap64 (wrap64 (16 * idxB hexDs (bt s i)) + idxB hexDs (bt s (i + 1)))) % 256 = 16 * idxB hexDs (bt s i) + idxB hexDs (bt s (i + 1)) := by
            rw [wrap_id (x := 16 * _) (by omega) (by omega), wrap_id (by omega) (by omega)]; omega
          rw [e]
          refine ev_eq (spec_Unhex_l0 s hs d _ (i + 2) (by omega) (by omega) (by simp; omega)) ?_
          rw [show i + 1 + 1 = i + 2 by omega]
          cases unhexL ((bytesOf s).drop (i + 2).toNat) with
          | none => rfl
          | some r => simp [unhexR]
theorem unhexL_odd : ∀ l : List Int, l.length % 2 = 1 → unhexL l = none
  | [], h => by simp at h
  | [_], _ => rfl
  | a :: b :: r, h => by
    rw [unhexL, unhexL_odd r (by simp at h; omega)]
    split <;> rfl
theorem spec_Unhex_ev (s : ByteArray) (hs : s.size ≤ 2097152) : Ev (fun k => spec_Unhex.f k s) (unhexP (bytesOf s)) := by
  have hl := bytesOf_length s
  by_cases h : ((s.size : Int) % 2) = 1
  · refine ev_some fun k => ?_
    unfold spec_Unhex.f unhexP
    rw [if_pos h, unhexL_odd _ (by omega)]; rfl
  · refine Ev.congr (fun k => by unfold spec_Unhex.f; rw [if_neg h]) ?_
    have e := spec_Unhex_l0 s hs (s.size / 2) [] 0 (by omega) (by omega) (by simp)
    simpa [unhexP] using e

/-! ### strings_IndexByte -/
theorem strings_IndexByte_eq (s : ByteArray) (c : Int) (h0 : 0 ≤ c) (h1 : c < 256) : strings_IndexByte.f s c = some (idxB (bytesOf s) c) := by unfold strings_IndexByte.f; rw [if_pos ⟨h0, h1⟩]

/-! ### impl_Unhex -/
theorem hexDs_lt' (c : Int) : idxB hexDs c < 16 := (idxB_ge hexDs c).2
theorem impl_digit (c : Int) (h0 : 0 ≤ c) (h1 : c < 256) : strings_IndexByte.f (⟨#[48, 49, 50, 51, 52, 53, 54, 55, 56, 57, 97, 98, 99, 100, 101, 102]⟩ : ByteArray) c = some (idxB hexDs c) := strings_IndexByte_eq _ c h0 h1
theorem impl_Unhex_l0 (s : ByteArray) (hs : s.size ≤ 2097152) : ∀ (d : Nat) (xs : List Int) (i : Int), 0 ≤ i → (s.size : Int) - i = 2 * d → (xs.length : Int) ≤ i →
    Ev (fun k => impl_Unhex.l0 k s xs i) (unhexR xs (unhexL ((bytesOf s).drop i.toNat)))
  | 0, xs, i, h0, hd, hl => by
    refine ev_last fun k => ?_
    simp only [impl_Unhex.l0]
    rw [if_neg (by omega), drop_end (by omega)]
    simp [unhexL, unhexR]
  | d + 1, xs, i, h0, hd, hl => by
    have hb := bt_bound s i
    have hb' := bt_bound s (i + 1)
    have hlt : i < (s.size : Int) := by omega
    have hlt' : i + 1 < (s.size : Int) := by omega
    rw [drop_bt h0 hlt, drop_bt (by omega) hlt']
    have ha := hexDs_lt' (bt s i)
    have hc := hexDs_lt' (bt s (i + 1))
    simp only [unhexL]
    by_cases h1 : idxB hexDs (bt s i) < 0
    · rw [if_pos (Or.inl h1)]
      refine ev_last fun k => ?_
      simp only [impl_Unhex.l0]
      rw [if_pos hlt, if_pos h0, impl_digit _ hb.1 hb.2, Option.bind_some, wrap_id (x := i + 1) (by omega) (by omega), if_pos (show 0 ≤ i + 1 by omega), if_pos hlt', impl_digit _ hb'.1 hb'.2, Option.bind_some, if_pos h1]
      rfl
    · by_cases h2 : idxB hexDs (bt s (i + 1)) < 0
      · rw [if_pos (Or.inr h2)]
        refine ev_last fun k => ?_
        simp only [impl_Unhex.l0]
        rw [if_pos hlt, if_pos h0, impl_digit _ hb.1 hb.2, Option.bind_some, wrap_id (x := i + 1) (by omega) (by omega), if_pos (show 0 ≤ i + 1 by omega), if_pos hlt', impl_digit _ hb'.1 hb'.2, Option.bind_some, if_neg h1, if_pos h2]
        rfl
      · rw [if_neg (fun h => h.elim h1 h2)]
        have e : (Go.bits .or .i64 (wrap64 (idxB hexDs (bt s i) * 16)) (idxB hexDs (bt s (i + 1)))) % 256 = 16 * idxB hexDs (bt s i) + idxB hexDs (bt s (i + 1)) := by
          rw [wrap_id (x := _ * 16) (by omega) (by omega), or16 (by omega) ha (by omega) hc]; omega
        refine Ev.step (f := fun k => impl_Unhex.l0 k s (xs ++ [16 * idxB hexDs (bt s i) + idxB hexDs (bt s (i + 1))]) (i + 2)) (fun k => ?_) (ev_eq (impl_Unhex_l0 s hs d _ (i + 2) (by omega) (by omega) (by simp; omega)) ?_)
        · simp only [impl_Unhex.l0]
          rw [if_pos hlt, if_pos h0, impl_digit _ hb.1 hb.2, Option.bind_some, wrap_id (x := i + 1) (by omega) (by omega), if_pos (show 0 ≤ i + 1 by omega), if_pos hlt', impl_digit _ hb'.1 hb'.2, Option.bind_some, if_neg h1, if_neg h2, if_pos (by omega), e, wrap_id (x := i + 2) (by omega) (by omega)]
        · rw [show i + 1 + 1 = i + 2 by omega]
          cases unhexL ((bytesOf s).drop (i + 2).toNat) with
          | none => rfl
          | some r => simp [unhexR]
theorem unhexL_odd' : ∀ l : List Int, l.length % 2 = 1 → unhexL l = none
  | [], h => by simp at h
  | [_], _ => rfl
  | a :: b :: r, h => by
    rw [unhexL, unhexL_odd' r (by simp at h; omega)]
    split <;> rfl
theorem impl_Unhex_ev (s : ByteArray) (hs : s.size ≤ 2097152) : Ev (fun k => impl_Unhex.f k s) (unhexP (bytesOf s)) := by
  have hl := bytesOf_length s
  by_cases h : ((s.size : Int) % 2) = 0
  · refine Ev.congr (fun k => by unfold impl_Unhex.f; rw [if_pos h]) ?_
    have e := impl_Unhex_l0 s hs (s.size / 2) [] 0 (by omega) (by omega) (by simp)
    simpa [unhexP] using e
  · refine ev_some fun k => ?_
    unfold impl_Unhex.f unhexP
    rw [if_neg h, unhexL_odd' _ (by omega)]; rfl

theorem FnExactUnhex : laws_FnExactUnhex.Pure := by
  intro s _
  by_cases h : (s.size : Int) > 1048576
  · exact ⟨0, by unfold laws_FnExactUnhex.f; rw [if_pos h]⟩
  · refine Ev.rounds (Ev.congr (fun k => by unfold laws_FnExactUnhex.f; rw [if_neg h]) ?_)
    exact ev_bind (spec_Unhex_ev s (by omega)) (ev_bind (impl_Unhex_ev s (by omega)) (ev_if_pos rfl (ev_if_neg (by simp) (Ev.now _))))

end Go.Proofs.Ytcllhbgglokejaa.Pure
