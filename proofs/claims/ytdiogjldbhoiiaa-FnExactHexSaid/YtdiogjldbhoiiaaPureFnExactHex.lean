/- The program's Hex returns what the reference's returns, for every text (a text of more than 2^20 bytes is let by). -/
import Derived.Test.YtdiogjldbhoiiaaPFnExactHexx1
import Derived.Test.YtdiogjldbhoiiaaDom
namespace Go.Proofs.Ytdiogjldbhoiiaa.Pure
open Go.RowKit Go.Proofs.Ytdiogjldbhoiiaa.PFnExactHex Go.Proofs.YtdiogjldbhoiiaaW.PrintWords Go.Proofs.YtdiogjldbhoiiaaW.PrintLast Go.Proofs.YtdiogjldbhoiiaaW.PrintMore Go.Proofs.Ytdiogjldbhoiiaa.Aux Go.Proofs.Ytdiogjldbhoiiaa.Dom

/-! ### spec_l1Digit -/
theorem spec_l1Digit_eq {c : Int} (h0 : 0 ≤ c) (h1 : c < 16) : spec_l1Digit.f c = some (hxd c) := by
  unfold spec_l1Digit.f
  rw [if_pos h0, if_pos h1]; rfl

/-! ### spec_Hex -/
theorem spec_Hex_l0 (s : ByteArray) (hs : s.size ≤ 2097152) : ∀ (d : Nat) (xs : List Int) (i : Int), 0 ≤ i → (s.size : Int) - i = d → (xs.length : Int) ≤ 2 * i →
    Ev (fun k => spec_Hex.l0 k s xs i) (strOfNums (xs ++ hexL ((bytesOf s).drop i.toNat)))
  | 0, xs, i, h0, hd, hl => by
    refine ev_last fun k => ?_
    simp only [spec_Hex.l0]
    rw [if_neg (by omega), drop_end (by omega)]
    simp [hexL]
  | d + 1, xs, i, h0, hd, hl => by
    have hb := bt_bound s i
    have hlt : i < (s.size : Int) := by omega
    have e1 : Int.tdiv (wrap64 (bt s i)) 16 = bt s i / 16 := by rw [wrap_id (by omega) (by omega), Int.tdiv_eq_ediv_of_nonneg hb.1]
    have e2 : Int.tmod (wrap64 (bt s i)) 16 = bt s i % 16 := by rw [wrap_id (by omega) (by omega), Int.tmod_eq_emod_of_nonneg hb.1]
    refine Ev.step (f := fun k => spec_Hex.l0 k s (xs ++ [hxd (bt s i / 16), hxd (bt s i % 16)]) (i + 1)) (fun k => ?_) (ev_eq (spec_Hex_l0 s hs d _ (i + 1) (by omega) (by omega) (by simp; omega)) ?_)
    · simp only [spec_Hex.l0]
      rw [if_pos hlt, if_pos h0, e1, e2, wrap_id (by omega) (by omega), spec_l1Digit_eq (by omega) (by omega), spec_l1Digit_eq (by omega) (by omega)]
      simp only [Option.bind_some]
      rw [if_pos (by simp; omega), wrap_id (by omega) (by omega)]
    · rw [drop_bt h0 hlt]
      simp [hexL]
theorem spec_Hex_ev (s : ByteArray) (hs : s.size ≤ 2097152) : Ev (fun k => spec_Hex.f k s) (strOfNums (hexL (bytesOf s))) := by
  have h := spec_Hex_l0 s hs s.size [] 0 (by omega) (by omega) (by simp)
  simpa [spec_Hex.f] using h

/-! ### impl_Hex -/
theorem impl_Hex_l0 (s : ByteArray) (hs : s.size ≤ 2097152) : ∀ (d : Nat) (xs : List Int) (i : Int), 0 ≤ i → (s.size : Int) - i = d → (xs.length : Int) ≤ 2 * i →
    Ev (fun k => impl_Hex.l0 k s xs (s.size : Int) i) (strOfNums (xs ++ hexL ((bytesOf s).drop i.toNat)))
  | 0, xs, i, h0, hd, hl => by
    refine ev_last fun k => ?_
    simp only [impl_Hex.l0]
    rw [if_neg (by omega), drop_end (by omega)]
    simp [hexL]
  | d + 1, xs, i, h0, hd, hl => by
    have hb := bt_bound s i
    have hlt : i < (s.size : Int) := by omega
    have e2 : Go.bits .and .u8 (bt s i) 15 = bt s i % 16 := and15_u8 hb.1 hb.2
    refine Ev.step (f := fun k => impl_Hex.l0 k s (xs ++ [hxd (bt s i / 16), hxd (bt s i % 16)]) (s.size : Int) (i + 1)) (fun k => ?_) (ev_eq (impl_Hex_l0 s hs d _ (i + 1) (by omega) (by omega) (by simp; omega)) ?_)
    · simp only [impl_Hex.l0]
      rw [if_pos hlt, if_pos h0, if_pos hlt, e2, if_pos (by omega), if_pos (by omega), if_pos (by omega), if_pos (by omega)]
      simp only [Option.bind_some]
      rw [if_pos (by simp; omega), wrap_id (by omega) (by omega)]
      rfl
    · rw [drop_bt h0 hlt]
      simp [hexL]
theorem impl_Hex_ev (s : ByteArray) (hs : s.size ≤ 2097152) : Ev (fun k => impl_Hex.f k s) (strOfNums (hexL (bytesOf s))) := by
  have h := impl_Hex_l0 s hs s.size [] 0 (by omega) (by omega) (by simp)
  simpa [impl_Hex.f] using h

theorem FnExactHex : laws_FnExactHex.Pure := by
  intro s _
  by_cases h : (s.size : Int) > 1048576
  · exact ⟨0, by unfold laws_FnExactHex.f; rw [if_pos h]⟩
  · refine Ev.rounds (Ev.congr (fun k => by unfold laws_FnExactHex.f; rw [if_neg h]) ?_)
    refine ev_bind (spec_Hex_ev s (by omega)) (ev_bind (impl_Hex_ev s (by omega)) (ev_if_pos rfl (Ev.now _)))

end Go.Proofs.Ytdiogjldbhoiiaa.Pure
