/- The program's Unchunk returns what the reference's returns, for every text (a text of more than 2^20 bytes is let by). -/
import Derived.Test.YtcllhbgglokejaaWalkFnExactUnchunk
import Derived.Test.YtcllhbgglokejaaDom
namespace Go.Proofs.Ytcllhbgglokejaa.Pure
set_option linter.unusedVariables false
set_option linter.unusedSimpArgs false
open Go.RowKit Go.Proofs.Ytcllhbgglokejaa.QFnExactUnchunk Go.Proofs.YtcllhbgglokejaaW.PrintWords Go.Proofs.YtcllhbgglokejaaW.PrintLast Go.Proofs.YtcllhbgglokejaaW.PrintMore Go.Proofs.Ytcllhbgglokejaa.Aux Go.Proofs.Ytcllhbgglokejaa.Dom Go.Proofs.Ytcllhbgglokejaa.Ext

/-! ### spec_l1In -/
theorem spec_l1In_eq (a b c : Int) : spec_l1In.f a b c = some (decide (b ≤ a ∧ a ≤ c)) := by
  unfold spec_l1In.f
  by_cases h : a ≥ b
  · rw [if_pos h]; simp [show b ≤ a from h]
  · rw [if_neg h]; simp [show ¬ b ≤ a from h]

/-! ### spec_ReadHexNum -/
theorem spec_ReadHexNum_l0 (s : ByteArray) (hs : s.size ≤ 2097152) : ∀ (d : Nat) (n i : Int), 0 ≤ i → (s.size : Int) - i = d →
    Ev (fun k => spec_ReadHexNum.l0 k s n i) (bif (((bytesOf s).drop i.toNat).all fun c => decide (0 ≤ hexV c)) && decide (1 ≤ (s.size : Int) ∧ (s.size : Int) ≤ 6) then (hexW n ((bytesOf s).drop i.toNat), true) else (0, false))
  | 0, n, i, h0, hd => by
    refine ev_last fun k => ?_
    simp only [spec_ReadHexNum.l0]
    rw [if_neg (by omega), drop_end (by omega), spec_l1In_eq, Option.bind_some]
    simp only [List.all_nil, Bool.true_and, hexW]
    by_cases h : 1 ≤ (s.size : Int) ∧ (s.size : Int) ≤ 6
    · rw [decide_eq_true h]; simp
    · rw [decide_eq_false h]; simp
  | d + 1, n, i, h0, hd => by
    have hb := bt_bound s i
    have hlt : i < (s.size : Int) := by omega
    have ih := fun n' => spec_ReadHexNum_l0 s hs d n' (i + 1) (by omega) (by omega)
    have wi : wrap64 (i + 1) = i + 1 := wrap_id (by omega) (by omega)
    rw [drop_bt h0 hlt]
    simp only [List.all_cons, hexW]
    generalize hc : bt s i = c at hb
    have hgo : 0 ≤ hexV c → ∀ n', n' = wrap64 (n * 16 + hexV c) → Ev (fun k => spec_ReadHexNum.l0 k s n' (i + 1)) (bif (decide (0 ≤ hexV c) && ((bytesOf s).drop (i + 1).toNat).all fun c => decide (0 ≤ hexV c)) && decide (1 ≤ (s.size : Int) ∧ (s.size : Int) ≤ 6) then (hexW (wrap64 (n * 16 + hexV c)) ((bytesOf s).drop (i + 1).toNat), true) else (0, false)) := by
      intro hv n' hn'
      rw [decide_eq_true hv, Bool.true_and, ← hn']
      exact ih n'
    by_cases hd1 : 48 ≤ c ∧ c ≤ 57
    · have hv : hexV c = c - 48 := by unfold hexV; rw [if_pos hd1]
      refine Ev.step (f := fun k => spec_ReadHexNum.j1 k s n i c true) (fun k => ?_) (Ev.step (f := fun k => spec_ReadHexNum.l0 k s (wrap64 (wrap64 (n * 16) + (c - 48) % 256)) (i + 1)) (fun k => ?_) (hgo (by omega) _ (by rw [wrap_wrap, hv, Int.emod_eq_of_lt (by omega) (by omega)])))
      · simp only [spec_ReadHexNum.l0]
        rw [if_pos hlt, if_pos h0, hc, if_pos (by omega), decide_eq_true (by omega)]
      · simp only [spec_ReadHexNum.j1]
        rw [if_pos trivial, wi]
    · have hj1 : ∀ k, spec_ReadHexNum.l0 (k + 1) s n i = spec_ReadHexNum.j1 k s n i c false := by
        intro k
        simp only [spec_ReadHexNum.l0]
        rw [if_pos hlt, if_pos h0, hc]
        by_cases h48 : c ≥ 48
        · rw [if_pos h48, decide_eq_false (by omega)]
        · rw [if_neg h48]
      refine Ev.step hj1 ?_
      by_cases hd2 : 97 ≤ c ∧ c ≤ 102
      · have hv : hexV c = c - 87 := by unfold hexV; rw [if_neg hd1, if_pos hd2]
        refine Ev.step (f := fun k => spec_ReadHexNum.j2 k s n i c true) (fun k => ?_) (Ev.step (f := fun k => spec_ReadHexNum.l0 k s (wrap64 (wrap64 (wrap64 (n * 16) + (c - 97) % 256) + 10)) (i + 1)) (fun k => ?_) (hgo (by omega) _ (by rw [wrap_wrap, show wrap64 (n * 16) + (c - 97) % 256 + 10 = wrap64 (n * 16) + ((c - 97) % 256 + 10) by omega, wrap_wrap, hv, Int.emod_eq_of_lt (by omega) (by omega)]; congr 1; omega)))
        · simp only [spec_ReadHexNum.j1]
          rw [if_neg (by decide), if_pos (by omega), decide_eq_true (by omega)]
        · simp only [spec_ReadHexNum.j2]
          rw [if_pos trivial, wi]
      · have hj2 : ∀ k, spec_ReadHexNum.j1 (k + 1) s n i c false = spec_ReadHexNum.j2 k s n i c false := by
          intro k
          simp only [spec_ReadHexNum.j1]
          rw [if_neg (by decide)]
          by_cases h97 : c ≥ 97
          · rw [if_pos h97, decide_eq_false (by omega)]
          · rw [if_neg h97]
        refine Ev.step hj2 ?_
        by_cases hd3 : 65 ≤ c ∧ c ≤ 70
        · have hv : hexV c = c - 55 := by unfold hexV; rw [if_neg hd1, if_neg hd2, if_pos hd3]
          refine Ev.step (f := fun k => spec_ReadHexNum.l0 k s (wrap64 (wrap64 (wrap64 (n * 16) + (c - 65) % 256) + 10)) (i + 1)) (fun k => ?_) (hgo (by omega) _ (by rw [wrap_wrap, show wrap64 (n * 16) + (c - 65) % 256 + 10 = wrap64 (n * 16) + ((c - 65) % 256 + 10) by omega, wrap_wrap, hv, Int.emod_eq_of_lt (by omega) (by omega)]; congr 1; omega))
          simp only [spec_ReadHexNum.j2]
          rw [if_neg (by decide), if_pos (by omega), if_pos (by omega), wi]
        · have hv : hexV c = -1 := by unfold hexV; rw [if_neg hd1, if_neg hd2, if_neg hd3]
          refine ev_last fun k => ?_
          simp only [spec_ReadHexNum.j2]
          rw [if_neg (by decide), hv]
          by_cases h65 : c ≥ 65
          · rw [if_pos h65, if_neg (by omega)]; simp
          · rw [if_neg h65]; simp
theorem spec_ReadHexNum_ev (s : ByteArray) (hs : s.size ≤ 2097152) : Ev (fun k => spec_ReadHexNum.f k s) (readHexP (bytesOf s)) := by
  have h := spec_ReadHexNum_l0 s hs s.size 0 0 (by omega) (by omega)
  simpa [spec_ReadHexNum.f, readHexP, bytesOf_length] using h

/-! ### spec_l3Line -/
theorem spec_l3Line_l0 (s : ByteArray) (hs : s.size ≤ 2097152) (at0 : Int) (ha : 0 ≤ at0) : ∀ (d : Nat) (i : Int), at0 ≤ i → (s.size : Int) - i = d →
    Ev (fun k => spec_l3Line.l0 k s at0 i) (if idxS ((bytesOf s).drop i.toNat) [13, 10] < 0 then ((⟨#[]⟩ : ByteArray), -1) else (s.extract at0.toNat (i + idxS ((bytesOf s).drop i.toNat) [13, 10]).toNat, i + idxS ((bytesOf s).drop i.toNat) [13, 10] + 2))
  | 0, i, h0, hd => by
    have hl := bytesOf_length s
    refine ev_last fun k => ?_
    simp only [spec_l3Line.l0]
    rw [wrap_id (by omega) (by omega), if_neg (by omega), idxS_short (by rw [List.length_drop]; omega), if_pos (by omega)]
  | d + 1, i, h0, hd => by
    have hl := bytesOf_length s
    by_cases h1 : i + 1 < (s.size : Int)
    · have ih := spec_l3Line_l0 s hs at0 ha d (i + 1) (by omega) (by omega)
      have hx := idxS_bound [13, 10] ((bytesOf s).drop (i + 1).toNat)
      have e := idxS_crlf (bt s i) (bt s (i + 1)) ((bytesOf s).drop (i + 1 + 1).toNat)
      rw [← drop_bt (by omega) h1, ← drop_bt (by omega) (by omega)] at e
      rw [e]
      by_cases h13 : bt s i = 13 ∧ bt s (i + 1) = 10
      · refine ev_last fun k => ?_
        simp only [spec_l3Line.l0]
        rw [wrap_id (x := i + 1) (by omega) (by omega), if_pos h1, if_pos (by omega), if_pos (by omega), if_pos h13.1, if_pos (by omega), if_pos h13.2, if_pos ha, if_pos h0, if_pos (by omega), wrap_id (by omega) (by omega), if_pos h13, if_neg (by omega)]
        simp
      · rw [if_neg h13]
        refine Ev.step (f := fun k => spec_l3Line.l0 k s at0 (i + 1)) (fun k => ?_) (ev_eq ih ?_)
        · simp only [spec_l3Line.l0]
          rw [wrap_id (x := i + 1) (by omega) (by omega), if_pos h1, if_pos (by omega), if_pos (by omega)]
          by_cases ha13 : bt s i = 13
          · rw [if_pos ha13, if_pos (by omega), if_neg (fun hh => h13 ⟨ha13, hh⟩)]
          · rw [if_neg ha13]
        · rcases hx with hx | hx
          · rw [hx, if_pos (by omega), if_pos rfl, if_pos (by omega)]
          · rw [if_neg (show ¬ idxS ((bytesOf s).drop (i + 1).toNat) [13, 10] < 0 by omega), if_neg (show ¬ idxS ((bytesOf s).drop (i + 1).toNat) [13, 10] = -1 by omega), if_neg (by omega)]
            congr 2 <;> omega
    · refine ev_last fun k => ?_
      simp only [spec_l3Line.l0]
      rw [wrap_id (by omega) (by omega), if_neg (by omega), idxS_short (by rw [List.length_drop]; omega), if_pos (by omega)]
theorem spec_l3Line_ev (s : ByteArray) (hs : s.size ≤ 2097152) (i : Int) (h0 : 0 ≤ i) (h1 : i ≤ (s.size : Int)) :
    Ev (fun k => spec_l3Line.f k s i) (if idxS ((bytesOf s).drop i.toNat) [13, 10] < 0 then ((⟨#[]⟩ : ByteArray), -1) else (strOfNums (((bytesOf s).drop i.toNat).take (idxS ((bytesOf s).drop i.toNat) [13, 10]).toNat), i + idxS ((bytesOf s).drop i.toNat) [13, 10] + 2)) := by
  have e := spec_l3Line_l0 s hs i h0 ((s.size : Int) - i).toNat i (by omega) (by omega)
  refine ev_eq (by simpa only [spec_l3Line.f] using e) ?_
  by_cases h : idxS ((bytesOf s).drop i.toNat) [13, 10] < 0
  · rw [if_pos h, if_pos h]
  · rw [if_neg h, if_neg h]
    congr 1
    refine bytesOf_inj ?_
    rw [bytesOf_extract, bytesOf_strOfNums (fun c hc => bytesOf_range (List.mem_of_mem_drop (List.mem_of_mem_take hc))), List.drop_take]
    congr 1
    omega

/-! ### spec_Unchunk -/
theorem spec_Unchunk_l0 (s : ByteArray) (hs : s.size ≤ 2097152) : ∀ (d : Nat) (out : ByteArray) (i : Int), 0 ≤ i → i ≤ (s.size : Int) → (s.size : Int) - i < d → out.size ≤ 60 →
    Ev (fun k => spec_Unchunk.l0 k s out i) (unchP (bytesOf s) d out i)
  | 0, out, i, h0, h1, hd, ho => by omega
  | d + 1, out, i, h0, h1, hd, ho => by
    have hl := bytesOf_length s
    have hx := idxS_bound [13, 10] ((bytesOf s).drop i.toNat)
    simp only [List.length_cons, List.length_nil, List.length_drop] at hx
    have ih := fun out' i' => spec_Unchunk_l0 s hs d out' i'
    refine Ev.step (fun k => by simp only [spec_Unchunk.l0]; rfl) (ev_bind (spec_l3Line_ev s hs i h0 h1) ?_)
    rw [unchP]
    have hlen : ((bytesOf s).drop i.toNat).length = s.size - i.toNat := by rw [List.length_drop, hl]
    by_cases hi : idxS ((bytesOf s).drop i.toNat) [13, 10] < 0
    · rw [if_pos hi]
      have hp : pieceP ((bytesOf s).drop i.toNat) out.size = (if ((s.size : Int) - i) ≤ 8 then ((⟨#[]⟩ : ByteArray), 0, 1) else (⟨#[]⟩, 0, 2)) := by
        unfold pieceP
        rw [if_pos hi, hlen, show ((s.size - i.toNat : Nat) : Int) = (s.size : Int) - i by omega]
      rw [hp]
      refine ev_if_pos (by decide) ?_
      rw [wrap_id (by omega) (by omega)]
      by_cases h8 : (s.size : Int) - i ≤ 8
      · rw [if_pos h8]
        exact ev_if_neg (by omega) (ev_eq (Ev.now _) (by simp))
      · rw [if_neg h8]
        exact ev_if_pos (by omega) (ev_eq (Ev.now _) (by simp))
    · rw [if_neg hi]
      refine ev_if_neg (by simp only; omega) ?_
      have hline : bytesOf (strOfNums (((bytesOf s).drop i.toNat).take (idxS ((bytesOf s).drop i.toNat) [13, 10]).toNat)) = ((bytesOf s).drop i.toNat).take (idxS ((bytesOf s).drop i.toNat) [13, 10]).toNat := bytesOf_strOfNums fun c hc => bytesOf_range (List.mem_of_mem_drop (List.mem_of_mem_take hc))
      have hh := spec_ReadHexNum_ev (strOfNums (((bytesOf s).drop i.toNat).take (idxS ((bytesOf s).drop i.toNat) [13, 10]).toNat)) (by rw [strOfNums_size, List.length_take, List.length_drop]; omega)
      rw [hline] at hh
      refine ev_bind hh ?_
      have hbd := @readHexP_bound (((bytesOf s).drop i.toNat).take (idxS ((bytesOf s).drop i.toNat) [13, 10]).toNat)
      unfold pieceP
      rw [if_neg hi]
      simp only
      generalize readHexP (((bytesOf s).drop i.toNat).take (idxS ((bytesOf s).drop i.toNat) [13, 10]).toNat) = h at hbd
      generalize hj : idxS ((bytesOf s).drop i.toNat) [13, 10] = j at hi hx
      have hbad : ∀ k a b, spec_Unchunk.j1 (k + 1) s out a b true = some ((⟨#[]⟩ : ByteArray), 0, 2) := fun k a b => by simp only [spec_Unchunk.j1]; rw [if_pos trivial]
      by_cases hok : h.2 = true
      · have hb := hbd hok
        refine ev_if_pos hok ?_
        rw [wrap_id (x := (out.size : Int) + h.1) (by omega) (by omega)]
        by_cases h60 : (out.size : Int) + h.1 > 60
        · rw [decide_eq_true h60, if_pos (show ¬ (h.2 = true ∧ (out.size : Int) + h.1 ≤ 60) from fun hh => by omega)]
          exact ev_eq (ev_last fun k => hbad k _ _) (by simp)
        · rw [decide_eq_false h60, if_neg (show ¬ ¬ (h.2 = true ∧ (out.size : Int) + h.1 ≤ 60) from fun hn => hn ⟨hok, by omega⟩)]
          have hrl : ((((bytesOf s).drop i.toNat).drop (j.toNat + 2)).length : Int) = (s.size : Int) - (i + j + 2) := by rw [List.length_drop, hlen]; omega
          have w1 : wrap64 (i + j + 2 + h.1) = i + j + 2 + h.1 := wrap_id (by omega) (by omega)
          have w2 : wrap64 (i + j + 2 + h.1 + 2) = i + j + 2 + h.1 + 2 := wrap_id (by omega) (by omega)
          have w3 : wrap64 (i + j + 2 + h.1 + 1) = i + j + 2 + h.1 + 1 := wrap_id (by omega) (by omega)
          refine Ev.step (fun k => by simp only [spec_Unchunk.j1]; rw [if_neg (by decide), w1, w2]; try rfl) ?_
          rw [hrl]
          by_cases h3 : (s.size : Int) < i + j + 2 + h.1 + 2
          · rw [if_pos (show (s.size : Int) - (i + j + 2) < h.1 + 2 by omega)]
            exact ev_if_pos h3 (ev_eq (Ev.now _) (by simp))
          · rw [if_neg (show ¬ (s.size : Int) - (i + j + 2) < h.1 + 2 by omega)]
            refine ev_if_neg h3 (ev_if_pos (by omega) (ev_if_pos (by omega) ?_))
            have hcut : ((((bytesOf s).drop i.toNat).drop (j.toNat + 2)).drop h.1.toNat).take 2 = [bt s (i + j + 2 + h.1), bt s (i + j + 2 + h.1 + 1)] := by
              rw [List.drop_drop, List.drop_drop, show i.toNat + (j.toNat + 2 + h.1.toNat) = (i + j + 2 + h.1).toNat by omega, drop_bt (by omega) (by omega), drop_bt (by omega) (by omega)]
              rfl
            have hex : s.extract (i + j + 2).toNat (i + j + 2 + h.1).toNat = strOfNums ((((bytesOf s).drop i.toNat).drop (j.toNat + 2)).take h.1.toNat) := by
              refine bytesOf_inj ?_
              rw [bytesOf_extract, bytesOf_strOfNums (fun c hc => bytesOf_range (List.mem_of_mem_drop (List.mem_of_mem_drop (List.mem_of_mem_take hc)))), List.drop_drop, List.drop_take]
              congr 1
              · omega
              · congr 1; omega
            have hsz : (strOfNums ((((bytesOf s).drop i.toNat).drop (j.toNat + 2)).take h.1.toNat)).size = h.1.toNat := by
              rw [strOfNums_size, List.length_take, List.length_drop, hlen]; omega
            rw [hcut]
            by_cases h4 : bt s (i + j + 2 + h.1) = 13 ∧ bt s (i + j + 2 + h.1 + 1) = 10
            · have hq : [bt s (i + j + 2 + h.1), bt s (i + j + 2 + h.1 + 1)] = [13, 10] := by rw [h4.1, h4.2]
              rw [if_pos hq]
              have hstep : ∀ {r}, Ev (fun k => spec_Unchunk.j2 k s out (i + j + 2) h.1 false) r → Ev (fun k => if bt s (i + j + 2 + h.1) = 13 then (if 0 ≤ wrap64 (i + j + 2 + h.1 + 1) then (if wrap64 (i + j + 2 + h.1 + 1) < (s.size : Int) then (spec_Unchunk.j2 k s out (i + j + 2) h.1 ((bt s (wrap64 (i + j + 2 + h.1 + 1))) != 10)) else (none)) else (none)) else (spec_Unchunk.j2 k s out (i + j + 2) h.1 true)) r := by
                intro r hr
                rw [w3]
                refine ev_if_pos h4.1 (ev_if_pos (by omega) (ev_if_pos (by omega) ?_))
                rw [h4.2]; exact hr
              refine hstep ?_
              simp only [if_true]
              refine Ev.step (fun k => by simp only [spec_Unchunk.j2]; rw [if_neg (by decide), if_pos (show 0 ≤ i + j + 2 by omega), w1, if_pos (show i + j + 2 ≤ i + j + 2 + h.1 by omega), if_pos (show i + j + 2 + h.1 ≤ (s.size : Int) by omega), hex, hsz, if_pos (by omega), w2]) ?_
              have hz : strOfNums ((((bytesOf s).drop i.toNat).drop (j.toNat + 2)).take h.1.toNat) = ⟨#[]⟩ ↔ h.1 = 0 := by
                constructor
                · intro hh
                  rw [hh] at hsz
                  have : h.1.toNat = 0 := hsz.symm
                  omega
                · intro hh
                  rw [hh]; rfl
              by_cases h5 : h.1 = 0
              · rw [if_pos (hz.2 h5)]
                refine ev_if_pos h5 (ev_eq (Ev.now _) ?_)
                rw [hz.2 h5]
                refine Prod.ext ?_ (Prod.ext ?_ rfl)
                · exact bytesOf_inj (by rw [bytesOf_append]; simp [bytesOf])
                · simp only; omega
              · rw [if_neg (fun hh => h5 (hz.1 hh))]
                refine ev_if_neg h5 (ev_eq (ih _ _ (by omega) (by omega) (by omega) (by rw [ByteArray.size_append, hsz]; omega)) ?_)
                congr 1
                omega
            · rw [if_neg (show ¬ [bt s (i + j + 2 + h.1), bt s (i + j + 2 + h.1 + 1)] = [13, 10] from fun hh => h4 (by simpa using hh))]
              have hj2 : ∀ k, spec_Unchunk.j2 (k + 1) s out (i + j + 2) h.1 true = some ((⟨#[]⟩ : ByteArray), 0, 2) := fun k => by simp only [spec_Unchunk.j2]; rw [if_pos trivial]
              refine ev_eq (r := ((⟨#[]⟩ : ByteArray), 0, 2)) ?_ (by simp)
              by_cases h13 : bt s (i + j + 2 + h.1) = 13
              · refine ev_if_pos h13 ?_
                rw [w3]
                refine ev_if_pos (by omega) (ev_if_pos (by omega) ?_)
                rw [show (bt s (i + j + 2 + h.1 + 1) != 10) = true from bne_iff_ne.mpr (fun hh => h4 ⟨h13, hh⟩)]
                exact ev_last hj2
              · exact ev_if_neg h13 (ev_last hj2)
      · rw [if_pos (show ¬ (h.2 = true ∧ (out.size : Int) + h.1 ≤ 60) from fun hh => hok hh.1)]
        exact ev_if_neg hok (ev_eq (ev_last fun k => hbad k _ _) (by simp))
theorem spec_Unchunk_ev (s : ByteArray) (hs : s.size ≤ 2097152) : Ev (fun k => spec_Unchunk.f k s) (unchunkP (bytesOf s)) := by
  have hl := bytesOf_length s
  have h := spec_Unchunk_l0 s hs (s.size + 1) ⟨#[]⟩ 0 (by omega) (by omega) (by omega) (by decide)
  unfold unchunkP
  rw [hl]
  exact h

/-! ### impl_in -/
theorem impl_in_eq (a b c : Int) : impl_in.f a b c = some (decide (b ≤ a ∧ a ≤ c)) := by
  unfold impl_in.f
  by_cases h : a ≥ b
  · rw [if_pos h]; simp [show b ≤ a from h]
  · rw [if_neg h]; simp [show ¬ b ≤ a from h]

/-! ### strings_IndexByte -/
theorem strings_IndexByte_eq (s : ByteArray) (c : Int) (h0 : 0 ≤ c) (h1 : c < 256) : strings_IndexByte.f s c = some (idxB (bytesOf s) c) := by unfold strings_IndexByte.f; rw [if_pos ⟨h0, h1⟩]

/-! ### impl_ReadHexNum -/
theorem impl_hexdigit (c : Int) (h0 : 0 ≤ c) (h1 : c < 256) : strings_IndexByte.f (⟨#[48, 49, 50, 51, 52, 53, 54, 55, 56, 57, 97, 98, 99, 100, 101, 102]⟩ : ByteArray) c = some (idxB hexDs c) := strings_IndexByte_eq _ c h0 h1
theorem impl_hexV {c : Int} (h0 : 0 ≤ c) (h1 : c < 256) : hexV c = if 65 ≤ c ∧ c ≤ 70 then c - 55 else idxB hexDs c :=
  byte_all (P := fun c => hexV c = if 65 ≤ c ∧ c ≤ 70 then c - 55 else idxB hexDs c) (by decide +kernel) h0 h1
theorem impl_ReadHexNum_l0 (s : ByteArray) (hs : s.size ≤ 2097152) : ∀ (d : Nat) (n i : Int), 0 ≤ i → (s.size : Int) - i = d →
    Ev (fun k => impl_ReadHexNum.l0 k s n (s.size : Int) i) (bif (((bytesOf s).drop i.toNat).all fun c => decide (0 ≤ hexV c)) then (hexW n ((bytesOf s).drop i.toNat), true) else (0, false))
  | 0, n, i, h0, hd => by
    refine ev_last fun k => ?_
    simp only [impl_ReadHexNum.l0]
    rw [if_neg (by omega), drop_end (by omega)]
    simp [hexW]
  | d + 1, n, i, h0, hd => by
    have hb := bt_bound s i
    have hlt : i < (s.size : Int) := by omega
    have wi : wrap64 (i + 1) = i + 1 := wrap_id (by omega) (by omega)
    have hvv := impl_hexV hb.1 hb.2
    rw [drop_bt h0 hlt]
    simp only [List.all_cons, hexW]
    by_cases hd3 : 65 ≤ bt s i ∧ bt s i ≤ 70
    · rw [if_pos hd3] at hvv
      refine Ev.step (f := fun k => impl_ReadHexNum.j1 k s n i (idxB hexDs (bt s i)) (s.size : Int) i true) (fun k => ?_) (Ev.step (f := fun k => impl_ReadHexNum.l0 k s (wrap64 (n * 16 + hexV (bt s i))) (s.size : Int) (i + 1)) (fun k => ?_) (ev_eq (impl_ReadHexNum_l0 s hs d _ (i + 1) (by omega) (by omega)) (by rw [decide_eq_true (show 0 ≤ hexV (bt s i) by omega), Bool.true_and])))
      · simp only [impl_ReadHexNum.l0]
        rw [if_pos hlt, if_pos h0, if_pos hlt, impl_hexdigit _ hb.1 hb.2, Option.bind_some, if_pos (by omega), decide_eq_true (by omega)]
      · simp only [impl_ReadHexNum.j1]
        rw [if_pos trivial, if_pos h0, if_pos hlt, if_neg (by omega), wi, wrap_wrap, hvv, Int.emod_eq_of_lt (by omega) (by omega), show 16 * n + (bt s i - 65 + 10) = n * 16 + (bt s i - 55) by omega]
    · rw [if_neg hd3] at hvv
      have hj1 : ∀ k, impl_ReadHexNum.l0 (k + 1) s n (s.size : Int) i = impl_ReadHexNum.j1 k s n i (idxB hexDs (bt s i)) (s.size : Int) i false := by
        intro k
        simp only [impl_ReadHexNum.l0]
        rw [if_pos hlt, if_pos h0, if_pos hlt, impl_hexdigit _ hb.1 hb.2, Option.bind_some]
        by_cases h65 : bt s i ≥ 65
        · rw [if_pos h65, decide_eq_false (by omega)]
        · rw [if_neg h65]
      refine Ev.step hj1 ?_
      rw [hvv]
      by_cases hx : idxB hexDs (bt s i) < 0
      · refine ev_last fun k => ?_
        simp only [impl_ReadHexNum.j1]
        rw [if_neg (by decide), if_pos hx, decide_eq_false (by omega)]
        simp
      · refine Ev.step (f := fun k => impl_ReadHexNum.l0 k s (wrap64 (n * 16 + idxB hexDs (bt s i))) (s.size : Int) (i + 1)) (fun k => ?_) (ev_eq (impl_ReadHexNum_l0 s hs d _ (i + 1) (by omega) (by omega)) (by rw [decide_eq_true (show 0 ≤ idxB hexDs (bt s i) by omega), Bool.true_and]))
        simp only [impl_ReadHexNum.j1]
        rw [if_neg (by decide), if_neg hx, wi, wrap_wrap, show 16 * n + idxB hexDs (bt s i) = n * 16 + idxB hexDs (bt s i) by omega]
theorem impl_ReadHexNum_ev (s : ByteArray) (hs : s.size ≤ 2097152) : Ev (fun k => impl_ReadHexNum.f k s) (readHexP (bytesOf s)) := by
  refine Ev.congr (fun k => by unfold impl_ReadHexNum.f; rw [impl_in_eq, Option.bind_some]) ?_
  unfold readHexP
  rw [bytesOf_length]
  by_cases h : 1 ≤ (s.size : Int) ∧ (s.size : Int) ≤ 6
  · refine ev_if_pos (by simpa using h) (ev_eq (impl_ReadHexNum_l0 s hs s.size 0 0 (by omega) (by omega)) ?_)
    rw [decide_eq_true h, Bool.and_true]; rfl
  · refine ev_if_neg (by simpa using h) (ev_eq (Ev.now _) ?_)
    rw [decide_eq_false h, Bool.and_false]; rfl

/-! ### strings_Cut -/
theorem strings_Cut_eq (s sep : ByteArray) (hs : s.size ≤ 2097152) : strings_Cut.f s sep = some (strOfNums (cutL (bytesOf s) (bytesOf sep)).1, strOfNums (cutL (bytesOf s) (bytesOf sep)).2.1, (cutL (bytesOf s) (bytesOf sep)).2.2) := by unfold strings_Cut.f; rw [if_pos hs]

/-! ### impl_piece -/
theorem impl_piece_ev (s : ByteArray) (hs : s.size ≤ 2097152) (ahead : Int) (h0 : 0 ≤ ahead) (h1 : ahead ≤ 60) : Ev (fun k => impl_piece.f k s ahead) (pieceP (bytesOf s) ahead) := by
  have hl := bytesOf_length s
  have hx := idxS_bound [13, 10] (bytesOf s)
  simp only [List.length_cons, List.length_nil] at hx
  refine Ev.congr (fun k => by unfold impl_piece.f; rw [strings_Cut_eq s _ hs, Option.bind_some]) ?_
  have eb : bytesOf (⟨#[13, 10]⟩ : ByteArray) = [13, 10] := by decide +kernel
  rw [eb]
  unfold cutL pieceP
  by_cases hi : idxS (bytesOf s) [13, 10] < 0
  · rw [if_neg (show ¬ 0 ≤ idxS (bytesOf s) [13, 10] by omega), if_pos hi]
    refine ev_if_neg (fun hh => by cases hh) ?_
    rw [hl]
    exact ev_ite (fun _ => Ev.now _) (fun _ => Ev.now _)
  · rw [if_pos (show 0 ≤ idxS (bytesOf s) [13, 10] by omega), if_neg hi]
    refine ev_if_pos rfl ?_
    simp only
    have hline : bytesOf (strOfNums ((bytesOf s).take (idxS (bytesOf s) [13, 10]).toNat)) = (bytesOf s).take (idxS (bytesOf s) [13, 10]).toNat := bytesOf_strOfNums fun c hc => bytesOf_range (List.mem_of_mem_take hc)
    have hrest : bytesOf (strOfNums ((bytesOf s).drop ((idxS (bytesOf s) [13, 10]).toNat + 2))) = (bytesOf s).drop ((idxS (bytesOf s) [13, 10]).toNat + 2) := bytesOf_strOfNums fun c hc => bytesOf_range (List.mem_of_mem_drop hc)
    have hh := impl_ReadHexNum_ev (strOfNums ((bytesOf s).take (idxS (bytesOf s) [13, 10]).toNat)) (by rw [strOfNums_size, List.length_take]; omega)
    rw [hline] at hh
    refine ev_bind hh ?_
    have hbd := @readHexP_bound ((bytesOf s).take (idxS (bytesOf s) [13, 10]).toNat)
    generalize readHexP ((bytesOf s).take (idxS (bytesOf s) [13, 10]).toNat) = h at hbd
    have hbad : ∀ k a b c, impl_piece.j0 (k + 1) a b c true = some ((⟨#[]⟩ : ByteArray), 0, 2) := fun k a b c => by simp only [impl_piece.j0]; rw [if_pos trivial]
    by_cases hok : h.2 = true
    · have hb := hbd hok
      refine ev_if_pos hok ?_
      rw [wrap_id (x := ahead + h.1) (by omega) (by omega)]
      by_cases h60 : ahead + h.1 > 60
      · rw [decide_eq_true h60, if_pos (fun hh => by omega)]
        exact ev_last fun k => hbad k _ _ _
      · rw [decide_eq_false h60, if_neg (fun hn => hn ⟨hok, by omega⟩)]
        have hl2 : (idxS (bytesOf s) [13, 10]).toNat + ([13, 10] : List Int).length = (idxS (bytesOf s) [13, 10]).toNat + 2 := rfl
        rw [hl2]
        have hsz : ((strOfNums ((bytesOf s).drop ((idxS (bytesOf s) [13, 10]).toNat + 2))).size : Int) = (((bytesOf s).drop ((idxS (bytesOf s) [13, 10]).toNat + 2)).length : Int) := by rw [strOfNums_size]
        have hlen : (((bytesOf s).drop ((idxS (bytesOf s) [13, 10]).toNat + 2)).length : Int) ≤ 2097152 := by rw [List.length_drop]; omega
        refine Ev.step (fun k => by simp only [impl_piece.j0]; rw [if_neg (by decide), hsz, wrap_id (x := h.1 + 2) (by omega) (by omega)]) ?_
        refine ev_ite (fun _ => Ev.now _) (fun h3 => ?_)
        refine Ev.congr (fun k => by rw [if_pos hb.1, if_pos (by omega), if_pos (by omega)]) ?_
        have hcmp : ((strOfNums ((bytesOf s).drop ((idxS (bytesOf s) [13, 10]).toNat + 2))).extract h.1.toNat (h.1 + 2).toNat).toList = ([13, 10] : List UInt8) ↔ (((bytesOf s).drop ((idxS (bytesOf s) [13, 10]).toNat + 2)).drop h.1.toNat).take 2 = [13, 10] := by
          rw [toList_lit, bytesOf_extract, hrest, List.drop_take, show (h.1 + 2).toNat - h.1.toNat = 2 by omega]
          rfl
        by_cases h4 : (((bytesOf s).drop ((idxS (bytesOf s) [13, 10]).toNat + 2)).drop h.1.toNat).take 2 = [13, 10]
        · rw [if_pos h4]
          refine ev_if_pos (hcmp.2 h4) (ev_if_pos (by omega) (ev_eq (Ev.now _) ?_))
          have e1 : (strOfNums ((bytesOf s).drop ((idxS (bytesOf s) [13, 10]).toNat + 2))).extract 0 h.1.toNat = strOfNums (((bytesOf s).drop ((idxS (bytesOf s) [13, 10]).toNat + 2)).take h.1.toNat) := by
            refine bytesOf_inj ?_
            rw [bytesOf_extract, hrest, bytesOf_strOfNums (fun c hc => bytesOf_range (List.mem_of_mem_drop (List.mem_of_mem_take hc)))]
            simp
          rw [e1, strOfNums_size, List.length_take, wrap_id (x := _ + h.1) (by omega) (by omega), wrap_id (by omega) (by omega)]
          congr 2
          omega
        · rw [if_neg h4]
          exact ev_if_neg (fun hh => h4 (hcmp.1 hh)) (Ev.now _)
    · rw [if_pos (fun hh => hok hh.1)]
      exact ev_if_neg hok (ev_last fun k => hbad k _ _ _)

/-! ### impl_Unchunk -/
theorem impl_Unchunk_l0 (s : ByteArray) (hs : s.size ≤ 2097152) : ∀ (d : Nat) (out : ByteArray) (i : Int), 0 ≤ i → i ≤ (s.size : Int) → (s.size : Int) - i < d → out.size ≤ 60 →
    Ev (fun k => impl_Unchunk.l0 k s out i) (unchP (bytesOf s) d out i)
  | 0, out, i, h0, h1, hd, ho => by omega
  | d + 1, out, i, h0, h1, hd, ho => by
    have hl := bytesOf_length s
    have he : bytesOf (s.extract i.toNat s.size) = (bytesOf s).drop i.toNat := by
      rw [bytesOf_extract, List.take_of_length_le (by omega)]
    have hp := impl_piece_ev (s.extract i.toNat s.size) (by rw [← bytesOf_length, he, List.length_drop]; omega) out.size (by omega) (by omega)
    rw [he] at hp
    refine Ev.step (fun k => by simp only [impl_Unchunk.l0]; rw [if_pos h0, if_pos h1]) (ev_bind hp ?_)
    rw [unchP]
    refine ev_ite (fun hc => ?_) (fun hc => Ev.now _)
    obtain ⟨q0, q1, q2, q3, q4⟩ := pieceP_ok hc (by omega)
    have hb := readHexP_bound q1
    rw [List.length_drop] at q3
    have e21 : (pieceP ((bytesOf s).drop i.toNat) out.size).2.1 = idxS ((bytesOf s).drop i.toNat) [13, 10] + (readHexP (((bytesOf s).drop i.toNat).take (idxS ((bytesOf s).drop i.toNat) [13, 10]).toNat)).1 + 4 := by rw [q4]
    have e1 : (pieceP ((bytesOf s).drop i.toNat) out.size).1.size = (readHexP (((bytesOf s).drop i.toNat).take (idxS ((bytesOf s).drop i.toNat) [13, 10]).toNat)).1.toNat := by
      rw [q4, strOfNums_size, List.length_take, List.length_drop, List.length_drop]
      omega
    rw [wrap_id (x := i + _) (by omega) (by omega)]
    by_cases hz : (pieceP ((bytesOf s).drop i.toNat) out.size).1 = ⟨#[]⟩
    · rw [if_pos hz]
      exact ev_if_pos ((toList_lit _ _).2 (by rw [hz]; rfl)) (Ev.now _)
    · rw [if_neg hz]
      refine ev_if_neg (fun hh => hz (bytesOf_inj (by rw [(toList_lit _ _).1 hh]; rfl))) (ev_if_pos (by omega) ?_)
      exact impl_Unchunk_l0 s hs d _ _ (by omega) (by omega) (by omega) (by rw [ByteArray.size_append]; omega)
theorem impl_Unchunk_ev (s : ByteArray) (hs : s.size ≤ 2097152) : Ev (fun k => impl_Unchunk.f k s) (unchunkP (bytesOf s)) := by
  have hl := bytesOf_length s
  have h := impl_Unchunk_l0 s hs (s.size + 1) ⟨#[]⟩ 0 (by omega) (by omega) (by omega) (by decide)
  unfold unchunkP
  rw [hl]
  exact h

theorem FnExactUnchunk : laws_FnExactUnchunk.Pure := by
  intro s _
  by_cases h : (s.size : Int) > 1048576
  · exact ⟨0, by unfold laws_FnExactUnchunk.f; rw [if_pos h]⟩
  · refine Ev.rounds (Ev.congr (fun k => by unfold laws_FnExactUnchunk.f; rw [if_neg h]) ?_)
    exact ev_bind (spec_Unchunk_ev s (by omega)) (ev_bind (impl_Unchunk_ev s (by omega)) (ev_if_pos rfl (ev_if_pos rfl (ev_if_pos rfl (Ev.now _)))))

end Go.Proofs.Ytcllhbgglokejaa.Pure
