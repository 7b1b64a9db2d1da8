/- Requests and answers are read from their texts, whatever stands behind, and of a beginning more is wanted: for all codes that are drawn from (codes of more than 2^20 bytes are let by). -/
import Derived.Test.YtbldejnlmpajeaaGreatDoorCFnMessagesf
set_option linter.unusedVariables false
set_option linter.unusedSimpArgs false
set_option maxHeartbeats 8000000
set_option maxRecDepth 100000
namespace Go.Proofs.YtbldejnlmpajeaaGreatDoor.Pure
open Go.RowKit Go.Proofs.YtbldejnlmpajeaaGreatDoor.QL Go.Proofs.YtbldejnlmpajeaaGreatDoorW.PrintWords Go.Proofs.YtbldejnlmpajeaaGreatDoorW.PrintLast Go.Proofs.YtbldejnlmpajeaaGreatDoorW.PrintMore Go.Proofs.YtbldejnlmpajeaaGreatDoor.Aux Go.Proofs.YtbldejnlmpajeaaGreatDoor.Dom Go.Proofs.YtbldejnlmpajeaaGreatDoor.Ext
theorem je (a : Int) : xt.f a = some (decide (a = 204 ∨ a = 304)) := by
  unfold xt.f
  by_cases h : a = 204
  · rw [if_pos h, decide_eq_true (.inl h)]
  · rw [if_neg h]
    congr 1
    rw [Bool.eq_iff_iff, beq_iff_eq, decide_eq_true_eq]
    omega
theorem jO (a : Int) (l : List S55) (b : ByteArray) (hl : l.length ≤ 1048576) (hm : ∀ x ∈ l, x.f0.size ≤ 8388608 ∧ x.f1.size ≤ 8388608) (hG : ∀ nm, ((getL nm (l.map fun x => (x.f0, x.f1))).map fun v => v.size + 2).sum ≤ 8388608) :
    Ev (fun k => yE.f k a l b) (respB a (l.map fun x => (x.f0, x.f1)) b) := by
  refine Ev.congr (fun k => by unfold yE.f; rfl) (zj (xa fun _ => zi0 a 200 599) ?_)
  unfold respB
  by_cases h1 : 200 ≤ a ∧ a ≤ 599
  · rw [decide_eq_true h1]
    refine zf rfl (zj (vl l hl hm hG) ?_)
    cases h2 : qx (l.map fun x => (x.f0, x.f1)) with
    | false => exact zi (by simp) (ev_eq (zO _) (by simp))
    | true =>
      refine zf rfl ?_
      by_cases h3 : (b.size : Int) ≤ 60
      · have e3 : decide (b.size ≤ 60) = true := by rw [decide_eq_true_eq]; omega
        rw [e3]
        refine zf h3 ?_
        by_cases h4 : b = ⟨#[]⟩
        · exact zf ((qU _).2 h4) (ev_eq (zO _) (by simp [h4]))
        · exact zi (fun h => h4 ((qU _).1 h)) (ev_eq (zj (xa fun _ => je a) (zO _)) (by simp [h4]))
      · have e3 : decide (b.size ≤ 60) = false := by rw [decide_eq_false_iff_not]; omega
        rw [e3]
        exact zi h3 (ev_eq (zO _) (by simp))
  · rw [decide_eq_false h1]
    exact zi (by simp) (ev_eq (zO _) (by simp))
theorem vR (u : ByteArray) (hs : u.size ≤ 8388608) (ok : okH u) (h : (headP u).2.2.2 ≠ 0) : Ev (fun k => zA.f k u) (0, [], ⟨#[]⟩, 0, (headP u).2.2.2) :=
  Ev.congr (fun k => by unfold zA.f; rfl) (zj (qX u hs ok) (zi h (zO _)))
theorem zl0 (u : ByteArray) (hs : u.size ≤ 8388608) (ok : okH u) {b c : ByteArray} {F : List (ByteArray × ByteArray)} {X : ByteArray} (h : headP u = ([httpW, b, c], F, X, 0)) {n : Int} (hd : yc0 b = (n, true)) (h3 : b.size = 3) (hr : respB n (wbL F) ⟨#[]⟩ = true) {B : ByteArray} {z : Int}
    (hB : if n = 204 ∨ n = 304 then B = ⟨#[]⟩ ∧ z = 0 else bodyP F X true = (B, z, 0)) (hz : 0 ≤ z ∧ z ≤ 60) :
    Ev (fun k => zA.f k u) (n, (wbL F).map (fun p => (⟨p.1, p.2⟩ : S55)), B, u.size - X.size + z, 0) := by
  obtain ⟨_, _, _, _, _, _, _, hF, hn, hX⟩ := qY0 (u := u) (by rw [h])
  have e1 := qX u hs ok
  rw [h] at e1 hF hn hX
  have hF : ∀ p ∈ F, p.1.size ≤ 60 ∧ p.2.size ≤ 60 := fun p hp => vz (hF p hp)
  have hn : F.length ≤ 12 := hn
  have hX : X.size + 2 ≤ u.size := hX
  have hW : ∀ p ∈ wbL F, p.1.size ≤ 60 ∧ p.2.size ≤ 60 := fun p hp => hF p (jX0 p hp)
  have hm := ym0 F
  have e2 := jO n ((wbL F).map fun p => (⟨p.1, p.2⟩ : S55)) ⟨#[]⟩ (by rw [List.length_map]; omega) (xw0 hW) (by rw [jn]; exact xv0 hW (by omega))
  have e3 := zr0 (F.map fun p => (⟨p.1, p.2⟩ : S55)) X true (by rw [List.length_map]; omega) (by rw [jn]; exact xx0 hF (by omega)) (by omega)
  rw [jn] at e2 e3
  rw [hr] at e2
  have hd' := xJ0 b (by omega)
  rw [hd] at hd'
  refine Ev.congr (fun k => by unfold zA.f; rfl) (zj e1 ?_)
  dsimp only
  refine zf rfl (zf ?_ (zj (xa fun _ => hd') (zj (xa fun _ => jB F (by omega)) (zf ?_ (zf ((qX0 _).2 rfl) (zf rfl (zf ?_ (zj e2 ?_))))))))
  · exact show (1 : Int) < 3 by decide
  · exact show (0 : Int) < 3 by decide
  · show (b.size : Int) = 3
    omega
  have w1 : wrap64 ((u.size : Int) - X.size) = u.size - X.size := yg (by omega) (by omega)
  refine yk (fun k => by simp only [zA.j0]; rfl) (zi (by decide) (zj (xa fun _ => je n) ?_))
  by_cases h4 : n = 204 ∨ n = 304
  · rw [if_pos h4] at hB
    obtain ⟨rfl, rfl⟩ := hB
    refine zf (decide_eq_true h4) (ev_eq (zO _) ?_)
    rw [w1, Int.add_zero]
  · rw [if_neg h4] at hB
    rw [hB] at e3
    refine zi (by rw [decide_eq_true_eq]; exact h4) (zj e3 (zf rfl (ev_eq (zO _) ?_)))
    rw [w1, yg (by simp only; omega) (by simp only; omega)]
theorem vu0 (s : ByteArray) (n : Nat) : (s.extract 0 n).size ≤ s.size := by rw [ByteArray.size_extract]; omega
theorem vt0 (s : ByteArray) (n : Nat) : (s.extract n s.size).size ≤ s.size := by rw [ByteArray.size_extract]; omega
theorem vv0 (x : Int) : (strOfNums [x]).size = 1 := by rw [strOfNums_size]; rfl
def Sp (L t : List Int) : Prop := t.length ≤ 3 ∨ (∃ k, t = L.take k) ∨ ∃ k Y, Y.length ≤ 1 ∧ (t = L.take k ++ (Y ++ L.drop k) ∨ t = L.take k ++ (Y ++ L.drop (k + 1)))
theorem vE0 : ∀ l : List Int, 0 ≤ idxS l cr4 → 0 ≤ idxS l [13, 10]
  | [], h => by exact absurd h (by decide)
  | a :: l, h => by
    rw [idxS] at h ⊢
    split at h
    · rename_i hp
      rw [if_pos]
      · omega
      · obtain ⟨r, e⟩ := List.isPrefixOf_iff_prefix.1 hp
        rw [← e]
        simp [cr4, List.isPrefixOf]
    · split
      · omega
      · split at h
        · omega
        · have := vE0 l (by omega)
          rw [if_neg (by omega)]
          omega
theorem zD1 (R : List Int) : ∀ W : List Int, ((∀ c ∈ W, c ≠ 13) ∨ ∀ c ∈ W, c ≠ 10) → idxS (W ++ 13 :: 10 :: R) [13, 10] = W.length
  | [], _ => by rw [List.nil_append, zc0, if_pos ⟨rfl, rfl⟩]; rfl
  | a :: W, h => by
    have e := zD1 R W (h.imp (fun h c hc => h c (List.mem_cons_of_mem _ hc)) (fun h c hc => h c (List.mem_cons_of_mem _ hc)))
    rw [List.cons_append, idxS, if_neg, e, if_neg (by omega), List.length_cons]
    · omega
    · intro hp
      cases W with
      | nil =>
        simp [List.isPrefixOf] at hp
      | cons b W =>
        simp [List.isPrefixOf] at hp
        rcases h with h | h
        · exact h a List.mem_cons_self hp.1.symm
        · exact h b (List.mem_cons_of_mem _ List.mem_cons_self) hp.2.symm
theorem vH0 (S : List Int) : ∀ W : List Int, (∀ c ∈ W, c ≠ 13) → idxS (W ++ S) [13, 10] = -1 ∨ (W.length : Int) ≤ idxS (W ++ S) [13, 10]
  | [], _ => by
    rcases qg [13, 10] S with h | h
    · exact .inl h
    · exact .inr h.1
  | a :: W, h => by
    have e := vH0 S W fun c hc => h c (List.mem_cons_of_mem _ hc)
    have ha := h a List.mem_cons_self
    rw [List.cons_append, idxS, if_neg (by simp [List.isPrefixOf, Ne.symm ha]), List.length_cons]
    split
    · exact .inl rfl
    · exact .inr (by omega)
theorem vI0 (D : List Int) (hD : 0 ≤ zk.idxA D blA) : ∀ M : List Int, 0 ≤ zk.idxA (M ++ D) blA ∧ (zk.idxA (M ++ D) blA < M.length ∨ zk.idxA (M ++ D) blA = M.length + zk.idxA D blA)
  | [] => ⟨hD, .inr (by simp)⟩
  | a :: M => by
    have ih := vI0 D hD M
    rw [List.cons_append, xK0, List.length_cons]
    split
    · omega
    · rw [if_neg (by omega)]
      omega
theorem one_Y {Y : List Int} (h : Y.length ≤ 1) : (∀ c ∈ Y, c ≠ 13) ∨ ∀ c ∈ Y, c ≠ 10 := by
  cases Y with
  | nil => exact .inl fun c hc => by cases hc
  | cons y Y =>
    have : Y = [] := List.eq_nil_of_length_eq_zero (by rw [List.length_cons] at h; omega)
    subst this
    by_cases e : y = 13
    · exact .inr fun c hc => by rw [List.mem_singleton.1 hc, e]; decide
    · exact .inl fun c hc => by rw [List.mem_singleton.1 hc]; exact e
theorem one_W {P Y Q : List Int} (hY : Y.length ≤ 1) (hP : ∀ c ∈ P, c ≠ 13 ∧ c ≠ 10) (hQ : ∀ c ∈ Q, c ≠ 13 ∧ c ≠ 10) : (∀ c ∈ P ++ (Y ++ Q), c ≠ 13) ∨ ∀ c ∈ P ++ (Y ++ Q), c ≠ 10 := by
  refine (one_Y hY).imp (fun h c hc => ?_) (fun h c hc => ?_) <;>
  · rcases List.mem_append.1 hc with hc | hc
    · first | exact (hP c hc).1 | exact (hP c hc).2
    · rcases List.mem_append.1 hc with hc | hc
      · exact h c hc
      · first | exact (hQ c hc).1 | exact (hQ c hc).2
theorem cut_W {W R : List Int} (h : (∀ c ∈ W, c ≠ 13) ∨ ∀ c ∈ W, c ≠ 10) : (cutL (W ++ 13 :: 10 :: R) [13, 10]).1 = W := by
  unfold cutL
  rw [zD1 R W h, if_pos (by omega), Int.toNat_natCast, List.take_left]
theorem okL_line {B C : List Int} (hB : ∀ c ∈ B, goodC c) (hC : ∀ c ∈ C, goodC c) (nB : 1 ≤ B.length) (nC : C.length = 8) {W R : List Int} {t : ByteArray} (ht : bytesOf t = (W ++ (B ++ 32 :: C)) ++ 13 :: 10 :: R) (hW : (∀ c ∈ W ++ (B ++ 32 :: C), c ≠ 13) ∨ ∀ c ∈ W ++ (B ++ 32 :: C), c ≠ 10) : okH t := by
  intro _
  have e : (cutL (bytesOf t) [13, 10]).1 = W ++ (B ++ 32 :: C) := by rw [ht]; exact cut_W hW
  have hb := xL0 C B (vj0 hB hB).1
  have hi := vI0 (B ++ 32 :: C) (by omega) W
  rw [hb] at hi
  rw [e]
  generalize zk.idxA (W ++ (B ++ 32 :: C)) blA = i at hi
  refine ⟨.inl (by simp only [List.length_append, List.length_cons]; omega), ?_⟩
  rcases hi.2 with h | h
  · exact .inl (by simp only [List.length_drop, List.length_append, List.length_cons]; omega)
  · refine .inr (List.all_eq_true.2 fun c hc => decide_eq_true ?_)
    rw [h, show ((W.length : Int) + (B.length : Int) + 1).toNat = W.length + (B.length + 1) by omega, ← List.drop_drop, List.drop_left] at hc
    have hd := xP0 B C
    rw [show ((B.length : Int) + 1).toNat = B.length + 1 by omega] at hd
    rw [hd] at hc
    exact (hC c hc).2
theorem zt1 {A B C R : List Int} (hA : ∀ c ∈ A, goodC c) (hB : ∀ c ∈ B, goodC c) (hC : ∀ c ∈ C, goodC c) (nA : 1 ≤ A.length) (nB : 1 ≤ B.length) (nC : C.length = 8) {t : ByteArray} (h : Sp ((A ++ 32 :: (B ++ 32 :: C)) ++ 13 :: 10 :: R) (bytesOf t)) : okH t := by
  have hC' : ∀ c ∈ C, c ≠ 13 ∧ 0 ≤ c ∧ c < 128 := fun c hc => by have := hC c hc; unfold goodC at this; omega
  have gn : ∀ {D : List Int}, (∀ c ∈ D, goodC c) → ∀ c ∈ D, c ≠ 13 ∧ c ≠ 10 := fun h c hc => by have := h c hc; unfold goodC at this; omega
  have hE : ∀ c ∈ B ++ 32 :: C, c ≠ 13 ∧ c ≠ 10 := by
    intro c hc
    rcases List.mem_append.1 hc with hc | hc
    · exact gn hB c hc
    · rcases List.mem_cons.1 hc with rfl | hc
      · decide
      · exact gn hC c hc
  intro h4
  revert h4
  show okH t
  rcases h with h | ⟨k, h⟩ | ⟨k, Y, hY, h⟩
  · intro h4
    have := (qg cr4 (bytesOf t)).resolve_left (by omega)
    have e : cr4.length = 4 := rfl
    omega
  · by_cases hk : (A ++ 32 :: (B ++ 32 :: C)).length + 2 ≤ k
    · refine zg0 hA hB hC' (R := R.take (k - (A ++ 32 :: (B ++ 32 :: C)).length - 2)) ?_
      rw [h, List.take_append, List.take_of_length_le (by omega)]
      obtain ⟨d, hd⟩ : ∃ d, k - (A ++ 32 :: (B ++ 32 :: C)).length = d + 2 := ⟨k - (A ++ 32 :: (B ++ 32 :: C)).length - 2, by omega⟩
      rw [hd]
      rfl
    · intro h4
      have := qQ0 (A ++ 32 :: (B ++ 32 :: C)) R (fun c hc => (qS0 hA hB hC' c hc).1) k (fun h => absurd h hk)
      rw [← h] at this
      omega
  · have h : ∃ j, (j = k ∨ j = k + 1) ∧ bytesOf t = ((A ++ 32 :: (B ++ 32 :: C)) ++ 13 :: 10 :: R).take k ++ (Y ++ ((A ++ 32 :: (B ++ 32 :: C)) ++ 13 :: 10 :: R).drop j) := by
      rcases h with h | h
      · exact ⟨k, .inl rfl, h⟩
      · exact ⟨k + 1, .inr rfl, h⟩
    obtain ⟨j, hj, h⟩ := h
    by_cases hk : k ≤ A.length
    · have hM : ∀ c ∈ A ++ [32], c ≠ 13 ∧ c ≠ 10 := by
        intro c hc
        rcases List.mem_append.1 hc with hc | hc
        · exact gn hA c hc
        · rw [List.mem_singleton.1 hc]; decide
      refine okL_line hB hC nB nC (W := (A ++ [32]).take k ++ (Y ++ (A ++ [32]).drop j)) (R := R) ?_ ?_
      · have e1 : ((A ++ 32 :: (B ++ 32 :: C)) ++ 13 :: 10 :: R) = (A ++ [32]) ++ ((B ++ 32 :: C) ++ 13 :: 10 :: R) := by simp
        rw [h, e1, List.take_append_of_le_length (by simp; omega), List.drop_append_of_le_length (by simp; omega)]
        simp only [List.append_assoc]
      · simp only [List.append_assoc]
        refine one_W hY (fun c hc => hM c (List.mem_of_mem_take hc)) fun c hc => ?_
        rcases List.mem_append.1 hc with hc | hc
        · exact hM c (List.mem_of_mem_drop hc)
        · exact hE c hc
    · obtain ⟨k', rfl⟩ : ∃ k', k = A.length + 1 + k' := ⟨k - A.length - 1, by omega⟩
      obtain ⟨j', rfl⟩ : ∃ j', j = A.length + 1 + j' := ⟨j - A.length - 1, by omega⟩
      have e1 : ((A ++ 32 :: (B ++ 32 :: C)) ++ 13 :: 10 :: R) = (A ++ [32]) ++ ((B ++ 32 :: C) ++ 13 :: 10 :: R) := by simp
      have e2 : (A ++ [32]).length = A.length + 1 := by simp
      rw [e1, ← e2, List.take_length_add_append, List.drop_length_add_append, List.append_assoc, List.append_assoc, List.singleton_append] at h
      generalize hS : ((B ++ 32 :: C) ++ 13 :: 10 :: R).take k' ++ (Y ++ ((B ++ 32 :: C) ++ 13 :: 10 :: R).drop j') = S at h
      have nE : (B ++ 32 :: C).length = B.length + 9 := by rw [List.length_append, List.length_cons, nC]
      have hS9 : idxS S [13, 10] = -1 ∨ 9 ≤ idxS S [13, 10] := by
        by_cases hk2 : (B ++ 32 :: C).length ≤ k'
        · rw [List.take_append, List.take_of_length_le hk2, List.append_assoc] at hS
          have := vH0 (((13 :: 10 :: R).take (k' - (B ++ 32 :: C).length)) ++ (Y ++ ((B ++ 32 :: C) ++ 13 :: 10 :: R).drop j')) (B ++ 32 :: C) fun c hc => (hE c hc).1
          rw [hS] at this
          omega
        · rw [List.take_append_of_le_length (by omega), List.drop_append_of_le_length (by omega)] at hS
          have e3 : (B ++ 32 :: C).take k' ++ (Y ++ (B ++ 32 :: C).drop j') ++ 13 :: 10 :: R = S := by rw [← hS]; simp only [List.append_assoc]
          have := zD1 R _ (one_W hY (fun c hc => hE c (List.mem_of_mem_take hc)) (fun c hc => hE c (List.mem_of_mem_drop hc)) (P := (B ++ 32 :: C).take k') (Q := (B ++ 32 :: C).drop j'))
          rw [e3, List.length_append, List.length_append, List.length_take, List.length_drop] at this
          omega
      intro h4
      have h2 := vE0 _ h4
      have hA32 : ∀ c ∈ A ++ [32], c ≠ 13 := by
        intro c hc
        rcases List.mem_append.1 hc with hc | hc
        · exact (gn hA c hc).1
        · rw [List.mem_singleton.1 hc]; decide
      have e4 : ∀ P : List Int, (∀ c ∈ P, c ≠ 13) → idxS (P ++ S) [13, 10] = if idxS S [13, 10] = -1 then -1 else P.length + idxS S [13, 10] := by
        intro P
        induction P with
        | nil => intro _; split <;> simp_all
        | cons a P ih =>
          intro hP
          have ha := hP a List.mem_cons_self
          rw [List.cons_append, idxS, if_neg (by simp [List.isPrefixOf, Ne.symm ha]), ih fun c hc => hP c (List.mem_cons_of_mem _ hc), List.length_cons]
          have := qg [13, 10] S
          split
          · simp_all
          · rw [if_neg (by omega)]; omega
      have e5 := e4 (A ++ [32]) hA32
      rw [List.append_assoc, List.singleton_append, ← h] at e5
      rw [e2] at e5
      have hS0 : ¬ idxS S [13, 10] = -1 := by intro hh; rw [if_pos hh] at e5; omega
      rw [if_neg hS0] at e5
      obtain ⟨d, hd⟩ : ∃ d : Nat, idxS S [13, 10] = d + 9 := ⟨(idxS S [13, 10] - 9).toNat, by omega⟩
      have hb := qg [13, 10] S
      rw [hd] at hb
      simp only [List.length_cons, List.length_nil] at hb
      have e6 : (cutL (bytesOf t) [13, 10]).1 = A ++ 32 :: S.take (d + 9) := by
        unfold cutL
        rw [if_pos h2, e5, hd, h, show ((A.length + 1 : Nat) + ((d : Int) + 9)).toNat = A.length + (d + 9 + 1) by omega, List.take_length_add_append, List.take_succ_cons]
      rw [e6, xL0 _ A (vj0 hA hA).1, xP0]
      have hl : (S.take (d + 9)).length = d + 9 := by rw [List.length_take]; omega
      exact ⟨.inl (by rw [List.length_append, List.length_cons, hl]; omega), .inl (by rw [hl]; omega)⟩
theorem jE (s : ByteArray) (n : Nat) : bytesOf (s.extract 0 n) = (bytesOf s).take n := by rw [xH, List.drop_zero]
theorem xS0 (s : ByteArray) (n : Nat) : bytesOf (s.extract n s.size) = (bytesOf s).drop n := by rw [xH, ← zw, List.take_length]
theorem jM0 (x : Int) : (bytesOf (strOfNums [x % 256])).length ≤ 1 := by rw [zw, strOfNums_size]; exact Nat.le_refl 1
theorem ze1 (b : List Int) (i h : Int) (s : ByteArray) (hb : b.length ≤ 1048576) (h0 : 0 ≤ i) (hs : s.size ≤ 8388608) : ∃ t i' h', Ev (fun k => zN.f k b i h s) (t, i', h') ∧ Sp (bytesOf s) (bytesOf t) ∧ t.size ≤ 2 * s.size + 3 := by
  by_cases hz : (s.size : Int) = 0
  · obtain ⟨t, i', h', e, q, r⟩ := jT b i h 3 hb h0 (by omega) (by omega)
    exact ⟨t, i', h', Ev.congr (fun k => by unfold zN.f; rw [if_pos hz]) (zj e (zO _)), .inl (by rw [zw]; omega), by omega⟩
  obtain ⟨x, i1, g1, e1, a1, a2, a3⟩ := xg b i h (s.size : Int) hb h0
  obtain ⟨y, i2, g2, e2, b1, b2, b3⟩ := xg b i1 g1 4 hb a3
  have hx : x < (s.size : Int) := by omega
  have hw : wrap64 (x + 1) = x + 1 := yg (by omega) (by omega)
  have hx1 : (x + 1).toNat = x.toNat + 1 := by omega
  have p1 := vu0 s x.toNat
  have p2 := vt0 s (x + 1).toNat
  have p3 := vt0 s x.toNat
  by_cases c0 : y = 0
  · refine ⟨s.extract 0 x.toNat ++ s.extract (x + 1).toNat s.size, i2, g2, xa fun k => ?_, .inr (.inr ⟨x.toNat, [], Nat.zero_le _, .inr ?_⟩), by rw [ByteArray.size_append]; omega⟩
    · unfold zN.f
      rw [if_neg hz, e1, Option.bind_some, e2, Option.bind_some]
      dsimp only
      rw [if_pos c0, if_pos a1, if_pos (by omega), hw, if_pos (by omega), if_pos (by omega), if_pos (by omega)]
    · rw [yP, jE, xS0, hx1, List.nil_append]
  by_cases c1 : y = 1
  · obtain ⟨z, i3, g3, e3, d1, d2, d3⟩ := vk b i2 g2 hb b3
    have q1 := vv0 (z % 256)
    refine ⟨s.extract 0 x.toNat ++ strOfNums [z % 256] ++ s.extract x.toNat s.size, i3, g3, xa fun k => ?_, .inr (.inr ⟨x.toNat, _, jM0 z, .inl ?_⟩), by rw [ByteArray.size_append, ByteArray.size_append]; omega⟩
    · unfold zN.f
      rw [if_neg hz, e1, Option.bind_some, e2, Option.bind_some]
      dsimp only
      rw [if_neg c0, if_pos c1, if_pos a1, if_pos (by omega), e3, Option.bind_some, Option.bind_some]
      dsimp only
      rw [if_pos (by omega), if_pos (by rw [ByteArray.size_append]; omega)]
    · rw [yP, yP, jE, xS0, List.append_assoc]
  by_cases c2 : y = 2
  · refine ⟨s.extract 0 x.toNat, i2, g2, xa fun k => ?_, .inr (.inl ⟨x.toNat, jE s _⟩), by omega⟩
    unfold zN.f
    rw [if_neg hz, e1, Option.bind_some, e2, Option.bind_some]
    dsimp only
    rw [if_neg c0, if_neg c1, if_pos c2, if_pos a1, if_pos (by omega)]
  · obtain ⟨z, i3, g3, e3, d1, d2, d3⟩ := xg b i2 g2 255 hb b3
    have q1 := vv0 (Go.bits .xor .i64 (wrap64 (bt s x)) (wrap64 (1 + z)) % 256)
    refine ⟨s.extract 0 x.toNat ++ strOfNums [Go.bits .xor .i64 (wrap64 (bt s x)) (wrap64 (1 + z)) % 256] ++ s.extract (x + 1).toNat s.size, i3, g3, xa fun k => ?_, .inr (.inr ⟨x.toNat, _, jM0 (Go.bits .xor .i64 (wrap64 (bt s x)) (wrap64 (1 + z))), .inr ?_⟩), by rw [ByteArray.size_append, ByteArray.size_append]; omega⟩
    · unfold zN.f
      rw [if_neg hz, e1, Option.bind_some, e2, Option.bind_some]
      dsimp only
      rw [if_neg c0, if_neg c1, if_neg c2, if_pos a1, if_pos (by omega), if_pos hx, e3, Option.bind_some, Option.bind_some]
      dsimp only
      rw [if_pos (by omega), hw, if_pos (by omega), if_pos (by omega), if_pos (by rw [ByteArray.size_append]; omega)]
    · rw [yP, yP, jE, xS0, hx1, List.append_assoc]
theorem yY0 (k : Nat) (u : Int) (acc : List Int) (h0 : 0 ≤ u) (h1 : u ≤ 9223372036854775807) (ha : acc.length ≤ 100) (h : u > 0 ∨ acc = []) : yj.l0 (k + 1) u (strOfNums acc) = yj.l0 k (u / 16) (strOfNums (hxn (u % 16) :: acc)) := by
  have e : ∀ acc : List Int, acc.length ≤ 100 → (if 0 ≤ (Int.tmod u 16) then (if (Int.tmod u 16) < 16 then ((some (([bt (⟨#[48, 49, 50, 51, 52, 53, 54, 55, 56, 57, 97, 98, 99, 100, 101, 102]⟩ : ByteArray) (Int.tmod u 16)] : List Int) : List Int)).bind fun y101 => (if (strOfNums y101).size + (strOfNums acc).size ≤ 9223372036854775807 then (yj.l0 k (wrap64 (Int.tdiv u 16)) ((strOfNums y101) ++ (strOfNums acc))) else (none))) else (none)) else (none)) = yj.l0 k (u / 16) (strOfNums (hxn (u % 16) :: acc)) := by
    intro acc ha
    rw [Int.tmod_eq_emod_of_nonneg h0, Int.tdiv_eq_ediv_of_nonneg h0, if_pos (by omega), if_pos (by omega), Option.bind_some, hex_bt (by omega) (by omega), if_pos (by rw [strOfNums_size, strOfNums_size]; simp; omega), yg (by omega) (by omega), ← xp]
    rfl
  simp only [yj.l0]
  by_cases hu : u > 0
  · rw [if_pos hu]
    exact e acc ha
  · rw [if_neg hu]
    rcases h with h | rfl
    · exact absurd h hu
    · rw [if_pos qt0]
      exact e [] (by simp)
theorem zo0 : ∀ (f : Nat) (u : Int) (acc : List Int), 0 ≤ u → u ≤ 9223372036854775807 → u < 16 ^ (f + 1) → acc.length + f ≤ 90 → (u > 0 ∨ acc = []) → Ev (fun k => yj.l0 k u (strOfNums acc)) (strOfNums (hexA (f + 1) u acc))
  | f, u, acc, h0, h1, hu, ha, h => by
    refine yk (fun k => yY0 k u acc h0 h1 (by omega) h) ?_
    rw [hexA]
    by_cases h16 : 16 ≤ u
    · rw [if_pos h16]
      cases f with
      | zero => simp at hu; omega
      | succ f => exact zo0 f (u / 16) _ (by omega) (by omega) (by rw [Int.pow_succ] at hu; omega) (by simp; omega) (.inl (by omega))
    · rw [if_neg h16]
      refine yQ fun k => ?_
      rw [show u / 16 = 0 by omega, show u % 16 = u by omega]
      simp only [yj.l0]
      rw [if_neg (by decide), if_neg (by rw [qU]; intro hh; have := congrArg ByteArray.size hh; rw [strOfNums_size] at this; simp [ByteArray.size] at this)]
theorem qd0 (n : Int) (h1 : n ≤ 9223372036854775807) : Ev (fun k => yj.f k n) (if n < 0 then ⟨#[]⟩ else hexNB n) := by
  have hp : (16 : Int) ^ 16 = 18446744073709551616 := by decide
  refine Ev.congr (fun k => by unfold yj.f; rfl) (zt0 (fun _ => zO _) fun h => ?_)
  have := zo0 15 n [] (by omega) h1 (by rw [hp]; omega) (by simp) (.inr rfl)
  exact this
theorem chk_cat (sz : Nat) (d : Nat) (s : ByteArray) (h : ¬ s.size = 0) : chkL sz (d + 1) s = hexNB (min sz s.size : Nat) ++ ⟨#[13, 10]⟩ ++ s.extract 0 (min sz s.size) ++ ⟨#[13, 10]⟩ ++ chkL sz d (s.extract (min sz s.size) s.size) := by
  rw [chkL, if_neg h]
theorem mn_cast (sz : Int) (n : Nat) (h : 1 ≤ sz) : mn sz (n : Int) = ((min sz.toNat n : Nat) : Int) := by
  unfold mn
  split <;> omega
theorem zW0 (sz : Int) (h1 : 1 ≤ sz) : ∀ (d : Nat) (s out : ByteArray), s.size < d → s.size ≤ 8388608 → out.size + 100 * s.size ≤ 10000000000 →
    Ev (fun k => yq.l0 k s sz out) (out ++ (chkL sz.toNat d s ++ ⟨#[48, 13, 10, 13, 10]⟩))
  | 0, s, out, hd, hs, ho => by omega
  | d + 1, s, out, hd, hs, ho => by
    have z1 : (⟨#[13, 10]⟩ : ByteArray).size = 2 := rfl
    by_cases h : (s.size : Int) > 0
    · have hm : mn sz (s.size : Int) = ((min sz.toNat s.size : Nat) : Int) := mn_cast sz s.size h1
      have hx := qA0 ((min sz.toNat s.size : Nat) : Int)
      have e1 : (s.extract 0 (min sz.toNat s.size)).size = min sz.toNat s.size := by rw [ByteArray.size_extract]; omega
      have e2 : (s.extract (min sz.toNat s.size) s.size).size = s.size - min sz.toNat s.size := by rw [ByteArray.size_extract]; omega
      have hxn := qd0 ((min sz.toNat s.size : Nat) : Int) (by omega)
      rw [if_neg (by omega)] at hxn
      have ih := zW0 sz h1 d (s.extract (min sz.toNat s.size) s.size) (out ++ hexNB ((min sz.toNat s.size : Nat) : Int) ++ ⟨#[13, 10]⟩ ++ s.extract 0 (min sz.toNat s.size) ++ ⟨#[13, 10]⟩) (by omega) (by omega) (by simp only [ByteArray.size_append, z1, e1, e2]; omega)
      refine yk (fun k => by simp only [yq.l0]; rw [if_pos h, hm]) (zj hxn ?_)
      refine Ev.congr (fun k => by rw [if_pos (by omega), if_pos (by simp only [ByteArray.size_append]; omega), if_pos (by omega), if_pos (by omega), Int.toNat_natCast, if_pos (by simp only [ByteArray.size_append, z1, e1]; omega), if_pos (by simp only [ByteArray.size_append, z1, e1]; omega)]) (ev_eq ih ?_)
      rw [chk_cat _ _ _ (by omega)]
      simp only [ByteArray.append_assoc]
    · refine yQ fun k => ?_
      simp only [yq.l0]
      rw [if_neg h, if_pos (by omega), chkL, if_pos (by omega)]
      congr 1
theorem qN0 (s : ByteArray) (sz : Int) (hs : s.size ≤ 8388608) : Ev (fun k => yq.f k s sz) (chkB s sz) := by
  unfold chkB
  refine Ev.congr (fun k => by unfold yq.f; rfl) (zt0 (fun _ => zO _) fun h => ?_)
  refine ev_eq (zW0 sz (by omega) (s.size + 1) s ⟨#[]⟩ (by omega) hs (by have : (⟨#[]⟩ : ByteArray).size = 0 := rfl; omega)) ?_
  exact ByteArray.empty_append
theorem jI0 (sz : Nat) (h1 : 1 ≤ sz) : ∀ (d : Nat) (s : ByteArray), (chkL sz d s).size ≤ 100 * s.size
  | 0, s => Nat.zero_le _
  | d + 1, s => by
    have z1 : (⟨#[13, 10]⟩ : ByteArray).size = 2 := rfl
    rw [chkL]
    split
    · exact Nat.zero_le _
    · have hx := qA0 ((min sz s.size : Nat) : Int)
      have ih := jI0 sz h1 d (s.extract (min sz s.size) s.size)
      have e1 : (s.extract 0 (min sz s.size)).size = min sz s.size := by rw [ByteArray.size_extract]; omega
      have e2 : (s.extract (min sz s.size) s.size).size = s.size - min sz s.size := by rw [ByteArray.size_extract]; omega
      rw [e2] at ih
      simp only [ByteArray.size_append, z1, e1]
      omega
theorem xy0 : ∀ l : List (ByteArray × ByteArray), (∀ p ∈ l, p.1.size ≤ 60 ∧ p.2.size ≤ 60) → (showR l).size ≤ 124 * l.length + 2
  | [], _ => by decide
  | p :: r, h => by
    have h1 := h p List.mem_cons_self
    have h2 := xy0 r fun q hq => h q (List.mem_cons_of_mem _ hq)
    rw [showR]
    simp only [ByteArray.size_append, xM, xw, List.length_cons]
    omega
theorem yq0 {l : List (ByteArray × ByteArray)} (h : qa l = true) : (showB l).size ≤ 1500 := by
  obtain ⟨e, hf⟩ := qO0 h
  have h1 := xy0 l fun p hp => vz (hf p hp)
  unfold qa at h
  rw [Bool.and_eq_true, decide_eq_true_eq] at h
  rw [e]
  omega
theorem xz0 (m u : ByteArray) (l : List (ByteArray × ByteArray)) (b : ByteArray) : (reqT m u l b).size ≤ 2000 := by
  unfold reqT
  split
  · rename_i h
    obtain ⟨_, _, h3, h4, _⟩ := yt0 h
    have h5 := yq0 (vp h3 h4)
    unfold reqB uriB at h
    simp only [Bool.and_eq_true, decide_eq_true_eq, zw] at h
    simp only [ByteArray.size_append, jZ, zX0]
    omega
  · decide
theorem jz0 {t : ByteArray} (h : t.size ≤ 3) : okH t := by
  intro h4
  have := (qg cr4 (bytesOf t)).resolve_left (by omega)
  rw [zw] at this
  have e : cr4.length = 4 := rfl
  omega
def okHB (t : ByteArray) : Bool := decide (t.size ≤ 100) && (decide (idxS (bytesOf t) cr4 < 0) || ((decide (8 < (cutL (bytesOf t) [13, 10]).1.length) || zk.okA (cutL (bytesOf t) [13, 10]).1) && (decide (8 < ((cutL (bytesOf t) [13, 10]).1.drop (zk.idxA (cutL (bytesOf t) [13, 10]).1 blA + 1).toNat).length) || zk.okA ((cutL (bytesOf t) [13, 10]).1.drop (zk.idxA (cutL (bytesOf t) [13, 10]).1 blA + 1).toNat))))
theorem vi0 {t : ByteArray} (h : okHB t = true) : okH t ∧ t.size ≤ 100 := by
  unfold okHB at h
  simp only [Bool.and_eq_true, Bool.or_eq_true, decide_eq_true_eq] at h
  refine ⟨fun h4 => ?_, h.1⟩
  unfold ascA
  exact h.2.resolve_left (by omega)
def goodB (t : ByteArray) : Bool := decide (1 ≤ t.size) && decide (t.size ≤ 10) && (bytesOf t).all fun c => decide (33 ≤ c ∧ c < 128)
theorem vK0 {t : ByteArray} (h : goodB t = true) : 1 ≤ t.size ∧ t.size ≤ 10 ∧ ∀ c ∈ bytesOf t, goodC c := by
  unfold goodB at h
  simp only [Bool.and_eq_true, decide_eq_true_eq, List.all_eq_true] at h
  exact ⟨h.1.1, h.1.2, h.2⟩
theorem vh0 : okH ⟨#[]⟩ := jz0 (by decide)
def drT : List ByteArray := [⟨#[71, 69, 84, 32, 47, 32, 72, 84, 84, 80, 47, 49, 46, 48, 13, 10, 13, 10]⟩, ⟨#[71, 69, 84, 32, 47, 13, 10, 13, 10]⟩, ⟨#[13, 10, 13, 10]⟩, ⟨#[71, 69, 84, 32, 32, 47, 32, 72, 84, 84, 80, 47, 49, 46, 49, 13, 10, 13, 10]⟩, ⟨#[71, 69, 84, 32, 47, 32, 72, 84, 84, 80, 47, 49, 46, 49, 13, 10, 65, 58, 32, 98, 13, 10, 13, 10]⟩, ⟨#[71, 69, 84, 32, 47, 32, 72, 84, 84, 80, 47, 49, 46, 49, 13, 10, 67, 111, 110, 116, 101, 110, 116, 45, 76, 101, 110, 103, 116, 104, 58, 32, 57, 13, 10, 13, 10, 97, 98, 99]⟩, ⟨#[71, 69, 84, 32, 47, 32, 72, 84, 84, 80, 47, 49, 46, 49, 13, 10, 67, 111, 110, 116, 101, 110, 116, 45, 76, 101, 110, 103, 116, 104, 58, 32, 120, 13, 10, 13, 10]⟩]
theorem vg0 {l : List S55} (h : okL l) (hl : l.length ≤ 1000) : l.length ≤ 1048576 ∧ (∀ x ∈ l, x.f0.size ≤ 8388608 ∧ x.f1.size ≤ 8388608) ∧ ∀ nm, ((getL nm (l.map fun x => (x.f0, x.f1))).map fun v => v.size + 2).sum ≤ 8388608 := by
  refine ⟨by omega, fun x hx => ⟨Nat.le_trans (h x hx).1 (by decide), Nat.le_trans (h x hx).2.1 (by decide)⟩, fun nm => ?_⟩
  have := xs0 nm (n := 1048576) (by decide) (okL_size h hl)
  omega
theorem http8 : (bytesOf httpW).length = 8 := rfl
theorem vv (b : List Int) (hb : b.length ≤ 1048576) : ∃ u, Ev (fun k => zz.f k b) u ∧ okH u ∧ u.size ≤ 8388608 := by
  obtain ⟨h', e⟩ := vt b hb
  obtain ⟨m, u, l, t, i1, g1, e1, hm, hu, q1, n1, t1, a3⟩ := yN0 b 0 h' hb (by omega)
  have gm := vK0 (List.all_eq_true.1 (show l6met.all goodB = true by decide +kernel) m hm)
  have gu := vK0 (List.all_eq_true.1 (show l6uri.all goodB = true by decide +kernel) u hu)
  obtain ⟨o1, o2, o3⟩ := vg0 q1 (by omega)
  have es := zv0 m u l t (by omega) (by omega) o1 o2 o3
  have hs := xz0 m u (l.map fun x => (x.f0, x.f1)) t
  have hf : reqT m u (l.map fun x => (x.f0, x.f1)) t = ⟨#[]⟩ ∨ ∃ R, bytesOf (reqT m u (l.map fun x => (x.f0, x.f1)) t) = (bytesOf m ++ 32 :: (bytesOf u ++ 32 :: bytesOf httpW)) ++ 13 :: 10 :: R := by
    by_cases h : reqB m u (l.map fun x => (x.f0, x.f1)) t = true
    · exact .inr ⟨_, ys0 h⟩
    · unfold reqT
      rw [if_neg h]
      exact .inl rfl
  generalize reqT m u (l.map fun x => (x.f0, x.f1)) t = s at es hs hf
  have hC : ∀ c ∈ bytesOf httpW, c ≠ 13 ∧ 0 ≤ c ∧ c < 128 := fun c hc => by have := vo c hc; unfold goodC at this; omega
  have sp : ∀ v, Sp (bytesOf s) (bytesOf v) → okH v := by
    intro v hv
    rcases hf with rfl | ⟨R, hR⟩
    · refine jz0 ?_
      rw [← zw]
      rcases hv with h | ⟨k, h⟩ | ⟨k, Y, hY, h⟩
      · exact h
      · rw [h, show bytesOf (⟨#[]⟩ : ByteArray) = [] from rfl, List.take_nil]; exact Nat.zero_le _
      · have : bytesOf v = Y := by
          rw [show bytesOf (⟨#[]⟩ : ByteArray) = [] from rfl] at h
          simpa using h
        rw [this]
        omega
    · rw [hR] at hv
      exact zt1 gm.2.2 gu.2.2 vo (by rw [zw]; exact gm.1) (by rw [zw]; exact gu.1) http8 hv
  obtain ⟨x, i2, g2, e2, b1, b2, b3⟩ := xg b i1 g1 9 hb a3
  by_cases c0 : x = 0
  · obtain ⟨v, i3, g3, e3, d1, d2⟩ := ze1 b i2 g2 s hb b3 (by omega)
    exact ⟨v, Ev.congr (fun k => by unfold zz.f; rfl) (zj e (zj e1 (zj es (zj (ev_k e2) (zf c0 (zj e3 (zO _))))))), sp v d1, by omega⟩
  by_cases c1 : x = 1
  · have hw : wrap64 ((s.size : Int) + 1) = s.size + 1 := yg (by omega) (by omega)
    obtain ⟨y, i3, g3, e3, d1, d2, d3⟩ := xg b i2 g2 ((s.size : Int) + 1) hb b3
    have p1 := vu0 s y.toNat
    refine ⟨s.extract 0 y.toNat, Ev.congr (fun k => by unfold zz.f; rfl) (zj e (zj e1 (zj es (zj (ev_k e2) (zi c0 (zf c1 ?_)))))), sp _ (.inr (.inl ⟨y.toNat, jE s _⟩)), by omega⟩
    simp only [hw]
    exact zj (ev_k e3) (zf d1 (zf (show y ≤ (s.size : Int) by omega) (zO _)))
  by_cases c2 : x = 2
  · have hc := qN0 t 3 (by omega)
    have hz : (chkB t 3).size ≤ 10000 := by
      unfold chkB
      have := jI0 3 (by omega) (t.size + 1) t
      split
      · decide
      · rw [ByteArray.size_append, show (⟨#[48, 13, 10, 13, 10]⟩ : ByteArray).size = 5 from rfl]
        have e3 : (3 : Int).toNat = 3 := rfl
        rw [e3]
        omega
    have z41 : (⟨#[32, 72, 84, 84, 80, 47, 49, 46, 49, 13, 10, 84, 114, 97, 110, 115, 102, 101, 114, 45, 69, 110, 99, 111, 100, 105, 110, 103, 58, 32, 99, 104, 117, 110, 107, 101, 100, 13, 10, 13, 10]⟩ : ByteArray).size = 41 := rfl
    refine ⟨m ++ ⟨#[32]⟩ ++ u ++ ⟨#[32, 72, 84, 84, 80, 47, 49, 46, 49, 13, 10, 84, 114, 97, 110, 115, 102, 101, 114, 45, 69, 110, 99, 111, 100, 105, 110, 103, 58, 32, 99, 104, 117, 110, 107, 101, 100, 13, 10, 13, 10]⟩ ++ chkB t 3, Ev.congr (fun k => by unfold zz.f; rfl) (zj e (zj e1 (zj es (zj (ev_k e2) (zi c0 (zi c1 (zf c2 ?_))))))), ?_, ?_⟩
    · refine zf ?_ (zf ?_ (zf ?_ (zj hc (zf ?_ (zO _))))) <;> (simp only [ByteArray.size_append, jZ, z41]; omega)
    rotate_left
    · simp only [ByteArray.size_append, jZ, z41]; omega
    refine zg0 gm.2.2 gu.2.2 hC (R := bytesOf (⟨#[84, 114, 97, 110, 115, 102, 101, 114, 45, 69, 110, 99, 111, 100, 105, 110, 103, 58, 32, 99, 104, 117, 110, 107, 101, 100, 13, 10, 13, 10]⟩ : ByteArray) ++ bytesOf (chkB t 3)) ?_
    simp only [yP, List.append_assoc, List.cons_append]
    rfl
  by_cases c3 : x = 3
  · obtain ⟨y, i3, g3, e3, d1, d3⟩ := xS okHB b i2 g2 drT (by decide +kernel) (by decide) hb b3
    exact ⟨y, Ev.congr (fun k => by unfold zz.f; rfl) (zj e (zj e1 (zj es (zj (ev_k e2) (zi c0 (zi c1 (zi c2 (zf c3 (zj (ev_k e3) (zO _)))))))))), (vi0 d1).1, Nat.le_trans (vi0 d1).2 (by decide)⟩
  · obtain ⟨y, i3, g3, e3, d1, d3⟩ := ye0 b i2 g2 [⟨#[]⟩, ⟨#[]⟩, ⟨#[71, 69, 84, 32, 47]⟩, s] (by simp) hb b3
    have hy : y = ⟨#[]⟩ ∨ y = ⟨#[71, 69, 84, 32, 47]⟩ ∨ y = s := by
      simp only [List.mem_cons, List.not_mem_nil, or_false] at d1
      rcases d1 with h | h | h | h
      · exact .inl h
      · exact .inl h
      · exact .inr (.inl h)
      · exact .inr (.inr h)
    have hys : y.size ≤ 2000 := by
      rcases hy with rfl | rfl | rfl
      · decide
      · decide
      · exact hs
    refine ⟨s ++ y, Ev.congr (fun k => by unfold zz.f; rfl) (zj e (zj e1 (zj es (zj (ev_k e2) (zi c0 (zi c1 (zi c2 (zi c3 (zj (ev_k e3) (zf (show s.size + y.size ≤ 9223372036854775807 by omega) (zO _))))))))))), ?_, by rw [ByteArray.size_append]; omega⟩
    rcases hf with rfl | ⟨R, hR⟩
    · rcases hy with rfl | rfl | rfl
      · exact vh0
      · exact (vi0 (by decide +kernel)).1
      · exact vh0
    · refine zg0 gm.2.2 gu.2.2 hC (R := R ++ bytesOf y) ?_
      rw [yP, hR]
      simp only [List.append_assoc, List.cons_append]
theorem jN (l : List S55) (hl : l.length ≤ 2097152) (hm : ∀ x ∈ l, x.f0.size ≤ 8388608 ∧ x.f1.size ≤ 8388608) : ∀ (d : Nat) (acc : ByteArray) (i : Int), 0 ≤ i → (l.length : Int) - i = d → acc.size + d * 16777220 ≤ 100000000000000 →
    Ev (fun k => zJ.l0 k acc l (l.length : Int) i) (acc ++ showR ((l.drop i.toNat).map fun x => (x.f0, x.f1)))
  | 0, acc, i, h0, hd, ha => by
    refine yQ fun k => ?_
    simp only [zJ.l0]
    rw [if_neg (by omega), jQ (by omega), if_pos (by omega)]
    rfl
  | d + 1, acc, i, h0, hd, ha => by
    have hlt : i < (l.length : Int) := by omega
    have hdrop : l.drop i.toNat = zV l i :: l.drop (i + 1).toNat := qL (d := z55) h0 hlt
    have hx : zV l i ∈ l := List.mem_of_mem_drop (i := i.toNat) (by rw [hdrop]; exact List.mem_cons_self)
    have hs := hm _ hx
    rw [hdrop]
    simp only [List.map_cons, showR]
    have ih := jN l hl hm d (acc ++ ((zV l i).f0 ++ ⟨#[58, 32]⟩ ++ (zV l i).f1 ++ ⟨#[13, 10]⟩)) (i + 1) (by omega) (by omega) (by (try simp only [ByteArray.size_append, xM, xw]); omega)
    refine yk (f := fun k => zJ.l0 k (acc ++ ((zV l i).f0 ++ ⟨#[58, 32]⟩ ++ (zV l i).f1 ++ ⟨#[13, 10]⟩)) l (l.length : Int) (i + 1)) (fun k => ?_) (ev_eq ih (by simp only [ByteArray.append_assoc]))
    simp only [zJ.l0]
    rw [if_pos hlt, if_pos h0, if_pos hlt, if_pos (by (try simp only [ByteArray.size_append, xM, xw]); omega), if_pos (by (try simp only [ByteArray.size_append, xM, xw]); omega), if_pos (by (try simp only [ByteArray.size_append, xM, xw]); omega), if_pos (by (try simp only [ByteArray.size_append, xM, xw]); omega), yg (by omega) (by omega)]
theorem qJ (l : List S55) (hl : l.length ≤ 2097152) (hm : ∀ x ∈ l, x.f0.size ≤ 8388608 ∧ x.f1.size ≤ 8388608) : Ev (fun k => zJ.f k l) (showB (l.map fun x => (x.f0, x.f1))) := by
  refine Ev.congr (fun k => by unfold zJ.f; rfl) (zj (vO l  hm) ?_)
  unfold showB
  by_cases h : qa (l.map fun x => (x.f0, x.f1)) = true
  · rw [if_pos h]
    have hh := jN l hl hm l.length ⟨#[]⟩ 0 (by omega) (by omega) (by have : (⟨#[]⟩ : ByteArray).size = 0 := rfl; omega)
    refine zf h (ev_eq hh ?_)
    simp only [Int.toNat_zero, List.drop_zero]
    exact ByteArray.empty_append
  · rw [if_neg h]
    exact zi h (zO _)
theorem jM (l : List S55) (b : ByteArray) (hl : l.length ≤ 1048576) (hb : b.size ≤ 60) : xG.f l b = some (l ++ [(⟨nmCL, decB (b.size : Int)⟩ : S55)]) := by
  unfold xG.f qS.f
  rw [if_pos (by omega), Option.bind_some, zA0 (b.size : Int) (by omega) (by omega), Option.bind_some, if_pos (by omega)]
  rfl
theorem http_app (x : ByteArray) : x ++ (⟨#[32]⟩ : ByteArray) ++ (⟨#[72, 84, 84, 80, 47, 49, 46, 49]⟩ : ByteArray) ++ (⟨#[13, 10]⟩ : ByteArray) = x ++ (⟨#[32, 72, 84, 84, 80, 47, 49, 46, 49, 13, 10]⟩ : ByteArray) := by
  rw [ByteArray.append_assoc, ByteArray.append_assoc]
  congr 1
theorem zy0 (m u : ByteArray) (l : List S55) (b : ByteArray) (sm : m.size ≤ 8388608) (su : u.size ≤ 8388608) (hl : l.length ≤ 1048576) (hm : ∀ x ∈ l, x.f0.size ≤ 8388608 ∧ x.f1.size ≤ 8388608) (hG : ∀ nm, ((getL nm (l.map fun x => (x.f0, x.f1))).map fun v => v.size + 2).sum ≤ 8388608) :
    Ev (fun k => yh.f k m u l b) (reqT m u (l.map fun x => (x.f0, x.f1)) b) := by
  refine Ev.congr (fun k => by unfold yh.f; rfl) (zj (vm m u l b sm su hl hm hG) ?_)
  unfold reqT
  by_cases h : reqB m u (l.map fun x => (x.f0, x.f1)) b = true
  · obtain ⟨hp, hb⟩ := yb0 h
    have sh := qJ (l ++ [(⟨nmCL, decB (b.size : Int)⟩ : S55)]) (by rw [List.length_append, List.length_singleton]; omega) (yA0 l b hm hb)
    rw [yB0] at sh
    have hz := zC0 l b hl hm hb
    have s8 : (⟨#[72, 84, 84, 80, 47, 49, 46, 49]⟩ : ByteArray).size = 8 := rfl
    rw [if_pos h]
    refine zf h (zf (by omega) (zf (by simp only [ByteArray.size_append, jZ]; omega) (zf (by simp only [ByteArray.size_append, jZ]; omega) (zf (by simp only [ByteArray.size_append, jZ]; omega) (zf (by simp only [ByteArray.size_append, jZ, s8]; omega) (zj (xa fun _ => jM l b hl hb) (zj sh (zf (by simp only [ByteArray.size_append, jZ, s8, xw]; omega) (zf (by simp only [ByteArray.size_append, jZ, s8, xw]; omega) (ev_eq (zO _) ?_))))))))))
    rw [http_app]
  · rw [if_neg h]
    exact zi h (zO _)
theorem zk0 (a : Int) (l : List S55) (b : ByteArray) (hl : l.length ≤ 1048576) (hm : ∀ x ∈ l, x.f0.size ≤ 8388608 ∧ x.f1.size ≤ 8388608) (hG : ∀ nm, ((getL nm (l.map fun x => (x.f0, x.f1))).map fun v => v.size + 2).sum ≤ 8388608) :
    Ev (fun k => zW.f k a l b) (respT a (l.map fun x => (x.f0, x.f1)) b) := by
  refine Ev.congr (fun k => by unfold zW.f; rfl) (zj (jO a l b hl hm hG) ?_)
  unfold respT
  by_cases h : respB a (l.map fun x => (x.f0, x.f1)) b = true
  · obtain ⟨hp, hb, a0, a1⟩ := yr0 h
    rw [if_pos h]
    refine zf h (zj (xa fun _ => je a) ?_)
    have dd : Ev (fun _ => qb.f a) (decB a) := xa fun _ => zA0 a (by omega) (by omega)
    have rr : Ev (fun _ => xI.f a) (vx a) := xa fun _ => (jV a).1
    have ds := vl0 a
    have rs := (jV a).2
    by_cases h4 : a = 204 ∨ a = 304
    · rw [if_pos h4]
      have sh := qJ l (by omega) hm
      have hz := za1 l hl hm
      exact zf (decide_eq_true h4) (zj dd (zf (by omega) (zf (by simp only [ByteArray.size_append, jv, jd]; omega) (zj rr (zf (by simp only [ByteArray.size_append, jv, jd]; omega) (zf (by simp only [ByteArray.size_append, jv, jd]; omega) (zj sh (zf (by simp only [ByteArray.size_append, jv, jd, xw]; omega) (zf (by simp only [ByteArray.size_append, jv, jd, xw]; omega) (zO _))))))))))
    · rw [if_neg h4]
      have sh := qJ (l ++ [(⟨nmCL, decB (b.size : Int)⟩ : S55)]) (by rw [List.length_append, List.length_singleton]; omega) (yA0 l b hm hb)
      rw [yB0] at sh
      have hz := zC0 l b hl hm hb
      exact zi (by simp [h4]) (zj (xa fun _ => jM l b hl hb) (zj dd (zf (by omega) (zf (by simp only [ByteArray.size_append, jv, jd]; omega) (zj rr (zf (by simp only [ByteArray.size_append, jv, jd]; omega) (zf (by simp only [ByteArray.size_append, jv, jd]; omega) (zj sh (zf (by simp only [ByteArray.size_append, jv, jd, xw]; omega) (zf (by simp only [ByteArray.size_append, jv, jd, xw]; omega) (zO _)))))))))))
  · rw [if_neg h]
    exact zi h (zO _)
theorem zV0 (a : Int) (l : List S55) (b : ByteArray) (hl : l.length ≤ 1048576) (hm : ∀ x ∈ l, x.f0.size ≤ 8388608 ∧ x.f1.size ≤ 8388608) (hG : ∀ nm, ((getL nm (l.map fun x => (x.f0, x.f1))).map fun v => v.size + 2).sum ≤ 8388608) :
    Ev (fun k => yL.f k a l b) (respB a (l.map fun x => (x.f0, x.f1)) b) := by
  refine Ev.congr (fun k => by unfold yL.f; rfl) (zj (xa fun _ => qF a 200 599) ?_)
  unfold respB
  by_cases h1 : 200 ≤ a ∧ a ≤ 599
  · rw [decide_eq_true h1]
    refine zf rfl (zj (vT l hl hm hG) ?_)
    cases h2 : qx (l.map fun x => (x.f0, x.f1)) with
    | false => exact zi (by simp) (ev_eq (zO _) (by simp))
    | true =>
      refine zf rfl ?_
      by_cases h3 : (b.size : Int) ≤ 60
      · have e3 : decide (b.size ≤ 60) = true := by rw [decide_eq_true_eq]; omega
        rw [e3]
        refine zf h3 ?_
        rw [nil_beq]
        by_cases h4 : a = 204
        · exact zf h4 (ev_eq (zO _) (by simp [h4]))
        · refine zi h4 ?_
          by_cases h5 : a = 304
          · exact zf h5 (ev_eq (zO _) (by simp [h5]))
          · exact zi h5 (ev_eq (zO _) (by simp [h4, h5]))
      · have e3 : decide (b.size ≤ 60) = false := by rw [decide_eq_false_iff_not]; omega
        rw [e3]
        exact zi h3 (ev_eq (zO _) (by simp))
  · rw [decide_eq_false h1]
    exact zi (by simp) (ev_eq (zO _) (by simp))
theorem jJ (a b : List S55) (hl : a.length ≤ 9223372036854775806) (hab : a.length = b.length) : ∀ (d : Nat) (i : Int), 0 ≤ i → (a.length : Int) - i = d →
    Ev (fun k => zC.l0 k a b i) (sameL ((a.drop i.toNat).map fun x => (x.f0, x.f1)) ((b.drop i.toNat).map fun x => (x.f0, x.f1)))
  | 0, i, h0, hd => by
    refine yQ fun k => ?_
    simp only [zC.l0]
    rw [if_neg (by omega), jQ (by omega), jQ (by omega)]
    rfl
  | d + 1, i, h0, hd => by
    have hlt : i < (a.length : Int) := by omega
    have ea : a.drop i.toNat = zV a i :: a.drop (i + 1).toNat := qL (d := z55) h0 hlt
    have eb : b.drop i.toNat = zV b i :: b.drop (i + 1).toNat := qL (d := z55) h0 (by omega)
    rw [ea, eb]
    simp only [List.map_cons, sameL]
    by_cases h : (zV a i).f0 = (zV b i).f0 ∧ (zV a i).f1 = (zV b i).f1
    · refine yk (f := fun k => zC.l0 k a b (i + 1)) (fun k => ?_) (ev_eq (jJ a b hl hab d (i + 1) (by omega) (by omega)) ?_)
      · simp only [zC.l0]
        rw [if_pos hlt, if_pos h0, if_pos (by omega), if_neg (by simp [h.1, h.2]), yg (by omega) (by omega)]
      · rw [if_pos h]
    · refine yQ fun k => ?_
      simp only [zC.l0]
      rw [if_pos hlt, if_pos h0, if_pos (by omega), if_pos (by simp only [Bool.or_eq_true, Bool.not_eq_true', beq_eq_false_iff_ne, ne_eq, xF]; exact Classical.not_and_iff_not_or_not.1 h), if_neg h]
theorem jK (a b : List S55) (hl : a.length ≤ 9223372036854775806) : Ev (fun k => zC.f k a b) (sameF (a.map fun x => (x.f0, x.f1)) (b.map fun x => (x.f0, x.f1))) := by
  unfold sameF
  rw [List.length_map, List.length_map]
  by_cases h : a.length = b.length
  · rw [if_pos h]
    refine Ev.congr (fun k => by unfold zC.f; rw [if_pos (by omega)]) ?_
    have e := jJ a b hl h a.length 0 (by omega) (by omega)
    simpa using e
  · rw [if_neg h]
    exact xa fun k => by unfold zC.f; rw [if_neg (by omega)]
def getW : ByteArray := ⟨#[71, 69, 84, 32, 47]⟩
theorem zq1 {m u : ByteArray} {l : List S55} {b : ByteArray} (h : reqB m u (l.map fun x => (x.f0, x.f1)) b = true) (T : ByteArray) (hT : T.size ≤ 1000) :
    Ev (fun k => zn.f k (reqT m u (l.map fun x => (x.f0, x.f1)) b ++ T)) (m, u, l, b, ((reqT m u (l.map fun x => (x.f0, x.f1)) b).size : Int), 0) := by
  obtain ⟨h1, h2, h3, h4, h5⟩ := yt0 h
  have hs := xz0 m u (l.map fun x => (x.f0, x.f1)) b
  have hC : ∀ c ∈ bytesOf httpW, c ≠ 13 ∧ 0 ≤ c ∧ c < 128 := fun c hc => by have := vo c hc; unfold goodC at this; omega
  have e : bytesOf (reqT m u (l.map fun x => (x.f0, x.f1)) b ++ T) = (bytesOf m ++ 32 :: (bytesOf u ++ 32 :: bytesOf httpW)) ++ 13 :: 10 :: (bytesOf (showR (xU (l.map fun x => (x.f0, x.f1)) b)) ++ bytesOf (b ++ T)) := by
    rw [yP, ys0 h, yP]
    simp only [List.append_assoc, List.cons_append]
  have hp := yz0 h1 h2 hC e rfl (vp h3 h4)
  rw [yy, yy, yy, yy] at hp
  have ev := qB _ (by rw [ByteArray.size_append]; omega) (zg0 h1 h2 hC e) hp
  have er : reqQ ((reqT m u (l.map fun x => (x.f0, x.f1)) b ++ T).size : Int) m u httpW (xU (l.map fun x => (x.f0, x.f1)) b) (b ++ T) = (m, u, l.map (fun x => (x.f0, x.f1)), b, ((reqT m u (l.map fun x => (x.f0, x.f1)) b).size : Int), 0) := by
    unfold reqQ
    rw [yn0 b h3, if_pos ⟨rfl, h5⟩, zI0 h3 h4, zA1 h4, if_pos rfl]
    have : ((reqT m u (l.map fun x => (x.f0, x.f1)) b ++ T).size : Int) - ((b ++ T).size : Int) + (b.size : Int) = ((reqT m u (l.map fun x => (x.f0, x.f1)) b).size : Int) := by
      rw [ByteArray.size_append, ByteArray.size_append]; omega
    rw [this]
  rw [er] at ev
  simp only [xk0] at ev
  exact ev
theorem ju0 (u : ByteArray) (hs : u.size ≤ 1500) (h : idxS (bytesOf u) cr4 = -1) : Ev (fun k => zn.f k u) (⟨#[]⟩, ⟨#[]⟩, [], ⟨#[]⟩, 0, 1) := by
  have hp := qB0 h hs
  have ev := ji u (by omega) (fun h4 => by omega) (by rw [hp]; decide)
  rw [hp] at ev
  exact ev
theorem req_more {m u : ByteArray} {l : List S55} {b : ByteArray} (h : reqB m u (l.map fun x => (x.f0, x.f1)) b = true) (j : Nat) (hj : j < (reqT m u (l.map fun x => (x.f0, x.f1)) b).size) (hj2 : j ≤ 255) :
    Ev (fun k => zn.f k ((reqT m u (l.map fun x => (x.f0, x.f1)) b).extract 0 j)) (⟨#[]⟩, ⟨#[]⟩, [], ⟨#[]⟩, 0, 1) := by
  obtain ⟨h1, h2, h3, h4, h5⟩ := yt0 h
  have hf := vp h3 h4
  have hC : ∀ c ∈ bytesOf httpW, c ≠ 13 ∧ 0 ≤ c ∧ c < 128 := fun c hc => by have := vo c hc; unfold goodC at this; omega
  have hn := qS0 h1 h2 hC
  have e := jE (reqT m u (l.map fun x => (x.f0, x.f1)) b) j
  have hz := zw (reqT m u (l.map fun x => (x.f0, x.f1)) b)
  have hz2 : ((reqT m u (l.map fun x => (x.f0, x.f1)) b).extract 0 j).size ≤ 255 := by rw [ByteArray.size_extract]; omega
  rw [ys0 h] at e hz
  generalize (reqT m u (l.map fun x => (x.f0, x.f1)) b) = s at *
  generalize hX : bytesOf m ++ 32 :: (bytesOf u ++ 32 :: bytesOf httpW) = X at *
  generalize hF : xU (l.map fun x => (x.f0, x.f1)) b = F at *
  have hl := zw (showR F)
  have hlb := zw b
  simp only [List.length_append, List.length_cons] at hz
  by_cases hk : j < X.length + 2 + (showR F).size
  · refine ju0 _ (by omega) ?_
    rw [e]
    refine qQ0 X _ (fun c hc => (hn c hc).1) j fun h6 => ?_
    rw [List.take_append_of_le_length (by omega)]
    exact vw0 F _ (qO0 hf).2 (by omega)
  · obtain ⟨i, rfl⟩ : ∃ i, j = X.length + (2 + ((showR F).size + i)) := ⟨j - X.length - 2 - (showR F).size, by omega⟩
    have e2 : bytesOf (s.extract 0 (X.length + (2 + ((showR F).size + i)))) = X ++ 13 :: 10 :: (bytesOf (showR F) ++ bytesOf (b.extract 0 i)) := by
      rw [e, List.take_length_add_append, show 2 + ((showR F).size + i) = ((showR F).size + i) + 1 + 1 by omega, List.take_succ_cons, List.take_succ_cons, ← hl, List.take_length_add_append, jE]
    have hb : (b.extract 0 i).size < b.size := by rw [ByteArray.size_extract]; omega
    have e2 : bytesOf (s.extract 0 (X.length + (2 + ((showR F).size + i)))) = (bytesOf m ++ 32 :: (bytesOf u ++ 32 :: bytesOf httpW)) ++ 13 :: 10 :: (bytesOf (showR F) ++ bytesOf (b.extract 0 i)) := by rw [hX]; exact e2
    have hp := yz0 h1 h2 hC e2 rfl hf
    rw [yy, yy, yy, yy] at hp
    have ev := qB _ (by omega) (zg0 h1 h2 hC e2) hp
    have er : ∀ n, reqQ n m u httpW F (b.extract 0 i) = (⟨#[]⟩, ⟨#[]⟩, [], ⟨#[]⟩, 0, 1) := by
      intro n
      unfold reqQ
      rw [← hF, yn0 b h3, if_pos ⟨rfl, h5⟩, zI0 h3 h4, len_more h4 hb, if_neg (by decide)]
      rfl
    rw [er] at ev
    exact ev
theorem zJ1 (n : Nat) (h0 : 200 ≤ n) (h1 : n ≤ 599) : (decB (n : Int)).size = 3 ∧ (∀ c ∈ bytesOf (decB (n : Int)), goodC c) := by
  have key : ((List.range 400).all fun n => decide ((decB ((200 + n : Nat) : Int)).size = 3) && (bytesOf (decB ((200 + n : Nat) : Int))).all fun c => decide (33 ≤ c ∧ c < 128)) = true := by decide +kernel
  rw [List.all_eq_true] at key
  have := key (n - 200) (List.mem_range.2 (by omega))
  rw [show 200 + (n - 200) = n by omega] at this
  simp only [Bool.and_eq_true, decide_eq_true_eq, List.all_eq_true] at this
  exact this
def rsB (r : ByteArray) : Bool := (bytesOf r).all fun c => decide (c ≠ 13 ∧ 0 ≤ c ∧ c < 128)
theorem rs_ite {c : Prop} [Decidable c] {x y : Option ByteArray} (hx : rsB (x.getD ⟨#[]⟩) = true) (hy : rsB (y.getD ⟨#[]⟩) = true) : rsB ((if c then x else y).getD ⟨#[]⟩) = true := by split <;> assumption
theorem ve0 (a : Int) : ∀ c ∈ bytesOf (vx a), c ≠ 13 ∧ 0 ≤ c ∧ c < 128 := by
  have key : rsB (vx a) = true := by
    unfold vx xI.f
    repeat' first
    | refine rs_ite ?_ ?_
    | decide +kernel
  exact fun c hc => of_decide_eq_true (List.all_eq_true.1 key c hc)
theorem tmod_le {v : Int} {n : Nat} (h : 0 ≤ v) : Int.tmod v (n : Int) ≤ v := by
  obtain ⟨k, rfl⟩ := Int.eq_ofNat_of_zero_le h
  rw [← Int.ofNat_tmod]
  exact Int.ofNat_le.2 (Nat.mod_le k n)
theorem vW0 (a : Int) (l : List (ByteArray × ByteArray)) (b : ByteArray) : (respT a l b).size ≤ 2000 := by
  unfold respT
  split
  · rename_i h
    obtain ⟨h3, h4, _⟩ := yr0 h
    have h5 := yq0 (vp h3 h4)
    have h6 := yq0 (jb h3).1
    have d := vl0 a
    have r := (jV a).2
    have h7 : (showB (if a = 204 ∨ a = 304 then l else xU l b)).size ≤ 1500 := by split <;> assumption
    simp only [ByteArray.size_append, jd, jv, xw]
    omega
  · decide
theorem vV0 {a : Int} {l : List S55} {b : ByteArray} (h : respB a (l.map fun x => (x.f0, x.f1)) b = true) :
    Ev (fun k => zA.f k (respT a (l.map fun x => (x.f0, x.f1)) b)) (a, l, b, ((respT a (l.map fun x => (x.f0, x.f1)) b).size : Int), 0) := by
  obtain ⟨h3, h4, a0, a1⟩ := yr0 h
  have hs := vW0 a (l.map fun x => (x.f0, x.f1)) b
  obtain ⟨d1, d2⟩ := zJ1 a.toNat (by omega) (by omega)
  rw [show ((a.toNat : Nat) : Int) = a by omega] at d1 d2
  have hr := ve0 a
  generalize hF : (if a = 204 ∨ a = 304 then (l.map fun x => (x.f0, x.f1)) else xU (l.map fun x => (x.f0, x.f1)) b) = F
  have hFo : qa F = true := by
    rw [← hF]
    split
    · exact (jb h3).1
    · exact vp h3 h4
  have hW : wbL F = l.map fun x => (x.f0, x.f1) := by
    rw [← hF]
    split
    · exact jk0 h3
    · exact yn0 b h3
  have e : bytesOf (respT a (l.map fun x => (x.f0, x.f1)) b) = (bytesOf httpW ++ 32 :: (bytesOf (decB a) ++ 32 :: bytesOf (vx a))) ++ 13 :: 10 :: (bytesOf (showR F) ++ bytesOf b) := by
    unfold respT
    rw [if_pos h, hF, (qO0 hFo).1]
    have e1 : bytesOf (⟨#[32]⟩ : ByteArray) = [32] := rfl
    have e2 : bytesOf (⟨#[13, 10]⟩ : ByteArray) = [13, 10] := rfl
    have e3 : bytesOf (⟨#[72, 84, 84, 80, 47, 49, 46, 49, 32]⟩ : ByteArray) = bytesOf httpW ++ [32] := rfl
    simp [yP, e1, e2, e3]
  have hp := yz0 vo d2 hr e rfl hFo
  rw [yy, yy, yy, yy] at hp
  have hd : yc0 (decB a) = (a, true) := by
    unfold yc0
    rw [qE0 (by omega) (by omega) rfl]
  have h0 : respB a (wbL F) ⟨#[]⟩ = true := by
    rw [hW]
    unfold respB at h ⊢
    simp only [Bool.and_eq_true, decide_eq_true_eq, Bool.or_eq_true] at h ⊢
    exact ⟨⟨h.1.1, by decide⟩, .inl trivial⟩
  have hz : ((respT a (l.map fun x => (x.f0, x.f1)) b).size : Int) - (b.size : Int) + (b.size : Int) = ((respT a (l.map fun x => (x.f0, x.f1)) b).size : Int) := by omega
  have ev := zl0 _ (by omega) (zg0 vo d2 hr e) hp hd d1 h0 (B := b) (z := (b.size : Int)) (by
    by_cases h6 : a = 204 ∨ a = 304
    · rw [if_pos h6]
      unfold respB at h
      simp only [Bool.and_eq_true, decide_eq_true_eq, Bool.or_eq_true, Bool.not_eq_true', decide_eq_false_iff_not] at h
      have := h.2.resolve_right fun x => x h6
      rw [this]
      exact ⟨rfl, rfl⟩
    · rw [if_neg h6, ← hF, if_neg h6, zI0 h3 h4]
      have := zA1 h4 ByteArray.empty
      rwa [ByteArray.append_empty] at this) (by omega)
  rw [hz, hW, xk0] at ev
  exact ev
theorem FnMessages : laws_FnMessages.Pure := by
  intro b hl hl2 hw
  refine zV1 (Ev.congr (fun k => by unfold laws_FnMessages.f zh0.f; rw [Option.bind_some]) ?_)
  by_cases hb : (b.length : Int) > 1048576
  · exact zf (decide_eq_true hb) (zO _)
  refine zi (by rw [decide_eq_true_eq]; exact hb) ?_
  have hb' : b.length ≤ 1048576 := by omega
  obtain ⟨v, ev, v0, v1⟩ := zd1 b hb' hw

  have j2 : Ev (fun k => laws_FnMessages.j2 k b false) true := by
    obtain ⟨u, eu, ok, su⟩ := vv b hb'
    refine yk (fun k => by simp only [laws_FnMessages.j2]; rfl) (zi (by decide) (zj eu ?_))
    by_cases h0 : (headP u).2.2.2 = 0
    · obtain ⟨p, q, r, e1, s1, s2, s3, hF, hn, hX⟩ := qY0 h0
      have hp : headP u = ([p, q, r], (headP u).2.1, (headP u).2.2.1, 0) := by rw [← e1, ← h0]
      generalize (headP u).2.1 = F at hp hF hn
      generalize (headP u).2.2.1 = X at hp hX
      have er := qB u su ok hp
      refine zj er ?_
      by_cases h1 : (reqQ u.size p q r F X).2.2.2.2.2 = 0
      · obtain ⟨B, z, e2, e3, z0, z1⟩ := reqQ_ok (by omega) h1
        have hF' : ∀ p ∈ wbL F, p.1.size ≤ 60 ∧ p.2.size ≤ 60 := fun p hp => vz (hF p (jX0 p hp))
        have hm := ym0 F
        have es := qQ p q ((wbL F).map fun p => (⟨p.1, p.2⟩ : S55)) B (by omega) (by omega) (by rw [List.length_map]; omega) (xw0 hF') (by rw [jn]; exact xv0 hF' (by omega))
        rw [jn, e3] at es
        rw [e2]
        exact zf rfl (zj es (zf rfl (zf z0 (ev_eq (zO _) (decide_eq_true z1)))))
      · exact zi h1 (zO _)
    · exact zj (ji u su ok h0) (zi h0 (zO _))

  have j1 : Ev (fun k => laws_FnMessages.j1 k b) true := by
    obtain ⟨st, l, t, e, _, _, q, ql, qt⟩ := jY b hb'
    obtain ⟨o1, o2, o3⟩ := vg0 q (by omega)
    have e1 := zk0 st l t o1 o2 o3
    have e2 := zV0 st l t o1 o2 o3
    refine yk (fun k => by simp only [laws_FnMessages.j1]; rfl) (zj e (zj e1 ?_))
    by_cases h : respB st (l.map fun x => (x.f0, x.f1)) t = true
    · have er := vV0 h
      have hne : respT st (l.map fun x => (x.f0, x.f1)) t ≠ ⟨#[]⟩ := by
        intro h0
        unfold respT at h0
        rw [if_pos h] at h0
        have := congrArg ByteArray.size h0
        simp only [ByteArray.size_append, jd] at this
        have z : (⟨#[]⟩ : ByteArray).size = 0 := rfl
        omega
      have hne' : (respT st (l.map fun x => (x.f0, x.f1)) t).toList ≠ ([] : List UInt8) := fun h0 => hne ((qU _).1 h0)
      have sm := jK l l (by omega)
      rw [ql0] at sm
      have e5 : Ev (fun k => yF.f k st l t st l t) true := Ev.congr (fun k => by unfold yF.f; rfl) (zf rfl (zf rfl (zj sm (zO _))))
      rw [h] at e2
      refine zj er (zj e2 (zi ?_ (zi hne' (zf rfl (zf rfl (zj e5 j2))))))
      simp [hne']
    · have h0 : respT st (l.map fun x => (x.f0, x.f1)) t = ⟨#[]⟩ := by unfold respT; rw [if_neg h]
      have hp : headP ⟨#[]⟩ = ([], [], ⟨#[]⟩, 1) := qB0 rfl (by decide)
      have er := vR ⟨#[]⟩ (by decide) vh0 (by rw [hp]; decide)
      rw [Bool.eq_false_iff.2 h] at e2
      rw [h0]
      exact zj er (zj e2 (zi (by decide +kernel) (zf ((qU _).2 rfl) j2)))

  obtain ⟨m, u, l, t, e, sm, su, q, ql, qt⟩ := vu b hb'
  obtain ⟨o1, o2, o3⟩ := vg0 q (by omega)
  have e1 := zy0 m u l t (by omega) (by omega) o1 o2 o3
  have e2 := qQ m u l t (by omega) (by omega) o1 o2 o3
  have hs := xz0 m u (l.map fun x => (x.f0, x.f1)) t
  refine zj e (zj e1 (zf (by omega) ?_))
  by_cases h : reqB m u (l.map fun x => (x.f0, x.f1)) t = true
  · have er := zq1 h getW (by decide)
    have em := req_more h
    have hne : (reqT m u (l.map fun x => (x.f0, x.f1)) t) ≠ ⟨#[]⟩ := by
      intro h0
      unfold reqT at h0
      rw [if_pos h] at h0
      have := congrArg ByteArray.size h0
      simp only [ByteArray.size_append, zX0] at this
      have z : (⟨#[]⟩ : ByteArray).size = 0 := rfl
      omega
    have hne' : (reqT m u (l.map fun x => (x.f0, x.f1)) t).toList ≠ ([] : List UInt8) := fun h0 => hne ((qU _).1 h0)
    have hpos : 0 < (reqT m u (l.map fun x => (x.f0, x.f1)) t).size := by
      rcases Nat.eq_zero_or_pos (reqT m u (l.map fun x => (x.f0, x.f1)) t).size with h0 | h0
      · exact absurd (size_nil h0) hne
      · exact h0
    have sm := jK l l (by omega)
    rw [ql0] at sm
    rw [h] at e2
    generalize reqT m u (l.map fun x => (x.f0, x.f1)) t = s at *
    refine zj er (zj e2 (zi ?_ (zi hne' (zf rfl (zf rfl (zf rfl (zf rfl (zf rfl (zj sm ?_)))))))))
    · simp [hne']
    have tm := jZ0 v0 (show (0 : Int) < s.size by omega)
    exact yk (fun k => by simp only [laws_FnMessages.j0]; rfl) (zi (by decide) (zi hne' (zj (ev_k ev) (zi (show ¬ (s.size : Int) = 0 by omega) (zf tm.1 (zf (show Int.tmod v s.size ≤ s.size by omega) (zj (em (Int.tmod v s.size).toNat (by omega) (by have := tmod_le (n := s.size) v0; omega)) (zf rfl (zf rfl j1)))))))))
  · have h0 : reqT m u (l.map fun x => (x.f0, x.f1)) t = ⟨#[]⟩ := by unfold reqT; rw [if_neg h]
    rw [Bool.eq_false_iff.2 h] at e2
    rw [h0]
    have er := ju0 (⟨#[]⟩ ++ getW) (by decide) (by decide +kernel)
    refine zj er (zj e2 (zi (by decide +kernel) (zf ((qU _).2 rfl) ?_)))
    exact yk (fun k => by simp only [laws_FnMessages.j0]; rfl) (zi (by decide) (zf ((qU _).2 rfl) j1))
end Go.Proofs.YtbldejnlmpajeaaGreatDoor.Pure
