/- The program's ReadVar returns what the reference's returns, for every text (a text of more than 2^20 bytes is let by). -/
import Derived.Test.YtdiogjldbhoiiaaPFnExactReadVarx1
import Derived.Test.YtdiogjldbhoiiaaDom
namespace Go.Proofs.Ytdiogjldbhoiiaa.Pure
open Go.RowKit Go.Proofs.Ytdiogjldbhoiiaa.PFnExactReadVar Go.Proofs.YtdiogjldbhoiiaaW.PrintWords Go.Proofs.YtdiogjldbhoiiaaW.PrintLast Go.Proofs.YtdiogjldbhoiiaaW.PrintMore Go.Proofs.Ytdiogjldbhoiiaa.Aux Go.Proofs.Ytdiogjldbhoiiaa.Dom

/-! ### spec_l1In -/
theorem spec_l1In_eq (a b c : Int) : spec_l1In.f a b c = some (decide (b ≤ a ∧ a ≤ c)) := by
  unfold spec_l1In.f
  by_cases h : a ≥ b
  · rw [if_pos h]; simp [show b ≤ a from h]
  · rw [if_neg h]; simp [show ¬ b ≤ a from h]

/-! ### spec_Var -/
theorem spec_Var_l0 : ∀ (f : Nat) (n : Int) (xs : List Int), 0 ≤ n → n < 128 ^ (f + 1) → f < 9 → xs.length + f ≤ 100 →
    Ev (fun k => spec_Var.l0 k n xs) (strOfNums (xs ++ varL f n))
  | 0, n, xs, h0, h1, hf, hx => by
    refine ev_last fun k => ?_
    simp only [spec_Var.l0]
    rw [if_neg (by omega), if_pos (by omega), Int.emod_eq_of_lt h0 (by omega)]
    rfl
  | f + 1, n, xs, h0, h1, hf, hx => by
    have hm : n < 2 ^ 63 := by
      have : (128 : Int) ^ (f + 1 + 1) ≤ 128 ^ 9 := pow_le 128 (by decide) (by omega)
      omega
    by_cases h : n > 127
    · refine Ev.step (f := fun k => spec_Var.l0 k (n / 128) (xs ++ [128 + n % 128])) (fun k => ?_) (ev_eq (spec_Var_l0 f (n / 128) (xs ++ [128 + n % 128]) (by omega) ?_ (by omega) (by simp; omega)) ?_)
      · simp only [spec_Var.l0]
        rw [if_pos (by omega), if_pos (by omega), Int.tdiv_eq_ediv_of_nonneg h0, Int.tmod_eq_emod_of_nonneg h0, wrap_id (by omega) (by omega), wrap_id (by omega) (by omega), Int.emod_eq_of_lt (a := 128 + n % 128) (by omega) (by omega)]
      · rw [Int.pow_succ] at h1; omega
      · simp [varL, h]
    · refine ev_last fun k => ?_
      simp only [spec_Var.l0]
      rw [if_neg (by omega), if_pos (by omega), Int.emod_eq_of_lt h0 (by omega)]
      simp [varL, h]
theorem spec_Var_ev (n : Int) : Ev (fun k => spec_Var.f k n) (strOfNums (varT n)) := by
  refine Ev.congr (fun k => by unfold spec_Var.f; rw [spec_l1In_eq, Option.bind_some]) ?_
  unfold varT
  by_cases h : 0 ≤ n ∧ n ≤ 562949953421311
  · rw [if_pos h]
    exact ev_if_pos (by simpa using h) (by simpa using spec_Var_l0 7 n [] h.1 (by omega) (by decide) (by simp))
  · rw [if_neg h]
    exact ev_if_neg (by simpa using h) (Ev.now _)

/-! ### spec_ReadVar -/
theorem goodV_rvP (l : List Int) : ∀ (d k0 : Nat), k0 + d = 7 → k0 < l.length → 0 < d → (∀ j : Nat, j < k0 → rd l j > 127) →
    goodV (l.take (k0 + 1)) = decide (rd l k0 ≤ 127 ∧ ¬ (rd l k0 = 0 ∧ k0 > 0)) := by
  intro d k0 _ hk _ hall
  have key : ∀ (m : Nat) (l : List Int), m < l.length → (∀ j : Nat, j < m → rd l j > 127) → (good0 (l.take (m + 1)) = decide (rd l m ≤ 127 ∧ rd l m ≠ 0)) ∧ goodV (l.take (m + 1)) = decide (rd l m ≤ 127 ∧ ¬ (rd l m = 0 ∧ m > 0)) := by
    intro m
    induction m with
    | zero =>
      intro l hm _
      match l, hm with
      | c :: r, _ =>
        have e0 : rd (c :: r) ((0 : Nat) : Int) = c := by simp [rd]
        rw [e0]
        simp only [List.take_succ_cons, List.take_zero, good0, goodV]
        exact ⟨decide_eq_decide.2 (by omega), decide_eq_decide.2 (by omega)⟩
    | succ m ih =>
      intro l hm hall
      match l, hm with
      | c :: r, hm =>
        have h0 := hall 0 (by omega)
        have hr : ∀ j : Nat, j < m → rd r j > 127 := fun j hj => by
          have := hall (j + 1) (by omega)
          simpa [rd] using this
        have h1 := ih r (by simpa using hm) hr
        have e : rd (c :: r) ((m + 1 : Nat) : Int) = rd r m := by simp [rd]
        have hc : c > 127 := by simpa [rd] using h0
        rw [e, List.take_succ_cons]
        have hne : r.take (m + 1) ≠ [] := by
          intro h; have := congrArg List.length h; rw [List.length_take] at this; simp only [List.length_nil, List.length_cons] at this hm; omega
        match hrt : r.take (m + 1), hne with
        | x :: y, _ =>
          rw [hrt] at h1
          have e1 : good0 (c :: x :: y) = (decide (128 ≤ c) && good0 (x :: y)) := rfl
          have e2 : goodV (c :: x :: y) = (decide (128 ≤ c) && good0 (x :: y)) := rfl
          have hd : decide (128 ≤ c) = true := decide_eq_true hc
          rw [e1, e2, h1.1, hd, Bool.true_and]
          exact ⟨rfl, decide_eq_decide.2 (by omega)⟩
  exact (key k0 l hk hall).2
theorem spec_ReadVar_l1 (s : ByteArray) (i : Nat) (hi : i ≤ s.size) (h7 : i ≤ 7) : ∀ (j : Nat) (k : Nat), j ≤ i →
    spec_ReadVar.l1 (k + j) s i (lowV (((bytesOf s).take i).drop j)) ((j : Int) - 1) = spec_ReadVar.l1 k s i (lowV ((bytesOf s).take i)) (-1)
  | 0, k, _ => by simp
  | j + 1, k, hj => by
    have hb := bt_bound s (j : Int)
    have hl := bytesOf_length s
    have hlow := lowV_lt (((bytesOf s).take i).drop (j + 1))
    have hlow0 := lowV_nonneg (((bytesOf s).take i).drop (j + 1))
    have hp : (128 : Int) ^ (((bytesOf s).take i).drop (j + 1)).length ≤ 128 ^ 6 := pow_le 128 (by decide) (by rw [List.length_drop, List.length_take]; omega)
    have ih := spec_ReadVar_l1 s i hi h7 j k (by omega)
    rw [← ih, show k + (j + 1) = (k + j) + 1 by omega]
    have hd : ((bytesOf s).take i).drop j = bt s (j : Int) :: ((bytesOf s).take i).drop (j + 1) := by
      rw [bt_get s j (by omega), List.drop_eq_getElem_cons (by rw [List.length_take]; omega), List.getElem_take]
    rw [hd]
    simp only [spec_ReadVar.l1, lowV]
    rw [if_pos (by omega), if_pos (by omega), if_pos (by omega), show ((j + 1 : Nat) : Int) - 1 = (j : Int) by omega, wrap_id (x := bt s (j : Int)) (by omega) (by omega), Int.tmod_eq_emod_of_nonneg hb.1, wrap_id (x := _ * 128) (by omega) (by omega), wrap_id (by omega) (by omega), wrap_id (by omega) (by omega)]
    congr 1
    omega
theorem spec_ReadVar_dead (s : ByteArray) (j : Nat) (hj : j < s.size) (hx : rd (bytesOf s) j ≤ 127) : ∀ (d i : Nat), i + d = 8 → j + 1 < i → Ev (fun k => spec_ReadVar.l0 k s i) (0, 0)
  | d, i, hd, hji => by
    have hl := bytesOf_length s
    by_cases h7 : (i : Int) ≤ 7
    · refine Ev.step (f := fun k => spec_ReadVar.j1 k s i (decide ((i : Int) ≤ (s.size : Int)))) (fun k => by simp only [spec_ReadVar.l0]; rw [if_pos h7]) ?_
      by_cases h : (i : Int) ≤ (s.size : Int)
      · rw [decide_eq_true h]
        obtain ⟨d, rfl⟩ : ∃ e, d = e + 1 := ⟨d - 1, by omega⟩
        have hbad : varL 7 (lowV ((bytesOf s).take i)) ≠ (bytesOf s).take i := by
          intro hh
          have hg := (varL_good 7 ((bytesOf s).take i) (fun c hc => bytesOf_range (List.mem_of_mem_take hc)) (by rw [List.length_take]; omega) (fun he => by have := congrArg List.length he; rw [List.length_take] at this; simp only [List.length_nil] at this; omega)).1 hh
          exact bad_goodV (bytesOf s) i j hji (by omega) hx hg
        have hlow := lowV_lt ((bytesOf s).take i)
        have hlow0 := lowV_nonneg ((bytesOf s).take i)
        have hp : (128 : Int) ^ ((bytesOf s).take i).length ≤ 128 ^ 7 := pow_le 128 (by decide) (by rw [List.length_take]; omega)
        refine Ev.step (f := fun k => spec_ReadVar.l1 k s i 0 ((i : Int) - 1)) (fun k => by simp only [spec_ReadVar.j1]; rw [if_pos trivial, wrap_id (by omega) (by omega)]) ?_
        have ih := spec_ReadVar_dead s j hj hx d (i + 1) (by omega) (by omega)
        obtain ⟨K, hK⟩ := spec_Var_ev (lowV ((bytesOf s).take i))
        dsimp only at hK
        obtain ⟨K2, hK2⟩ := ih
        refine ⟨K + K2 + i + 1, fun n hn => ?_⟩
        obtain ⟨m, rfl⟩ : ∃ m, n = (m + 1) + i := ⟨n - 1 - i, by omega⟩
        have e := spec_ReadVar_l1 s i (by omega) (by omega) i (m + 1) (by omega)
        rw [List.drop_eq_nil_of_le (by rw [List.length_take]; omega)] at e
        simp only [lowV] at e
        show spec_ReadVar.l1 (m + 1 + i) s (i : Int) 0 ((i : Int) - 1) = _
        rw [e]
        simp only [spec_ReadVar.l1]
        rw [if_neg (by omega), hK m (by omega), Option.bind_some, if_pos (by omega), if_pos h, if_neg ?_, wrap_id (by omega) (by omega)]
        · exact hK2 m (by omega)
        · rw [toList_eq_iff]
          intro hh
          have := congrArg bytesOf hh
          rw [bytesOf_extract, bytesOf_strOfNums (varT_range _), varT, if_pos ⟨hlow0, by omega⟩] at this
          exact hbad (by simpa using this)
      · rw [decide_eq_false h]
        exact ev_last fun k => by simp only [spec_ReadVar.j1]; rw [if_neg (by decide)]
    · refine Ev.step (f := fun k => spec_ReadVar.j1 k s i false) (fun k => by simp only [spec_ReadVar.l0]; rw [if_neg h7]) ?_
      exact ev_last fun k => by simp only [spec_ReadVar.j1]; rw [if_neg (by decide)]
theorem spec_ReadVar_l0 (s : ByteArray) : ∀ (d k0 : Nat), k0 + d = 7 → (∀ j : Nat, j < k0 → rd (bytesOf s) j > 127) → k0 ≤ s.size →
    Ev (fun k => spec_ReadVar.l0 k s ((k0 : Int) + 1)) (rvP (bytesOf s) d k0)
  | 0, k0, hd, hall, hk => by
    refine Ev.step (f := fun k => spec_ReadVar.j1 k s ((k0 : Int) + 1) false) (fun k => by simp only [spec_ReadVar.l0]; rw [if_neg (by omega)]) ?_
    exact ev_last fun k => by simp only [spec_ReadVar.j1]; rw [if_neg (by decide)]; rfl
  | d + 1, k0, hd, hall, hk => by
    have hl := bytesOf_length s
    refine Ev.step (f := fun k => spec_ReadVar.j1 k s ((k0 : Int) + 1) (decide ((k0 : Int) + 1 ≤ (s.size : Int)))) (fun k => by simp only [spec_ReadVar.l0]; rw [if_pos (by omega)]) ?_
    rw [rvP, hl]
    by_cases h : (k0 : Int) < (s.size : Int)
    · rw [if_pos h, decide_eq_true (show (k0 : Int) + 1 ≤ (s.size : Int) by omega)]
      have hlow := lowV_lt ((bytesOf s).take (k0 + 1))
      have hlow0 := lowV_nonneg ((bytesOf s).take (k0 + 1))
      have hp : (128 : Int) ^ ((bytesOf s).take (k0 + 1)).length ≤ 128 ^ 7 := pow_le 128 (by decide) (by rw [List.length_take]; omega)
      refine Ev.step (f := fun k => spec_ReadVar.l1 k s ((k0 + 1 : Nat) : Int) 0 (((k0 + 1 : Nat) : Int) - 1)) (fun k => by simp only [spec_ReadVar.j1]; rw [if_pos trivial, wrap_id (by omega) (by omega)]; rfl) ?_
      obtain ⟨K, hK⟩ := spec_Var_ev (lowV ((bytesOf s).take (k0 + 1)))
      dsimp only at hK
      have hvg := varL_good 7 ((bytesOf s).take (k0 + 1)) (fun c hc => bytesOf_range (List.mem_of_mem_take hc)) (by rw [List.length_take]; omega) (fun he => by have := congrArg List.length he; rw [List.length_take] at this; simp only [List.length_nil] at this; omega)
      have hg := goodV_rvP (bytesOf s) (d + 1) k0 hd (by omega) (by omega) hall
      have hcmp : (strOfNums (varT (lowV ((bytesOf s).take (k0 + 1))))).toList = (s.extract 0 ((k0 + 1 : Nat) : Int).toNat).toList ↔ goodV ((bytesOf s).take (k0 + 1)) = true := by
        rw [toList_eq_iff, ← hvg]
        constructor
        · intro hh
          have := congrArg bytesOf hh
          rw [bytesOf_extract, bytesOf_strOfNums (varT_range _), varT, if_pos ⟨hlow0, by omega⟩] at this
          simpa using this
        · intro hh
          refine bytesOf_inj ?_
          rw [bytesOf_extract, bytesOf_strOfNums (varT_range _), varT, if_pos ⟨hlow0, by omega⟩]
          simpa using hh
      have hrun : ∀ {r : Int × Int}, (goodV ((bytesOf s).take (k0 + 1)) = true → r = (lowV ((bytesOf s).take (k0 + 1)), (k0 : Int) + 1)) → (goodV ((bytesOf s).take (k0 + 1)) = false → Ev (fun k => spec_ReadVar.l0 k s (((k0 + 1 : Nat) : Int) + 1)) r) → Ev (fun k => spec_ReadVar.l1 k s ((k0 + 1 : Nat) : Int) 0 (((k0 + 1 : Nat) : Int) - 1)) r := by
        intro r hgood hbad
        have hgo : ∃ K2, ∀ m, K2 ≤ m → spec_ReadVar.l1 (m + 1) s ((k0 + 1 : Nat) : Int) (lowV ((bytesOf s).take (k0 + 1))) (-1) = some r := by
          cases hgg : goodV ((bytesOf s).take (k0 + 1)) with
          | true =>
            refine ⟨K, fun m hm => ?_⟩
            simp only [spec_ReadVar.l1]
            rw [if_neg (by omega), hK m hm, Option.bind_some, if_pos (by omega), if_pos (by omega), if_pos (hcmp.2 hgg), hgood hgg]
            rfl
          | false =>
            obtain ⟨K2, hK2⟩ := hbad hgg
            refine ⟨K + K2, fun m hm => ?_⟩
            simp only [spec_ReadVar.l1]
            rw [if_neg (by omega), hK m (by omega), Option.bind_some, if_pos (by omega), if_pos (by omega), if_neg (fun hh => by rw [hcmp.1 hh] at hgg; cases hgg), wrap_id (by omega) (by omega)]
            exact hK2 m (by omega)
        obtain ⟨K2, hK2⟩ := hgo
        refine ⟨K2 + k0 + 2, fun n hn => ?_⟩
        obtain ⟨m, rfl⟩ : ∃ m, n = (m + 1) + (k0 + 1) := ⟨n - 1 - (k0 + 1), by omega⟩
        have e := spec_ReadVar_l1 s (k0 + 1) (by omega) (by omega) (k0 + 1) (m + 1) (by omega)
        rw [List.drop_eq_nil_of_le (by rw [List.length_take]; omega)] at e
        simp only [lowV] at e
        show spec_ReadVar.l1 (m + 1 + (k0 + 1)) s ((k0 + 1 : Nat) : Int) 0 (((k0 + 1 : Nat) : Int) - 1) = _
        rw [e]
        exact hK2 m (by omega)
      by_cases h1 : rd (bytesOf s) (k0 : Int) > 127
      · rw [if_pos h1]
        refine hrun (fun hh => ?_) (fun _ => spec_ReadVar_l0 s d (k0 + 1) (by omega) (fun j hj => ?_) (by omega))
        · rw [hg] at hh; simp at hh; omega
        · by_cases hjk : j = k0
          · subst hjk; exact h1
          · exact hall j (by omega)
      · rw [if_neg h1]
        by_cases h2 : rd (bytesOf s) (k0 : Int) = 0 ∧ k0 > 0
        · rw [if_pos h2]
          refine hrun (fun hh => ?_) (fun _ => ?_)
          · rw [hg] at hh; simp at hh; omega
          · exact spec_ReadVar_dead s k0 (by omega) (by omega) d (k0 + 2) (by omega) (by omega)
        · rw [if_neg h2]
          refine hrun (fun _ => rfl) (fun hh => ?_)
          rw [hg] at hh; simp at hh; omega
    · rw [if_neg h, decide_eq_false (show ¬ (k0 : Int) + 1 ≤ (s.size : Int) by omega)]
      exact ev_last fun k => by simp only [spec_ReadVar.j1]; rw [if_neg (by decide)]
theorem spec_ReadVar_ev (s : ByteArray) : Ev (fun k => spec_ReadVar.f k s) (readVarP (bytesOf s)) := by
  have h := spec_ReadVar_l0 s 7 0 (by omega) (fun j hj => by omega) (by omega)
  simpa [spec_ReadVar.f, readVarP] using h

/-! ### impl_ReadVar -/
theorem impl_ReadVar_l0 (s : ByteArray) : ∀ (d k0 : Nat), k0 + d = 7 → k0 ≤ s.size →
    Ev (fun k => impl_ReadVar.l0 k s (lowV ((bytesOf s).take k0)) k0) (rvP (bytesOf s) d k0)
  | 0, k0, hd, hk => by
    refine Ev.step (f := fun k => impl_ReadVar.j1 k s (lowV ((bytesOf s).take k0)) k0 false) (fun k => ?_) (ev_last fun k => ?_)
    · simp only [impl_ReadVar.l0]; rw [if_neg (by omega)]
    · simp only [impl_ReadVar.j1]; rw [if_neg (by decide)]; rfl
  | d + 1, k0, hd, hk => by
    have hb := bt_bound s (k0 : Int)
    have hl := bytesOf_length s
    refine Ev.step (f := fun k => impl_ReadVar.j1 k s (lowV ((bytesOf s).take k0)) k0 (decide ((k0 : Int) < (s.size : Int)))) (fun k => by simp only [impl_ReadVar.l0]; rw [if_pos (by omega)]) ?_
    rw [rvP, hl]
    by_cases h : (k0 : Int) < (s.size : Int)
    · rw [if_pos h, decide_eq_true h, ← bt_eq]
      have hw : wrap64 (7 * (k0 : Int)) = 7 * k0 := wrap_id (by omega) (by omega)
      have hwb : wrap64 (bt s (k0 : Int)) = bt s (k0 : Int) := wrap_id (by omega) (by omega)
      have hlow := lowV_lt ((bytesOf s).take k0)
      have hlow0 := lowV_nonneg ((bytesOf s).take k0)
      have hlen : ((bytesOf s).take k0).length = k0 := by rw [List.length_take, hl]; omega
      rw [hlen] at hlow
      have h49 : (128 : Int) ^ k0 ≤ 128 ^ 6 := pow_le 128 (by decide) (by omega)
      have h27 : (2 : Int) ^ (7 * k0) = 128 ^ k0 := by rw [Int.pow_mul]; rfl
      have hand : Go.bits .and .i64 (bt s (k0 : Int)) 127 = bt s k0 % 128 := and127 hb.1 (by omega)
      have hp0 : (0 : Int) < 128 ^ k0 := Int.pow_pos (by decide)
      have hm : bt s (k0 : Int) % 128 * 128 ^ k0 ≤ 127 * 128 ^ k0 := Int.mul_le_mul_of_nonneg_right (by omega) (by omega)
      have hm0 : 0 ≤ bt s (k0 : Int) % 128 * 128 ^ k0 := Int.mul_nonneg (by omega) (by omega)
      have hor : Go.bits .or .i64 (lowV ((bytesOf s).take k0)) (shl .i64 (Go.bits .and .i64 (bt s (k0 : Int)) 127) (7 * (k0 : Int))) = lowV ((bytesOf s).take (k0 + 1)) := by
        rw [hand]
        have e : shl .i64 (bt s (k0 : Int) % 128) (7 * (k0 : Int)) = bt s (k0 : Int) % 128 * 2 ^ (7 * k0) := by
          unfold shl
          rw [show (7 * (k0 : Int)).toNat = 7 * k0 by omega, Nat.min_eq_left (by simp [IntKind.bits]; omega), h27]
          exact i64_pos _ hm0 (by omega)
        rw [e, or_add (7 * k0) (by rw [h27]; exact hlow) hlow0 (by omega) (by rw [h27]; omega) (by omega), h27]
        have ht : (bytesOf s).take (k0 + 1) = (bytesOf s).take k0 ++ [bt s (k0 : Int)] := by
          rw [List.take_succ_eq_append_getElem (by omega), bt_get s k0 (by omega)]
        rw [ht, lowV_snoc, hlen]
      by_cases h1 : bt s (k0 : Int) > 127
      · rw [if_pos h1]
        refine Ev.step (f := fun k => impl_ReadVar.l0 k s (lowV ((bytesOf s).take (k0 + 1))) ((k0 + 1 : Nat) : Int)) (fun k => ?_) (impl_ReadVar_l0 s d (k0 + 1) (by omega) (by omega))
        simp only [impl_ReadVar.j1]
        rw [if_pos trivial, if_pos (by omega), if_pos h, hw, if_pos (by omega), hwb, if_pos h1, hor, wrap_id (by omega) (by omega)]
        rfl
      · rw [if_neg h1]
        refine ev_last fun k => ?_
        simp only [impl_ReadVar.j1]
        rw [if_pos trivial, if_pos (by omega), if_pos h, hw, if_pos (by omega), hwb, if_neg h1, hor, wrap_id (by omega) (by omega)]
        have hmax : ¬ lowV ((bytesOf s).take (k0 + 1)) > 562949953421311 := by
          have hx := lowV_lt ((bytesOf s).take (k0 + 1))
          have : (128 : Int) ^ ((bytesOf s).take (k0 + 1)).length ≤ 128 ^ 7 := pow_le 128 (by decide) (by rw [List.length_take]; omega)
          omega
        by_cases h2 : bt s (k0 : Int) = 0
        · rw [if_pos h2]
          by_cases h3 : (k0 : Int) > 0
          · rw [if_pos h3, if_pos ⟨h2, by omega⟩]
          · rw [if_neg h3, if_neg hmax, if_neg (fun hh => h3 (by omega))]
        · rw [if_neg h2, if_neg hmax, if_neg (fun hh => h2 hh.1)]
    · rw [if_neg h, decide_eq_false h]
      refine ev_last fun k => ?_
      simp only [impl_ReadVar.j1]; rw [if_neg (by decide)]
theorem impl_ReadVar_ev (s : ByteArray) : Ev (fun k => impl_ReadVar.f k s) (readVarP (bytesOf s)) := by
  have h := impl_ReadVar_l0 s 7 0 (by omega) (by omega)
  simpa [impl_ReadVar.f, lowV, readVarP] using h

theorem FnExactReadVar : laws_FnExactReadVar.Pure := by
  intro s _
  by_cases h : (s.size : Int) > 1048576
  · exact ⟨0, by unfold laws_FnExactReadVar.f; rw [if_pos h]⟩
  · refine Ev.rounds (Ev.congr (fun k => by unfold laws_FnExactReadVar.f; rw [if_neg h]) ?_)
    exact ev_bind (spec_ReadVar_ev s) (ev_bind (impl_ReadVar_ev s) (ev_if_pos rfl (ev_if_pos rfl (Ev.now _))))

end Go.Proofs.Ytdiogjldbhoiiaa.Pure
