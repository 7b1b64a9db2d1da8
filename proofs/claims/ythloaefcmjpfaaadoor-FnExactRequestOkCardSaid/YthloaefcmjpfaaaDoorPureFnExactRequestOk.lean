/- The program's RequestOk returns what the reference's returns, for all requests (where they hold more than 2^20 fields and bytes they are let by). -/
import Derived.Test.YthloaefcmjpfaaaDoorWalkFnExactRequestOk
import Derived.Test.YthloaefcmjpfaaaDoorDom
namespace Go.Proofs.YthloaefcmjpfaaaDoor.Pure
set_option linter.unusedVariables false
set_option linter.unusedSimpArgs false
open Go.RowKit Go.Proofs.YthloaefcmjpfaaaDoor.QFnExactRequestOk Go.Proofs.YthloaefcmjpfaaaDoorW.PrintWords Go.Proofs.YthloaefcmjpfaaaDoorW.PrintLast Go.Proofs.YthloaefcmjpfaaaDoorW.PrintMore Go.Proofs.YthloaefcmjpfaaaDoor.Aux Go.Proofs.YthloaefcmjpfaaaDoor.Dom Go.Proofs.YthloaefcmjpfaaaDoor.Ext

/-! ### laws_szField -/
theorem laws_szField_eq (a b : ByteArray) (n : Int) (ha : a.size ≤ maxLen) (hb : b.size ≤ maxLen) (h0 : 0 ≤ n) (h1 : n ≤ 9223372036854775807) :
    laws_szField.f a b n = some (if n - a.size - b.size < 0 then -1 else n - a.size - b.size) := by
  unfold maxLen at ha hb
  unfold laws_szField.f
  by_cases h : n - a.size < 0
  · rw [wrap_id (by omega) (by omega), if_pos h, if_pos (by omega)]
  · rw [wrap_id (x := n - a.size) (by omega) (by omega), if_neg h, wrap_id (by omega) (by omega)]
    by_cases h2 : n - a.size - b.size < 0
    · rw [if_pos h2, if_pos h2]
    · rw [if_neg h2, if_neg h2]

/-! ### laws_szFieldS -/
theorem laws_szFieldS_l0 (l : List S75) (hl : l.length ≤ maxLen) (hm : ∀ x ∈ l, x.f0.size ≤ maxLen ∧ x.f1.size ≤ maxLen) : ∀ (d : Nat) (n i : Int), 0 ≤ i → (l.length : Int) - i = d → 0 ≤ n → n ≤ 1048576 →
    Ev (fun k => laws_szFieldS.l0 k l n i) (szL n ((l.drop i.toNat).map fun x => (x.f0, x.f1)))
  | 0, n, i, h0, hd, n0, n1 => by
    refine ev_last fun k => ?_
    simp only [laws_szFieldS.l0]
    rw [if_neg (by omega), drop_nil (by omega)]
    rfl
  | d + 1, n, i, h0, hd, n0, n1 => by
    have hlt : i < (l.length : Int) := by omega
    have hx : (rd_T75 l i) ∈ l := by
      unfold rd_T75
      rw [List.getD_eq_getElem?_getD, List.getElem?_eq_getElem (by omega)]
      exact List.getElem_mem _
    have e := laws_szField_eq (rd_T75 l i).f0 (rd_T75 l i).f1 n (hm _ hx).1 (hm _ hx).2 n0 (by omega)
    have hdrop : l.drop i.toNat = rd_T75 l i :: l.drop (i + 1).toNat := drop_rdOf (d := z75) h0 hlt
    rw [hdrop]
    simp only [List.map_cons, szL]
    by_cases h : n - ((rd_T75 l i).f0.size : Int) - ((rd_T75 l i).f1.size : Int) < 0
    · refine ev_last fun k => ?_
      simp only [laws_szFieldS.l0]
      rw [if_pos hlt, if_pos h0, e, if_pos h, Option.bind_some, if_pos (by omega), if_pos h]
    · refine Ev.step (f := fun k => laws_szFieldS.l0 k l (n - ((rd_T75 l i).f0.size : Int) - ((rd_T75 l i).f1.size : Int)) (i + 1)) (fun k => ?_) (ev_eq (laws_szFieldS_l0 l hl hm d _ (i + 1) (by omega) (by omega) (by omega) (by omega)) ?_)
      · simp only [laws_szFieldS.l0]
        rw [if_pos hlt, if_pos h0, e, if_neg h, Option.bind_some, if_neg h, wrap_id (by omega) (by unfold maxLen at hl; omega)]
      · rw [if_neg h]
theorem laws_szFieldS_ev (l : List S75) (n : Int) (hl : l.length ≤ maxLen) (hm : ∀ x ∈ l, x.f0.size ≤ maxLen ∧ x.f1.size ≤ maxLen) (n0 : 0 ≤ n) (n1 : n ≤ 1048576) :
    Ev (fun k => laws_szFieldS.f k l n) (szF n (l.map fun x => (x.f0, x.f1))) := by
  unfold szF
  rw [List.length_map]
  by_cases h : n - (l.length : Int) < 0
  · rw [if_pos h]
    refine ev_some fun k => ?_
    unfold laws_szFieldS.f
    rw [wrap_id (by unfold maxLen at hl; omega) (by omega), if_pos h]
  · rw [if_neg h]
    refine Ev.congr (fun k => by unfold laws_szFieldS.f; rw [wrap_id (by unfold maxLen at hl; omega) (by omega), if_neg h]) ?_
    have e := laws_szFieldS_l0 l hl hm l.length (n - l.length) 0 (by omega) (by omega) (by omega) (by omega)
    simpa using e

/-! ### laws_toFieldS -/
theorem laws_toFieldS_l0 (l : List S75) (hl : l.length ≤ 1048576) : ∀ (d : Nat) (ys : List S77) (i : Int), 0 ≤ i → (l.length : Int) - i = d → (ys.length : Int) = i →
    Ev (fun k => laws_toFieldS.l0 k l (ys ++ List.replicate d z77) i) (ys ++ (l.drop i.toNat).map fun x => (⟨x.f0, x.f1⟩ : S77))
  | 0, ys, i, h0, hd, hy => by
    refine ev_last fun k => ?_
    simp only [laws_toFieldS.l0]
    rw [if_neg (by omega), drop_nil (by omega)]
    simp
  | d + 1, ys, i, h0, hd, hy => by
    have hlt : i < (l.length : Int) := by omega
    have hdrop : l.drop i.toNat = rd_T75 l i :: l.drop (i + 1).toNat := drop_rdOf (d := z75) h0 hlt
    refine Ev.step (f := fun k => laws_toFieldS.l0 k l ((ys ++ [(⟨(rd_T75 l i).f0, (rd_T75 l i).f1⟩ : S77)]) ++ List.replicate d z77) (i + 1)) (fun k => ?_) (ev_eq (laws_toFieldS_l0 l hl d _ (i + 1) (by omega) (by omega) (by simp; omega)) ?_)
    · simp only [laws_toFieldS.l0, laws_toField.f, Option.bind_some]
      have e : (ys ++ List.replicate (d + 1) z77).set i.toNat (⟨(rd_T75 l i).f0, (rd_T75 l i).f1⟩ : S77) = (ys ++ [(⟨(rd_T75 l i).f0, (rd_T75 l i).f1⟩ : S77)]) ++ List.replicate d z77 := by
        rw [List.set_append_right _ _ (by omega), show i.toNat - ys.length = 0 by omega, List.replicate_succ]
        simp
      rw [if_pos hlt, if_pos h0, if_pos (by simp; omega), e, wrap_id (by omega) (by omega)]
    · rw [hdrop]; simp
theorem laws_toFieldS_ev (l : List S75) (hl : l.length ≤ 1048576) : Ev (fun k => laws_toFieldS.f k l) (l.map fun x => (⟨x.f0, x.f1⟩ : S77)) := by
  refine Ev.congr (fun k => by unfold laws_toFieldS.f; rw [if_pos (by omega), if_pos (by omega)]) ?_
  have e := laws_toFieldS_l0 l hl l.length [] 0 (by omega) (by omega) (by simp)
  simpa using e

/-! ### laws_eqFieldS -/
theorem laws_eqFieldS_l0 (l : List S77) (hl : l.length ≤ 9223372036854775806) : ∀ (d : Nat) (i : Int), 0 ≤ i → (l.length : Int) - i = d → Ev (fun k => laws_eqFieldS.l0 k l l i) true
  | 0, i, h0, hd => by
    refine ev_last fun k => ?_
    simp only [laws_eqFieldS.l0]
    rw [if_neg (by omega)]
  | d + 1, i, h0, hd => by
    have hlt : i < (l.length : Int) := by omega
    refine Ev.step (f := fun k => laws_eqFieldS.l0 k l l (i + 1)) (fun k => ?_) (laws_eqFieldS_l0 l hl d (i + 1) (by omega) (by omega))
    simp only [laws_eqFieldS.l0, laws_eqField.f]
    rw [if_pos hlt, if_pos h0, if_pos hlt]
    simp only [if_true, Option.bind_some]
    rw [wrap_id (by omega) (by omega)]
/-- Two that are one are alike. -/
theorem laws_eqFieldS_ev (l : List S77) (hl : l.length ≤ 9223372036854775806) : Ev (fun k => laws_eqFieldS.f k l l) true := by
  refine Ev.congr (fun k => by unfold laws_eqFieldS.f; rw [if_pos rfl]) ?_
  exact laws_eqFieldS_l0 l hl l.length 0 (by omega) (by omega)

/-! ### laws_Request -/
theorem laws_szRequest_ev (m u : ByteArray) (l : List S75) (b : ByteArray) (n : Int) (hl : l.length ≤ maxLen) (hlm : ∀ x ∈ l, x.f0.size ≤ maxLen ∧ x.f1.size ≤ maxLen) (hm : m.size ≤ maxLen) (hu : u.size ≤ maxLen) (hb : b.size ≤ maxLen) (n0 : 0 ≤ n) (n1 : n ≤ 1048576) :
    Ev (fun k => laws_szRequest.f k m u l b n) (szQ n m u (l.map fun x => (x.f0, x.f1)) b) := by
  unfold maxLen at hb hm hu
  have w1 : wrap64 (n - (m.size : Int)) = n - (m.size : Int) := wrap_id (by omega) (by omega)
  have w2 : n - (m.size : Int) ≥ 0 → wrap64 (n - (m.size : Int) - (u.size : Int)) = n - (m.size : Int) - (u.size : Int) := fun _ => wrap_id (by omega) (by omega)
  refine Ev.congr (fun k => by unfold laws_szRequest.f; rw [w1]) ?_
  unfold szQ
  refine ev_ite (fun h => Ev.now _) (fun h => ?_)
  rw [w2 (by omega)]
  refine ev_ite (fun h => Ev.now _) (fun h2 => ?_)
  have q := szF_le (n - (m.size : Int) - u.size) (l.map fun x => (x.f0, x.f1)) (by omega)
  refine ev_bind (laws_szFieldS_ev l _ hl hlm (by omega) (by omega)) ?_
  unfold szR
  refine ev_ite (fun h => Ev.now _) (fun h => ?_)
  rw [wrap_id (by omega) (by omega)]
  exact ev_ite (fun h => Ev.now _) (fun h => Ev.now _)
theorem laws_toRequest_ev (m u : ByteArray) (l : List S75) (b : ByteArray) (hl : l.length ≤ 1048576) : Ev (fun k => laws_toRequest.f k m u l b) (m, u, l.map (fun x => (⟨x.f0, x.f1⟩ : S77)), b) :=
  Ev.congr (fun k => by unfold laws_toRequest.f; rfl) (ev_bind (laws_toFieldS_ev l hl) (Ev.now _))
theorem laws_eqRequest_ev (m u : ByteArray) (l : List S77) (b : ByteArray) (hl : l.length ≤ 9223372036854775806) : Ev (fun k => laws_eqRequest.f k m u l b m u l b) true :=
  Ev.congr (fun k => by unfold laws_eqRequest.f; rw [if_pos rfl, if_pos rfl]) (ev_bind (laws_eqFieldS_ev l hl) (ev_if_pos rfl (ev_if_pos rfl (Ev.now _))))

/-! ### spec_IsTokenText -/
theorem spec_l2Token_eq {c : Int} (h0 : 0 ≤ c) (h1 : c < 256) : spec_l2Token.f c = some (tokC c) := by unfold spec_l2Token.f; rw [if_pos ⟨h0, h1⟩]
theorem spec_IsTokenText_l0 (s : ByteArray) (hs : s.size ≤ 2097152) : ∀ (d : Nat) (i : Int), 0 ≤ i → (s.size : Int) - i = d →
    Ev (fun k => spec_IsTokenText.l0 k s i) (((bytesOf s).drop i.toNat).all tokC && !(bytesOf s).isEmpty)
  | 0, i, h0, hd => by
    refine ev_last fun k => ?_
    simp only [spec_IsTokenText.l0]
    rw [if_neg (by omega), drop_end (by omega)]
    have hl := bytesOf_length s
    cases hb : bytesOf s with
    | nil => rw [hb] at hl; simp at hl; simp [← hl]
    | cons a r => rw [hb] at hl; simp at hl; simp; omega
  | d + 1, i, h0, hd => by
    have hb := bt_bound s i
    have hlt : i < (s.size : Int) := by omega
    have e := spec_l2Token_eq hb.1 hb.2
    rw [drop_bt h0 hlt, List.all_cons]
    cases ht : tokC (bt s i) with
    | true =>
      refine Ev.step (f := fun k => spec_IsTokenText.l0 k s (i + 1)) (fun k => ?_) (ev_eq (spec_IsTokenText_l0 s hs d (i + 1) (by omega) (by omega)) (by rw [Bool.true_and]))
      simp only [spec_IsTokenText.l0]
      rw [if_pos hlt, if_pos h0, e, ht, Option.bind_some, if_pos rfl, wrap_id (by omega) (by omega)]
    | false =>
      refine ev_last fun k => ?_
      simp only [spec_IsTokenText.l0]
      rw [if_pos hlt, if_pos h0, e, ht, Option.bind_some, if_neg (by decide)]
      rfl
theorem spec_IsTokenText_ev (s : ByteArray) (hs : s.size ≤ 2097152) : Ev (fun k => spec_IsTokenText.f k s) (tokB (bytesOf s)) := by
  have h := spec_IsTokenText_l0 s hs s.size 0 (by omega) (by omega)
  simpa [spec_IsTokenText.f, tokB] using h

/-! ### spec_l1In -/
theorem spec_l1In_eq (a b c : Int) : spec_l1In.f a b c = some (decide (b ≤ a ∧ a ≤ c)) := by
  unfold spec_l1In.f
  by_cases h : a ≥ b
  · rw [if_pos h]; simp [show b ≤ a from h]
  · rw [if_neg h]; simp [show ¬ b ≤ a from h]

/-! ### spec_UriOk -/
theorem spec_UriOk_l0 (s : ByteArray) (hs : s.size ≤ 2097152) : ∀ (d : Nat) (i : Int), 0 ≤ i → (s.size : Int) - i = d →
    Ev (fun k => spec_UriOk.l0 k s i) (((bytesOf s).drop i.toNat).all (fun c => decide (33 ≤ c ∧ c ≤ 126)) && (decide (1 ≤ (s.size : Int) ∧ (s.size : Int) ≤ 20) && (rd (bytesOf s) 0 == 47)))
  | 0, i, h0, hd => by
    refine ev_last fun k => ?_
    simp only [spec_UriOk.l0]
    rw [if_neg (by omega), drop_end (by omega), spec_l1In_eq]
    simp only [Option.bind_some]
    by_cases h : 1 ≤ (s.size : Int) ∧ (s.size : Int) ≤ 20
    · rw [if_pos (by simpa using h), if_pos (by omega), bt_eq]
      simp [h]
    · rw [if_neg (by simpa using h)]
      simp [h]
  | d + 1, i, h0, hd => by
    have hb := bt_bound s i
    have hlt : i < (s.size : Int) := by omega
    by_cases c1 : bt s i ≤ 32
    · refine ev_last fun k => ?_
      simp only [spec_UriOk.l0]
      rw [if_pos hlt, if_pos h0, if_pos c1, drop_bt h0 hlt, List.all_cons, decide_eq_false (p := 33 ≤ bt s i ∧ bt s i ≤ 126) (by omega)]
      rfl
    · by_cases c2 : bt s i ≥ 127
      · refine ev_last fun k => ?_
        simp only [spec_UriOk.l0]
        rw [if_pos hlt, if_pos h0, if_neg c1, if_pos c2, drop_bt h0 hlt, List.all_cons, decide_eq_false (p := 33 ≤ bt s i ∧ bt s i ≤ 126) (by omega)]
        rfl
      · refine Ev.step (f := fun k => spec_UriOk.l0 k s (i + 1)) (fun k => ?_) (ev_eq (spec_UriOk_l0 s hs d (i + 1) (by omega) (by omega)) ?_)
        · simp only [spec_UriOk.l0]
          rw [if_pos hlt, if_pos h0, if_neg c1, if_neg c2, wrap_id (by omega) (by omega)]
        · rw [drop_bt h0 hlt, List.all_cons, decide_eq_true (p := 33 ≤ bt s i ∧ bt s i ≤ 126) (by omega), Bool.true_and]
theorem spec_UriOk_ev (s : ByteArray) (hs : s.size ≤ 2097152) : Ev (fun k => spec_UriOk.f k s) (uriB (bytesOf s)) := by
  have h := spec_UriOk_l0 s hs s.size 0 (by omega) (by omega)
  simpa [spec_UriOk.f, uriB, bytesOf_length] using h

/-! ### spec_FieldGet -/
theorem spec_FieldGet_l0 (l : List S77) (nm : ByteArray) (hl : l.length ≤ 1048576) (V : List ByteArray) (hV : (V.map fun v => v.size + 2).sum ≤ 8388608) : ∀ (d : Nat) (acc : List ByteArray) (i : Int), 0 ≤ i → (l.length : Int) - i = d → acc ++ getL nm ((l.drop i.toNat).map fun x => (x.f0, x.f1)) = V →
    Ev (fun k => spec_FieldGet.l0 k l nm (joinB ⟨#[44, 32]⟩ acc) (!acc.isEmpty) i) (joinB ⟨#[44, 32]⟩ V, !V.isEmpty)
  | 0, acc, i, h0, hd, ha => by
    refine ev_last fun k => ?_
    simp only [spec_FieldGet.l0]
    rw [drop_nil (by omega)] at ha
    simp only [List.map_nil, getL, List.append_nil] at ha
    rw [if_neg (by omega), ha]
  | d + 1, acc, i, h0, hd, ha => by
    have hlt : i < (l.length : Int) := by omega
    have hdrop : l.drop i.toNat = rd_T77 l i :: l.drop (i + 1).toNat := drop_rdOf (d := z77) h0 hlt
    rw [hdrop] at ha
    simp only [List.map_cons, getL] at ha
    by_cases h : (rd_T77 l i).f0 = nm
    · rw [if_pos h] at ha
      have hs := joinB_size ⟨#[44, 32]⟩ acc
      have hb : (acc.map fun v => v.size + 2).sum + ((rd_T77 l i).f1.size + 2) ≤ 8388608 := by
        rw [← ha] at hV
        simp only [List.map_append, List.sum_append, List.map_cons, List.sum_cons] at hV
        omega
      have hs2 : (joinB ⟨#[44, 32]⟩ acc).size ≤ (acc.map fun v => v.size + 2).sum := hs
      cases acc with
      | nil =>
        refine Ev.step (f := fun k => spec_FieldGet.l0 k l nm (joinB ⟨#[44, 32]⟩ [(rd_T77 l i).f1]) true (i + 1)) (fun k => ?_) (spec_FieldGet_l0 l nm hl V hV d [(rd_T77 l i).f1] (i + 1) (by omega) (by omega) ha)
        simp only [spec_FieldGet.l0]
        have e0 : (joinB ⟨#[44, 32]⟩ [] ++ (rd_T77 l i).f1) = (rd_T77 l i).f1 := ByteArray.empty_append
        have e1 : (joinB ⟨#[44, 32]⟩ []).size = 0 := rfl
        rw [if_pos hlt, if_pos h0, if_pos (by rw [h]), if_neg (by decide), if_pos (by omega), wrap_id (by omega) (by omega), e0]
        rfl
      | cons a acc =>
        refine Ev.step (f := fun k => spec_FieldGet.l0 k l nm (joinB ⟨#[44, 32]⟩ ((a :: acc) ++ [(rd_T77 l i).f1])) true (i + 1)) (fun k => ?_) (spec_FieldGet_l0 l nm hl V hV d ((a :: acc) ++ [(rd_T77 l i).f1]) (i + 1) (by omega) (by omega) (by rw [← ha]; simp))
        simp only [spec_FieldGet.l0]
        rw [if_pos hlt, if_pos h0, if_pos (by rw [h]), if_pos (show (!(a :: acc).isEmpty) = true from rfl), if_pos (by omega), if_pos (by rw [ByteArray.size_append]; have : (⟨#[44, 32]⟩ : ByteArray).size = 2 := rfl; omega), wrap_id (by omega) (by omega), joinB_snoc _ _ _ (by simp)]
    · rw [if_neg h] at ha
      refine Ev.step (f := fun k => spec_FieldGet.l0 k l nm (joinB ⟨#[44, 32]⟩ acc) (!acc.isEmpty) (i + 1)) (fun k => ?_) (spec_FieldGet_l0 l nm hl V hV d acc (i + 1) (by omega) (by omega) ha)
      simp only [spec_FieldGet.l0]
      rw [if_pos hlt, if_pos h0, if_neg (by rw [toList_eq_iff]; exact h), wrap_id (by omega) (by omega)]
theorem spec_FieldGet_ev (l : List S77) (nm : ByteArray) (hl : l.length ≤ 1048576) (hV : ((getL nm (l.map fun x => (x.f0, x.f1))).map fun v => v.size + 2).sum ≤ 8388608) : Ev (fun k => spec_FieldGet.f k l nm) (joinB ⟨#[44, 32]⟩ (getL nm (l.map fun x => (x.f0, x.f1))), !(getL nm (l.map fun x => (x.f0, x.f1))).isEmpty) := by
  have h := spec_FieldGet_l0 l nm hl _ hV l.length [] 0 (by omega) (by omega) (by simp)
  simpa [spec_FieldGet.f, joinB] using h

/-! ### spec_Trim -/
theorem spec_l2Blank_eq (c : Int) : spec_l2Blank.f c = some (blkC c) := by
  unfold spec_l2Blank.f blkC
  by_cases h : c = 32
  · rw [if_pos h, decide_eq_true h, Bool.true_or]
  · rw [if_neg h, decide_eq_false h, Bool.false_or]
    congr 1
theorem spec_Trim_l1 : ∀ (d : Nat) (s : ByteArray), s.size = d → d ≤ 2097152 → Ev (fun k => spec_Trim.l1 k s) (strOfNums ((bytesOf s).reverse.dropWhile blkC).reverse)
  | 0, s, h, _ => by
    refine ev_last fun k => ?_
    simp only [spec_Trim.l1]
    rw [if_neg (by omega), bytesOf_nil h]
    congr 1
    rw [← strOfNums_bytesOf s, bytesOf_nil h]
    rfl
  | d + 1, s, h, hd => by
    have hb := bytesOf_last h
    have hw : wrap64 ((s.size : Int) - 1) = (d : Int) := by rw [wrap_id (by omega) (by omega)]; omega
    have er : (bytesOf s).reverse = bt s (d : Int) :: ((bytesOf s).take d).reverse := by
      conv => lhs; rw [hb]
      rw [List.reverse_append, List.reverse_singleton, List.singleton_append]
    by_cases hk : blkC (bt s (d : Int)) = true
    · have hx : bytesOf (s.extract 0 d) = (bytesOf s).take d := by rw [bytesOf_extract, List.drop_zero]
      have ih := spec_Trim_l1 d (s.extract 0 d) (by rw [ByteArray.size_extract]; omega) (by omega)
      rw [hx] at ih
      refine Ev.step (f := fun k => spec_Trim.l1 k (s.extract 0 d)) (fun k => ?_) (ev_eq ih (by rw [er, List.dropWhile_cons_of_pos hk]))
      simp only [spec_Trim.l1, hw]
      rw [if_pos (by omega), if_pos (by omega), if_pos (by omega), spec_l2Blank_eq, hk, Option.bind_some, if_pos rfl, if_pos (by omega), Int.toNat_natCast]
    · refine ev_last fun k => ?_
      simp only [spec_Trim.l1, hw]
      have hk' : blkC (bt s (d : Int)) = false := by simpa using hk
      rw [if_pos (by omega), if_pos (by omega), if_pos (by omega), spec_l2Blank_eq, hk', Option.bind_some, if_neg (by decide), er, List.dropWhile_cons_of_neg hk, ← er, List.reverse_reverse, strOfNums_bytesOf]
theorem spec_Trim_l0 : ∀ (d : Nat) (s : ByteArray), s.size = d → d ≤ 2097152 → Ev (fun k => spec_Trim.l0 k s) (strOfNums (((bytesOf s).dropWhile blkC).reverse.dropWhile blkC).reverse)
  | 0, s, h, hd => by
    refine Ev.step (f := fun k => spec_Trim.j1 k s) (fun k => ?_) (Ev.step (f := fun k => spec_Trim.l1 k s) (fun k => by simp only [spec_Trim.j1]) (ev_eq (spec_Trim_l1 0 s h hd) (by rw [bytesOf_nil h]; rfl)))
    simp only [spec_Trim.l0]
    rw [if_neg (by omega)]
  | d + 1, s, h, hd => by
    have er : bytesOf s = bt s 0 :: (bytesOf s).drop 1 := drop_bt (s := s) (i := 0) (by omega) (by omega)
    by_cases hk : blkC (bt s 0) = true
    · have hx : bytesOf (s.extract 1 s.size) = (bytesOf s).drop 1 := by rw [bytesOf_extract, List.take_of_length_le (by rw [bytesOf_length]; omega)]
      have ih := spec_Trim_l0 d (s.extract 1 s.size) (by rw [ByteArray.size_extract]; omega) (by omega)
      rw [hx] at ih
      refine Ev.step (f := fun k => spec_Trim.l0 k (s.extract 1 s.size)) (fun k => ?_) (ev_eq ih (by conv => rhs; rw [er, List.dropWhile_cons_of_pos hk]))
      simp only [spec_Trim.l0]
      rw [if_pos (by omega), if_pos (by omega), spec_l2Blank_eq, hk, Option.bind_some, if_pos rfl, if_pos (by omega)]
    · have hk' : blkC (bt s 0) = false := by simpa using hk
      refine Ev.step (f := fun k => spec_Trim.j1 k s) (fun k => ?_) (Ev.step (f := fun k => spec_Trim.l1 k s) (fun k => by simp only [spec_Trim.j1]) (ev_eq (spec_Trim_l1 (d + 1) s h hd) (by conv => rhs; rw [er, List.dropWhile_cons_of_neg hk, ← er])))
      simp only [spec_Trim.l0]
      rw [if_pos (by omega), if_pos (by omega), spec_l2Blank_eq, hk', Option.bind_some, if_neg (by decide)]
theorem spec_Trim_ev (s : ByteArray) (hs : s.size ≤ 2097152) : Ev (fun k => spec_Trim.f k s) (trimB s) := by
  have h := spec_Trim_l0 s.size s rfl hs
  rw [← dropWhile_ends] at h
  exact h

/-! ### spec_IsValueText -/
theorem spec_IsValueText_l0 (s : ByteArray) (hs : s.size ≤ 2097152) : ∀ (d : Nat) (i : Int), 0 ≤ i → (s.size : Int) - i = d →
    Ev (fun k => spec_IsValueText.l0 k s i) (((bytesOf s).drop i.toNat).all valC && decide (trimB s = s))
  | 0, i, h0, hd => by
    refine Ev.step (f := fun k => (spec_Trim.f k s).bind fun t103 => some (t103.toList == s.toList)) (fun k => ?_) (ev_bind (spec_Trim_ev s hs) (ev_some fun k => ?_))
    · simp only [spec_IsValueText.l0]
      rw [if_neg (by omega)]
    · rw [drop_end (by omega), toList_beq]
      rfl
  | d + 1, i, h0, hd => by
    have hlt : i < (s.size : Int) := by omega
    have ih := spec_IsValueText_l0 s hs d (i + 1) (by omega) (by omega)
    rw [drop_bt h0 hlt, List.all_cons]
    by_cases h9 : bt s i = 9
    · refine Ev.step (f := fun k => spec_IsValueText.l0 k s (i + 1)) (fun k => ?_) (ev_eq ih (by rw [valC, h9]; rfl))
      simp only [spec_IsValueText.l0]
      rw [if_pos hlt, if_pos h0, if_pos h9, wrap_id (by omega) (by omega)]
    · by_cases h32 : bt s i < 32
      · refine ev_last fun k => ?_
        simp only [spec_IsValueText.l0]
        rw [if_pos hlt, if_pos h0, if_neg h9, if_pos h32, valC, decide_eq_false h9, decide_eq_false (by omega : ¬ 32 ≤ bt s i)]
        rfl
      · by_cases h7 : bt s i = 127
        · refine ev_last fun k => ?_
          simp only [spec_IsValueText.l0]
          rw [if_pos hlt, if_pos h0, if_neg h9, if_neg h32, if_pos h7, valC, h7]
          rfl
        · refine Ev.step (f := fun k => spec_IsValueText.l0 k s (i + 1)) (fun k => ?_) (ev_eq ih (by rw [valC, decide_eq_true (by omega : 32 ≤ bt s i), decide_eq_true h7]; simp))
          simp only [spec_IsValueText.l0]
          rw [if_pos hlt, if_pos h0, if_neg h9, if_neg h32, if_neg h7, wrap_id (by omega) (by omega)]
theorem spec_IsValueText_ev (s : ByteArray) (hs : s.size ≤ 2097152) : Ev (fun k => spec_IsValueText.f k s) (valB s) :=
  spec_IsValueText_l0 s hs s.size 0 (by omega) (by omega)

/-! ### spec_Lower -/
theorem spec_Lower_eq (s : ByteArray) (hs : s.size ≤ 2097152) : spec_Lower.f s = some (strOfNums ((bytesOf s).map lowC)) := by unfold spec_Lower.f; rw [if_pos hs]

/-! ### spec_l3FieldOk -/
theorem spec_l3FieldOk_ev (nm v : ByteArray) (hn : nm.size ≤ 2097152) (hv : v.size ≤ 2097152) : Ev (fun k => spec_l3FieldOk.f k nm v) (fieldB (nm, v)) := by
  refine Ev.congr (fun k => by unfold spec_l3FieldOk.f; rfl) ?_
  refine ev_bind (spec_IsTokenText_ev nm hn) ?_
  by_cases a : tokB (bytesOf nm) = true
  · refine ev_if_pos a (ev_bind (ev_some fun _ => spec_Lower_eq nm hn) ?_)
    by_cases b : lowB nm = nm
    · refine ev_if_pos (by rw [toList_eq_iff]; exact b.symm) ?_
      by_cases c : nm.size ≤ 24
      · refine ev_if_pos (by omega) (ev_bind (spec_IsValueText_ev v hv) ?_)
        by_cases d : valB v = true
        · refine ev_if_pos d (ev_some fun _ => ?_)
          congr 1
          have e : decide ((v.size : Int) ≤ 60) = decide (v.size ≤ 60) := by rw [decide_eq_decide]; omega
          rw [e]
          simp [fieldB, a, b, c, d]
        · exact ev_if_neg d (ev_eq (Ev.now _) (by simp [fieldB, d]))
      · exact ev_if_neg (by omega) (ev_eq (Ev.now _) (by simp [fieldB, c]))
    · exact ev_if_neg (by rw [toList_eq_iff]; exact fun h => b h.symm) (ev_eq (Ev.now _) (by simp [fieldB, b]))
  · exact ev_if_neg a (ev_eq (Ev.now _) (by simp [fieldB, a]))

/-! ### spec_FieldsOk -/
theorem spec_FieldsOk_l0 (l : List S77) (hl : l.length ≤ 2097152) (hm : ∀ x ∈ l, x.f0.size ≤ 2097152 ∧ x.f1.size ≤ 2097152) : ∀ (d : Nat) (i : Int), 0 ≤ i → (l.length : Int) - i = d →
    Ev (fun k => spec_FieldsOk.l0 k l i) (((l.drop i.toNat).map fun x => (x.f0, x.f1)).all fieldB && decide (l.length ≤ 12))
  | 0, i, h0, hd => by
    refine ev_last fun k => ?_
    simp only [spec_FieldsOk.l0]
    rw [if_neg (by omega), drop_nil (by omega)]
    congr 1
    have e : decide ((l.length : Int) ≤ 12) = decide (l.length ≤ 12) := by rw [decide_eq_decide]; omega
    rw [e]
    rfl
  | d + 1, i, h0, hd => by
    have hlt : i < (l.length : Int) := by omega
    have hdrop : l.drop i.toNat = rd_T77 l i :: l.drop (i + 1).toNat := drop_rdOf (d := z77) h0 hlt
    have hx : rd_T77 l i ∈ l := List.mem_of_mem_drop (i := i.toNat) (by rw [hdrop]; exact List.mem_cons_self)
    have hs := hm _ hx
    rw [hdrop]
    simp only [List.map_cons, List.all_cons]
    refine Ev.step (f := fun k => (spec_l3FieldOk.f k (rd_T77 l i).f0 (rd_T77 l i).f1).bind fun t => if t = true then spec_FieldsOk.l0 k l (i + 1) else some false) (fun k => ?_) (ev_bind (spec_l3FieldOk_ev _ _ hs.1 hs.2) ?_)
    · simp only [spec_FieldsOk.l0]
      rw [if_pos hlt, if_pos h0, wrap_id (by omega) (by omega)]
    · by_cases a : fieldB ((rd_T77 l i).f0, (rd_T77 l i).f1) = true
      · exact ev_if_pos a (ev_eq (spec_FieldsOk_l0 l hl hm d (i + 1) (by omega) (by omega)) (by rw [a, Bool.true_and]))
      · exact ev_if_neg a (ev_eq (Ev.now _) (by simp [a]))
theorem spec_FieldsOk_ev (l : List S77) (hl : l.length ≤ 2097152) (hm : ∀ x ∈ l, x.f0.size ≤ 2097152 ∧ x.f1.size ≤ 2097152) : Ev (fun k => spec_FieldsOk.f k l) (fieldsB (l.map fun x => (x.f0, x.f1))) := by
  have h := spec_FieldsOk_l0 l hl hm l.length 0 (by omega) (by omega)
  simpa [spec_FieldsOk.f, fieldsB] using h

/-! ### spec_l6Plain -/
theorem spec_l6Plain_ev (l : List S77) (hl : l.length ≤ 1048576) (hm : ∀ x ∈ l, x.f0.size ≤ 2097152 ∧ x.f1.size ≤ 2097152) (hG : ∀ nm, ((getL nm (l.map fun x => (x.f0, x.f1))).map fun v => v.size + 2).sum ≤ 8388608) :
    Ev (fun k => spec_l6Plain.f k l) (plainB (l.map fun x => (x.f0, x.f1))) := by
  have t := spec_FieldGet_ev l nmTE hl (hG _)
  have c := spec_FieldGet_ev l nmCL hl (hG _)
  refine Ev.congr (fun k => by unfold spec_l6Plain.f; rfl) (ev_bind t (ev_bind c ?_))
  unfold plainB
  cases h1 : (getL nmTE (l.map fun x => (x.f0, x.f1))).isEmpty with
  | false => exact ev_if_pos (by rfl) (ev_eq (Ev.now _) (by simp))
  | true =>
    refine ev_if_neg (by simp) ?_
    cases h2 : (getL nmCL (l.map fun x => (x.f0, x.f1))).isEmpty with
    | false => exact ev_if_pos (by rfl) (ev_eq (Ev.now _) (by simp))
    | true =>
      refine ev_if_neg (by simp) ?_
      by_cases h : (l.length : Int) < 12
      · refine ev_if_pos h (ev_eq (ev_bind (spec_FieldsOk_ev l (by omega) hm) (Ev.now _)) ?_)
        have e : decide ((l.map fun x => (x.f0, x.f1)).length < 12) = true := by rw [decide_eq_true_eq, List.length_map]; omega
        rw [e]; simp
      · refine ev_if_neg h (ev_eq (Ev.now _) ?_)
        have e : decide ((l.map fun x => (x.f0, x.f1)).length < 12) = false := by rw [decide_eq_false_iff_not, List.length_map]; omega
        rw [e]; simp

/-! ### spec_RequestOk -/
theorem spec_RequestOk_ev (m u : ByteArray) (l : List S77) (b : ByteArray) (sm : m.size ≤ 2097152) (su : u.size ≤ 2097152) (hl : l.length ≤ 1048576) (hm : ∀ x ∈ l, x.f0.size ≤ 2097152 ∧ x.f1.size ≤ 2097152) (hG : ∀ nm, ((getL nm (l.map fun x => (x.f0, x.f1))).map fun v => v.size + 2).sum ≤ 8388608) :
    Ev (fun k => spec_RequestOk.f k m u l b) (reqB m u (l.map fun x => (x.f0, x.f1)) b) := by
  refine Ev.congr (fun k => by unfold spec_RequestOk.f; rfl) (ev_bind (spec_IsTokenText_ev m sm) ?_)
  unfold reqB
  cases h1 : tokB (bytesOf m) with
  | false => exact ev_if_neg (by simp) (ev_eq (Ev.now _) (by simp))
  | true =>
    refine ev_if_pos rfl ?_
    by_cases h2 : (m.size : Int) ≤ 10
    · have e2 : decide (m.size ≤ 10) = true := by rw [decide_eq_true_eq]; omega
      rw [e2]
      refine ev_if_pos h2 (ev_bind (spec_UriOk_ev u su) ?_)
      cases h3 : uriB (bytesOf u) with
      | false => exact ev_if_neg (by simp) (ev_eq (Ev.now _) (by simp))
      | true =>
        refine ev_if_pos rfl (ev_bind (spec_l6Plain_ev l hl hm hG) ?_)
        cases h4 : plainB (l.map fun x => (x.f0, x.f1)) with
        | false => exact ev_if_neg (by simp) (ev_eq (Ev.now _) (by simp))
        | true => exact ev_if_pos rfl (ev_eq (Ev.now _) (by rw [int_le_60]; simp))
    · have e2 : decide (m.size ≤ 10) = false := by rw [decide_eq_false_iff_not]; omega
      rw [e2]
      exact ev_if_neg h2 (ev_eq (Ev.now _) (by simp))

/-! ### strings_IndexByte -/
theorem strings_IndexByte_eq (s : ByteArray) (c : Int) (h0 : 0 ≤ c) (h1 : c < 256) : strings_IndexByte.f s c = some (idxB (bytesOf s) c) := by unfold strings_IndexByte.f; rw [if_pos ⟨h0, h1⟩]

/-! ### impl_IsTokenText -/
def lodC (c : Int) : Bool := decide (97 ≤ c ∧ c ≤ 122) || decide (65 ≤ c ∧ c ≤ 90) || decide (48 ≤ c ∧ c ≤ 57)
theorem impl_isLetterOrDigit_eq {c : Int} (h0 : 0 ≤ c) (h1 : c < 256) : impl_isLetterOrDigit.f c = some (lodC c) :=
  byte_all (P := fun c => impl_isLetterOrDigit.f c = some (lodC c)) (by decide +kernel) h0 h1
theorem impl_tok {c : Int} (h0 : 0 ≤ c) (h1 : c < 256) : tokC c = (lodC c || !decide (idxB [33, 35, 36, 37, 38, 39, 42, 43, 45, 46, 94, 95, 124, 126, 96] c < 0)) :=
  byte_all (P := fun c => tokC c = (lodC c || !decide (idxB [33, 35, 36, 37, 38, 39, 42, 43, 45, 46, 94, 95, 124, 126, 96] c < 0))) (by decide +kernel) h0 h1
theorem impl_IsTokenText_l0 (s : ByteArray) (hs : s.size ≤ 2097152) : ∀ (d : Nat) (i : Int), 0 ≤ i → (s.size : Int) - i = d →
    Ev (fun k => impl_IsTokenText.l0 k s (s.size : Int) i) (((bytesOf s).drop i.toNat).all tokC && !(bytesOf s).isEmpty)
  | 0, i, h0, hd => by
    refine ev_last fun k => ?_
    simp only [impl_IsTokenText.l0]
    rw [if_neg (by omega), drop_end (by omega)]
    congr 1
    rw [Bool.eq_iff_iff]
    simp only [bne_iff_ne, ne_eq, List.all_nil, Bool.true_and, Bool.not_eq_true', List.isEmpty_eq_false_iff]
    constructor
    · intro h he
      apply h
      exact (toList_lit _ _).2 he
    · intro h he
      exact h ((toList_lit _ _).1 he)
  | d + 1, i, h0, hd => by
    have hb := bt_bound s i
    have hlt : i < (s.size : Int) := by omega
    have e := impl_isLetterOrDigit_eq hb.1 hb.2
    have et := impl_tok hb.1 hb.2
    rw [drop_bt h0 hlt, List.all_cons]
    have ei := strings_IndexByte_eq (⟨#[33, 35, 36, 37, 38, 39, 42, 43, 45, 46, 94, 95, 124, 126, 96]⟩ : ByteArray) (bt s i) hb.1 hb.2
    have eb : bytesOf (⟨#[33, 35, 36, 37, 38, 39, 42, 43, 45, 46, 94, 95, 124, 126, 96]⟩ : ByteArray) = [33, 35, 36, 37, 38, 39, 42, 43, 45, 46, 94, 95, 124, 126, 96] := by decide +kernel
    rw [eb] at ei
    cases hl : lodC (bt s i) with
    | true =>
      rw [hl, Bool.true_or] at et
      refine Ev.step (f := fun k => impl_IsTokenText.l0 k s (s.size : Int) (i + 1)) (fun k => ?_) (ev_eq (impl_IsTokenText_l0 s hs d (i + 1) (by omega) (by omega)) (by rw [et, Bool.true_and]))
      simp only [impl_IsTokenText.l0]
      rw [if_pos hlt, if_pos h0, if_pos hlt, e, hl, Option.bind_some, if_pos rfl, wrap_id (by omega) (by omega)]
    | false =>
      rw [hl, Bool.false_or] at et
      by_cases hx : idxB [33, 35, 36, 37, 38, 39, 42, 43, 45, 46, 94, 95, 124, 126, 96] (bt s i) < 0
      · refine ev_last fun k => ?_
        simp only [impl_IsTokenText.l0]
        rw [if_pos hlt, if_pos h0, if_pos hlt, e, hl, Option.bind_some, if_neg (by decide), ei, Option.bind_some, if_pos hx, et, decide_eq_true hx]
        rfl
      · refine Ev.step (f := fun k => impl_IsTokenText.l0 k s (s.size : Int) (i + 1)) (fun k => ?_) (ev_eq (impl_IsTokenText_l0 s hs d (i + 1) (by omega) (by omega)) (by rw [et, decide_eq_false hx]; rfl))
        simp only [impl_IsTokenText.l0]
        rw [if_pos hlt, if_pos h0, if_pos hlt, e, hl, Option.bind_some, if_neg (by decide), ei, Option.bind_some, if_neg hx, wrap_id (by omega) (by omega)]
theorem impl_IsTokenText_ev (s : ByteArray) (hs : s.size ≤ 2097152) : Ev (fun k => impl_IsTokenText.f k s) (tokB (bytesOf s)) := by
  have h := impl_IsTokenText_l0 s hs s.size 0 (by omega) (by omega)
  simpa [impl_IsTokenText.f, tokB] using h

/-! ### impl_in -/
theorem impl_in_eq (a b c : Int) : impl_in.f a b c = some (decide (b ≤ a ∧ a ≤ c)) := by
  unfold impl_in.f
  by_cases h : a ≥ b
  · rw [if_pos h]; simp [show b ≤ a from h]
  · rw [if_neg h]; simp [show ¬ b ≤ a from h]

/-! ### impl_UriOk -/
theorem impl_UriOk_l0 (s : ByteArray) (hs : s.size ≤ 2097152) : ∀ (d : Nat) (i : Int), 0 ≤ i → (s.size : Int) - i = d →
    Ev (fun k => impl_UriOk.l0 k s (s.size : Int) i) (((bytesOf s).drop i.toNat).all (fun c => decide (33 ≤ c ∧ c ≤ 126)) && (decide (1 ≤ (s.size : Int) ∧ (s.size : Int) ≤ 20) && (rd (bytesOf s) 0 == 47)))
  | 0, i, h0, hd => by
    refine ev_last fun k => ?_
    simp only [impl_UriOk.l0]
    rw [if_neg (by omega), drop_end (by omega), impl_in_eq]
    simp only [Option.bind_some]
    by_cases h : 1 ≤ (s.size : Int) ∧ (s.size : Int) ≤ 20
    · rw [if_pos (by simpa using h), if_pos (by omega), bt_eq]
      simp [h]
    · rw [if_neg (by simpa using h)]
      simp [h]
  | d + 1, i, h0, hd => by
    have hb := bt_bound s i
    have hlt : i < (s.size : Int) := by omega
    by_cases c1 : bt s i < 33
    · refine ev_last fun k => ?_
      simp only [impl_UriOk.l0]
      rw [if_pos hlt, if_pos h0, if_pos hlt, if_pos c1, drop_bt h0 hlt, List.all_cons, decide_eq_false (p := 33 ≤ bt s i ∧ bt s i ≤ 126) (by omega)]
      rfl
    · by_cases c2 : bt s i > 126
      · refine ev_last fun k => ?_
        simp only [impl_UriOk.l0]
        rw [if_pos hlt, if_pos h0, if_pos hlt, if_neg c1, if_pos c2, drop_bt h0 hlt, List.all_cons, decide_eq_false (p := 33 ≤ bt s i ∧ bt s i ≤ 126) (by omega)]
        rfl
      · refine Ev.step (f := fun k => impl_UriOk.l0 k s (s.size : Int) (i + 1)) (fun k => ?_) (ev_eq (impl_UriOk_l0 s hs d (i + 1) (by omega) (by omega)) ?_)
        · simp only [impl_UriOk.l0]
          rw [if_pos hlt, if_pos h0, if_pos hlt, if_neg c1, if_neg c2, wrap_id (by omega) (by omega)]
        · rw [drop_bt h0 hlt, List.all_cons, decide_eq_true (p := 33 ≤ bt s i ∧ bt s i ≤ 126) (by omega), Bool.true_and]
theorem impl_UriOk_ev (s : ByteArray) (hs : s.size ≤ 2097152) : Ev (fun k => impl_UriOk.f k s) (uriB (bytesOf s)) := by
  have h := impl_UriOk_l0 s hs s.size 0 (by omega) (by omega)
  simpa [impl_UriOk.f, uriB, bytesOf_length] using h

/-! ### impl_FieldGet -/
theorem impl_FieldGet_l0 (l : List S77) (nm : ByteArray) (hl : l.length ≤ 1048576) (V : List ByteArray) (hV : (V.map fun v => v.size + 2).sum ≤ 8388608) (hW : V.length ≤ 1048576) : ∀ (d : Nat) (acc : List ByteArray) (i : Int), 0 ≤ i → (l.length : Int) - i = d → acc ++ getL nm ((l.drop i.toNat).map fun x => (x.f0, x.f1)) = V →
    Ev (fun k => impl_FieldGet.l0 k nm acc l (l.length : Int) i) (joinB ⟨#[44, 32]⟩ V, !V.isEmpty)
  | 0, acc, i, h0, hd, ha => by
    refine ev_last fun k => ?_
    simp only [impl_FieldGet.l0]
    rw [drop_nil (by omega)] at ha
    simp only [List.map_nil, getL, List.append_nil] at ha
    subst ha
    have hs : (joinB ⟨#[44, 32]⟩ acc).size ≤ (acc.map fun v => v.size + 2).sum := joinB_size ⟨#[44, 32]⟩ acc
    rw [if_neg (by omega), strings_Join.f, if_pos ⟨by omega, by omega⟩, Option.bind_some]
    cases acc <;> simp
  | d + 1, acc, i, h0, hd, ha => by
    have hlt : i < (l.length : Int) := by omega
    have hdrop : l.drop i.toNat = rd_T77 l i :: l.drop (i + 1).toNat := drop_rdOf (d := z77) h0 hlt
    rw [hdrop] at ha
    simp only [List.map_cons, getL] at ha
    by_cases h : (rd_T77 l i).f0 = nm
    · rw [if_pos h] at ha
      have hlen : acc.length < 8796093022208 := by
        have := congrArg List.length ha
        simp at this
        omega
      refine Ev.step (f := fun k => impl_FieldGet.l0 k nm (acc ++ [(rd_T77 l i).f1]) l (l.length : Int) (i + 1)) (fun k => ?_) (impl_FieldGet_l0 l nm hl V hV hW d (acc ++ [(rd_T77 l i).f1]) (i + 1) (by omega) (by omega) (by rw [← ha]; simp))
      simp only [impl_FieldGet.l0]
      rw [if_pos hlt, if_pos h0, if_pos hlt, if_pos (by rw [h]), if_pos hlen, wrap_id (by omega) (by omega)]
    · rw [if_neg h] at ha
      refine Ev.step (f := fun k => impl_FieldGet.l0 k nm acc l (l.length : Int) (i + 1)) (fun k => ?_) (impl_FieldGet_l0 l nm hl V hV hW d acc (i + 1) (by omega) (by omega) ha)
      simp only [impl_FieldGet.l0]
      rw [if_pos hlt, if_pos h0, if_pos hlt, if_neg (by rw [toList_eq_iff]; exact h), wrap_id (by omega) (by omega)]
theorem impl_FieldGet_ev (l : List S77) (nm : ByteArray) (hl : l.length ≤ 1048576) (hV : ((getL nm (l.map fun x => (x.f0, x.f1))).map fun v => v.size + 2).sum ≤ 8388608) : Ev (fun k => impl_FieldGet.f k l nm) (joinB ⟨#[44, 32]⟩ (getL nm (l.map fun x => (x.f0, x.f1))), !(getL nm (l.map fun x => (x.f0, x.f1))).isEmpty) := by
  have hW := getL_length nm (l.map fun x => (x.f0, x.f1))
  rw [List.length_map] at hW
  have h := impl_FieldGet_l0 l nm hl _ hV (by omega) l.length [] 0 (by omega) (by omega) (by simp)
  simpa [impl_FieldGet.f] using h

/-! ### impl_Trim -/
theorem impl_Trim_eq (s : ByteArray) (hs : s.size ≤ 2097152) : impl_Trim.f s = some (trimB s) := by
  unfold impl_Trim.f strings_Trim.f
  rw [if_pos ⟨hs, rfl⟩, Option.bind_some]

/-! ### impl_IsValueText -/
theorem impl_IsValueText_l0 (s : ByteArray) (hs : s.size ≤ 2097152) : ∀ (d : Nat) (i : Int), 0 ≤ i → (s.size : Int) - i = d →
    Ev (fun k => impl_IsValueText.l0 k s (s.size : Int) i) (((bytesOf s).drop i.toNat).all valC && decide (trimB s = s))
  | 0, i, h0, hd => by
    refine ev_last fun k => ?_
    simp only [impl_IsValueText.l0]
    rw [if_neg (by omega), impl_Trim_eq s hs, Option.bind_some, drop_end (by omega), toList_beq]
    rfl
  | d + 1, i, h0, hd => by
    have hlt : i < (s.size : Int) := by omega
    have ih := impl_IsValueText_l0 s hs d (i + 1) (by omega) (by omega)
    rw [drop_bt h0 hlt, List.all_cons]
    by_cases h9 : bt s i = 9
    · refine Ev.step (f := fun k => impl_IsValueText.l0 k s (s.size : Int) (i + 1)) (fun k => ?_) (ev_eq ih (by rw [valC, h9]; rfl))
      simp only [impl_IsValueText.l0]
      rw [if_pos hlt, if_pos h0, if_pos hlt, if_pos (by omega), if_pos h9, if_neg (by omega), wrap_id (by omega) (by omega)]
    · by_cases h32 : bt s i < 32
      · refine ev_last fun k => ?_
        simp only [impl_IsValueText.l0]
        rw [if_pos hlt, if_pos h0, if_pos hlt, if_pos h32, if_neg h9, valC, decide_eq_false h9, decide_eq_false (by omega : ¬ 32 ≤ bt s i)]
        rfl
      · by_cases h7 : bt s i = 127
        · refine ev_last fun k => ?_
          simp only [impl_IsValueText.l0]
          rw [if_pos hlt, if_pos h0, if_pos hlt, if_neg h32, if_pos h7, valC, h7]
          rfl
        · refine Ev.step (f := fun k => impl_IsValueText.l0 k s (s.size : Int) (i + 1)) (fun k => ?_) (ev_eq ih (by rw [valC, decide_eq_true (by omega : 32 ≤ bt s i), decide_eq_true h7]; simp))
          simp only [impl_IsValueText.l0]
          rw [if_pos hlt, if_pos h0, if_pos hlt, if_neg h32, if_neg h7, wrap_id (by omega) (by omega)]
theorem impl_IsValueText_ev (s : ByteArray) (hs : s.size ≤ 2097152) : Ev (fun k => impl_IsValueText.f k s) (valB s) :=
  impl_IsValueText_l0 s hs s.size 0 (by omega) (by omega)

/-! ### impl_Lower -/
theorem impl_Lower_eq (s : ByteArray) (hs : s.size ≤ 2097152) : impl_Lower.f s = some (strOfNums ((bytesOf s).map lowC)) := by unfold impl_Lower.f; rw [if_pos hs]

/-! ### impl_fieldOk -/
theorem impl_fieldOk_ev (nm v : ByteArray) (hn : nm.size ≤ 2097152) (hv : v.size ≤ 2097152) : Ev (fun k => impl_fieldOk.f k nm v) (fieldB (nm, v)) := by
  refine Ev.congr (fun k => by unfold impl_fieldOk.f; rfl) ?_
  refine ev_bind (impl_IsTokenText_ev nm hn) ?_
  by_cases a : tokB (bytesOf nm) = true
  · refine ev_if_pos a ?_
    by_cases c : nm.size ≤ 24
    · refine ev_if_pos (by omega) (ev_bind (ev_some fun _ => impl_Lower_eq nm hn) ?_)
      by_cases b : lowB nm = nm
      · refine ev_if_pos (by rw [toList_eq_iff]; exact b) (ev_bind (impl_IsValueText_ev v hv) ?_)
        by_cases d : valB v = true
        · refine ev_if_pos d (ev_some fun _ => ?_)
          congr 1
          have e : decide ((v.size : Int) ≤ 60) = decide (v.size ≤ 60) := by rw [decide_eq_decide]; omega
          rw [e]
          simp [fieldB, a, b, c, d]
        · exact ev_if_neg d (ev_eq (Ev.now _) (by simp [fieldB, d]))
      · exact ev_if_neg (by rw [toList_eq_iff]; exact b) (ev_eq (Ev.now _) (by simp [fieldB, b]))
    · exact ev_if_neg (by omega) (ev_eq (Ev.now _) (by simp [fieldB, c]))
  · exact ev_if_neg a (ev_eq (Ev.now _) (by simp [fieldB, a]))

/-! ### impl_FieldsOk -/
theorem impl_FieldsOk_each_ev : ∀ (l : List S77), (∀ x ∈ l, x.f0.size ≤ 2097152 ∧ x.f1.size ≤ 2097152) → Ev (fun k => impl_FieldsOk.each k l) (l.map fun x => !fieldB (x.f0, x.f1))
  | [], _ => ev_some fun _ => rfl
  | x :: r, hm => by
    have hs := hm x List.mem_cons_self
    have ih := impl_FieldsOk_each_ev r fun y hy => hm y (List.mem_cons_of_mem _ hy)
    have h1 : Ev (fun k => impl_FieldsOk_1.f k x.f0 x.f1) (!fieldB (x.f0, x.f1)) := Ev.congr (fun k => by unfold impl_FieldsOk_1.f; rfl) (ev_bind (impl_fieldOk_ev _ _ hs.1 hs.2) (Ev.now _))
    refine Ev.congr (fun k => by rw [impl_FieldsOk.each]) (ev_bind h1 (ev_bind ih (Ev.now _)))
theorem impl_FieldsOk_ev (l : List S77) (hm : ∀ x ∈ l, x.f0.size ≤ 2097152 ∧ x.f1.size ≤ 2097152) : Ev (fun k => impl_FieldsOk.f k l) (fieldsB (l.map fun x => (x.f0, x.f1))) := by
  refine Ev.congr (fun k => by unfold impl_FieldsOk.f; rfl) ?_
  by_cases h : (l.length : Int) ≤ 12
  · refine ev_if_pos h (ev_bind (impl_FieldsOk_each_ev l hm) (ev_some fun _ => ?_))
    congr 1
    have e : decide (l.length ≤ 12) = true := by rw [decide_eq_true_eq]; omega
    simp only [fieldsB, List.length_map, e, Bool.and_true, List.any_map, List.all_map]
    rw [List.not_any_eq_all_not]
    congr 1
    funext x
    simp
  · exact ev_if_neg h (ev_eq (Ev.now _) (by simp [fieldsB]; intro _; omega))

/-! ### impl_ownFields -/
theorem impl_hasField_ev (l : List S77) (nm : ByteArray) (hl : l.length ≤ 1048576) (hG : ((getL nm (l.map fun x => (x.f0, x.f1))).map fun v => v.size + 2).sum ≤ 8388608) :
    Ev (fun k => impl_hasField.f k l nm) (!(getL nm (l.map fun x => (x.f0, x.f1))).isEmpty) :=
  Ev.congr (fun k => by unfold impl_hasField.f; rfl) (ev_bind (impl_FieldGet_ev l nm hl hG) (Ev.now _))
theorem impl_ownFields_ev (l : List S77) (hl : l.length ≤ 1048576) (hm : ∀ x ∈ l, x.f0.size ≤ 2097152 ∧ x.f1.size ≤ 2097152) (hG : ∀ nm, ((getL nm (l.map fun x => (x.f0, x.f1))).map fun v => v.size + 2).sum ≤ 8388608) :
    Ev (fun k => impl_ownFields.f k l) (plainB (l.map fun x => (x.f0, x.f1))) := by
  have t := impl_hasField_ev l nmTE hl (hG _)
  have c := impl_hasField_ev l nmCL hl (hG _)
  have b : Ev (fun k => impl_bodyFields.f k l) (!((getL nmTE (l.map fun x => (x.f0, x.f1))).isEmpty && (getL nmCL (l.map fun x => (x.f0, x.f1))).isEmpty)) := by
    refine Ev.congr (fun k => by unfold impl_bodyFields.f; rfl) (ev_bind c ?_)
    cases h2 : (getL nmCL (l.map fun x => (x.f0, x.f1))).isEmpty with
    | false => exact ev_if_pos (by rfl) (ev_eq (Ev.now _) (by simp))
    | true => exact ev_if_neg (by simp) (ev_eq (ev_bind t (Ev.now _)) (by simp))
  refine Ev.congr (fun k => by unfold impl_ownFields.f; rfl) (ev_bind (impl_FieldsOk_ev l hm) ?_)
  unfold plainB
  cases hF : fieldsB (l.map fun x => (x.f0, x.f1)) with
  | false => exact ev_if_neg (by simp) (ev_eq (Ev.now _) (by simp))
  | true =>
    refine ev_if_pos rfl ?_
    by_cases h : (l.length : Int) < 12
    · refine ev_if_pos h (ev_eq (ev_bind b (Ev.now _)) ?_)
      have e : decide ((l.map fun x => (x.f0, x.f1)).length < 12) = true := by rw [decide_eq_true_eq, List.length_map]; omega
      rw [e]; simp
    · refine ev_if_neg h (ev_eq (Ev.now _) ?_)
      have e : decide ((l.map fun x => (x.f0, x.f1)).length < 12) = false := by rw [decide_eq_false_iff_not, List.length_map]; omega
      rw [e]; simp

/-! ### impl_RequestOk -/
theorem impl_RequestOk_ev (m u : ByteArray) (l : List S77) (b : ByteArray) (sm : m.size ≤ 2097152) (su : u.size ≤ 2097152) (hl : l.length ≤ 1048576) (hm : ∀ x ∈ l, x.f0.size ≤ 2097152 ∧ x.f1.size ≤ 2097152) (hG : ∀ nm, ((getL nm (l.map fun x => (x.f0, x.f1))).map fun v => v.size + 2).sum ≤ 8388608) :
    Ev (fun k => impl_RequestOk.f k m u l b) (reqB m u (l.map fun x => (x.f0, x.f1)) b) := by
  refine Ev.congr (fun k => by unfold impl_RequestOk.f; rfl) (ev_bind (impl_IsTokenText_ev m sm) ?_)
  unfold reqB
  cases h1 : tokB (bytesOf m) with
  | false => exact ev_if_neg (by simp) (ev_eq (Ev.now _) (by simp))
  | true =>
    refine ev_if_pos rfl ?_
    by_cases h2 : (m.size : Int) ≤ 10
    · have e2 : decide (m.size ≤ 10) = true := by rw [decide_eq_true_eq]; omega
      rw [e2]
      refine ev_if_pos h2 (ev_bind (impl_UriOk_ev u su) ?_)
      cases h3 : uriB (bytesOf u) with
      | false => exact ev_if_neg (by simp) (ev_eq (Ev.now _) (by simp))
      | true =>
        refine ev_if_pos rfl (ev_bind (impl_ownFields_ev l hl hm hG) ?_)
        cases h4 : plainB (l.map fun x => (x.f0, x.f1)) with
        | false => exact ev_if_neg (by simp) (ev_eq (Ev.now _) (by simp))
        | true => exact ev_if_pos rfl (ev_eq (Ev.now _) (by rw [int_le_60]; simp))
    · have e2 : decide (m.size ≤ 10) = false := by rw [decide_eq_false_iff_not]; omega
      rw [e2]
      exact ev_if_neg h2 (ev_eq (Ev.now _) (by simp))

theorem FnExactRequestOk : laws_FnExactRequestOk.Pure := by
  intro m u l b hm hu hl hlm hb
  refine Ev.rounds (Ev.congr (fun k => by unfold laws_FnExactRequestOk.f; rfl) ?_)
  refine ev_bind (laws_szRequest_ev m u l b 1048576 hl hlm hm hu hb (by omega) (by omega)) ?_
  by_cases h1 : szQ 1048576 m u (l.map fun x => (x.f0, x.f1)) b < 0
  · exact ev_if_pos h1 (Ev.now _)
  refine ev_if_neg h1 ?_
  have qq := szQ_szR h1
  have q0 := szR_szF qq.2
  have q1 := szR_len qq.2
  have qm := szF_mem q0.1
  rw [List.length_map] at q1
  have eX : ((l.map fun x => (⟨x.f0, x.f1⟩ : S77)).map fun x => (x.f0, x.f1)) = l.map fun x => (x.f0, x.f1) := by rw [List.map_map]; rfl
  have hx : ∀ x ∈ (l.map fun x => (⟨x.f0, x.f1⟩ : S77)), x.f0.size ≤ 2097152 ∧ x.f1.size ≤ 2097152 := by
    intro x hx
    obtain ⟨y, hy, rfl⟩ := List.mem_map.1 hx
    have := qm (y.f0, y.f1) (List.mem_map.2 ⟨y, hy, rfl⟩)
    simp only at this ⊢
    omega
  have hG : ∀ nm, ((getL nm ((l.map fun x => (⟨x.f0, x.f1⟩ : S77)).map fun x => (x.f0, x.f1))).map fun v => v.size + 2).sum ≤ 8388608 := by
    intro nm
    rw [eX]
    have := szF_sum nm (by omega) q0.1
    omega
  have t1 := laws_toRequest_ev m u l b (by omega)
  have sp := spec_RequestOk_ev m u (l.map fun x => (⟨x.f0, x.f1⟩ : S77)) b (by omega) (by omega) (by rw [List.length_map]; omega) hx hG
  have im := impl_RequestOk_ev m u (l.map fun x => (⟨x.f0, x.f1⟩ : S77)) b (by omega) (by omega) (by rw [List.length_map]; omega) hx hG
  have e1 := laws_eqRequest_ev m u (l.map fun x => (⟨x.f0, x.f1⟩ : S77)) b (by rw [List.length_map]; omega)
  exact ev_bind t1 (ev_bind sp (ev_bind t1 (ev_bind im (ev_if_neg (by simp) (ev_bind t1 (ev_bind e1 (ev_if_pos rfl (Ev.now _))))))))

end Go.Proofs.YthloaefcmjpfaaaDoor.Pure
