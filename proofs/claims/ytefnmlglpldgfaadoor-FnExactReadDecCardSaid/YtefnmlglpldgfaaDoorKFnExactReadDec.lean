/- The program's ReadDec returns what the reference's returns, for all texts (those of more than 2^20 bytes are let by). -/
import Derived.Test.YtefnmlglpldgfaaDoorEstrconvAtoi
import Derived.Test.YtefnmlglpldgfaaDoorDom
import Derived.Test.YtefnmlglpldgfaaDoorDomB
import Derived.Test.YtefnmlglpldgfaaDoorCFnExactReadDeca
namespace Go.Proofs.YtefnmlglpldgfaaDoor.QL
open Go.RowKit Go.Proofs.YtefnmlglpldgfaaDoorW.PrintWords Go.Proofs.YtefnmlglpldgfaaDoorW.PrintLast Go.Proofs.YtefnmlglpldgfaaDoorW.PrintMore Go.Proofs.YtefnmlglpldgfaaDoor.Aux Go.Proofs.YtefnmlglpldgfaaDoor.Dom Go.Proofs.YtefnmlglpldgfaaDoor.Ext Go.Proofs.YtefnmlglpldgfaaDoor.Glob
def laws_FnExactReadDec.Pure : Prop := ∀ (a0 : ByteArray), a0.size ≤ 140737488351232 → ∃ k, laws_FnExactReadDec.f k a0 = some true
theorem laws_FnExactReadDec.walk (P : laws_FnExactReadDec.Pure) (a0 : ByteArray) (w : World) (za0 : a0.size ≤ 140737488351232) (hGErr : GErr w) (hGPow : GPow w) :
    Calls Tryd.prog 6 #[.string a0] w fun e w' => e = .returned (.bool true) ∧ Below w.heap.size w w' := by
  obtain ⟨k, h⟩ := P a0 za0
  refine (laws_FnExactReadDec.calls k a0 true w  hGErr hGPow h).mono ?_
  rintro e w' ⟨rfl, hd⟩
  exact ⟨rfl, hd⟩
end Go.Proofs.YtefnmlglpldgfaaDoor.QL

namespace Go.Proofs.YtefnmlglpldgfaaDoor.Pure
set_option linter.unusedVariables false
set_option linter.unusedSimpArgs false
open Go.RowKit Go.Proofs.YtefnmlglpldgfaaDoor.QL Go.Proofs.YtefnmlglpldgfaaDoorW.PrintWords Go.Proofs.YtefnmlglpldgfaaDoorW.PrintLast Go.Proofs.YtefnmlglpldgfaaDoorW.PrintMore Go.Proofs.YtefnmlglpldgfaaDoor.Aux Go.Proofs.YtefnmlglpldgfaaDoor.Dom Go.Proofs.YtefnmlglpldgfaaDoor.Ext
theorem strconv_Atoi_short (s : ByteArray) (n : Int) (hs : s.size ≤ 18) (h : Lib.atoi s.data.toList = some n) : strconv_Atoi.f s = some (n, none) := by
  unfold strconv_Atoi.f
  rw [if_pos (by omega), Lib.atoiAll_short _ (by rw [← Lib.size_eq]; exact hs), h]
  rfl
theorem strconv_Atoi_nil : strconv_Atoi.f ⟨#[]⟩ = some (0, some 0) := rfl
theorem atoi_dig (ds : List Int) (hd : ds.all digC = true) (hne : ds ≠ []) : Lib.atoi (strOfNums ds).data.toList = some (valL 0 ds) := by
  have hr : bytesOf (strOfNums ds) = ds := bytesOf_strOfNums fun c hc => by
    have := digC_iff.1 (List.all_eq_true.1 hd c hc)
    omega
  have hm : ((strOfNums ds).data.toList.map fun b : UInt8 => (b.toNat : Int)) = ds := hr
  obtain ⟨m, h1, h2⟩ := decFrom_val (strOfNums ds).data.toList 0 (by rw [hm]; exact hd)
  rw [hm] at h2
  cases hl : (strOfNums ds).data.toList with
  | nil => rw [hl] at hm; exact absurd hm.symm hne
  | cons b r =>
    rw [hl] at hm h1
    have hb : digC (b.toNat : Int) = true := by
      rw [← hm] at hd
      rw [List.map_cons, List.all_cons, Bool.and_eq_true] at hd
      exact hd.1
    rw [digC_iff] at hb
    have n45 : (b == 45) = false := beq_eq_false_iff_ne.mpr fun e => by subst e; simp at hb
    have n43 : (b == 43) = false := beq_eq_false_iff_ne.mpr fun e => by subst e; simp at hb
    rw [Lib.atoi, if_neg (by rw [n45]; decide), if_neg (by rw [n43]; decide), Lib.decNat, if_neg (by simp), h1, Option.map_some, h2]
    rfl
theorem strconv_Atoi_dig (ds : List Int) (hd : ds.all digC = true) (hne : ds ≠ []) (hl : ds.length ≤ 18) : strconv_Atoi.f (strOfNums ds) = some (valL 0 ds, none) :=
  strconv_Atoi_short _ _ (by rw [strOfNums_size]; exact hl) (atoi_dig ds hd hne)
theorem strconv_Atoi_dec (ds : List Int) (hd : ds.all digC = true) (hl : ds.length ≤ 10) : strconv_Atoi.f ((⟨#[48]⟩ : ByteArray) ++ strOfNums ds) = some (valL 0 ds, none) := by
  have e : (⟨#[48]⟩ : ByteArray) ++ strOfNums ds = strOfNums (48 :: ds) := by
    rw [show (48 :: ds : List Int) = [48] ++ ds from rfl, strOfNums_append]
    rfl
  rw [e, strconv_Atoi_dig (48 :: ds) (by rw [List.all_cons, hd]; rfl) (by simp) (by simp; omega)]
  rfl
theorem valL_decL : ∀ (f : Nat) (n : Int) (acc : List Int), 0 ≤ n → n < 10 ^ f → valL 0 (decL f n acc) = valL n acc
  | 0, n, acc, h0, h => by
    have : n = 0 := by simp at h; omega
    subst this; rfl
  | f + 1, n, acc, h0, h => by
    rw [decL]
    split
    · rw [valL_decL f (n / 10) _ (by omega) (by rw [Int.pow_succ] at h; omega), valL]
      congr 1
      omega
    · have : n = 0 := by omega
      subst this; rfl
theorem decL_dig : ∀ (f : Nat) (n : Int) (acc : List Int), 0 ≤ n → acc.all digC = true → (decL f n acc).all digC = true
  | 0, n, acc, h0, h => h
  | f + 1, n, acc, h0, h => by
    rw [decL]
    split
    · refine decL_dig f (n / 10) _ (by omega) ?_
      rw [List.all_cons, h, Bool.and_true, digC_iff]
      omega
    · exact h
theorem decL_ne : ∀ (f : Nat) (n : Int) (acc : List Int), acc ≠ [] → decL f n acc ≠ []
  | 0, n, acc, h => h
  | f + 1, n, acc, h => by
    rw [decL]
    split
    · exact decL_ne f (n / 10) _ (by simp)
    · exact h
/-- A numeral's digits: all digits, some, they tell the number; at most nine of them where it is less than a thousand million. -/
theorem decL_facts {n : Int} (h0 : 0 < n) (h1 : n ≤ 999999999) : (decL 20 n []).all digC = true ∧ decL 20 n [] ≠ [] ∧ valL 0 (decL 20 n []) = n ∧ (decL 20 n []).length ≤ 9 := by
  have hp : (10 : Int) ^ 9 = 1000000000 := by decide
  have hp2 : (10 : Int) ^ 20 = 100000000000000000000 := by decide
  refine ⟨decL_dig 20 n [] (by omega) rfl, ?_, ?_, ?_⟩
  · rw [show (20 : Nat) = 19 + 1 from rfl, decL, if_pos (by omega)]
    exact decL_ne 19 _ _ (by simp)
  · rw [valL_decL 20 n [] (by omega) (by omega)]; rfl
  · rw [show (20 : Nat) = 9 + 11 from rfl, decL_more 11 9 n [] (by omega)]
    have := decL_length 9 n []
    simpa using this
theorem atoi_decB {n : Int} (h0 : -999999999 ≤ n) (h1 : n ≤ 999999999) : Lib.atoi (decB n).data.toList = some n := by
  unfold decB decP
  by_cases hz : n = 0
  · subst hz; rfl
  · rw [if_neg hz]
    by_cases hn : n < 0
    · rw [if_pos hn]
      obtain ⟨a1, a2, a3, a4⟩ := decL_facts (n := -n) (by omega) (by omega)
      generalize decL 20 (-n) [] = ds at a1 a2 a3 a4
      have hr : bytesOf (strOfNums ds) = ds := bytesOf_strOfNums fun c hc => by
        have := digC_iff.1 (List.all_eq_true.1 a1 c hc)
        omega
      have hm : ((strOfNums ds).data.toList.map fun b : UInt8 => (b.toNat : Int)) = ds := hr
      obtain ⟨m, h1, h2⟩ := decFrom_val (strOfNums ds).data.toList 0 (by rw [hm]; exact a1)
      rw [hm] at h2
      have e1 : (strOfNums (45 :: ds)).data.toList = 45 :: (strOfNums ds).data.toList := by
        rw [show (45 :: ds : List Int) = [45] ++ ds from rfl, strOfNums_append, ByteArray.data_append, Array.toList_append]
        rfl
      have hne : (strOfNums ds).data.toList.isEmpty = false := by
        cases hl : (strOfNums ds).data.toList with
        | nil => rw [hl] at hm; exact absurd hm.symm a2
        | cons b r => rfl
      rw [e1, Lib.atoi, if_pos (by decide), Lib.decNat, if_neg (by rw [hne]; decide), h1, Option.map_some, h2]
      congr 1
      have : ((0 : Nat) : Int) = 0 := rfl
      rw [this, a3]
      omega
    · rw [if_neg hn]
      obtain ⟨a1, a2, a3, a4⟩ := decL_facts (n := n) (by omega) (by omega)
      rw [atoi_dig _ a1 a2, a3]
theorem decB_size {n : Int} (h0 : -999999999 ≤ n) (h1 : n ≤ 999999999) : (decB n).size ≤ 10 := by
  unfold decB decP
  rw [strOfNums_size]
  by_cases hz : n = 0
  · rw [if_pos hz]; simp
  · rw [if_neg hz]
    by_cases hn : n < 0
    · rw [if_pos hn]
      have := (decL_facts (n := -n) (by omega) (by omega)).2.2.2
      simp; omega
    · rw [if_neg hn]
      have := (decL_facts (n := n) (by omega) (by omega)).2.2.2
      omega
theorem decB_inj {n m : Int} (h0 : -999999999 ≤ n) (h1 : n ≤ 999999999) (h2 : -999999999 ≤ m) (h3 : m ≤ 999999999) (h : decB n = decB m) : n = m := by
  have a := atoi_decB h0 h1
  rw [h, atoi_decB h2 h3] at a
  exact (Option.some.inj a).symm
open Classical in
/-- The number of nine digits at most whose numeral a text is. -/
noncomputable def decOf (s : ByteArray) : Option Int := if h : ∃ n, -999999999 ≤ n ∧ n ≤ 999999999 ∧ decB n = s then some h.choose else none
theorem decOf_some {s : ByteArray} {n : Int} (h0 : -999999999 ≤ n) (h1 : n ≤ 999999999) (h : decB n = s) : decOf s = some n := by
  have hx : ∃ n, -999999999 ≤ n ∧ n ≤ 999999999 ∧ decB n = s := ⟨n, h0, h1, h⟩
  unfold decOf
  rw [dif_pos hx]
  obtain ⟨a, b, c⟩ := hx.choose_spec
  exact congrArg some (decB_inj a b h0 h1 (c.trans h.symm))
theorem decOf_spec {s : ByteArray} {n : Int} (h : decOf s = some n) : -999999999 ≤ n ∧ n ≤ 999999999 ∧ decB n = s := by
  unfold decOf at h
  split at h
  · rename_i hx
    obtain rfl := Option.some.inj h
    exact hx.choose_spec
  · cases h
/-- What ReadDec tells. -/
noncomputable def readDecP (s : ByteArray) : Int × Bool := match decOf s with
  | some n => (n, true)
  | none => (0, false)

end Go.Proofs.YtefnmlglpldgfaaDoor.Pure

namespace Go.Proofs.YtefnmlglpldgfaaDoor.Pure
set_option linter.unusedVariables false
set_option linter.unusedSimpArgs false
open Go.RowKit Go.Proofs.YtefnmlglpldgfaaDoor.QL Go.Proofs.YtefnmlglpldgfaaDoorW.PrintWords Go.Proofs.YtefnmlglpldgfaaDoorW.PrintLast Go.Proofs.YtefnmlglpldgfaaDoorW.PrintMore Go.Proofs.YtefnmlglpldgfaaDoor.Aux Go.Proofs.YtefnmlglpldgfaaDoor.Dom Go.Proofs.YtefnmlglpldgfaaDoor.Ext
theorem spec_Dec_pos : ∀ (d : Nat) (n : Int) (acc : List Int), 0 ≤ n → n ≤ 9223372036854775807 → n < 10 ^ d → acc.length + d ≤ 100 → Ev (fun k => spec_Dec.l0 k n (strOfNums acc) false) (strOfNums (decL d n acc))
  | 0, n, acc, h0, h1, hn, ha => by
    refine ev_last fun k => ?_
    simp only [spec_Dec.l0]
    rw [if_pos (by simp at hn; omega), if_neg (by decide)]
    rfl
  | d + 1, n, acc, h0, h1, hn, ha => by
    by_cases h : n > 0
    · refine Ev.step (f := fun k => spec_Dec.l0 k (n / 10) (strOfNums ((48 + n % 10) :: acc)) false) (fun k => ?_) (ev_eq (spec_Dec_pos d (n / 10) _ (by omega) (by omega) (by rw [Int.pow_succ] at hn; omega) (by simp; omega)) (by rw [decL, if_pos h]))
      simp only [spec_Dec.l0, Option.bind_some]
      rw [if_neg (by omega), Int.tmod_eq_emod_of_nonneg (by omega), Int.tdiv_eq_ediv_of_nonneg (by omega), if_neg (by omega), if_pos (by rw [strOfNums_size, strOfNums_size]; simp; omega), wrap_id (x := 48 + n % 10) (by omega) (by omega), wrap_id (by omega) (by omega), Int.emod_eq_of_lt (a := 48 + n % 10) (by omega) (by omega), ← strOfNums_append]
      rfl
    · refine ev_last fun k => ?_
      simp only [spec_Dec.l0]
      rw [if_pos (by omega), if_neg (by decide), decL, if_neg h]
theorem spec_Dec_neg : ∀ (d : Nat) (n : Int) (acc : List Int), 0 ≤ n → n ≤ 9223372036854775808 → n < 10 ^ d → acc.length + d ≤ 100 → Ev (fun k => spec_Dec.l0 k (-n) (strOfNums acc) true) (strOfNums (45 :: decL d n acc))
  | 0, n, acc, h0, h1, hn, ha => by
    refine ev_last fun k => ?_
    simp only [spec_Dec.l0]
    rw [if_pos (by simp at hn; omega), if_pos (by trivial), if_pos (by rw [strOfNums_size]; omega)]
    rw [show (45 :: decL 0 n acc : List Int) = [45] ++ acc from rfl, strOfNums_append]
    rfl
  | d + 1, n, acc, h0, h1, hn, ha => by
    by_cases h : n > 0
    · refine Ev.step (f := fun k => spec_Dec.l0 k (-(n / 10)) (strOfNums ((48 + n % 10) :: acc)) true) (fun k => ?_) (ev_eq (spec_Dec_neg d (n / 10) _ (by omega) (by omega) (by rw [Int.pow_succ] at hn; omega) (by simp; omega)) (by rw [decL, if_pos h]))
      simp only [spec_Dec.l0, Option.bind_some]
      rw [if_neg (by omega), Int.neg_tmod, Int.neg_tdiv, Int.tmod_eq_emod_of_nonneg (by omega), Int.tdiv_eq_ediv_of_nonneg (by omega)]
      by_cases hr : -(n % 10) < 0
      · rw [if_pos hr, if_pos (by rw [strOfNums_size, strOfNums_size]; simp; omega), Int.neg_neg, wrap_id (x := n % 10) (by omega) (by omega), wrap_id (x := 48 + n % 10) (by omega) (by omega), wrap_id (by omega) (by omega), Int.emod_eq_of_lt (a := 48 + n % 10) (by omega) (by omega), ← strOfNums_append]
        rfl
      · have hr0 : n % 10 = 0 := by omega
        rw [if_neg hr, if_pos (by rw [strOfNums_size, strOfNums_size]; simp; omega), hr0, wrap_id (x := -(n / 10)) (by omega) (by omega), ← strOfNums_append, show (wrap64 (48 + -0) % 256 : Int) = 48 + 0 by rw [wrap_id (by omega) (by omega)]; omega]
        rfl
    · refine ev_last fun k => ?_
      simp only [spec_Dec.l0]
      rw [if_pos (by omega), if_pos (by trivial), if_pos (by rw [strOfNums_size]; omega), decL, if_neg h]
      rw [show (45 :: acc : List Int) = [45] ++ acc from rfl, strOfNums_append]
      rfl
theorem spec_Dec_ev (n : Int) (h0 : -9223372036854775808 ≤ n) (h1 : n ≤ 9223372036854775807) : Ev (fun k => spec_Dec.f k n) (decB n) := by
  have hp : (10 : Int) ^ 20 = 100000000000000000000 := by decide
  unfold decB decP
  by_cases hz : n = 0
  · rw [if_pos hz]
    exact ev_some fun k => by unfold spec_Dec.f; rw [if_pos hz]; rfl
  · rw [if_neg hz]
    refine Ev.congr (fun k => by unfold spec_Dec.f; rw [if_neg hz]) ?_
    by_cases hn : n < 0
    · rw [if_pos hn, decide_eq_true hn]
      have h := spec_Dec_neg 20 (-n) [] (by omega) (by omega) (by rw [hp]; omega) (by simp)
      rw [Int.neg_neg] at h
      exact h
    · rw [if_neg hn, decide_eq_false hn]
      exact spec_Dec_pos 20 n [] (by omega) (by omega) (by rw [hp]; omega) (by simp)

end Go.Proofs.YtefnmlglpldgfaaDoor.Pure

namespace Go.Proofs.YtefnmlglpldgfaaDoor.Pure
set_option linter.unusedVariables false
set_option linter.unusedSimpArgs false
open Go.RowKit Go.Proofs.YtefnmlglpldgfaaDoor.QL Go.Proofs.YtefnmlglpldgfaaDoorW.PrintWords Go.Proofs.YtefnmlglpldgfaaDoorW.PrintLast Go.Proofs.YtefnmlglpldgfaaDoorW.PrintMore Go.Proofs.YtefnmlglpldgfaaDoor.Aux Go.Proofs.YtefnmlglpldgfaaDoor.Dom Go.Proofs.YtefnmlglpldgfaaDoor.Ext
/-- The digits' number, and how many they are, behind (n, c). -/
def scnL : Int → Int → List Int → Int × Int
  | n, c, [] => (n, c)
  | n, c, b :: r => if digC b = true then scnL (n * 10 + (b - 48)) (c + 1) r else scnL n c r
theorem scnL_dig : ∀ (l : List Int) (n c : Int), l.all digC = true → scnL n c l = (valL n l, c + l.length)
  | [], n, c, _ => by simp [scnL, valL]
  | b :: r, n, c, h => by
    rw [List.all_cons, Bool.and_eq_true] at h
    rw [scnL, if_pos h.1, scnL_dig r _ _ h.2, valL, List.length_cons]
    congr 1
    omega
theorem scnL_bd : ∀ (l : List Int) (n c : Int) (j : Nat), 0 ≤ n → n < 10 ^ j → (c : Int) = j → 0 ≤ (scnL n c l).1 ∧ (∃ i : Nat, (scnL n c l).2 = i ∧ j ≤ i ∧ i ≤ j + l.length ∧ (scnL n c l).1 < 10 ^ i)
  | [], n, c, j, h0, h1, hc => ⟨h0, j, hc, by omega, by simp, h1⟩
  | b :: r, n, c, j, h0, h1, hc => by
    rw [scnL]
    split
    · rename_i h
      rw [digC_iff] at h
      obtain ⟨a1, i, a2, a3, a4, a5⟩ := scnL_bd r (n * 10 + (b - 48)) (c + 1) (j + 1) (by omega) (by rw [Int.pow_succ]; omega) (by omega)
      exact ⟨a1, i, a2, by omega, by simp; omega, a5⟩
    · obtain ⟨a1, i, a2, a3, a4, a5⟩ := scnL_bd r n c j h0 h1 hc
      exact ⟨a1, i, a2, by omega, by simp; omega, a5⟩
theorem spec_ReadDec_j2 (s : ByteArray) (n c : Int) (b : Bool) (i : Nat) (h0 : 0 ≤ n) (h1 : n < 10 ^ i) (hc : c = i) (hi : i ≤ 11)
    (hb : b = decide (0 < (s.size : Int) ∧ bt s 0 = 45)) (hscan : ∀ m, decOf s = some m → n = (if m < 0 then -m else m) ∧ i ≤ 9) : Ev (fun k => spec_ReadDec.j2 k s n c b) (readDecP s) := by
  have hp : (10 : Int) ^ 11 = 100000000000 := by decide
  have hle : (10 : Int) ^ i ≤ 10 ^ 11 := pow_le 10 (by decide) hi
  have key : ∀ v : Int, (v = if b = true then -n else n) → (if c > 9 then (some ((0 : Int), false)) else if (s.size : Int) > 10 then some (0, false) else if (decB v).toList = s.toList then some (v, true) else some (0, false)) = some (readDecP s) := by
    intro v hv
    unfold readDecP
    cases hd : decOf s with
    | some m =>
      obtain ⟨a1, a2, a3⟩ := decOf_spec hd
      obtain ⟨e1, e2⟩ := hscan m hd
      have hs := decB_size a1 a2
      rw [a3] at hs
      have hneg : b = decide (m < 0) := by
        rw [hb, decide_eq_decide, ← a3]
        unfold decB decP
        by_cases hz : m = 0
        · subst hz
          exact ⟨fun h => absurd h.2 (by decide), fun h => by omega⟩
        · rw [if_neg hz]
          by_cases hn : m < 0
          · rw [if_pos hn]
            refine ⟨fun _ => hn, fun _ => ⟨by rw [strOfNums_size, List.length_cons]; omega, ?_⟩⟩
            obtain ⟨q1, _, _, _⟩ := decL_facts (n := -m) (by omega) (by omega)
            rw [bt_eq, bytesOf_strOfNums (fun x hx => by
              rcases List.mem_cons.1 hx with rfl | hx
              · omega
              · have := digC_iff.1 (List.all_eq_true.1 q1 x hx); omega)]
            rfl
          · rw [if_neg hn]
            refine ⟨fun h => ?_, fun h => absurd h hn⟩
            exfalso
            obtain ⟨q1, q2, _, _⟩ := decL_facts (n := m) (by omega) (by omega)
            have h2 := h.2
            rw [bt_eq, bytesOf_strOfNums (fun x hx => by have := digC_iff.1 (List.all_eq_true.1 q1 x hx); omega)] at h2
            cases hl : decL 20 m [] with
            | nil => exact q2 hl
            | cons x r =>
              rw [hl] at h2 q1
              rw [List.all_cons, Bool.and_eq_true, digC_iff] at q1
              simp [rd] at h2
              omega
      have hvm : v = m := by
        rw [hv, hneg, e1]
        by_cases hm : m < 0
        · simp [hm]
        · simp [hm]
      rw [if_neg (by omega), if_neg (by omega), hvm, if_pos (by rw [a3])]
    | none =>
      by_cases c1 : c > 9
      · rw [if_pos c1]
      · rw [if_neg c1]
        by_cases c2 : (s.size : Int) > 10
        · rw [if_pos c2]
        · rw [if_neg c2]
          by_cases c3 : decB v = s
          · exfalso
            have h9 : (10 : Int) ^ i ≤ 10 ^ 9 := pow_le 10 (by decide) (by omega)
            have hp9 : (10 : Int) ^ 9 = 1000000000 := by decide
            have hvb : -999999999 ≤ v ∧ v ≤ 999999999 := by
              rw [hv]
              split <;> omega
            rw [decOf_some hvb.1 hvb.2 c3] at hd
            cases hd
          · rw [if_neg (by rw [toList_eq_iff]; exact c3)]
  cases b with
  | true =>
    have hk := key (-n) (by simp)
    by_cases c1 : c > 9
    · exact ev_last fun k => by simp only [spec_ReadDec.j2]; rw [if_pos (by trivial), if_pos c1]; rw [if_pos c1] at hk; exact hk
    · by_cases c2 : (s.size : Int) > 10
      · exact ev_last fun k => by simp only [spec_ReadDec.j2]; rw [if_pos (by trivial), if_neg c1, if_pos c2]; rw [if_neg c1, if_pos c2] at hk; exact hk
      · rw [if_neg c1, if_neg c2] at hk
        refine Ev.step (fun k => by simp only [spec_ReadDec.j2]; rw [if_pos (by trivial), if_neg c1, if_neg c2, wrap_id (x := -n) (by omega) (by omega)]) (ev_bind (spec_Dec_ev (-n) (by omega) (by omega)) ?_)
        exact ev_some fun _ => hk
  | false =>
    have hk := key n (by simp)
    by_cases c1 : c > 9
    · exact ev_last fun k => by simp only [spec_ReadDec.j2]; rw [if_neg (by decide), if_pos c1]; rw [if_pos c1] at hk; exact hk
    · by_cases c2 : (s.size : Int) > 10
      · exact ev_last fun k => by simp only [spec_ReadDec.j2]; rw [if_neg (by decide), if_neg c1, if_pos c2]; rw [if_neg c1, if_pos c2] at hk; exact hk
      · rw [if_neg c1, if_neg c2] at hk
        refine Ev.step (fun k => by simp only [spec_ReadDec.j2]; rw [if_neg (by decide), if_neg c1, if_neg c2]) (ev_bind (spec_Dec_ev n (by omega) (by omega)) ?_)
        exact ev_some fun _ => hk
/-- What is left to be scanned at place i. -/
theorem scn_drop (s : ByteArray) (i : Int) (h0 : 0 ≤ i) (h1 : i < (s.size : Int)) (h2 : i < 11) : ((bytesOf s).take 11).drop i.toNat = bt s i :: ((bytesOf s).take 11).drop (i + 1).toNat := by
  rw [List.drop_take, drop_bt h0 h1, List.drop_take, show 11 - i.toNat = (11 - (i + 1).toNat) + 1 by omega, List.take_succ_cons]
theorem spec_ReadDec_l0 (s : ByteArray) (hs : s.size ≤ 8388608) (hscan : ∀ m, decOf s = some m → (scnL 0 0 ((bytesOf s).take 11)).1 = (if m < 0 then -m else m) ∧ (scnL 0 0 ((bytesOf s).take 11)).2 ≤ 9) : ∀ (d : Nat) (n c i : Int) (j : Nat), 0 ≤ i → 11 - i = d → 0 ≤ n → n < 10 ^ j → c = j → (j : Int) ≤ i → scnL n c (((bytesOf s).take 11).drop i.toNat) = scnL 0 0 ((bytesOf s).take 11) →
    Ev (fun k => spec_ReadDec.l0 k s n c i) (readDecP s) := by
  have hl := bytesOf_length s
  have fin : ∀ (n c i : Int) (j : Nat), 0 ≤ i → ((s.size : Int) ≤ i ∨ 11 ≤ i) → i ≤ 11 → 0 ≤ n → n < 10 ^ j → c = j → (j : Int) ≤ i → scnL n c (((bytesOf s).take 11).drop i.toNat) = scnL 0 0 ((bytesOf s).take 11) → Ev (fun k => spec_ReadDec.j1 k s n c i false) (readDecP s) := by
    intro n c i j h0 hd hd2 n0 n1 hc hj he
    have e : ((bytesOf s).take 11).drop i.toNat = [] := List.drop_eq_nil_of_le (by rw [List.length_take]; omega)
    rw [e, scnL] at he
    have hj2 : ∀ b, b = decide (0 < (s.size : Int) ∧ bt s 0 = 45) → Ev (fun k => spec_ReadDec.j2 k s n c b) (readDecP s) := fun b hb =>
      spec_ReadDec_j2 s n c b j n0 n1 hc (by omega) hb (fun m hm => by
        obtain ⟨q1, q2⟩ := hscan m hm
        rw [← he] at q1 q2
        exact ⟨q1, by simp only at q2; omega⟩)
    by_cases hz : (s.size : Int) > 0
    · refine Ev.step (f := fun k => spec_ReadDec.j2 k s n c ((bt s 0) == 45)) (fun k => ?_) (hj2 _ ?_)
      · simp only [spec_ReadDec.j1]
        rw [if_neg (by decide), if_pos hz, if_pos hz]
      · rw [Bool.eq_iff_iff, beq_iff_eq, decide_eq_true_eq]
        exact ⟨fun h => ⟨hz, h⟩, fun h => h.2⟩
    · refine Ev.step (f := fun k => spec_ReadDec.j2 k s n c false) (fun k => ?_) (hj2 _ ?_)
      · simp only [spec_ReadDec.j1]
        rw [if_neg (by decide), if_neg hz]
      · exact (decide_eq_false (fun h => hz h.1)).symm
  intro d
  induction d with
  | zero =>
    intro n c i j h0 hd n0 n1 hc hj he
    have hf := fin n c i j h0 (.inr (by omega)) (by omega) n0 n1 hc hj he
    by_cases h1 : i < (s.size : Int)
    · refine Ev.step (f := fun k => spec_ReadDec.j1 k s n c i false) (fun k => ?_) hf
      simp only [spec_ReadDec.l0]
      rw [if_pos h1, decide_eq_false (by omega)]
    · refine Ev.step (f := fun k => spec_ReadDec.j1 k s n c i false) (fun k => ?_) hf
      simp only [spec_ReadDec.l0]
      rw [if_neg h1]
  | succ d ih =>
    intro n c i j h0 hd n0 n1 hc hj he
    by_cases h1 : i < (s.size : Int)
    · have h11 : i < 11 := by omega
      have hp : (10 : Int) ^ 11 = 100000000000 := by decide
      have hle : (10 : Int) ^ j ≤ 10 ^ 11 := pow_le 10 (by decide) (by omega)
      rw [scn_drop s i h0 h1 h11, scnL] at he
      refine Ev.step (f := fun k => spec_ReadDec.j1 k s n c i true) (fun k => by simp only [spec_ReadDec.l0]; rw [if_pos h1, decide_eq_true h11]) ?_
      by_cases hg : digC (bt s i) = true
      · rw [if_pos hg] at he
        have hg' := digC_iff.1 hg
        refine Ev.step (f := fun k => spec_ReadDec.l0 k s (n * 10 + (bt s i - 48)) (c + 1) (i + 1)) (fun k => ?_) (ih _ _ _ (j + 1) (by omega) (by omega) (by omega) (by rw [Int.pow_succ]; omega) (by omega) (by omega) he)
        simp only [spec_ReadDec.j1]
        rw [if_pos (by trivial), if_pos h0, if_pos h1, if_pos hg'.1, if_pos hg'.2, Int.emod_eq_of_lt (a := bt s i - 48) (by omega) (by omega), wrap_id (x := n * 10) (by omega) (by omega), wrap_id (x := n * 10 + (bt s i - 48)) (by omega) (by omega), wrap_id (x := c + 1) (by omega) (by omega), wrap_id (x := i + 1) (by omega) (by omega)]
      · rw [if_neg hg] at he
        have hg' : ¬ (48 ≤ bt s i ∧ bt s i ≤ 57) := fun h => hg (digC_iff.2 h)
        refine Ev.step (f := fun k => spec_ReadDec.l0 k s n c (i + 1)) (fun k => ?_) (ih _ _ _ j (by omega) (by omega) n0 n1 hc (by omega) he)
        simp only [spec_ReadDec.j1]
        rw [if_pos (by trivial), if_pos h0, if_pos h1, wrap_id (x := i + 1) (by omega) (by omega)]
        by_cases g1 : bt s i ≥ 48
        · rw [if_pos g1, if_neg (fun h => hg' ⟨g1, h⟩)]
        · rw [if_neg g1]
    · have hf := fin n c i j h0 (.inl (by omega)) (by omega) n0 n1 hc hj he
      refine Ev.step (f := fun k => spec_ReadDec.j1 k s n c i false) (fun k => ?_) hf
      simp only [spec_ReadDec.l0]
      rw [if_neg h1]
theorem spec_ReadDec_ev (s : ByteArray) (hs : s.size ≤ 8388608) : Ev (fun k => spec_ReadDec.f k s) (readDecP s) := by
  refine spec_ReadDec_l0 s hs (fun m hm => ?_) 11 0 0 0 0 (by omega) (by omega) (by omega) (by decide) rfl (by omega) (by simp)
  obtain ⟨a1, a2, a3⟩ := decOf_spec hm
  rw [← a3]
  unfold decB decP
  by_cases hz : m = 0
  · subst hz
    rw [if_pos rfl]
    decide
  · rw [if_neg hz]
    by_cases hn : m < 0
    · rw [if_pos hn, if_pos hn]
      obtain ⟨q1, q2, q3, q4⟩ := decL_facts (n := -m) (by omega) (by omega)
      have hr : ∀ x ∈ (45 :: decL 20 (-m) [] : List Int), 0 ≤ x ∧ x < 256 := fun x hx => by
        rcases List.mem_cons.1 hx with rfl | hx
        · omega
        · have := digC_iff.1 (List.all_eq_true.1 q1 x hx); omega
      rw [bytesOf_strOfNums hr, List.take_of_length_le (by simp; omega), scnL, if_neg (by decide), scnL_dig _ _ _ q1, q3]
      exact ⟨by simp only, by simp only; omega⟩
    · rw [if_neg hn, if_neg hn]
      obtain ⟨q1, q2, q3, q4⟩ := decL_facts (n := m) (by omega) (by omega)
      rw [bytesOf_strOfNums (fun x hx => by have := digC_iff.1 (List.all_eq_true.1 q1 x hx); omega), List.take_of_length_le (by omega), scnL_dig _ _ _ q1, q3]
      exact ⟨by simp only, by simp only; omega⟩

end Go.Proofs.YtefnmlglpldgfaaDoor.Pure

namespace Go.Proofs.YtefnmlglpldgfaaDoor.Pure
set_option linter.unusedVariables false
set_option linter.unusedSimpArgs false
open Go.RowKit Go.Proofs.YtefnmlglpldgfaaDoor.QL Go.Proofs.YtefnmlglpldgfaaDoorW.PrintWords Go.Proofs.YtefnmlglpldgfaaDoorW.PrintLast Go.Proofs.YtefnmlglpldgfaaDoorW.PrintMore Go.Proofs.YtefnmlglpldgfaaDoor.Aux Go.Proofs.YtefnmlglpldgfaaDoor.Dom Go.Proofs.YtefnmlglpldgfaaDoor.Ext
theorem impl_Dec_eq (n : Int) (h0 : -9223372036854775808 ≤ n) (h1 : n ≤ 9223372036854775807) : impl_Dec.f n = some (decB n) := by
  unfold impl_Dec.f strconv_Itoa.f
  rw [if_pos ⟨h0, h1⟩, Option.bind_some]

end Go.Proofs.YtefnmlglpldgfaaDoor.Pure

namespace Go.Proofs.YtefnmlglpldgfaaDoor.Pure
set_option linter.unusedVariables false
set_option linter.unusedSimpArgs false
open Go.RowKit Go.Proofs.YtefnmlglpldgfaaDoor.QL Go.Proofs.YtefnmlglpldgfaaDoorW.PrintWords Go.Proofs.YtefnmlglpldgfaaDoorW.PrintLast Go.Proofs.YtefnmlglpldgfaaDoorW.PrintMore Go.Proofs.YtefnmlglpldgfaaDoor.Aux Go.Proofs.YtefnmlglpldgfaaDoor.Dom Go.Proofs.YtefnmlglpldgfaaDoor.Ext
theorem impl_in_eq (a b c : Int) : impl_in.f a b c = some (decide (b ≤ a ∧ a ≤ c)) := by
  unfold impl_in.f
  by_cases h : a ≥ b
  · rw [if_pos h]; simp [show b ≤ a from h]
  · rw [if_neg h]; simp [show ¬ b ≤ a from h]

end Go.Proofs.YtefnmlglpldgfaaDoor.Pure

namespace Go.Proofs.YtefnmlglpldgfaaDoor.Pure
set_option linter.unusedVariables false
set_option linter.unusedSimpArgs false
open Go.RowKit Go.Proofs.YtefnmlglpldgfaaDoor.QL Go.Proofs.YtefnmlglpldgfaaDoorW.PrintWords Go.Proofs.YtefnmlglpldgfaaDoorW.PrintLast Go.Proofs.YtefnmlglpldgfaaDoorW.PrintMore Go.Proofs.YtefnmlglpldgfaaDoor.Aux Go.Proofs.YtefnmlglpldgfaaDoor.Dom Go.Proofs.YtefnmlglpldgfaaDoor.Ext
theorem impl_ReadDec_eq (s : ByteArray) (hs : s.size ≤ 8388608) : impl_ReadDec.f s = some (readDecP s) := by
  unfold readDecP
  have hno : (∀ v, Lib.atoiAll s.data.toList = .ok v → ¬ (decB v = s ∧ -999999999 ≤ v ∧ v ≤ 999999999)) → decOf s = none := by
    intro h
    cases hd : decOf s with
    | none => rfl
    | some n =>
      obtain ⟨a, b, c⟩ := decOf_spec hd
      have h2 := atoi_decB a b
      rw [c] at h2
      have h3 : Lib.atoiAll s.data.toList = .ok n := by
        rw [Lib.atoiAll_short _ (by rw [← Lib.size_eq, ← c]; exact Nat.le_trans (decB_size a b) (by decide)), h2]
        rfl
      exact absurd ⟨c, a, b⟩ (h n h3)
  unfold impl_ReadDec.f strconv_Atoi.f
  rw [if_pos hs]
  cases hc : Lib.atoiAll s.data.toList with
  | ok v =>
    have hb := Lib.atoiAll_bounds hc
    simp only [Option.bind_some, Option.isNone_none, if_true]
    rw [impl_Dec_eq v hb.1 hb.2, Option.bind_some, impl_in_eq, Option.bind_some]
    by_cases h1 : decB v = s
    · rw [if_pos (by rw [h1])]
      by_cases h2 : -999999999 ≤ v ∧ v ≤ 999999999
      · rw [if_pos (by simpa using h2), decOf_some h2.1 h2.2 h1]
      · rw [if_neg (by simpa using h2), hno (fun w hw hh => h2 (by rw [hc] at hw; injection hw with hw; subst hw; exact hh.2))]
    · rw [if_neg (by rw [toList_eq_iff]; exact h1), hno (fun w hw hh => h1 (by rw [hc] at hw; injection hw with hw; subst hw; exact hh.1))]
  | range =>
    rw [hno (fun w hw => by rw [hc] at hw; cases hw)]
    rfl
  | _ =>
    rw [hno (fun w hw => by rw [hc] at hw; cases hw)]
    rfl

end Go.Proofs.YtefnmlglpldgfaaDoor.Pure

namespace Go.Proofs.YtefnmlglpldgfaaDoor.Pure
set_option linter.unusedVariables false
set_option linter.unusedSimpArgs false
open Go.RowKit Go.Proofs.YtefnmlglpldgfaaDoor.QL Go.Proofs.YtefnmlglpldgfaaDoorW.PrintWords Go.Proofs.YtefnmlglpldgfaaDoorW.PrintLast Go.Proofs.YtefnmlglpldgfaaDoorW.PrintMore Go.Proofs.YtefnmlglpldgfaaDoor.Aux Go.Proofs.YtefnmlglpldgfaaDoor.Dom Go.Proofs.YtefnmlglpldgfaaDoor.Ext

theorem FnExactReadDec : laws_FnExactReadDec.Pure := by
  intro s hs
  refine Ev.rounds (Ev.congr (fun k => by unfold laws_FnExactReadDec.f; rfl) ?_)
  by_cases h : (s.size : Int) > 1048576
  · exact ev_if_pos h (Ev.now _)
  · exact ev_if_neg h (ev_bind (spec_ReadDec_ev s (by omega)) (ev_bind (ev_some fun _ => impl_ReadDec_eq s (by omega)) (ev_if_pos rfl (ev_if_neg (by simp) (Ev.now _)))))

end Go.Proofs.YtefnmlglpldgfaaDoor.Pure
