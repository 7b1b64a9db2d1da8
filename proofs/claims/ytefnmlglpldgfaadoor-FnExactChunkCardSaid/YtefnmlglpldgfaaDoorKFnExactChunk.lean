/- The program's Chunk returns what the reference's returns, for all texts and numbers (texts of more than 2^20 bytes are let by). -/
import Derived.Test.YtefnmlglpldgfaaDoorDom
import Derived.Test.YtefnmlglpldgfaaDoorDomB
import Derived.Test.YtefnmlglpldgfaaDoorCFnExactChunka
namespace Go.Proofs.YtefnmlglpldgfaaDoor.QL
open Go.RowKit Go.Proofs.YtefnmlglpldgfaaDoorW.PrintWords Go.Proofs.YtefnmlglpldgfaaDoorW.PrintLast Go.Proofs.YtefnmlglpldgfaaDoorW.PrintMore Go.Proofs.YtefnmlglpldgfaaDoor.Aux Go.Proofs.YtefnmlglpldgfaaDoor.Dom Go.Proofs.YtefnmlglpldgfaaDoor.Ext Go.Proofs.YtefnmlglpldgfaaDoor.Glob
def laws_FnExactChunk.Pure : Prop := ∀ (a0 : ByteArray) (a1 : Int), a0.size ≤ 140737488351232 → (Lit.int .i64 a1).wf = true → ∃ k, laws_FnExactChunk.f k a0 a1 = some true
theorem laws_FnExactChunk.walk (P : laws_FnExactChunk.Pure) (a0 : ByteArray) (a1 : Int) (w : World) (za0 : a0.size ≤ 140737488351232) (za1 : (Lit.int .i64 a1).wf = true) (hGTz : GTz w) :
    Calls Tryd.prog 5 #[.string a0, .int .i64 a1] w fun e w' => e = .returned (.bool true) ∧ Below w.heap.size w w' := by
  obtain ⟨k, h⟩ := P a0 a1 za0 za1
  refine (laws_FnExactChunk.calls k a0 a1 true w  hGTz h).mono ?_
  rintro e w' ⟨rfl, hd⟩
  exact ⟨rfl, hd⟩
end Go.Proofs.YtefnmlglpldgfaaDoor.QL

namespace Go.Proofs.YtefnmlglpldgfaaDoor.Pure
set_option linter.unusedVariables false
set_option linter.unusedSimpArgs false
open Go.RowKit Go.Proofs.YtefnmlglpldgfaaDoor.QL Go.Proofs.YtefnmlglpldgfaaDoorW.PrintWords Go.Proofs.YtefnmlglpldgfaaDoorW.PrintLast Go.Proofs.YtefnmlglpldgfaaDoorW.PrintMore Go.Proofs.YtefnmlglpldgfaaDoor.Aux Go.Proofs.YtefnmlglpldgfaaDoor.Dom Go.Proofs.YtefnmlglpldgfaaDoor.Ext
theorem spec_HexNum_step (k : Nat) (u : Int) (acc : List Int) (h0 : 0 ≤ u) (h1 : u ≤ 9223372036854775807) (ha : acc.length ≤ 100) (h : u > 0 ∨ acc = []) : spec_HexNum.l0 (k + 1) u (strOfNums acc) = spec_HexNum.l0 k (u / 16) (strOfNums (hxn (u % 16) :: acc)) := by
  have e : ∀ acc : List Int, acc.length ≤ 100 → (if 0 ≤ (Int.tmod u 16) then (if (Int.tmod u 16) < 16 then ((some (([bt (⟨#[48, 49, 50, 51, 52, 53, 54, 55, 56, 57, 97, 98, 99, 100, 101, 102]⟩ : ByteArray) (Int.tmod u 16)] : List Int) : List Int)).bind fun y101 => (if (strOfNums y101).size + (strOfNums acc).size ≤ 9223372036854775807 then (spec_HexNum.l0 k (wrap64 (Int.tdiv u 16)) ((strOfNums y101) ++ (strOfNums acc))) else (none))) else (none)) else (none)) = spec_HexNum.l0 k (u / 16) (strOfNums (hxn (u % 16) :: acc)) := by
    intro acc ha
    rw [Int.tmod_eq_emod_of_nonneg h0, Int.tdiv_eq_ediv_of_nonneg h0, if_pos (by omega), if_pos (by omega), Option.bind_some, hex_bt (by omega) (by omega), if_pos (by rw [strOfNums_size, strOfNums_size]; simp; omega), wrap_id (by omega) (by omega), ← strOfNums_append]
    rfl
  simp only [spec_HexNum.l0]
  by_cases hu : u > 0
  · rw [if_pos hu]
    exact e acc ha
  · rw [if_neg hu]
    rcases h with h | rfl
    · exact absurd h hu
    · rw [if_pos nil_toList]
      exact e [] (by simp)
theorem spec_HexNum_l0 : ∀ (f : Nat) (u : Int) (acc : List Int), 0 ≤ u → u ≤ 9223372036854775807 → u < 16 ^ (f + 1) → acc.length + f ≤ 90 → (u > 0 ∨ acc = []) → Ev (fun k => spec_HexNum.l0 k u (strOfNums acc)) (strOfNums (hexA (f + 1) u acc))
  | f, u, acc, h0, h1, hu, ha, h => by
    refine Ev.step (fun k => spec_HexNum_step k u acc h0 h1 (by omega) h) ?_
    rw [hexA]
    by_cases h16 : 16 ≤ u
    · rw [if_pos h16]
      cases f with
      | zero => simp at hu; omega
      | succ f => exact spec_HexNum_l0 f (u / 16) _ (by omega) (by omega) (by rw [Int.pow_succ] at hu; omega) (by simp; omega) (.inl (by omega))
    · rw [if_neg h16]
      refine ev_last fun k => ?_
      rw [show u / 16 = 0 by omega, show u % 16 = u by omega]
      simp only [spec_HexNum.l0]
      rw [if_neg (by decide), if_neg (by rw [trim_nil]; intro hh; have := congrArg ByteArray.size hh; rw [strOfNums_size] at this; simp [ByteArray.size] at this)]
theorem spec_HexNum_ev (n : Int) (h1 : n ≤ 9223372036854775807) : Ev (fun k => spec_HexNum.f k n) (if n < 0 then ⟨#[]⟩ else hexNB n) := by
  have hp : (16 : Int) ^ 16 = 18446744073709551616 := by decide
  refine Ev.congr (fun k => by unfold spec_HexNum.f; rfl) (ev_ite (fun _ => Ev.now _) fun h => ?_)
  have := spec_HexNum_l0 15 n [] (by omega) h1 (by rw [hp]; omega) (by simp) (.inr rfl)
  exact this

end Go.Proofs.YtefnmlglpldgfaaDoor.Pure

namespace Go.Proofs.YtefnmlglpldgfaaDoor.Pure
set_option linter.unusedVariables false
set_option linter.unusedSimpArgs false
open Go.RowKit Go.Proofs.YtefnmlglpldgfaaDoor.QL Go.Proofs.YtefnmlglpldgfaaDoorW.PrintWords Go.Proofs.YtefnmlglpldgfaaDoorW.PrintLast Go.Proofs.YtefnmlglpldgfaaDoorW.PrintMore Go.Proofs.YtefnmlglpldgfaaDoor.Aux Go.Proofs.YtefnmlglpldgfaaDoor.Dom Go.Proofs.YtefnmlglpldgfaaDoor.Ext
theorem chk_cat (sz : Nat) (d : Nat) (s : ByteArray) (h : ¬ s.size = 0) : chkL sz (d + 1) s = hexNB (min sz s.size : Nat) ++ ⟨#[13, 10]⟩ ++ s.extract 0 (min sz s.size) ++ ⟨#[13, 10]⟩ ++ chkL sz d (s.extract (min sz s.size) s.size) := by
  rw [chkL, if_neg h]
theorem mn_cast (sz : Int) (n : Nat) (h : 1 ≤ sz) : mn sz (n : Int) = ((min sz.toNat n : Nat) : Int) := by
  unfold mn
  split <;> omega
theorem spec_Chunk_l0 (sz : Int) (h1 : 1 ≤ sz) : ∀ (d : Nat) (s out : ByteArray), s.size < d → s.size ≤ 8388608 → out.size + 100 * s.size ≤ 10000000000 →
    Ev (fun k => spec_Chunk.l0 k s sz out) (out ++ (chkL sz.toNat d s ++ ⟨#[48, 13, 10, 13, 10]⟩))
  | 0, s, out, hd, hs, ho => by omega
  | d + 1, s, out, hd, hs, ho => by
    have z1 : (⟨#[13, 10]⟩ : ByteArray).size = 2 := rfl
    by_cases h : (s.size : Int) > 0
    · have hm : mn sz (s.size : Int) = ((min sz.toNat s.size : Nat) : Int) := mn_cast sz s.size h1
      have hx := hexNB_size ((min sz.toNat s.size : Nat) : Int)
      have e1 : (s.extract 0 (min sz.toNat s.size)).size = min sz.toNat s.size := by rw [ByteArray.size_extract]; omega
      have e2 : (s.extract (min sz.toNat s.size) s.size).size = s.size - min sz.toNat s.size := by rw [ByteArray.size_extract]; omega
      have hxn := spec_HexNum_ev ((min sz.toNat s.size : Nat) : Int) (by omega)
      rw [if_neg (by omega)] at hxn
      have ih := spec_Chunk_l0 sz h1 d (s.extract (min sz.toNat s.size) s.size) (out ++ hexNB ((min sz.toNat s.size : Nat) : Int) ++ ⟨#[13, 10]⟩ ++ s.extract 0 (min sz.toNat s.size) ++ ⟨#[13, 10]⟩) (by omega) (by omega) (by simp only [ByteArray.size_append, z1, e1, e2]; omega)
      refine Ev.step (fun k => by simp only [spec_Chunk.l0]; rw [if_pos h, hm]) (ev_bind hxn ?_)
      refine Ev.congr (fun k => by rw [if_pos (by omega), if_pos (by simp only [ByteArray.size_append]; omega), if_pos (by omega), if_pos (by omega), Int.toNat_natCast, if_pos (by simp only [ByteArray.size_append, z1, e1]; omega), if_pos (by simp only [ByteArray.size_append, z1, e1]; omega)]) (ev_eq ih ?_)
      rw [chk_cat _ _ _ (by omega)]
      simp only [ByteArray.append_assoc]
    · refine ev_last fun k => ?_
      simp only [spec_Chunk.l0]
      rw [if_neg h, if_pos (by omega), chkL, if_pos (by omega)]
      congr 1
theorem spec_Chunk_ev (s : ByteArray) (sz : Int) (hs : s.size ≤ 8388608) : Ev (fun k => spec_Chunk.f k s sz) (chkB s sz) := by
  unfold chkB
  refine Ev.congr (fun k => by unfold spec_Chunk.f; rfl) (ev_ite (fun _ => Ev.now _) fun h => ?_)
  refine ev_eq (spec_Chunk_l0 sz (by omega) (s.size + 1) s ⟨#[]⟩ (by omega) hs (by have : (⟨#[]⟩ : ByteArray).size = 0 := rfl; omega)) ?_
  exact ByteArray.empty_append

end Go.Proofs.YtefnmlglpldgfaaDoor.Pure

namespace Go.Proofs.YtefnmlglpldgfaaDoor.Pure
set_option linter.unusedVariables false
set_option linter.unusedSimpArgs false
open Go.RowKit Go.Proofs.YtefnmlglpldgfaaDoor.QL Go.Proofs.YtefnmlglpldgfaaDoorW.PrintWords Go.Proofs.YtefnmlglpldgfaaDoorW.PrintLast Go.Proofs.YtefnmlglpldgfaaDoorW.PrintMore Go.Proofs.YtefnmlglpldgfaaDoor.Aux Go.Proofs.YtefnmlglpldgfaaDoor.Dom Go.Proofs.YtefnmlglpldgfaaDoor.Ext
theorem impl_HexNum_eq (n : Int) (h1 : n ≤ 9223372036854775807) : impl_HexNum.f n = some (if n < 0 then ⟨#[]⟩ else hexNB n) := by
  unfold impl_HexNum.f strconv_FormatInt.f
  by_cases h : n < 0
  · rw [if_pos h, if_pos h]
  · rw [if_neg h, if_neg h, if_pos (by omega)]
    rfl

end Go.Proofs.YtefnmlglpldgfaaDoor.Pure

namespace Go.Proofs.YtefnmlglpldgfaaDoor.Pure
set_option linter.unusedVariables false
set_option linter.unusedSimpArgs false
open Go.RowKit Go.Proofs.YtefnmlglpldgfaaDoor.QL Go.Proofs.YtefnmlglpldgfaaDoorW.PrintWords Go.Proofs.YtefnmlglpldgfaaDoorW.PrintLast Go.Proofs.YtefnmlglpldgfaaDoorW.PrintMore Go.Proofs.YtefnmlglpldgfaaDoor.Aux Go.Proofs.YtefnmlglpldgfaaDoor.Dom Go.Proofs.YtefnmlglpldgfaaDoor.Ext
/-- The texts that the pieces are put together of. -/
def chkP (sz : Nat) : Nat → ByteArray → List ByteArray
  | 0, _ => []
  | d + 1, s => if s.size = 0 then [] else hexNB (min sz s.size : Nat) :: ⟨#[13, 10]⟩ :: s.extract 0 (min sz s.size) :: ⟨#[13, 10]⟩ :: chkP sz d (s.extract (min sz s.size) s.size)
theorem joinB_nil_cons (x : ByteArray) (l : List ByteArray) : joinB ⟨#[]⟩ (x :: l) = x ++ joinB ⟨#[]⟩ l := by
  have key : ∀ (l : List ByteArray) (x : ByteArray), l.foldl (fun s v => s ++ ⟨#[]⟩ ++ v) x = x ++ l.foldl (fun s v => s ++ ⟨#[]⟩ ++ v) ⟨#[]⟩ := by
    intro l
    induction l with
    | nil => intro x; exact ByteArray.append_empty.symm
    | cons y l ih =>
      intro x
      have e1 : x ++ (⟨#[]⟩ : ByteArray) = x := ByteArray.append_empty
      have e2 : (⟨#[]⟩ : ByteArray) ++ (⟨#[]⟩ : ByteArray) = ⟨#[]⟩ := ByteArray.append_empty
      have e3 : (⟨#[]⟩ : ByteArray) ++ y = y := ByteArray.empty_append
      rw [List.foldl_cons, List.foldl_cons, e1, e2, e3, ih (x ++ y), ih y, ByteArray.append_assoc]
  cases l with
  | nil => exact ByteArray.append_empty.symm
  | cons y l =>
    have e1 : x ++ (⟨#[]⟩ : ByteArray) = x := ByteArray.append_empty
    rw [joinB, joinB, List.foldl_cons, e1, key l (x ++ y), key l y, ByteArray.append_assoc]
theorem joinB_nil_app : ∀ (a b : List ByteArray), joinB ⟨#[]⟩ (a ++ b) = joinB ⟨#[]⟩ a ++ joinB ⟨#[]⟩ b
  | [], b => (ByteArray.empty_append).symm
  | x :: a, b => by rw [List.cons_append, joinB_nil_cons, joinB_nil_cons, joinB_nil_app a b, ByteArray.append_assoc]
theorem chkP_join (sz : Nat) : ∀ (d : Nat) (s : ByteArray), joinB ⟨#[]⟩ (chkP sz d s) = chkL sz d s
  | 0, s => rfl
  | d + 1, s => by
    rw [chkP, chkL]
    split
    · rfl
    · rw [joinB_nil_cons, joinB_nil_cons, joinB_nil_cons, joinB_nil_cons, chkP_join sz d]
      simp only [ByteArray.append_assoc]
theorem chkL_size (sz : Nat) (h1 : 1 ≤ sz) : ∀ (d : Nat) (s : ByteArray), (chkL sz d s).size ≤ 100 * s.size
  | 0, s => Nat.zero_le _
  | d + 1, s => by
    have z1 : (⟨#[13, 10]⟩ : ByteArray).size = 2 := rfl
    rw [chkL]
    split
    · exact Nat.zero_le _
    · have hx := hexNB_size ((min sz s.size : Nat) : Int)
      have ih := chkL_size sz h1 d (s.extract (min sz s.size) s.size)
      have e1 : (s.extract 0 (min sz s.size)).size = min sz s.size := by rw [ByteArray.size_extract]; omega
      have e2 : (s.extract (min sz s.size) s.size).size = s.size - min sz s.size := by rw [ByteArray.size_extract]; omega
      rw [e2] at ih
      simp only [ByteArray.size_append, z1, e1]
      omega
theorem chkP_length (sz : Nat) (h1 : 1 ≤ sz) : ∀ (d : Nat) (s : ByteArray), (chkP sz d s).length ≤ 4 * s.size
  | 0, s => by simp [chkP]
  | d + 1, s => by
    rw [chkP]
    split
    · simp
    · have ih := chkP_length sz h1 d (s.extract (min sz s.size) s.size)
      have e2 : (s.extract (min sz s.size) s.size).size = s.size - min sz s.size := by rw [ByteArray.size_extract]; omega
      rw [e2] at ih
      simp only [List.length_cons]
      omega
theorem mn_casti (sz : Int) (n : Nat) (h : 1 ≤ sz) : mn sz (n : Int) = ((min sz.toNat n : Nat) : Int) := by
  unfold mn
  split <;> omega
theorem impl_Chunk_l0 (sz : Int) (h1 : 1 ≤ sz) (V : List ByteArray) (hV : V.length ≤ 100000000) (hW : (joinB ⟨#[]⟩ V).size ≤ 1000000000) : ∀ (d : Nat) (s : ByteArray) (out : List ByteArray), s.size < d → out ++ chkP sz.toNat d s ++ [⟨#[48]⟩, ⟨#[13, 10]⟩, ⟨#[13, 10]⟩] = V →
    Ev (fun k => impl_Chunk.l0 k s sz out) (joinB ⟨#[]⟩ V)
  | 0, s, out, hd, hv => by omega
  | d + 1, s, out, hd, hv => by
    have hvl := congrArg List.length hv
    simp only [List.length_append, List.length_cons, List.length_nil] at hvl
    by_cases h : s.size = 0
    · have hnil : s.toList = ([] : List UInt8) := (trim_nil s).2 (bytesOf_inj ((bytesOf_nil h).trans rfl))
      rw [chkP, if_pos h, List.append_nil] at hv
      refine ev_last fun k => ?_
      simp only [impl_Chunk.l0]
      rw [if_pos hnil, Option.bind_some, if_pos (by simp; omega), hv, strings_Join.f, if_pos ⟨by omega, by omega⟩]
      rfl
    · have hnil : ¬ s.toList = ([] : List UInt8) := fun e => h (by rw [(trim_nil s).1 e]; rfl)
      have hm : mn sz (s.size : Int) = ((min sz.toNat s.size : Nat) : Int) := mn_casti sz s.size h1
      have e2 : (s.extract (min sz.toNat s.size) s.size).size = s.size - min sz.toNat s.size := by rw [ByteArray.size_extract]; omega
      have hx := impl_HexNum_eq ((min sz.toNat s.size : Nat) : Int) (by
        rw [chkP, if_neg h] at hvl
        have : min sz.toNat s.size ≤ (joinB ⟨#[]⟩ V).size := by
          rw [← hv, chkP, if_neg h, joinB_nil_app, joinB_nil_app, joinB_nil_cons, joinB_nil_cons, joinB_nil_cons]
          simp only [ByteArray.size_append, ByteArray.size_extract]
          omega
        omega)
      rw [if_neg (by omega)] at hx
      rw [chkP, if_neg h] at hv
      refine Ev.step (f := fun k => impl_Chunk.l0 k (s.extract (min sz.toNat s.size) s.size) sz (out ++ [hexNB ((min sz.toNat s.size : Nat) : Int), ⟨#[13, 10]⟩, s.extract 0 (min sz.toNat s.size), ⟨#[13, 10]⟩])) (fun k => ?_) (impl_Chunk_l0 sz h1 V hV hW d _ _ (by omega) (by rw [← hv]; simp))
      simp only [impl_Chunk.l0]
      rw [if_neg hnil, hm, hx, Option.bind_some, if_pos (by omega), if_pos (by omega), Option.bind_some, Int.toNat_natCast, if_pos (by simp; omega)]
theorem impl_Chunk_ev (s : ByteArray) (sz : Int) (hs : s.size ≤ 8388608) : Ev (fun k => impl_Chunk.f k s sz) (chkB s sz) := by
  unfold chkB
  refine Ev.congr (fun k => by unfold impl_Chunk.f; rfl) (ev_ite (fun _ => Ev.now _) fun h => ?_)
  have h1 : 1 ≤ sz.toNat := by omega
  have q1 := chkP_length sz.toNat h1 (s.size + 1) s
  have q2 := chkL_size sz.toNat h1 (s.size + 1) s
  have e : joinB ⟨#[]⟩ ([] ++ chkP sz.toNat (s.size + 1) s ++ [⟨#[48]⟩, ⟨#[13, 10]⟩, ⟨#[13, 10]⟩]) = chkL sz.toNat (s.size + 1) s ++ ⟨#[48, 13, 10, 13, 10]⟩ := by
    rw [List.nil_append, joinB_nil_app, chkP_join]
    rfl
  refine ev_eq (impl_Chunk_l0 sz (by omega) _ (by simp; omega) ?_ (s.size + 1) s [] (by omega) rfl) e
  rw [e, ByteArray.size_append]
  have : (⟨#[48, 13, 10, 13, 10]⟩ : ByteArray).size = 5 := rfl
  omega

end Go.Proofs.YtefnmlglpldgfaaDoor.Pure

namespace Go.Proofs.YtefnmlglpldgfaaDoor.Pure
set_option linter.unusedVariables false
set_option linter.unusedSimpArgs false
open Go.RowKit Go.Proofs.YtefnmlglpldgfaaDoor.QL Go.Proofs.YtefnmlglpldgfaaDoorW.PrintWords Go.Proofs.YtefnmlglpldgfaaDoorW.PrintLast Go.Proofs.YtefnmlglpldgfaaDoorW.PrintMore Go.Proofs.YtefnmlglpldgfaaDoor.Aux Go.Proofs.YtefnmlglpldgfaaDoor.Dom Go.Proofs.YtefnmlglpldgfaaDoor.Ext

theorem FnExactChunk : laws_FnExactChunk.Pure := by
  intro s sz hs hn
  refine Ev.rounds (Ev.congr (fun k => by unfold laws_FnExactChunk.f; rfl) ?_)
  by_cases h : (s.size : Int) > 1048576
  · exact ev_if_pos h (Ev.now _)
  · exact ev_if_neg h (ev_bind (spec_Chunk_ev s sz (by omega)) (ev_bind (impl_Chunk_ev s sz (by omega)) (ev_if_pos rfl (Ev.now _))))

end Go.Proofs.YtefnmlglpldgfaaDoor.Pure
