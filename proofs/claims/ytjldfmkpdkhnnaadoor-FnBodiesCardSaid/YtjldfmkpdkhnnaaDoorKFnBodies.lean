/- Bodies in pieces of any size are read again as they were, whatever stands behind, and of a beginning more is wanted: for all codes that are drawn from (codes of more than 2^20 bytes are let by). -/
import Derived.Test.YtjldfmkpdkhnnaaDoorDom
import Derived.Test.YtjldfmkpdkhnnaaDoorDomB
import Derived.Test.YtjldfmkpdkhnnaaDoorEstringsIndexByte
import Derived.Test.YtjldfmkpdkhnnaaDoorEstringsCut
import Derived.Test.YtjldfmkpdkhnnaaDoorEimplLower
import Derived.Test.YtjldfmkpdkhnnaaDoorEstrconvAtoi
import Derived.Test.YtjldfmkpdkhnnaaDoorCFnBodiesb
namespace Go.Proofs.YtjldfmkpdkhnnaaDoor.QL
open Go.RowKit Go.Proofs.YtjldfmkpdkhnnaaDoorW.PrintWords Go.Proofs.YtjldfmkpdkhnnaaDoorW.PrintLast Go.Proofs.YtjldfmkpdkhnnaaDoorW.PrintMore Go.Proofs.YtjldfmkpdkhnnaaDoor.Aux Go.Proofs.YtjldfmkpdkhnnaaDoor.Dom Go.Proofs.YtjldfmkpdkhnnaaDoor.Ext Go.Proofs.YtjldfmkpdkhnnaaDoor.Glob
def laws_FnBodies.Pure : Prop := ∀ (l0 : List Int), l0.length ≤ maxLen → l0.length * 1 ≤ 140737488351232 → (∀ x ∈ l0, (Lit.int .u8 x).wf = true) → ∃ k, laws_FnBodies.f k l0 = some true
theorem laws_FnBodies.walk (P : laws_FnBodies.Pure) (a0 : Option Addr) (len0 cap0 : Nat) (z0 : List Int) (w : World) (w0 : (a0 = none ∧ len0 = 0 ∧ cap0 = 0 ∧ z0 = []) ∨ ∃ x, a0 = some x ∧ len0 ≤ cap0 ∧ cap0 ≤ maxLen ∧ z0.length = cap0 ∧ (∀ i, i < z0.length → w.cell? (x.add i) = some (.int .u8 (z0.getD i 0))) ∧ ∀ n ∈ z0, (Lit.int .u8 n).wf = true) (y0 : len0 * 1 ≤ 140737488351232) (hGErr : GErr w) (hGMax : GMax w) (hGTz : GTz w) :
    Calls Tryd.prog 7 #[.slice a0 len0 cap0] w fun e w' => e = .returned (.bool true) ∧ Below w.heap.size w w' := by
  obtain ⟨l0, rfl, hr0, hm0, hw0, hc0⟩ := ReadsInt.ofRowC w0
  obtain ⟨k, h⟩ := P l0 hm0 y0 hw0
  refine (laws_FnBodies.calls k _ _ l0 true w (Kd.C_of_reads (d := (0 : Int)) (h1 := fun _ => rfl) hr0) hc0 hGErr hGMax hGTz h rfl).mono ?_
  rintro e w' ⟨rfl, hd⟩
  exact ⟨rfl, hd⟩
end Go.Proofs.YtjldfmkpdkhnnaaDoor.QL

namespace Go.Proofs.YtjldfmkpdkhnnaaDoor.Pure
set_option linter.unusedVariables false
set_option linter.unusedSimpArgs false
open Go.RowKit Go.Proofs.YtjldfmkpdkhnnaaDoor.QL Go.Proofs.YtjldfmkpdkhnnaaDoorW.PrintWords Go.Proofs.YtjldfmkpdkhnnaaDoorW.PrintLast Go.Proofs.YtjldfmkpdkhnnaaDoorW.PrintMore Go.Proofs.YtjldfmkpdkhnnaaDoor.Aux Go.Proofs.YtjldfmkpdkhnnaaDoor.Dom Go.Proofs.YtjldfmkpdkhnnaaDoor.Ext
theorem spec_l1New_l0 (b : List Int) (hb : b.length ≤ 1048576) : ∀ (d : Nat) (h i : Int), 0 ≤ i → (b.length : Int) - i = d → ∃ h', Ev (fun k => spec_l1New.l0 k b h i) (b, 0, h')
  | 0, h, i, h0, hd => ⟨h, ev_last fun k => by simp only [spec_l1New.l0]; rw [if_neg (by omega)]⟩
  | d + 1, h, i, h0, hd => by
    by_cases h1 : i < 4000
    · obtain ⟨h', e⟩ := spec_l1New_l0 b hb d (Go.bits .and .i64 (wrap64 (wrap64 (wrap64 (h * 131) + wrap64 (rd b i)) + 7)) 1073741823) (i + 1) (by omega) (by omega)
      refine ⟨h', Ev.step (fun k => ?_) e⟩
      simp only [spec_l1New.l0]
      rw [if_pos (by omega), if_pos h1, if_pos h0, wrap_id (x := i + 1) (by omega) (by omega)]
    · exact ⟨h, ev_last fun k => by simp only [spec_l1New.l0]; rw [if_pos (by omega), if_neg h1]⟩
theorem spec_l1New_ev (b : List Int) (hb : b.length ≤ 1048576) : ∃ h', Ev (fun k => spec_l1New.f k b) (b, 0, h') :=
  spec_l1New_l0 b hb b.length _ 0 (by omega) (by omega)

end Go.Proofs.YtjldfmkpdkhnnaaDoor.Pure

namespace Go.Proofs.YtjldfmkpdkhnnaaDoor.Pure
set_option linter.unusedVariables false
set_option linter.unusedSimpArgs false
open Go.RowKit Go.Proofs.YtjldfmkpdkhnnaaDoor.QL Go.Proofs.YtjldfmkpdkhnnaaDoorW.PrintWords Go.Proofs.YtjldfmkpdkhnnaaDoorW.PrintLast Go.Proofs.YtjldfmkpdkhnnaaDoorW.PrintMore Go.Proofs.YtjldfmkpdkhnnaaDoor.Aux Go.Proofs.YtjldfmkpdkhnnaaDoor.Dom Go.Proofs.YtjldfmkpdkhnnaaDoor.Ext
/-! What is drawn: some number, some text, some one of a list; the place goes on from 0. -/
theorem and255_bd (x : Int) : 0 ≤ Go.bits .and .i64 x 255 ∧ Go.bits .and .i64 x 255 ≤ 255 := by
  have h : (BitVec.ofInt 64 x &&& BitVec.ofInt 64 255).toNat ≤ 255 := by
    rw [BitVec.toNat_and]
    exact Nat.and_le_right
  have e : Go.bits .and .i64 x 255 = (((BitVec.ofInt 64 x &&& BitVec.ofInt 64 255).toNat : Nat) : Int) := i64_pos (((BitVec.ofInt 64 x &&& BitVec.ofInt 64 255).toNat : Nat) : Int) (by omega) (by omega)
  rw [e]
  omega
theorem l1Byte_ok (b : List Int) (i h : Int) (hb : b.length ≤ 1048576) (h0 : 0 ≤ i) : ∃ x i' h', spec_l1Byte.f b i h = some (x, i', h') ∧ 0 ≤ x ∧ x ≤ 255 ∧ 0 ≤ i' := by
  unfold spec_l1Byte.f
  by_cases h1 : i < (b.length : Int)
  · rw [if_pos h1, if_pos h0, wrap_id (x := i + 1) (by omega) (by omega)]
    exact ⟨_, _, _, rfl, (and255_bd _).1, (and255_bd _).2, by omega⟩
  · rw [if_neg h1]
    exact ⟨_, _, _, rfl, (and255_bd _).1, (and255_bd _).2, h0⟩
theorem tmod_bd {x n : Int} (hx : 0 ≤ x) (hn : 0 < n) : 0 ≤ Int.tmod x n ∧ Int.tmod x n < n := by
  rw [Int.tmod_eq_emod_of_nonneg hx]
  exact ⟨Int.emod_nonneg _ (by omega), Int.emod_lt_of_pos _ hn⟩
theorem l1Below_ok (b : List Int) (i h n : Int) (hb : b.length ≤ 1048576) (h0 : 0 ≤ i) : ∃ x i' h', spec_l1Below.f b i h n = some (x, i', h') ∧ 0 ≤ x ∧ (x < n ∨ (n ≤ 0 ∧ x = 0)) ∧ 0 ≤ i' := by
  unfold spec_l1Below.f
  by_cases h1 : n ≤ 0
  · rw [if_pos h1]
    exact ⟨0, i, h, rfl, by omega, Or.inr ⟨h1, rfl⟩, h0⟩
  rw [if_neg h1]
  obtain ⟨x, i1, g1, e1, a1, a2, a3⟩ := l1Byte_ok b i h hb h0
  by_cases h2 : n ≤ 256
  · rw [if_pos h2, e1, Option.bind_some, if_neg (by omega)]
    have := tmod_bd a1 (show 0 < n by omega)
    exact ⟨_, _, _, rfl, this.1, Or.inl this.2, a3⟩
  · obtain ⟨y, i2, g2, e2, b1, b2, b3⟩ := l1Byte_ok b i1 g1 hb a3
    obtain ⟨z, i3, g3, e3, c1, c2, c3⟩ := l1Byte_ok b i2 g2 hb b3
    obtain ⟨v, i4, g4, e4, d1, d2, d3⟩ := l1Byte_ok b i3 g3 hb c3
    rw [if_neg h2, e1, Option.bind_some, e2, Option.bind_some, e3, Option.bind_some, e4, Option.bind_some, if_neg (by omega)]
    have w : wrap64 (wrap64 (wrap64 (wrap64 (x * 16777216) + wrap64 (y * 65536)) + wrap64 (z * 256)) + v) = x * 16777216 + y * 65536 + z * 256 + v := by
      rw [wrap_id (x := x * 16777216) (by omega) (by omega), wrap_id (x := y * 65536) (by omega) (by omega), wrap_id (x := z * 256) (by omega) (by omega), wrap_id (x := x * 16777216 + y * 65536) (by omega) (by omega), wrap_id (x := x * 16777216 + y * 65536 + z * 256) (by omega) (by omega), wrap_id (by omega) (by omega)]
    have t := tmod_bd (show 0 ≤ x * 16777216 + y * 65536 + z * 256 + v by omega) (show 0 < n by omega)
    refine ⟨_, _, _, rfl, ?_, Or.inl ?_, d3⟩
    · show 0 ≤ Int.tmod (wrap64 (wrap64 (wrap64 (wrap64 (x * 16777216) + wrap64 (y * 65536)) + wrap64 (z * 256)) + v)) n
      rw [w]; exact t.1
    · show Int.tmod (wrap64 (wrap64 (wrap64 (wrap64 (x * 16777216) + wrap64 (y * 65536)) + wrap64 (z * 256)) + v)) n < n
      rw [w]; exact t.2
theorem rdOf_mem {α : Type} {d : α} {l : List α} {j : Int} (h0 : 0 ≤ j) (h1 : j < (l.length : Int)) : rdOf d l j ∈ l := by
  have e := drop_rdOf (d := d) h0 h1
  exact List.mem_of_mem_drop (i := j.toNat) (by rw [e]; exact List.mem_cons_self)
theorem rd_mem {l : List Int} {j : Int} (h0 : 0 ≤ j) (h1 : j < (l.length : Int)) : rd l j ∈ l := by
  have e := drop_rd h0 h1
  exact List.mem_of_mem_drop (i := j.toNat) (by rw [e]; exact List.mem_cons_self)
theorem l1Pick_ok (b : List Int) (i h : Int) (l : List ByteArray) (hl : 0 < l.length) (hb : b.length ≤ 1048576) (h0 : 0 ≤ i) : ∃ x i' h', spec_l1Pick.f b i h l = some (x, i', h') ∧ x ∈ l ∧ 0 ≤ i' := by
  obtain ⟨x, i1, g1, e1, a1, a2, a3⟩ := l1Below_ok b i h (l.length : Int) hb h0
  have hx : x < (l.length : Int) := by omega
  unfold spec_l1Pick.f
  rw [e1, Option.bind_some, if_pos a1, if_pos hx]
  exact ⟨_, _, _, rfl, rdOf_mem a1 hx, a3⟩
theorem l1PickInt_ok (b : List Int) (i h : Int) (l : List Int) (hl : 0 < l.length) (hb : b.length ≤ 1048576) (h0 : 0 ≤ i) : ∃ x i' h', spec_l1PickInt.f b i h l = some (x, i', h') ∧ x ∈ l ∧ 0 ≤ i' := by
  obtain ⟨x, i1, g1, e1, a1, a2, a3⟩ := l1Below_ok b i h (l.length : Int) hb h0
  have hx : x < (l.length : Int) := by omega
  unfold spec_l1PickInt.f
  rw [e1, Option.bind_some, if_pos a1, if_pos hx]
  exact ⟨_, _, _, rfl, rd_mem a1 hx, a3⟩
theorem wrap64_bd (x : Int) : -9223372036854775808 ≤ wrap64 x ∧ wrap64 x ≤ 9223372036854775807 := by
  unfold wrap64
  omega
theorem ev_k {α : Type} {x : Option α} {r : α} (h : x = some r) : Ev (fun _ : Nat => x) r := ev_some fun _ => h

end Go.Proofs.YtjldfmkpdkhnnaaDoor.Pure

namespace Go.Proofs.YtjldfmkpdkhnnaaDoor.Pure
set_option linter.unusedVariables false
set_option linter.unusedSimpArgs false
open Go.RowKit Go.Proofs.YtjldfmkpdkhnnaaDoor.QL Go.Proofs.YtjldfmkpdkhnnaaDoorW.PrintWords Go.Proofs.YtjldfmkpdkhnnaaDoorW.PrintLast Go.Proofs.YtjldfmkpdkhnnaaDoorW.PrintMore Go.Proofs.YtjldfmkpdkhnnaaDoor.Aux Go.Proofs.YtjldfmkpdkhnnaaDoor.Dom Go.Proofs.YtjldfmkpdkhnnaaDoor.Ext
theorem spec_l1Text_l0 (b : List Int) (hb : b.length ≤ 1048576) (st : Int) : ∀ (d : Nat) (acc : List Int) (i h : Int), 0 ≤ i → acc.length + d ≤ 1000000 → ∃ s i' h', Ev (fun k => spec_l1Text.l0 k acc st (d : Int) b i h) (s, i', h') ∧ s.size = acc.length + d ∧ 0 ≤ i'
  | 0, acc, i, h, h0, hd => ⟨strOfNums acc, i, h, ev_last fun k => by simp only [spec_l1Text.l0]; rw [if_neg (by omega)], by rw [strOfNums_size]; omega, h0⟩
  | d + 1, acc, i, h, h0, hd => by
    obtain ⟨x, i1, g1, e1, a1, a2, a3⟩ := l1Byte_ok b i h hb h0
    have hl : acc.length < 140737488355328 := by omega
    have key : ∃ v, ∀ k, spec_l1Text.l0 (k + 1) acc st ((d + 1 : Nat) : Int) b i h = spec_l1Text.l0 k (acc ++ [v]) st (d : Int) b i1 g1 := by
      have hw : wrap64 (((d + 1 : Nat) : Int) - 1) = (d : Int) := by rw [wrap_id (by omega) (by omega)]; omega
      by_cases s1 : st = 1
      · by_cases s2 : st = 2
        · omega
        · exact ⟨_, fun k => by simp only [spec_l1Text.l0]; rw [if_pos (by omega), e1, Option.bind_some, if_pos s1, if_neg s2, if_pos hl, hw]⟩
      · by_cases s2 : st = 2
        · exact ⟨_, fun k => by simp only [spec_l1Text.l0]; rw [if_pos (by omega), e1, Option.bind_some, if_neg s1, if_pos s2, if_pos hl, hw]⟩
        · exact ⟨_, fun k => by simp only [spec_l1Text.l0]; rw [if_pos (by omega), e1, Option.bind_some, if_neg s1, if_neg s2, if_pos hl, hw]⟩
    obtain ⟨v, hv⟩ := key
    obtain ⟨s, i', h', e, q, r⟩ := spec_l1Text_l0 b hb st d (acc ++ [v]) i1 g1 a3 (by rw [List.length_append, List.length_singleton]; omega)
    refine ⟨s, i', h', Ev.step hv e, ?_, r⟩
    rw [q, List.length_append, List.length_singleton]
    omega
theorem spec_l1Text_ev (b : List Int) (i h a : Int) (hb : b.length ≤ 1048576) (h0 : 0 ≤ i) (ha : 0 ≤ a) (ha2 : a ≤ 100000) : ∃ s i' h', Ev (fun k => spec_l1Text.f k b i h a) (s, i', h') ∧ (s.size : Int) ≤ a ∧ 0 ≤ i' := by
  obtain ⟨x, i1, g1, e1, a1, a2, a3⟩ := l1Below_ok b i h 4 hb h0
  obtain ⟨y, i2, g2, e2, b1, b2, b3⟩ := l1Below_ok b i1 g1 (a + 1) hb a3
  obtain ⟨n, rfl⟩ := Int.eq_ofNat_of_zero_le b1
  obtain ⟨s, i', h', e, q, r⟩ := spec_l1Text_l0 b hb x n [] i2 g2 b3 (by simp; omega)
  refine ⟨s, i', h', ?_, by rw [q]; simp; omega, r⟩
  refine Ev.congr (fun k => by unfold spec_l1Text.f; rw [e1, Option.bind_some, wrap_id (x := a + 1) (by omega) (by omega), e2, Option.bind_some]) e

end Go.Proofs.YtjldfmkpdkhnnaaDoor.Pure

namespace Go.Proofs.YtjldfmkpdkhnnaaDoor.Pure
set_option linter.unusedVariables false
set_option linter.unusedSimpArgs false
open Go.RowKit Go.Proofs.YtjldfmkpdkhnnaaDoor.QL Go.Proofs.YtjldfmkpdkhnnaaDoorW.PrintWords Go.Proofs.YtjldfmkpdkhnnaaDoorW.PrintLast Go.Proofs.YtjldfmkpdkhnnaaDoorW.PrintMore Go.Proofs.YtjldfmkpdkhnnaaDoor.Aux Go.Proofs.YtjldfmkpdkhnnaaDoor.Dom Go.Proofs.YtjldfmkpdkhnnaaDoor.Ext
theorem spec_DrawChunk_ev (b : List Int) (hb : b.length ≤ 1048576) : ∃ s z, Ev (fun k => spec_DrawChunk.f k b) (s, z) ∧ s.size ≤ 30 ∧ -1 ≤ z ∧ z ≤ 100 := by
  obtain ⟨h', e⟩ := spec_l1New_ev b hb
  obtain ⟨s, i1, g1, e1, q1, a3⟩ := spec_l1Text_ev b 0 h' 30 hb (by omega) (by omega) (by omega)
  obtain ⟨z, i2, g2, e2, b1, b3⟩ := l1PickInt_ok b i1 g1 [1, 2, 7, 16, 100, 0, (-1)] (by decide) hb a3
  have hz : ∀ z ∈ ([1, 2, 7, 16, 100, 0, (-1)] : List Int), -1 ≤ z ∧ z ≤ 100 := by decide
  exact ⟨s, z, Ev.congr (fun k => by unfold spec_DrawChunk.f; rfl) (ev_bind e (ev_bind e1 (ev_bind (ev_k e2) (Ev.now _)))), by omega, (hz z b1).1, (hz z b1).2⟩

end Go.Proofs.YtjldfmkpdkhnnaaDoor.Pure

namespace Go.Proofs.YtjldfmkpdkhnnaaDoor.Pure
set_option linter.unusedVariables false
set_option linter.unusedSimpArgs false
open Go.RowKit Go.Proofs.YtjldfmkpdkhnnaaDoor.QL Go.Proofs.YtjldfmkpdkhnnaaDoorW.PrintWords Go.Proofs.YtjldfmkpdkhnnaaDoorW.PrintLast Go.Proofs.YtjldfmkpdkhnnaaDoorW.PrintMore Go.Proofs.YtjldfmkpdkhnnaaDoor.Aux Go.Proofs.YtjldfmkpdkhnnaaDoor.Dom Go.Proofs.YtjldfmkpdkhnnaaDoor.Ext
theorem spec_DrawHexNum_ev (b : List Int) (hb : b.length ≤ 1048576) : ∃ h, Ev (fun k => spec_DrawHexNum.f k b) h ∧ -1 ≤ h ∧ h ≤ 9223372036854775807 := by
  obtain ⟨h', e⟩ := spec_l1New_ev b hb
  obtain ⟨x, i1, g1, e1, a1, a2, a3⟩ := l1Below_ok b 0 h' 5000 hb (by omega)
  obtain ⟨z, i2, g2, e2, b1, b3⟩ := l1PickInt_ok b i1 g1 [0, 9, 10, 15, 16, 255, 256, 16777215, (-1), 9223372036854775807, x] (by simp) hb a3
  simp only [List.mem_cons, List.not_mem_nil, or_false] at b1
  have hz : -1 ≤ z ∧ z ≤ 9223372036854775807 := by rcases b1 with h | h | h | h | h | h | h | h | h | h | h <;> omega
  exact ⟨z, Ev.congr (fun k => by unfold spec_DrawHexNum.f; rfl) (ev_bind e (ev_some fun k => by simp only [e1, Option.bind_some, e2])), hz.1, hz.2⟩

end Go.Proofs.YtjldfmkpdkhnnaaDoor.Pure

namespace Go.Proofs.YtjldfmkpdkhnnaaDoor.Pure
set_option linter.unusedVariables false
set_option linter.unusedSimpArgs false
open Go.RowKit Go.Proofs.YtjldfmkpdkhnnaaDoor.QL Go.Proofs.YtjldfmkpdkhnnaaDoorW.PrintWords Go.Proofs.YtjldfmkpdkhnnaaDoorW.PrintLast Go.Proofs.YtjldfmkpdkhnnaaDoorW.PrintMore Go.Proofs.YtjldfmkpdkhnnaaDoor.Aux Go.Proofs.YtjldfmkpdkhnnaaDoor.Dom Go.Proofs.YtjldfmkpdkhnnaaDoor.Ext
theorem impl_HexNum_eq (n : Int) (h1 : n ≤ 9223372036854775807) : impl_HexNum.f n = some (if n < 0 then ⟨#[]⟩ else hexNB n) := by
  unfold impl_HexNum.f strconv_FormatInt.f
  by_cases h : n < 0
  · rw [if_pos h, if_pos h]
  · rw [if_neg h, if_neg h, if_pos (by omega)]
    rfl

end Go.Proofs.YtjldfmkpdkhnnaaDoor.Pure

namespace Go.Proofs.YtjldfmkpdkhnnaaDoor.Pure
set_option linter.unusedVariables false
set_option linter.unusedSimpArgs false
open Go.RowKit Go.Proofs.YtjldfmkpdkhnnaaDoor.QL Go.Proofs.YtjldfmkpdkhnnaaDoorW.PrintWords Go.Proofs.YtjldfmkpdkhnnaaDoorW.PrintLast Go.Proofs.YtjldfmkpdkhnnaaDoorW.PrintMore Go.Proofs.YtjldfmkpdkhnnaaDoor.Aux Go.Proofs.YtjldfmkpdkhnnaaDoor.Dom Go.Proofs.YtjldfmkpdkhnnaaDoor.Ext
/-- The texts that the pieces are put together of. -/
def chkP (sz : Nat) : Nat → ByteArray → List ByteArray
  | 0, _ => []
  | d + 1, s => if s.size = 0 then [] else hexNB (min sz s.size : Nat) :: ⟨#[13, 10]⟩ :: s.extract 0 (min sz s.size) :: ⟨#[13, 10]⟩ :: chkP sz d (s.extract (min sz s.size) s.size)
theorem joinB_nil_cons (x : ByteArray) (l : List ByteArray) : joinB ⟨#[]⟩ (x :: l) = x ++ joinB ⟨#[]⟩ l := by
  have key : ∀ (l : List ByteArray) (x : ByteArray), l.foldl (fun s v => s ++ ⟨#[]⟩ ++ v) x = x ++ l.foldl (fun s v => s ++ ⟨#[]⟩ ++ v) ⟨#[]⟩ := by
    intro l
    induction l with
    | nil => intro x; exact ByteArray.append_empty.symm
    | cons y l ih =>
      intro x
      have e1 : x ++ (⟨#[]⟩ : ByteArray) = x := ByteArray.append_empty
      have e2 : (⟨#[]⟩ : ByteArray) ++ (⟨#[]⟩ : ByteArray) = ⟨#[]⟩ := ByteArray.append_empty
      have e3 : (⟨#[]⟩ : ByteArray) ++ y = y := ByteArray.empty_append
      rw [List.foldl_cons, List.foldl_cons, e1, e2, e3, ih (x ++ y), ih y, ByteArray.append_assoc]
  cases l with
  | nil => exact ByteArray.append_empty.symm
  | cons y l =>
    have e1 : x ++ (⟨#[]⟩ : ByteArray) = x := ByteArray.append_empty
    rw [joinB, joinB, List.foldl_cons, e1, key l (x ++ y), key l y, ByteArray.append_assoc]
theorem joinB_nil_app : ∀ (a b : List ByteArray), joinB ⟨#[]⟩ (a ++ b) = joinB ⟨#[]⟩ a ++ joinB ⟨#[]⟩ b
  | [], b => (ByteArray.empty_append).symm
  | x :: a, b => by rw [List.cons_append, joinB_nil_cons, joinB_nil_cons, joinB_nil_app a b, ByteArray.append_assoc]
theorem chkP_join (sz : Nat) : ∀ (d : Nat) (s : ByteArray), joinB ⟨#[]⟩ (chkP sz d s) = chkL sz d s
  | 0, s => rfl
  | d + 1, s => by
    rw [chkP, chkL]
    split
    · rfl
    · rw [joinB_nil_cons, joinB_nil_cons, joinB_nil_cons, joinB_nil_cons, chkP_join sz d]
      simp only [ByteArray.append_assoc]
theorem chkL_size (sz : Nat) (h1 : 1 ≤ sz) : ∀ (d : Nat) (s : ByteArray), (chkL sz d s).size ≤ 100 * s.size
  | 0, s => Nat.zero_le _
  | d + 1, s => by
    have z1 : (⟨#[13, 10]⟩ : ByteArray).size = 2 := rfl
    rw [chkL]
    split
    · exact Nat.zero_le _
    · have hx := hexNB_size ((min sz s.size : Nat) : Int)
      have ih := chkL_size sz h1 d (s.extract (min sz s.size) s.size)
      have e1 : (s.extract 0 (min sz s.size)).size = min sz s.size := by rw [ByteArray.size_extract]; omega
      have e2 : (s.extract (min sz s.size) s.size).size = s.size - min sz s.size := by rw [ByteArray.size_extract]; omega
      rw [e2] at ih
      simp only [ByteArray.size_append, z1, e1]
      omega
theorem chkP_length (sz : Nat) (h1 : 1 ≤ sz) : ∀ (d : Nat) (s : ByteArray), (chkP sz d s).length ≤ 4 * s.size
  | 0, s => by simp [chkP]
  | d + 1, s => by
    rw [chkP]
    split
    · simp
    · have ih := chkP_length sz h1 d (s.extract (min sz s.size) s.size)
      have e2 : (s.extract (min sz s.size) s.size).size = s.size - min sz s.size := by rw [ByteArray.size_extract]; omega
      rw [e2] at ih
      simp only [List.length_cons]
      omega
theorem mn_casti (sz : Int) (n : Nat) (h : 1 ≤ sz) : mn sz (n : Int) = ((min sz.toNat n : Nat) : Int) := by
  unfold mn
  split <;> omega
theorem impl_Chunk_l0 (sz : Int) (h1 : 1 ≤ sz) (V : List ByteArray) (hV : V.length ≤ 100000000) (hW : (joinB ⟨#[]⟩ V).size ≤ 1000000000) : ∀ (d : Nat) (s : ByteArray) (out : List ByteArray), s.size < d → out ++ chkP sz.toNat d s ++ [⟨#[48]⟩, ⟨#[13, 10]⟩, ⟨#[13, 10]⟩] = V →
    Ev (fun k => impl_Chunk.l0 k s sz out) (joinB ⟨#[]⟩ V)
  | 0, s, out, hd, hv => by omega
  | d + 1, s, out, hd, hv => by
    have hvl := congrArg List.length hv
    simp only [List.length_append, List.length_cons, List.length_nil] at hvl
    by_cases h : s.size = 0
    · have hnil : s.toList = ([] : List UInt8) := (trim_nil s).2 (bytesOf_inj ((bytesOf_nil h).trans rfl))
      rw [chkP, if_pos h, List.append_nil] at hv
      refine ev_last fun k => ?_
      simp only [impl_Chunk.l0]
      rw [if_pos hnil, Option.bind_some, if_pos (by simp; omega), hv, strings_Join.f, if_pos ⟨by omega, by omega⟩]
      rfl
    · have hnil : ¬ s.toList = ([] : List UInt8) := fun e => h (by rw [(trim_nil s).1 e]; rfl)
      have hm : mn sz (s.size : Int) = ((min sz.toNat s.size : Nat) : Int) := mn_casti sz s.size h1
      have e2 : (s.extract (min sz.toNat s.size) s.size).size = s.size - min sz.toNat s.size := by rw [ByteArray.size_extract]; omega
      have hx := impl_HexNum_eq ((min sz.toNat s.size : Nat) : Int) (by
        rw [chkP, if_neg h] at hvl
        have : min sz.toNat s.size ≤ (joinB ⟨#[]⟩ V).size := by
          rw [← hv, chkP, if_neg h, joinB_nil_app, joinB_nil_app, joinB_nil_cons, joinB_nil_cons, joinB_nil_cons]
          simp only [ByteArray.size_append, ByteArray.size_extract]
          omega
        omega)
      rw [if_neg (by omega)] at hx
      rw [chkP, if_neg h] at hv
      refine Ev.step (f := fun k => impl_Chunk.l0 k (s.extract (min sz.toNat s.size) s.size) sz (out ++ [hexNB ((min sz.toNat s.size : Nat) : Int), ⟨#[13, 10]⟩, s.extract 0 (min sz.toNat s.size), ⟨#[13, 10]⟩])) (fun k => ?_) (impl_Chunk_l0 sz h1 V hV hW d _ _ (by omega) (by rw [← hv]; simp))
      simp only [impl_Chunk.l0]
      rw [if_neg hnil, hm, hx, Option.bind_some, if_pos (by omega), if_pos (by omega), Option.bind_some, Int.toNat_natCast, if_pos (by simp; omega)]
theorem impl_Chunk_ev (s : ByteArray) (sz : Int) (hs : s.size ≤ 8388608) : Ev (fun k => impl_Chunk.f k s sz) (chkB s sz) := by
  unfold chkB
  refine Ev.congr (fun k => by unfold impl_Chunk.f; rfl) (ev_ite (fun _ => Ev.now _) fun h => ?_)
  have h1 : 1 ≤ sz.toNat := by omega
  have q1 := chkP_length sz.toNat h1 (s.size + 1) s
  have q2 := chkL_size sz.toNat h1 (s.size + 1) s
  have e : joinB ⟨#[]⟩ ([] ++ chkP sz.toNat (s.size + 1) s ++ [⟨#[48]⟩, ⟨#[13, 10]⟩, ⟨#[13, 10]⟩]) = chkL sz.toNat (s.size + 1) s ++ ⟨#[48, 13, 10, 13, 10]⟩ := by
    rw [List.nil_append, joinB_nil_app, chkP_join]
    rfl
  refine ev_eq (impl_Chunk_l0 sz (by omega) _ (by simp; omega) ?_ (s.size + 1) s [] (by omega) rfl) e
  rw [e, ByteArray.size_append]
  have : (⟨#[48, 13, 10, 13, 10]⟩ : ByteArray).size = 5 := rfl
  omega

end Go.Proofs.YtjldfmkpdkhnnaaDoor.Pure

namespace Go.Proofs.YtjldfmkpdkhnnaaDoor.Pure
set_option linter.unusedVariables false
set_option linter.unusedSimpArgs false
open Go.RowKit Go.Proofs.YtjldfmkpdkhnnaaDoor.QL Go.Proofs.YtjldfmkpdkhnnaaDoorW.PrintWords Go.Proofs.YtjldfmkpdkhnnaaDoorW.PrintLast Go.Proofs.YtjldfmkpdkhnnaaDoorW.PrintMore Go.Proofs.YtjldfmkpdkhnnaaDoor.Aux Go.Proofs.YtjldfmkpdkhnnaaDoor.Dom Go.Proofs.YtjldfmkpdkhnnaaDoor.Ext
theorem impl_in_eq (a b c : Int) : impl_in.f a b c = some (decide (b ≤ a ∧ a ≤ c)) := by
  unfold impl_in.f
  by_cases h : a ≥ b
  · rw [if_pos h]; simp [show b ≤ a from h]
  · rw [if_neg h]; simp [show ¬ b ≤ a from h]

end Go.Proofs.YtjldfmkpdkhnnaaDoor.Pure

namespace Go.Proofs.YtjldfmkpdkhnnaaDoor.Pure
set_option linter.unusedVariables false
set_option linter.unusedSimpArgs false
open Go.RowKit Go.Proofs.YtjldfmkpdkhnnaaDoor.QL Go.Proofs.YtjldfmkpdkhnnaaDoorW.PrintWords Go.Proofs.YtjldfmkpdkhnnaaDoorW.PrintLast Go.Proofs.YtjldfmkpdkhnnaaDoorW.PrintMore Go.Proofs.YtjldfmkpdkhnnaaDoor.Aux Go.Proofs.YtjldfmkpdkhnnaaDoor.Dom Go.Proofs.YtjldfmkpdkhnnaaDoor.Ext
theorem strings_IndexByte_eq (s : ByteArray) (c : Int) (h0 : 0 ≤ c) (h1 : c < 256) : strings_IndexByte.f s c = some (idxB (bytesOf s) c) := by unfold strings_IndexByte.f; rw [if_pos ⟨h0, h1⟩]

end Go.Proofs.YtjldfmkpdkhnnaaDoor.Pure

namespace Go.Proofs.YtjldfmkpdkhnnaaDoor.Pure
set_option linter.unusedVariables false
set_option linter.unusedSimpArgs false
open Go.RowKit Go.Proofs.YtjldfmkpdkhnnaaDoor.QL Go.Proofs.YtjldfmkpdkhnnaaDoorW.PrintWords Go.Proofs.YtjldfmkpdkhnnaaDoorW.PrintLast Go.Proofs.YtjldfmkpdkhnnaaDoorW.PrintMore Go.Proofs.YtjldfmkpdkhnnaaDoor.Aux Go.Proofs.YtjldfmkpdkhnnaaDoor.Dom Go.Proofs.YtjldfmkpdkhnnaaDoor.Ext
theorem impl_hexdigit (c : Int) (h0 : 0 ≤ c) (h1 : c < 256) : strings_IndexByte.f (⟨#[48, 49, 50, 51, 52, 53, 54, 55, 56, 57, 97, 98, 99, 100, 101, 102]⟩ : ByteArray) c = some (idxB hexDs c) := strings_IndexByte_eq _ c h0 h1
theorem impl_hexV {c : Int} (h0 : 0 ≤ c) (h1 : c < 256) : hexV c = if 65 ≤ c ∧ c ≤ 70 then c - 55 else idxB hexDs c :=
  byte_all (P := fun c => hexV c = if 65 ≤ c ∧ c ≤ 70 then c - 55 else idxB hexDs c) (by decide +kernel) h0 h1
theorem impl_ReadHexNum_l0 (s : ByteArray) (hs : s.size ≤ 8388608) : ∀ (d : Nat) (n i : Int), 0 ≤ i → (s.size : Int) - i = d →
    Ev (fun k => impl_ReadHexNum.l0 k s n (s.size : Int) i) (bif (((bytesOf s).drop i.toNat).all fun c => decide (0 ≤ hexV c)) then (hexW n ((bytesOf s).drop i.toNat), true) else (0, false))
  | 0, n, i, h0, hd => by
    refine ev_last fun k => ?_
    simp only [impl_ReadHexNum.l0]
    rw [if_neg (by omega), drop_end (by omega)]
    simp [hexW]
  | d + 1, n, i, h0, hd => by
    have hb := bt_bound s i
    have hlt : i < (s.size : Int) := by omega
    have wi : wrap64 (i + 1) = i + 1 := wrap_id (by omega) (by omega)
    have hvv := impl_hexV hb.1 hb.2
    rw [drop_bt h0 hlt]
    simp only [List.all_cons, hexW]
    by_cases hd3 : 65 ≤ bt s i ∧ bt s i ≤ 70
    · rw [if_pos hd3] at hvv
      refine Ev.step (f := fun k => impl_ReadHexNum.j1 k s n i (idxB hexDs (bt s i)) (s.size : Int) i true) (fun k => ?_) (Ev.step (f := fun k => impl_ReadHexNum.l0 k s (wrap64 (n * 16 + hexV (bt s i))) (s.size : Int) (i + 1)) (fun k => ?_) (ev_eq (impl_ReadHexNum_l0 s hs d _ (i + 1) (by omega) (by omega)) (by rw [decide_eq_true (show 0 ≤ hexV (bt s i) by omega), Bool.true_and])))
      · simp only [impl_ReadHexNum.l0]
        rw [if_pos hlt, if_pos h0, if_pos hlt, impl_hexdigit _ hb.1 hb.2, Option.bind_some, if_pos (by omega), decide_eq_true (by omega)]
      · simp only [impl_ReadHexNum.j1]
        rw [if_pos trivial, if_pos h0, if_pos hlt, if_neg (by omega), wi, wrap_wrap, hvv, Int.emod_eq_of_lt (by omega) (by omega), show 16 * n + (bt s i - 65 + 10) = n * 16 + (bt s i - 55) by omega]
    · rw [if_neg hd3] at hvv
      have hj1 : ∀ k, impl_ReadHexNum.l0 (k + 1) s n (s.size : Int) i = impl_ReadHexNum.j1 k s n i (idxB hexDs (bt s i)) (s.size : Int) i false := by
        intro k
        simp only [impl_ReadHexNum.l0]
        rw [if_pos hlt, if_pos h0, if_pos hlt, impl_hexdigit _ hb.1 hb.2, Option.bind_some]
        by_cases h65 : bt s i ≥ 65
        · rw [if_pos h65, decide_eq_false (by omega)]
        · rw [if_neg h65]
      refine Ev.step hj1 ?_
      rw [hvv]
      by_cases hx : idxB hexDs (bt s i) < 0
      · refine ev_last fun k => ?_
        simp only [impl_ReadHexNum.j1]
        rw [if_neg (by decide), if_pos hx, decide_eq_false (by omega)]
        simp
      · refine Ev.step (f := fun k => impl_ReadHexNum.l0 k s (wrap64 (n * 16 + idxB hexDs (bt s i))) (s.size : Int) (i + 1)) (fun k => ?_) (ev_eq (impl_ReadHexNum_l0 s hs d _ (i + 1) (by omega) (by omega)) (by rw [decide_eq_true (show 0 ≤ idxB hexDs (bt s i) by omega), Bool.true_and]))
        simp only [impl_ReadHexNum.j1]
        rw [if_neg (by decide), if_neg hx, wi, wrap_wrap, show 16 * n + idxB hexDs (bt s i) = n * 16 + idxB hexDs (bt s i) by omega]
theorem impl_ReadHexNum_ev (s : ByteArray) (hs : s.size ≤ 8388608) : Ev (fun k => impl_ReadHexNum.f k s) (readHexP (bytesOf s)) := by
  refine Ev.congr (fun k => by unfold impl_ReadHexNum.f; rw [impl_in_eq, Option.bind_some]) ?_
  unfold readHexP
  rw [bytesOf_length]
  by_cases h : 1 ≤ (s.size : Int) ∧ (s.size : Int) ≤ 6
  · refine ev_if_pos (by simpa using h) (ev_eq (impl_ReadHexNum_l0 s hs s.size 0 0 (by omega) (by omega)) ?_)
    rw [decide_eq_true h, Bool.and_true]; rfl
  · refine ev_if_neg (by simpa using h) (ev_eq (Ev.now _) ?_)
    rw [decide_eq_false h, Bool.and_false]; rfl

end Go.Proofs.YtjldfmkpdkhnnaaDoor.Pure

namespace Go.Proofs.YtjldfmkpdkhnnaaDoor.Pure
set_option linter.unusedVariables false
set_option linter.unusedSimpArgs false
open Go.RowKit Go.Proofs.YtjldfmkpdkhnnaaDoor.QL Go.Proofs.YtjldfmkpdkhnnaaDoorW.PrintWords Go.Proofs.YtjldfmkpdkhnnaaDoorW.PrintLast Go.Proofs.YtjldfmkpdkhnnaaDoorW.PrintMore Go.Proofs.YtjldfmkpdkhnnaaDoor.Aux Go.Proofs.YtjldfmkpdkhnnaaDoor.Dom Go.Proofs.YtjldfmkpdkhnnaaDoor.Ext
theorem strings_Cut_eq (s sep : ByteArray) (hs : s.size ≤ 8388608) : strings_Cut.f s sep = some (strOfNums (cutL (bytesOf s) (bytesOf sep)).1, strOfNums (cutL (bytesOf s) (bytesOf sep)).2.1, (cutL (bytesOf s) (bytesOf sep)).2.2) := by unfold strings_Cut.f; rw [if_pos hs]

end Go.Proofs.YtjldfmkpdkhnnaaDoor.Pure

namespace Go.Proofs.YtjldfmkpdkhnnaaDoor.Pure
set_option linter.unusedVariables false
set_option linter.unusedSimpArgs false
open Go.RowKit Go.Proofs.YtjldfmkpdkhnnaaDoor.QL Go.Proofs.YtjldfmkpdkhnnaaDoorW.PrintWords Go.Proofs.YtjldfmkpdkhnnaaDoorW.PrintLast Go.Proofs.YtjldfmkpdkhnnaaDoorW.PrintMore Go.Proofs.YtjldfmkpdkhnnaaDoor.Aux Go.Proofs.YtjldfmkpdkhnnaaDoor.Dom Go.Proofs.YtjldfmkpdkhnnaaDoor.Ext
theorem impl_piece_ev (s : ByteArray) (hs : s.size ≤ 8388608) (ahead : Int) (h0 : 0 ≤ ahead) (h1 : ahead ≤ 60) : Ev (fun k => impl_piece.f k s ahead) (pieceP (bytesOf s) ahead) := by
  have hl := bytesOf_length s
  have hx := idxS_bound [13, 10] (bytesOf s)
  simp only [List.length_cons, List.length_nil] at hx
  refine Ev.congr (fun k => by unfold impl_piece.f; rw [strings_Cut_eq s _ hs, Option.bind_some]) ?_
  have eb : bytesOf (⟨#[13, 10]⟩ : ByteArray) = [13, 10] := by decide +kernel
  rw [eb]
  unfold cutL pieceP
  by_cases hi : idxS (bytesOf s) [13, 10] < 0
  · rw [if_neg (show ¬ 0 ≤ idxS (bytesOf s) [13, 10] by omega), if_pos hi]
    refine ev_if_neg (fun hh => by cases hh) ?_
    rw [hl]
    exact ev_ite (fun _ => Ev.now _) (fun _ => Ev.now _)
  · rw [if_pos (show 0 ≤ idxS (bytesOf s) [13, 10] by omega), if_neg hi]
    refine ev_if_pos rfl ?_
    simp only
    have hline : bytesOf (strOfNums ((bytesOf s).take (idxS (bytesOf s) [13, 10]).toNat)) = (bytesOf s).take (idxS (bytesOf s) [13, 10]).toNat := bytesOf_strOfNums fun c hc => bytesOf_range (List.mem_of_mem_take hc)
    have hrest : bytesOf (strOfNums ((bytesOf s).drop ((idxS (bytesOf s) [13, 10]).toNat + 2))) = (bytesOf s).drop ((idxS (bytesOf s) [13, 10]).toNat + 2) := bytesOf_strOfNums fun c hc => bytesOf_range (List.mem_of_mem_drop hc)
    have hh := impl_ReadHexNum_ev (strOfNums ((bytesOf s).take (idxS (bytesOf s) [13, 10]).toNat)) (by rw [strOfNums_size, List.length_take]; omega)
    rw [hline] at hh
    refine ev_bind hh ?_
    have hbd := @readHexP_bound ((bytesOf s).take (idxS (bytesOf s) [13, 10]).toNat)
    generalize readHexP ((bytesOf s).take (idxS (bytesOf s) [13, 10]).toNat) = h at hbd
    have hbad : ∀ k a b c, impl_piece.j0 (k + 1) a b c true = some ((⟨#[]⟩ : ByteArray), 0, 2) := fun k a b c => by simp only [impl_piece.j0]; rw [if_pos trivial]
    by_cases hok : h.2 = true
    · have hb := hbd hok
      refine ev_if_pos hok ?_
      rw [wrap_id (x := ahead + h.1) (by omega) (by omega)]
      by_cases h60 : ahead + h.1 > 60
      · rw [decide_eq_true h60, if_pos (fun hh => by omega)]
        exact ev_last fun k => hbad k _ _ _
      · rw [decide_eq_false h60, if_neg (fun hn => hn ⟨hok, by omega⟩)]
        have hl2 : (idxS (bytesOf s) [13, 10]).toNat + ([13, 10] : List Int).length = (idxS (bytesOf s) [13, 10]).toNat + 2 := rfl
        rw [hl2]
        have hsz : ((strOfNums ((bytesOf s).drop ((idxS (bytesOf s) [13, 10]).toNat + 2))).size : Int) = (((bytesOf s).drop ((idxS (bytesOf s) [13, 10]).toNat + 2)).length : Int) := by rw [strOfNums_size]
        have hlen : (((bytesOf s).drop ((idxS (bytesOf s) [13, 10]).toNat + 2)).length : Int) ≤ 8388608 := by rw [List.length_drop]; omega
        refine Ev.step (fun k => by simp only [impl_piece.j0]; rw [if_neg (by decide), hsz, wrap_id (x := h.1 + 2) (by omega) (by omega)]) ?_
        refine ev_ite (fun _ => Ev.now _) (fun h3 => ?_)
        refine Ev.congr (fun k => by rw [if_pos hb.1, if_pos (by omega), if_pos (by omega)]) ?_
        have hcmp : ((strOfNums ((bytesOf s).drop ((idxS (bytesOf s) [13, 10]).toNat + 2))).extract h.1.toNat (h.1 + 2).toNat).toList = ([13, 10] : List UInt8) ↔ (((bytesOf s).drop ((idxS (bytesOf s) [13, 10]).toNat + 2)).drop h.1.toNat).take 2 = [13, 10] := by
          rw [toList_lit, bytesOf_extract, hrest, List.drop_take, show (h.1 + 2).toNat - h.1.toNat = 2 by omega]
          rfl
        by_cases h4 : (((bytesOf s).drop ((idxS (bytesOf s) [13, 10]).toNat + 2)).drop h.1.toNat).take 2 = [13, 10]
        · rw [if_pos h4]
          refine ev_if_pos (hcmp.2 h4) (ev_if_pos (by omega) (ev_eq (Ev.now _) ?_))
          have e1 : (strOfNums ((bytesOf s).drop ((idxS (bytesOf s) [13, 10]).toNat + 2))).extract 0 h.1.toNat = strOfNums (((bytesOf s).drop ((idxS (bytesOf s) [13, 10]).toNat + 2)).take h.1.toNat) := by
            refine bytesOf_inj ?_
            rw [bytesOf_extract, hrest, bytesOf_strOfNums (fun c hc => bytesOf_range (List.mem_of_mem_drop (List.mem_of_mem_take hc)))]
            simp
          rw [e1, strOfNums_size, List.length_take, wrap_id (x := _ + h.1) (by omega) (by omega), wrap_id (by omega) (by omega)]
          congr 2
          omega
        · rw [if_neg h4]
          exact ev_if_neg (fun hh => h4 (hcmp.1 hh)) (Ev.now _)
    · rw [if_pos (fun hh => hok hh.1)]
      exact ev_if_neg hok (ev_last fun k => hbad k _ _ _)

end Go.Proofs.YtjldfmkpdkhnnaaDoor.Pure

namespace Go.Proofs.YtjldfmkpdkhnnaaDoor.Pure
set_option linter.unusedVariables false
set_option linter.unusedSimpArgs false
open Go.RowKit Go.Proofs.YtjldfmkpdkhnnaaDoor.QL Go.Proofs.YtjldfmkpdkhnnaaDoorW.PrintWords Go.Proofs.YtjldfmkpdkhnnaaDoorW.PrintLast Go.Proofs.YtjldfmkpdkhnnaaDoorW.PrintMore Go.Proofs.YtjldfmkpdkhnnaaDoor.Aux Go.Proofs.YtjldfmkpdkhnnaaDoor.Dom Go.Proofs.YtjldfmkpdkhnnaaDoor.Ext
theorem impl_Unchunk_l0 (s : ByteArray) (hs : s.size ≤ 8388608) : ∀ (d : Nat) (out : ByteArray) (i : Int), 0 ≤ i → i ≤ (s.size : Int) → (s.size : Int) - i < d → out.size ≤ 60 →
    Ev (fun k => impl_Unchunk.l0 k s out i) (unchP (bytesOf s) d out i)
  | 0, out, i, h0, h1, hd, ho => by omega
  | d + 1, out, i, h0, h1, hd, ho => by
    have hl := bytesOf_length s
    have he : bytesOf (s.extract i.toNat s.size) = (bytesOf s).drop i.toNat := by
      rw [bytesOf_extract, List.take_of_length_le (by omega)]
    have hp := impl_piece_ev (s.extract i.toNat s.size) (by rw [← bytesOf_length, he, List.length_drop]; omega) out.size (by omega) (by omega)
    rw [he] at hp
    refine Ev.step (fun k => by simp only [impl_Unchunk.l0]; rw [if_pos h0, if_pos h1]) (ev_bind hp ?_)
    rw [unchP]
    refine ev_ite (fun hc => ?_) (fun hc => Ev.now _)
    obtain ⟨q0, q1, q2, q3, q4⟩ := pieceP_ok hc (by omega)
    have hb := readHexP_bound q1
    rw [List.length_drop] at q3
    have e21 : (pieceP ((bytesOf s).drop i.toNat) out.size).2.1 = idxS ((bytesOf s).drop i.toNat) [13, 10] + (readHexP (((bytesOf s).drop i.toNat).take (idxS ((bytesOf s).drop i.toNat) [13, 10]).toNat)).1 + 4 := by rw [q4]
    have e1 : (pieceP ((bytesOf s).drop i.toNat) out.size).1.size = (readHexP (((bytesOf s).drop i.toNat).take (idxS ((bytesOf s).drop i.toNat) [13, 10]).toNat)).1.toNat := by
      rw [q4, strOfNums_size, List.length_take, List.length_drop, List.length_drop]
      omega
    rw [wrap_id (x := i + _) (by omega) (by omega)]
    by_cases hz : (pieceP ((bytesOf s).drop i.toNat) out.size).1 = ⟨#[]⟩
    · rw [if_pos hz]
      exact ev_if_pos ((toList_lit _ _).2 (by rw [hz]; rfl)) (Ev.now _)
    · rw [if_neg hz]
      refine ev_if_neg (fun hh => hz (bytesOf_inj (by rw [(toList_lit _ _).1 hh]; rfl))) (ev_if_pos (by omega) ?_)
      exact impl_Unchunk_l0 s hs d _ _ (by omega) (by omega) (by omega) (by rw [ByteArray.size_append]; omega)
theorem impl_Unchunk_ev (s : ByteArray) (hs : s.size ≤ 8388608) : Ev (fun k => impl_Unchunk.f k s) (unchunkP (bytesOf s)) := by
  have hl := bytesOf_length s
  have h := impl_Unchunk_l0 s hs (s.size + 1) ⟨#[]⟩ 0 (by omega) (by omega) (by omega) (by decide)
  unfold unchunkP
  rw [hl]
  exact h

end Go.Proofs.YtjldfmkpdkhnnaaDoor.Pure

namespace Go.Proofs.YtjldfmkpdkhnnaaDoor.Pure
set_option linter.unusedVariables false
set_option linter.unusedSimpArgs false
open Go.RowKit Go.Proofs.YtjldfmkpdkhnnaaDoor.QL Go.Proofs.YtjldfmkpdkhnnaaDoorW.PrintWords Go.Proofs.YtjldfmkpdkhnnaaDoorW.PrintLast Go.Proofs.YtjldfmkpdkhnnaaDoorW.PrintMore Go.Proofs.YtjldfmkpdkhnnaaDoor.Aux Go.Proofs.YtjldfmkpdkhnnaaDoor.Dom Go.Proofs.YtjldfmkpdkhnnaaDoor.Ext
theorem impl_FieldGet_l0 (l : List S49) (nm : ByteArray) (hl : l.length ≤ 1048576) (V : List ByteArray) (hV : (V.map fun v => v.size + 2).sum ≤ 8388608) (hW : V.length ≤ 1048576) : ∀ (d : Nat) (acc : List ByteArray) (i : Int), 0 ≤ i → (l.length : Int) - i = d → acc ++ getL nm ((l.drop i.toNat).map fun x => (x.f0, x.f1)) = V →
    Ev (fun k => impl_FieldGet.l0 k nm acc l (l.length : Int) i) (joinB ⟨#[44, 32]⟩ V, !V.isEmpty)
  | 0, acc, i, h0, hd, ha => by
    refine ev_last fun k => ?_
    simp only [impl_FieldGet.l0]
    rw [drop_nil (by omega)] at ha
    simp only [List.map_nil, getL, List.append_nil] at ha
    subst ha
    have hs : (joinB ⟨#[44, 32]⟩ acc).size ≤ (acc.map fun v => v.size + 2).sum := joinB_size ⟨#[44, 32]⟩ acc
    rw [if_neg (by omega), strings_Join.f, if_pos ⟨by omega, by omega⟩, Option.bind_some]
    cases acc <;> simp
  | d + 1, acc, i, h0, hd, ha => by
    have hlt : i < (l.length : Int) := by omega
    have hdrop : l.drop i.toNat = rd_T49 l i :: l.drop (i + 1).toNat := drop_rdOf (d := z49) h0 hlt
    rw [hdrop] at ha
    simp only [List.map_cons, getL] at ha
    by_cases h : (rd_T49 l i).f0 = nm
    · rw [if_pos h] at ha
      have hlen : acc.length < 8796093022208 := by
        have := congrArg List.length ha
        simp at this
        omega
      refine Ev.step (f := fun k => impl_FieldGet.l0 k nm (acc ++ [(rd_T49 l i).f1]) l (l.length : Int) (i + 1)) (fun k => ?_) (impl_FieldGet_l0 l nm hl V hV hW d (acc ++ [(rd_T49 l i).f1]) (i + 1) (by omega) (by omega) (by rw [← ha]; simp))
      simp only [impl_FieldGet.l0]
      rw [if_pos hlt, if_pos h0, if_pos hlt, if_pos (by rw [h]), if_pos hlen, wrap_id (by omega) (by omega)]
    · rw [if_neg h] at ha
      refine Ev.step (f := fun k => impl_FieldGet.l0 k nm acc l (l.length : Int) (i + 1)) (fun k => ?_) (impl_FieldGet_l0 l nm hl V hV hW d acc (i + 1) (by omega) (by omega) ha)
      simp only [impl_FieldGet.l0]
      rw [if_pos hlt, if_pos h0, if_pos hlt, if_neg (by rw [toList_eq_iff]; exact h), wrap_id (by omega) (by omega)]
theorem impl_FieldGet_ev (l : List S49) (nm : ByteArray) (hl : l.length ≤ 1048576) (hV : ((getL nm (l.map fun x => (x.f0, x.f1))).map fun v => v.size + 2).sum ≤ 8388608) : Ev (fun k => impl_FieldGet.f k l nm) (joinB ⟨#[44, 32]⟩ (getL nm (l.map fun x => (x.f0, x.f1))), !(getL nm (l.map fun x => (x.f0, x.f1))).isEmpty) := by
  have hW := getL_length nm (l.map fun x => (x.f0, x.f1))
  rw [List.length_map] at hW
  have h := impl_FieldGet_l0 l nm hl _ hV (by omega) l.length [] 0 (by omega) (by omega) (by simp)
  simpa [impl_FieldGet.f] using h

end Go.Proofs.YtjldfmkpdkhnnaaDoor.Pure

namespace Go.Proofs.YtjldfmkpdkhnnaaDoor.Pure
set_option linter.unusedVariables false
set_option linter.unusedSimpArgs false
open Go.RowKit Go.Proofs.YtjldfmkpdkhnnaaDoor.QL Go.Proofs.YtjldfmkpdkhnnaaDoorW.PrintWords Go.Proofs.YtjldfmkpdkhnnaaDoorW.PrintLast Go.Proofs.YtjldfmkpdkhnnaaDoorW.PrintMore Go.Proofs.YtjldfmkpdkhnnaaDoor.Aux Go.Proofs.YtjldfmkpdkhnnaaDoor.Dom Go.Proofs.YtjldfmkpdkhnnaaDoor.Ext
theorem impl_Lower_eq (s : ByteArray) (hs : s.size ≤ 8388608) : impl_Lower.f s = some (strOfNums ((bytesOf s).map lowC)) := by unfold impl_Lower.f; rw [if_pos hs]

end Go.Proofs.YtjldfmkpdkhnnaaDoor.Pure

namespace Go.Proofs.YtjldfmkpdkhnnaaDoor.Pure
set_option linter.unusedVariables false
set_option linter.unusedSimpArgs false
open Go.RowKit Go.Proofs.YtjldfmkpdkhnnaaDoor.QL Go.Proofs.YtjldfmkpdkhnnaaDoorW.PrintWords Go.Proofs.YtjldfmkpdkhnnaaDoorW.PrintLast Go.Proofs.YtjldfmkpdkhnnaaDoorW.PrintMore Go.Proofs.YtjldfmkpdkhnnaaDoor.Aux Go.Proofs.YtjldfmkpdkhnnaaDoor.Dom Go.Proofs.YtjldfmkpdkhnnaaDoor.Ext
theorem strconv_Atoi_short (s : ByteArray) (n : Int) (hs : s.size ≤ 18) (h : Lib.atoi s.data.toList = some n) : strconv_Atoi.f s = some (n, none) := by
  unfold strconv_Atoi.f
  rw [if_pos (by omega), Lib.atoiAll_short _ (by rw [← Lib.size_eq]; exact hs), h]
  rfl
theorem strconv_Atoi_nil : strconv_Atoi.f ⟨#[]⟩ = some (0, some 0) := rfl
theorem atoi_dig (ds : List Int) (hd : ds.all digC = true) (hne : ds ≠ []) : Lib.atoi (strOfNums ds).data.toList = some (valL 0 ds) := by
  have hr : bytesOf (strOfNums ds) = ds := bytesOf_strOfNums fun c hc => by
    have := digC_iff.1 (List.all_eq_true.1 hd c hc)
    omega
  have hm : ((strOfNums ds).data.toList.map fun b : UInt8 => (b.toNat : Int)) = ds := hr
  obtain ⟨m, h1, h2⟩ := decFrom_val (strOfNums ds).data.toList 0 (by rw [hm]; exact hd)
  rw [hm] at h2
  cases hl : (strOfNums ds).data.toList with
  | nil => rw [hl] at hm; exact absurd hm.symm hne
  | cons b r =>
    rw [hl] at hm h1
    have hb : digC (b.toNat : Int) = true := by
      rw [← hm] at hd
      rw [List.map_cons, List.all_cons, Bool.and_eq_true] at hd
      exact hd.1
    rw [digC_iff] at hb
    have n45 : (b == 45) = false := beq_eq_false_iff_ne.mpr fun e => by subst e; simp at hb
    have n43 : (b == 43) = false := beq_eq_false_iff_ne.mpr fun e => by subst e; simp at hb
    rw [Lib.atoi, if_neg (by rw [n45]; decide), if_neg (by rw [n43]; decide), Lib.decNat, if_neg (by simp), h1, Option.map_some, h2]
    rfl
theorem strconv_Atoi_dig (ds : List Int) (hd : ds.all digC = true) (hne : ds ≠ []) (hl : ds.length ≤ 18) : strconv_Atoi.f (strOfNums ds) = some (valL 0 ds, none) :=
  strconv_Atoi_short _ _ (by rw [strOfNums_size]; exact hl) (atoi_dig ds hd hne)
theorem strconv_Atoi_dec (ds : List Int) (hd : ds.all digC = true) (hl : ds.length ≤ 10) : strconv_Atoi.f ((⟨#[48]⟩ : ByteArray) ++ strOfNums ds) = some (valL 0 ds, none) := by
  have e : (⟨#[48]⟩ : ByteArray) ++ strOfNums ds = strOfNums (48 :: ds) := by
    rw [show (48 :: ds : List Int) = [48] ++ ds from rfl, strOfNums_append]
    rfl
  rw [e, strconv_Atoi_dig (48 :: ds) (by rw [List.all_cons, hd]; rfl) (by simp) (by simp; omega)]
  rfl
theorem valL_decL : ∀ (f : Nat) (n : Int) (acc : List Int), 0 ≤ n → n < 10 ^ f → valL 0 (decL f n acc) = valL n acc
  | 0, n, acc, h0, h => by
    have : n = 0 := by simp at h; omega
    subst this; rfl
  | f + 1, n, acc, h0, h => by
    rw [decL]
    split
    · rw [valL_decL f (n / 10) _ (by omega) (by rw [Int.pow_succ] at h; omega), valL]
      congr 1
      omega
    · have : n = 0 := by omega
      subst this; rfl
theorem decL_dig : ∀ (f : Nat) (n : Int) (acc : List Int), 0 ≤ n → acc.all digC = true → (decL f n acc).all digC = true
  | 0, n, acc, h0, h => h
  | f + 1, n, acc, h0, h => by
    rw [decL]
    split
    · refine decL_dig f (n / 10) _ (by omega) ?_
      rw [List.all_cons, h, Bool.and_true, digC_iff]
      omega
    · exact h
theorem decL_ne : ∀ (f : Nat) (n : Int) (acc : List Int), acc ≠ [] → decL f n acc ≠ []
  | 0, n, acc, h => h
  | f + 1, n, acc, h => by
    rw [decL]
    split
    · exact decL_ne f (n / 10) _ (by simp)
    · exact h
/-- A numeral's digits: all digits, some, they tell the number; at most nine of them where it is less than a thousand million. -/
theorem decL_facts {n : Int} (h0 : 0 < n) (h1 : n ≤ 999999999) : (decL 20 n []).all digC = true ∧ decL 20 n [] ≠ [] ∧ valL 0 (decL 20 n []) = n ∧ (decL 20 n []).length ≤ 9 := by
  have hp : (10 : Int) ^ 9 = 1000000000 := by decide
  have hp2 : (10 : Int) ^ 20 = 100000000000000000000 := by decide
  refine ⟨decL_dig 20 n [] (by omega) rfl, ?_, ?_, ?_⟩
  · rw [show (20 : Nat) = 19 + 1 from rfl, decL, if_pos (by omega)]
    exact decL_ne 19 _ _ (by simp)
  · rw [valL_decL 20 n [] (by omega) (by omega)]; rfl
  · rw [show (20 : Nat) = 9 + 11 from rfl, decL_more 11 9 n [] (by omega)]
    have := decL_length 9 n []
    simpa using this
theorem atoi_decB {n : Int} (h0 : -999999999 ≤ n) (h1 : n ≤ 999999999) : Lib.atoi (decB n).data.toList = some n := by
  unfold decB decP
  by_cases hz : n = 0
  · subst hz; rfl
  · rw [if_neg hz]
    by_cases hn : n < 0
    · rw [if_pos hn]
      obtain ⟨a1, a2, a3, a4⟩ := decL_facts (n := -n) (by omega) (by omega)
      generalize decL 20 (-n) [] = ds at a1 a2 a3 a4
      have hr : bytesOf (strOfNums ds) = ds := bytesOf_strOfNums fun c hc => by
        have := digC_iff.1 (List.all_eq_true.1 a1 c hc)
        omega
      have hm : ((strOfNums ds).data.toList.map fun b : UInt8 => (b.toNat : Int)) = ds := hr
      obtain ⟨m, h1, h2⟩ := decFrom_val (strOfNums ds).data.toList 0 (by rw [hm]; exact a1)
      rw [hm] at h2
      have e1 : (strOfNums (45 :: ds)).data.toList = 45 :: (strOfNums ds).data.toList := by
        rw [show (45 :: ds : List Int) = [45] ++ ds from rfl, strOfNums_append, ByteArray.data_append, Array.toList_append]
        rfl
      have hne : (strOfNums ds).data.toList.isEmpty = false := by
        cases hl : (strOfNums ds).data.toList with
        | nil => rw [hl] at hm; exact absurd hm.symm a2
        | cons b r => rfl
      rw [e1, Lib.atoi, if_pos (by decide), Lib.decNat, if_neg (by rw [hne]; decide), h1, Option.map_some, h2]
      congr 1
      have : ((0 : Nat) : Int) = 0 := rfl
      rw [this, a3]
      omega
    · rw [if_neg hn]
      obtain ⟨a1, a2, a3, a4⟩ := decL_facts (n := n) (by omega) (by omega)
      rw [atoi_dig _ a1 a2, a3]
theorem decB_size {n : Int} (h0 : -999999999 ≤ n) (h1 : n ≤ 999999999) : (decB n).size ≤ 10 := by
  unfold decB decP
  rw [strOfNums_size]
  by_cases hz : n = 0
  · rw [if_pos hz]; simp
  · rw [if_neg hz]
    by_cases hn : n < 0
    · rw [if_pos hn]
      have := (decL_facts (n := -n) (by omega) (by omega)).2.2.2
      simp; omega
    · rw [if_neg hn]
      have := (decL_facts (n := n) (by omega) (by omega)).2.2.2
      omega
theorem decB_inj {n m : Int} (h0 : -999999999 ≤ n) (h1 : n ≤ 999999999) (h2 : -999999999 ≤ m) (h3 : m ≤ 999999999) (h : decB n = decB m) : n = m := by
  have a := atoi_decB h0 h1
  rw [h, atoi_decB h2 h3] at a
  exact (Option.some.inj a).symm
open Classical in
/-- The number of nine digits at most whose numeral a text is. -/
noncomputable def decOf (s : ByteArray) : Option Int := if h : ∃ n, -999999999 ≤ n ∧ n ≤ 999999999 ∧ decB n = s then some h.choose else none
theorem decOf_some {s : ByteArray} {n : Int} (h0 : -999999999 ≤ n) (h1 : n ≤ 999999999) (h : decB n = s) : decOf s = some n := by
  have hx : ∃ n, -999999999 ≤ n ∧ n ≤ 999999999 ∧ decB n = s := ⟨n, h0, h1, h⟩
  unfold decOf
  rw [dif_pos hx]
  obtain ⟨a, b, c⟩ := hx.choose_spec
  exact congrArg some (decB_inj a b h0 h1 (c.trans h.symm))
theorem decOf_spec {s : ByteArray} {n : Int} (h : decOf s = some n) : -999999999 ≤ n ∧ n ≤ 999999999 ∧ decB n = s := by
  unfold decOf at h
  split at h
  · rename_i hx
    obtain rfl := Option.some.inj h
    exact hx.choose_spec
  · cases h
/-- What ReadDec tells. -/
noncomputable def readDecP (s : ByteArray) : Int × Bool := match decOf s with
  | some n => (n, true)
  | none => (0, false)

end Go.Proofs.YtjldfmkpdkhnnaaDoor.Pure

namespace Go.Proofs.YtjldfmkpdkhnnaaDoor.Pure
set_option linter.unusedVariables false
set_option linter.unusedSimpArgs false
open Go.RowKit Go.Proofs.YtjldfmkpdkhnnaaDoor.QL Go.Proofs.YtjldfmkpdkhnnaaDoorW.PrintWords Go.Proofs.YtjldfmkpdkhnnaaDoorW.PrintLast Go.Proofs.YtjldfmkpdkhnnaaDoorW.PrintMore Go.Proofs.YtjldfmkpdkhnnaaDoor.Aux Go.Proofs.YtjldfmkpdkhnnaaDoor.Dom Go.Proofs.YtjldfmkpdkhnnaaDoor.Ext
theorem impl_Seconds_l0 (s : ByteArray) (hs : s.size ≤ 8388608) (hA : (bytesOf s).all digC = true ∨ True) : ∀ (d : Nat) (i : Int), 0 ≤ i → (s.size : Int) - i = d → ((bytesOf s).take i.toNat).all digC = true →
    Ev (fun k => impl_Seconds.l0 k s (s.size : Int) i) (secP (bytesOf s))
  | 0, i, h0, hd, ht => by
    have hl := bytesOf_length s
    have hall : (bytesOf s).all digC = true := by rw [List.take_of_length_le (by omega)] at ht; exact ht
    refine Ev.step (fun k => by simp only [impl_Seconds.l0]; rw [if_neg (by omega)]) ?_
    unfold secP
    rw [if_pos hall, satV_eq _ 0 (by omega) (by omega) hall, ← valL_cut]
    by_cases he : s.toList = ([] : List UInt8)
    · have hb : bytesOf s = [] := by have := (toList_lit _ _).1 he; simpa using this
      refine ev_if_pos he (ev_eq (Ev.now _) ?_)
      rw [hb]
      rfl
    · have hne : 0 < (bytesOf s).length := by
        rcases Nat.eq_zero_or_pos (bytesOf s).length with h | h
        · exact absurd ((toList_lit _ _).2 (by rw [List.eq_nil_of_length_eq_zero h]; rfl)) he
        · exact h
      rw [decide_eq_true hne]
      have htl : strings_TrimLeft.f s (⟨#[48]⟩ : ByteArray) = some (strOfNums (cutC 48 (bytesOf s))) := by unfold strings_TrimLeft.f; rw [if_pos rfl]
      refine ev_if_neg he (ev_bind (ev_some fun _ => htl) ?_)
      have hca := cutC_all hall
      by_cases h10 : 10 < (cutC 48 (bytesOf s)).length
      · refine ev_if_pos (by rw [strOfNums_size]; omega) (ev_eq (Ev.now _) ?_)
        rw [mn_ge (cutC_big hall h10)]
      · refine ev_if_neg (by rw [strOfNums_size]; omega) (ev_if_pos (by rw [strOfNums_size]; omega) ?_)
        exact ev_bind (ev_some fun _ => strconv_Atoi_dec _ hca (by omega)) (Ev.now _)
  | d + 1, i, h0, hd, ht => by
    have hlt : i < (s.size : Int) := by omega
    have hl := bytesOf_length s
    have hmem : bt s i ∈ bytesOf s := List.mem_of_mem_drop (i := i.toNat) (by rw [drop_bt h0 hlt]; exact List.mem_cons_self)
    by_cases h1 : digC (bt s i) = true
    · have h2 := digC_iff.1 h1
      refine Ev.step (f := fun k => impl_Seconds.l0 k s (s.size : Int) (i + 1)) (fun k => ?_) (impl_Seconds_l0 s hs hA d (i + 1) (by omega) (by omega) ?_)
      · simp only [impl_Seconds.l0]
        rw [if_pos hlt, if_pos h0, if_pos hlt, if_neg (by omega), if_neg (by omega), wrap_id (by omega) (by omega)]
      · have e : (bytesOf s).take (i + 1).toNat = (bytesOf s).take i.toNat ++ [bt s i] := by
          have h3 := List.take_append_drop i.toNat ((bytesOf s).take (i + 1).toNat)
          rw [List.take_take, Nat.min_eq_left (by omega), List.drop_take, drop_bt h0 hlt, show (i + 1).toNat - i.toNat = 1 by omega] at h3
          rw [← h3]
          rfl
        rw [e, List.all_append, ht, List.all_cons, h1]
        rfl
    · have hn : ¬ (bytesOf s).all digC = true := fun h => h1 (List.all_eq_true.1 h _ hmem)
      unfold secP
      rw [if_neg hn]
      rw [digC_iff] at h1
      refine ev_last fun k => ?_
      simp only [impl_Seconds.l0]
      rw [if_pos hlt, if_pos h0, if_pos hlt]
      by_cases h3 : bt s i < 48
      · rw [if_pos h3]
      · rw [if_neg h3, if_pos (by omega)]
theorem impl_Seconds_ev (s : ByteArray) (hs : s.size ≤ 8388608) : Ev (fun k => impl_Seconds.f k s) (secP (bytesOf s)) :=
  impl_Seconds_l0 s hs (.inr trivial) s.size 0 (by omega) (by omega) (by simp)

end Go.Proofs.YtjldfmkpdkhnnaaDoor.Pure

namespace Go.Proofs.YtjldfmkpdkhnnaaDoor.Pure
set_option linter.unusedVariables false
set_option linter.unusedSimpArgs false
open Go.RowKit Go.Proofs.YtjldfmkpdkhnnaaDoor.QL Go.Proofs.YtjldfmkpdkhnnaaDoorW.PrintWords Go.Proofs.YtjldfmkpdkhnnaaDoorW.PrintLast Go.Proofs.YtjldfmkpdkhnnaaDoorW.PrintMore Go.Proofs.YtjldfmkpdkhnnaaDoor.Aux Go.Proofs.YtjldfmkpdkhnnaaDoor.Dom Go.Proofs.YtjldfmkpdkhnnaaDoor.Ext
theorem impl_BodyOf_ev (l : List S49) (s : ByteArray) (c : Bool) (hl : l.length ≤ 1048576) (hz : ¬ szF 1048576 (l.map fun x => (x.f0, x.f1)) < 0) (hs : s.size ≤ 8388608) : Ev (fun k => impl_BodyOf.f k l s c) (bodyP (l.map fun x => (x.f0, x.f1)) s c) := by
  have q1 := szF_sum nmTE (by omega) hz
  have q2 := szF_sum nmCL (by omega) hz
  have j1 := joinG_size nmTE _ (by omega) hz
  have j2 := joinG_size nmCL _ (by omega) hz
  have lw : impl_Lower.f (joinG nmTE (l.map fun x => (x.f0, x.f1))) = some (lowB (joinG nmTE (l.map fun x => (x.f0, x.f1)))) := impl_Lower_eq _ (by omega)
  have sc := impl_Seconds_ev (joinG nmCL (l.map fun x => (x.f0, x.f1))) (by omega)
  refine Ev.congr (fun k => by unfold impl_BodyOf.f; rfl) (ev_bind (impl_FieldGet_ev l nmTE hl (by omega)) (ev_bind (impl_FieldGet_ev l nmCL hl (by omega)) ?_))
  unfold bodyP
  refine ev_ite (fun h1 => ?_) (fun h1 => ?_)
  · refine ev_bind (ev_some fun _ => lw) ?_
    by_cases h2 : lowB (joinG nmTE (l.map fun x => (x.f0, x.f1))) = chunkedW
    · rw [if_pos h2]
      refine ev_if_pos ((chunked_lit _).2 h2) (ev_ite (fun h3 => Ev.now _) (fun h3 => ?_))
      exact ev_bind (impl_Unchunk_ev s hs) (Ev.now _)
    · rw [if_neg h2]
      exact ev_if_neg (fun h => h2 ((chunked_lit _).1 h)) (Ev.now _)
  · refine ev_ite (fun h2 => ?_) (fun h2 => ?_)
    · refine ev_bind sc ?_
      have hb := secP_bd (bytesOf (joinG nmCL (l.map fun x => (x.f0, x.f1))))
      generalize secP (bytesOf (joinG nmCL (l.map fun x => (x.f0, x.f1)))) = q at hb ⊢
      obtain ⟨n, b⟩ := q
      simp only at hb
      unfold lenP
      cases b with
      | false =>
        refine ev_if_neg (fun h => by cases h) (ev_last fun k => ?_)
        simp only [impl_BodyOf.j0]
        rw [if_pos (by trivial), if_neg (fun h => by cases h.1)]
      | true =>
        refine ev_if_pos rfl (ev_last fun k => ?_)
        simp only [impl_BodyOf.j0]
        by_cases h3 : n > 60
        · rw [if_pos (decide_eq_true h3), if_neg (fun h => by omega)]
        · rw [if_neg (by rw [decide_eq_false h3]; decide), if_pos (c := True ∧ n ≤ 60) ⟨trivial, by omega⟩]
          by_cases h4 : (s.size : Int) < n
          · rw [if_pos h4, if_pos h4]
          · rw [if_neg h4, if_neg h4, if_pos hb.1, if_pos (by omega)]
    · exact ev_ite (fun h3 => ev_ite (fun h4 => Ev.now _) (fun h4 => Ev.now _)) (fun h3 => Ev.now _)

end Go.Proofs.YtjldfmkpdkhnnaaDoor.Pure

namespace Go.Proofs.YtjldfmkpdkhnnaaDoor.Pure
set_option linter.unusedVariables false
set_option linter.unusedSimpArgs false
open Go.RowKit Go.Proofs.YtjldfmkpdkhnnaaDoor.QL Go.Proofs.YtjldfmkpdkhnnaaDoorW.PrintWords Go.Proofs.YtjldfmkpdkhnnaaDoorW.PrintLast Go.Proofs.YtjldfmkpdkhnnaaDoorW.PrintMore Go.Proofs.YtjldfmkpdkhnnaaDoor.Aux Go.Proofs.YtjldfmkpdkhnnaaDoor.Dom Go.Proofs.YtjldfmkpdkhnnaaDoor.Ext
theorem spec_Dec_pos : ∀ (d : Nat) (n : Int) (acc : List Int), 0 ≤ n → n ≤ 9223372036854775807 → n < 10 ^ d → acc.length + d ≤ 100 → Ev (fun k => spec_Dec.l0 k n (strOfNums acc) false) (strOfNums (decL d n acc))
  | 0, n, acc, h0, h1, hn, ha => by
    refine ev_last fun k => ?_
    simp only [spec_Dec.l0]
    rw [if_pos (by simp at hn; omega), if_neg (by decide)]
    rfl
  | d + 1, n, acc, h0, h1, hn, ha => by
    by_cases h : n > 0
    · refine Ev.step (f := fun k => spec_Dec.l0 k (n / 10) (strOfNums ((48 + n % 10) :: acc)) false) (fun k => ?_) (ev_eq (spec_Dec_pos d (n / 10) _ (by omega) (by omega) (by rw [Int.pow_succ] at hn; omega) (by simp; omega)) (by rw [decL, if_pos h]))
      simp only [spec_Dec.l0, Option.bind_some]
      rw [if_neg (by omega), Int.tmod_eq_emod_of_nonneg (by omega), Int.tdiv_eq_ediv_of_nonneg (by omega), if_neg (by omega), if_pos (by rw [strOfNums_size, strOfNums_size]; simp; omega), wrap_id (x := 48 + n % 10) (by omega) (by omega), wrap_id (by omega) (by omega), Int.emod_eq_of_lt (a := 48 + n % 10) (by omega) (by omega), ← strOfNums_append]
      rfl
    · refine ev_last fun k => ?_
      simp only [spec_Dec.l0]
      rw [if_pos (by omega), if_neg (by decide), decL, if_neg h]
theorem spec_Dec_neg : ∀ (d : Nat) (n : Int) (acc : List Int), 0 ≤ n → n ≤ 9223372036854775808 → n < 10 ^ d → acc.length + d ≤ 100 → Ev (fun k => spec_Dec.l0 k (-n) (strOfNums acc) true) (strOfNums (45 :: decL d n acc))
  | 0, n, acc, h0, h1, hn, ha => by
    refine ev_last fun k => ?_
    simp only [spec_Dec.l0]
    rw [if_pos (by simp at hn; omega), if_pos (by trivial), if_pos (by rw [strOfNums_size]; omega)]
    rw [show (45 :: decL 0 n acc : List Int) = [45] ++ acc from rfl, strOfNums_append]
    rfl
  | d + 1, n, acc, h0, h1, hn, ha => by
    by_cases h : n > 0
    · refine Ev.step (f := fun k => spec_Dec.l0 k (-(n / 10)) (strOfNums ((48 + n % 10) :: acc)) true) (fun k => ?_) (ev_eq (spec_Dec_neg d (n / 10) _ (by omega) (by omega) (by rw [Int.pow_succ] at hn; omega) (by simp; omega)) (by rw [decL, if_pos h]))
      simp only [spec_Dec.l0, Option.bind_some]
      rw [if_neg (by omega), Int.neg_tmod, Int.neg_tdiv, Int.tmod_eq_emod_of_nonneg (by omega), Int.tdiv_eq_ediv_of_nonneg (by omega)]
      by_cases hr : -(n % 10) < 0
      · rw [if_pos hr, if_pos (by rw [strOfNums_size, strOfNums_size]; simp; omega), Int.neg_neg, wrap_id (x := n % 10) (by omega) (by omega), wrap_id (x := 48 + n % 10) (by omega) (by omega), wrap_id (by omega) (by omega), Int.emod_eq_of_lt (a := 48 + n % 10) (by omega) (by omega), ← strOfNums_append]
        rfl
      · have hr0 : n % 10 = 0 := by omega
        rw [if_neg hr, if_pos (by rw [strOfNums_size, strOfNums_size]; simp; omega), hr0, wrap_id (x := -(n / 10)) (by omega) (by omega), ← strOfNums_append, show (wrap64 (48 + -0) % 256 : Int) = 48 + 0 by rw [wrap_id (by omega) (by omega)]; omega]
        rfl
    · refine ev_last fun k => ?_
      simp only [spec_Dec.l0]
      rw [if_pos (by omega), if_pos (by trivial), if_pos (by rw [strOfNums_size]; omega), decL, if_neg h]
      rw [show (45 :: acc : List Int) = [45] ++ acc from rfl, strOfNums_append]
      rfl
theorem spec_Dec_ev (n : Int) (h0 : -9223372036854775808 ≤ n) (h1 : n ≤ 9223372036854775807) : Ev (fun k => spec_Dec.f k n) (decB n) := by
  have hp : (10 : Int) ^ 20 = 100000000000000000000 := by decide
  unfold decB decP
  by_cases hz : n = 0
  · rw [if_pos hz]
    exact ev_some fun k => by unfold spec_Dec.f; rw [if_pos hz]; rfl
  · rw [if_neg hz]
    refine Ev.congr (fun k => by unfold spec_Dec.f; rw [if_neg hz]) ?_
    by_cases hn : n < 0
    · rw [if_pos hn, decide_eq_true hn]
      have h := spec_Dec_neg 20 (-n) [] (by omega) (by omega) (by rw [hp]; omega) (by simp)
      rw [Int.neg_neg] at h
      exact h
    · rw [if_neg hn, decide_eq_false hn]
      exact spec_Dec_pos 20 n [] (by omega) (by omega) (by rw [hp]; omega) (by simp)

end Go.Proofs.YtjldfmkpdkhnnaaDoor.Pure

namespace Go.Proofs.YtjldfmkpdkhnnaaDoor.Pure
set_option linter.unusedVariables false
set_option linter.unusedSimpArgs false
open Go.RowKit Go.Proofs.YtjldfmkpdkhnnaaDoor.QL Go.Proofs.YtjldfmkpdkhnnaaDoorW.PrintWords Go.Proofs.YtjldfmkpdkhnnaaDoorW.PrintLast Go.Proofs.YtjldfmkpdkhnnaaDoorW.PrintMore Go.Proofs.YtjldfmkpdkhnnaaDoor.Aux Go.Proofs.YtjldfmkpdkhnnaaDoor.Dom Go.Proofs.YtjldfmkpdkhnnaaDoor.Ext
/-! Bodies in pieces that are read again. No program in sight. -/
def hexK (c : Int) : Prop := 0 ≤ hexV c ∧ c ≠ 13 ∧ 0 ≤ c ∧ c < 256
theorem hexK_hxn {c : Int} (h0 : 0 ≤ c) (h1 : c < 16) : hexK (hxn c) ∧ hexV (hxn c) = c := by
  have : c = 0 ∨ c = 1 ∨ c = 2 ∨ c = 3 ∨ c = 4 ∨ c = 5 ∨ c = 6 ∨ c = 7 ∨ c = 8 ∨ c = 9 ∨ c = 10 ∨ c = 11 ∨ c = 12 ∨ c = 13 ∨ c = 14 ∨ c = 15 := by omega
  unfold hexK
  rcases this with rfl | rfl | rfl | rfl | rfl | rfl | rfl | rfl | rfl | rfl | rfl | rfl | rfl | rfl | rfl | rfl <;> decide
theorem hexA_k : ∀ (f : Nat) (u : Int) (acc : List Int), 0 ≤ u → (∀ c ∈ acc, hexK c) → ∀ c ∈ hexA f u acc, hexK c
  | 0, u, acc, h0, h => h
  | f + 1, u, acc, h0, h => by
    rw [hexA]
    split
    · refine hexA_k f (u / 16) _ (by omega) (fun c hc => ?_)
      rcases List.mem_cons.1 hc with rfl | hc
      · exact (hexK_hxn (by omega) (by omega)).1
      · exact h c hc
    · intro c hc
      rcases List.mem_cons.1 hc with rfl | hc
      · exact (hexK_hxn (by omega) (by omega)).1
      · exact h c hc
theorem hexW_hexA : ∀ (f : Nat) (u : Int) (acc : List Int), 0 ≤ u → u < 16 ^ f → u ≤ 16777215 → hexW 0 (hexA f u acc) = hexW u acc
  | 0, u, acc, h0, h1, h2 => by
    have : u = 0 := by simp at h1; omega
    rw [this]
    rfl
  | f + 1, u, acc, h0, h1, h2 => by
    rw [hexA]
    split
    · rw [hexW_hexA f (u / 16) _ (by omega) (by rw [Int.pow_succ] at h1; omega) (by omega), hexW, (hexK_hxn (c := u % 16) (by omega) (by omega)).2, wrap_id (by omega) (by omega), show u / 16 * 16 + u % 16 = u by omega]
    · rw [hexW, (hexK_hxn (c := u) (by omega) (by omega)).2, wrap_id (by omega) (by omega), show (0 : Int) * 16 + u = u by omega]
theorem hexA_len : ∀ (f j : Nat) (u : Int) (acc : List Int), 0 ≤ u → u < 16 ^ (j + 1) → (hexA f u acc).length ≤ j + 1 + acc.length
  | 0, j, u, acc, h0, h1 => by rw [hexA]; omega
  | f + 1, 0, u, acc, h0, h1 => by
    rw [hexA, if_neg (by simp at h1; omega), List.length_cons]
    omega
  | f + 1, j + 1, u, acc, h0, h1 => by
    rw [hexA]
    split
    · have := hexA_len f j (u / 16) (hxn (u % 16) :: acc) (by omega) (by rw [Int.pow_succ] at h1; omega)
      rw [List.length_cons] at this
      omega
    · rw [List.length_cons]
      omega
theorem hexA_pos : ∀ (f : Nat) (u : Int) (acc : List Int), acc.length + 1 ≤ (hexA (f + 1) u acc).length
  | 0, u, acc => by
    rw [hexA]
    split
    · rw [hexA, List.length_cons]
      omega
    · rw [List.length_cons]
      omega
  | f + 1, u, acc => by
    rw [hexA]
    split
    · have := hexA_pos f (u / 16) (hxn (u % 16) :: acc)
      rw [List.length_cons] at this
      omega
    · rw [List.length_cons]
      omega
theorem hexNB_bytes {n : Int} (h0 : 0 ≤ n) : bytesOf (hexNB n) = hexA 16 n [] := bytesOf_strOfNums fun c hc => (hexA_k 16 n [] h0 (fun c hc => by cases hc) c hc).2.2
theorem hexNB_no {n : Int} (h0 : 0 ≤ n) : ∀ c ∈ bytesOf (hexNB n), c ≠ 13 := by
  rw [hexNB_bytes h0]
  exact fun c hc => (hexA_k 16 n [] h0 (fun c hc => by cases hc) c hc).2.1
theorem readHexP_hex {n : Int} (h0 : 0 ≤ n) (h1 : n ≤ 16777215) : readHexP (bytesOf (hexNB n)) = (n, true) := by
  rw [hexNB_bytes h0]
  unfold readHexP
  have a : ((hexA 16 n []).all fun c => decide (0 ≤ hexV c)) = true := by
    rw [List.all_eq_true]
    exact fun c hc => decide_eq_true (hexA_k 16 n [] h0 (fun c hc => by cases hc) c hc).1
  have b1 := hexA_len 16 5 n [] h0 (by omega)
  have b2 : ([] : List Int).length + 1 ≤ (hexA 16 n []).length := hexA_pos 15 n []
  rw [List.length_nil] at b1 b2
  have b : decide (1 ≤ ((hexA 16 n []).length : Int) ∧ ((hexA 16 n []).length : Int) ≤ 6) = true := decide_eq_true (by omega)
  rw [a, b, hexW_hexA 16 n [] h0 (by omega) h1]
  rfl
theorem idxS_at (r : List Int) : ∀ (H : List Int), (∀ c ∈ H, c ≠ 13) → idxS (H ++ 13 :: 10 :: r) [13, 10] = H.length
  | [], _ => by
    rw [List.nil_append, idxS_crlf, if_pos ⟨rfl, rfl⟩]
    rfl
  | [a], h => by
    have ha := h a List.mem_cons_self
    have e := idxS_at r [] (fun c hc => by cases hc)
    rw [List.nil_append] at e
    rw [List.singleton_append, idxS_crlf, if_neg (fun x => ha x.1), e]
    rfl
  | a :: b :: H, h => by
    have ha := h a List.mem_cons_self
    have e := idxS_at r (b :: H) (fun c hc => h c (List.mem_cons_of_mem _ hc))
    rw [List.cons_append] at e
    rw [List.cons_append, List.cons_append, idxS_crlf, if_neg (fun x => ha x.1), e, if_neg (by omega), List.length_cons, List.length_cons, List.length_cons]
    omega
theorem idxS_no (t : List Int) (ht : t.length ≤ 1) : ∀ (H : List Int), (∀ c ∈ H, c ≠ 13) → idxS (H ++ t) [13, 10] = -1
  | [], _ => idxS_short (by simpa using ht)
  | [a], h => by
    have ha := h a List.mem_cons_self
    cases t with
    | nil => exact idxS_short (by simp)
    | cons b t =>
      have e := idxS_short (l := b :: t) ht
      rw [List.singleton_append, idxS_crlf, if_neg (fun x => ha x.1), e, if_pos rfl]
  | a :: b :: H, h => by
    have ha := h a List.mem_cons_self
    have e := idxS_no t ht (b :: H) (fun c hc => h c (List.mem_cons_of_mem _ hc))
    rw [List.cons_append] at e
    rw [List.cons_append, List.cons_append, idxS_crlf, if_neg (fun x => ha x.1), e, if_pos rfl]
theorem hexNB_two (n : Nat) (hn : n ≤ 60) : 1 ≤ (bytesOf (hexNB n)).length ∧ (bytesOf (hexNB n)).length ≤ 2 := by
  have b1 := hexA_len 16 1 n [] (by omega) (by omega)
  have b2 : ([] : List Int).length + 1 ≤ (hexA 16 n []).length := hexA_pos 15 n []
  rw [List.length_nil] at b1 b2
  rw [hexNB_bytes (by omega)]
  omega
/-- A piece: its bytes behind the line that tells how many. -/
def pieL (n : Nat) (x r : List Int) : List Int := bytesOf (hexNB n) ++ 13 :: 10 :: (x ++ 13 :: 10 :: r)
theorem pieL_length (n : Nat) (x r : List Int) : (pieL n x r).length = (bytesOf (hexNB n)).length + x.length + 4 + r.length := by
  unfold pieL
  simp only [List.length_append, List.length_cons]
  omega
theorem line_take (H r : List Int) : (H ++ 13 :: 10 :: r).take ((H.length : Nat) : Int).toNat = H := by rw [Int.toNat_natCast, List.take_left]
theorem line_drop (H r : List Int) : (H ++ 13 :: 10 :: r).drop (((H.length : Nat) : Int).toNat + 2) = r := by
  rw [Int.toNat_natCast, List.drop_append, List.drop_of_length_le (by omega), show H.length + 2 - H.length = 2 by omega]
  rfl
theorem piece_ok (n : Nat) (x r : List Int) (ahead : Int) (hx : x.length = n) (ha : 0 ≤ ahead) (h60 : ahead + n ≤ 60) : pieceP (pieL n x r) ahead = (strOfNums x, ((bytesOf (hexNB n)).length : Int) + n + 4, 0) := by
  have e := idxS_at (x ++ 13 :: 10 :: r) (bytesOf (hexNB n)) (hexNB_no (by omega))
  unfold pieceP pieL
  rw [e, if_neg (by omega)]
  simp only [line_take, line_drop]
  rw [readHexP_hex (by omega) (by omega)]
  simp only
  rw [if_neg (fun h => h ⟨trivial, h60⟩), if_neg (by simp only [List.length_append, List.length_cons]; omega), Int.toNat_natCast, List.drop_append, List.drop_of_length_le (by omega), hx, Nat.sub_self, if_pos (by rfl), ← hx, List.take_left]
theorem piece_more (n : Nat) (x r : List Int) (ahead : Int) (j : Nat) (hx : x.length = n) (ha : 0 ≤ ahead) (h60 : ahead + n ≤ 60) (hj : j < (bytesOf (hexNB n)).length + n + 4) : pieceP ((pieL n x r).take j) ahead = (⟨#[]⟩, 0, 1) := by
  obtain ⟨l1, l2⟩ := hexNB_two n (by omega)
  have hno : ∀ c ∈ bytesOf (hexNB n), c ≠ 13 := hexNB_no (by omega)
  generalize hH : bytesOf (hexNB n) = H at l1 l2 hno hj
  have short : ∀ q : List Int, idxS q [13, 10] = -1 → q.length ≤ 8 → pieceP q ahead = (⟨#[]⟩, 0, 1) := by
    intro q hq hl
    unfold pieceP
    rw [hq, if_pos (by omega), if_pos (by omega)]
  unfold pieL
  rw [hH, List.take_append]
  by_cases h1 : j ≤ H.length
  · rw [show j - H.length = 0 by omega, List.take_zero]
    exact short _ (idxS_no [] (by simp) _ (fun c hc => hno c (List.mem_of_mem_take hc))) (by simp; omega)
  · rw [List.take_of_length_le (by omega)]
    by_cases h2 : j = H.length + 1
    · rw [show j - H.length = 1 by omega]
      exact short _ (idxS_no _ (by simp) _ hno) (by simp; omega)
    · obtain ⟨q, hq⟩ : ∃ q, j - H.length = q + 2 := ⟨j - H.length - 2, by omega⟩
      rw [hq, List.take_succ_cons, List.take_succ_cons]
      have e := idxS_at ((x ++ 13 :: 10 :: r).take q) H hno
      unfold pieceP
      rw [e, if_neg (by omega)]
      simp only [line_take, line_drop]
      rw [← hH, readHexP_hex (by omega) (by omega)]
      simp only
      rw [if_neg (fun h => h ⟨trivial, h60⟩), if_pos (by rw [List.length_take]; omega)]
theorem chkL_pie (sz d : Nat) (s : ByteArray) (hs : s.size ≠ 0) (t : List Int) : bytesOf (chkL sz (d + 1) s) ++ t = pieL (min sz s.size) (bytesOf (s.extract 0 (min sz s.size))) (bytesOf (chkL sz d (s.extract (min sz s.size) s.size)) ++ t) := by
  rw [chkL, if_neg hs]
  unfold pieL
  simp only [bytesOf_append, List.append_assoc]
  rfl
theorem size_nil {s : ByteArray} (h : s.size = 0) : s = ⟨#[]⟩ := bytesOf_inj (by rw [bytesOf_nil h]; rfl)
theorem ext_len (s : ByteArray) (m : Nat) (h : m ≤ s.size) : (bytesOf (s.extract 0 m)).length = m := by
  rw [bytesOf_length, ByteArray.size_extract]
  omega
theorem ext_join (s : ByteArray) (m : Nat) : s.extract 0 m ++ s.extract m s.size = s := by
  refine bytesOf_inj ?_
  rw [bytesOf_append, bytesOf_extract, bytesOf_extract, List.drop_zero, ← bytesOf_length, List.take_length, List.take_append_drop]
theorem pie_drop (n : Nat) (x r : List Int) (hx : x.length = n) : (pieL n x r).drop ((bytesOf (hexNB n)).length + n + 4) = r := by
  have e : pieL n x r = (bytesOf (hexNB n) ++ 13 :: 10 :: (x ++ [13, 10])) ++ r := by
    unfold pieL
    simp
  rw [e, List.drop_left' (by simp; omega)]
theorem pie_take (n : Nat) (x r : List Int) (j : Nat) (hx : x.length = n) : (pieL n x r).take ((bytesOf (hexNB n)).length + n + 4 + j) = pieL n x (r.take j) := by
  have e : ∀ q, pieL n x q = (bytesOf (hexNB n) ++ 13 :: 10 :: (x ++ [13, 10])) ++ q := by
    intro q
    unfold pieL
    simp
  rw [e, e, List.take_append, List.take_of_length_le (by simp; omega)]
  congr 2
  simp
  omega
theorem end_pie (t : List Int) : (48 :: 13 :: 10 :: 13 :: 10 :: t : List Int) = pieL 0 [] t := rfl
theorem end_len : (bytesOf (hexNB ((0 : Nat) : Int))).length = 1 := rfl
theorem unch_ok (sz : Nat) (hsz : 1 ≤ sz) (l tail : List Int) : ∀ (d : Nat) (s out : ByteArray) (i : Int) (e : Nat), 0 ≤ i → s.size < d → d ≤ e → out.size + s.size ≤ 60 → l.drop i.toNat = bytesOf (chkL sz d s) ++ (48 :: 13 :: 10 :: 13 :: 10 :: tail) → unchP l e out i = (out ++ s, i + (chkL sz d s).size + 5, 0)
  | 0, s, out, i, e, h0, hs, he, ho, hl => by omega
  | d + 1, s, out, i, 0, h0, hs, he, ho, hl => by omega
  | d + 1, s, out, i, e + 1, h0, hs, he, ho, hl => by
    rw [unchP]
    by_cases h : s.size = 0
    · have hn := size_nil h
      have hc : chkL sz (d + 1) s = ⟨#[]⟩ := by rw [chkL, if_pos h]
      have hp : pieceP (l.drop i.toNat) out.size = (⟨#[]⟩, 5, 0) := by
        rw [hl, hc, show bytesOf (⟨#[]⟩ : ByteArray) = [] from rfl, List.nil_append, end_pie, piece_ok 0 [] tail out.size rfl (by omega) (by omega)]
        rfl
      rw [hp, if_pos rfl, if_pos rfl, hc, hn]
      refine Prod.ext ?_ (Prod.ext ?_ rfl)
      · exact bytesOf_inj (by rw [bytesOf_append, show bytesOf (⟨#[]⟩ : ByteArray) = [] from rfl, List.append_nil])
      · show i + 5 = i + (((⟨#[]⟩ : ByteArray).size : Nat) : Int) + 5
        rw [show (⟨#[]⟩ : ByteArray).size = 0 from rfl]
        omega
    · have hm : min sz s.size ≤ s.size := by omega
      have hx := ext_len s _ hm
      have hl2 := hl
      rw [chkL_pie sz d s h] at hl2
      have hp := piece_ok (min sz s.size) (bytesOf (s.extract 0 (min sz s.size))) (bytesOf (chkL sz d (s.extract (min sz s.size) s.size)) ++ (48 :: 13 :: 10 :: 13 :: 10 :: tail)) out.size hx (by omega) (by omega)
      rw [strOfNums_bytesOf] at hp
      have hx2 : (s.extract 0 (min sz s.size)).size = min sz s.size := by rw [← bytesOf_length]; exact hx
      have hx3 : (s.extract (min sz s.size) s.size).size = s.size - min sz s.size := by rw [ByteArray.size_extract]; omega
      have hne : s.extract 0 (min sz s.size) ≠ ⟨#[]⟩ := by
        intro hh
        have := congrArg ByteArray.size hh
        rw [hx2, show (⟨#[]⟩ : ByteArray).size = 0 from rfl] at this
        omega
      have ih := unch_ok sz hsz l tail d (s.extract (min sz s.size) s.size) (out ++ s.extract 0 (min sz s.size)) (i + (((bytesOf (hexNB (min sz s.size : Nat))).length : Int) + (min sz s.size : Nat) + 4)) e (by omega) (by rw [hx3]; omega) (by omega) (by rw [ByteArray.size_append, hx2, hx3]; omega) (by
        rw [show (i + (((bytesOf (hexNB (min sz s.size : Nat))).length : Int) + (min sz s.size : Nat) + 4)).toNat = i.toNat + ((bytesOf (hexNB (min sz s.size : Nat))).length + min sz s.size + 4) by omega, ← List.drop_drop, hl2, pie_drop _ _ _ hx])
      rw [hl2, hp, if_pos rfl, if_neg hne, ih]
      have hcs : (chkL sz (d + 1) s).size = (bytesOf (hexNB (min sz s.size : Nat))).length + min sz s.size + 4 + (chkL sz d (s.extract (min sz s.size) s.size)).size := by
        have h1 := congrArg List.length (chkL_pie sz d s h [])
        rw [List.append_nil, List.append_nil, pieL_length, bytesOf_length (chkL sz (d + 1) s), bytesOf_length (chkL sz d _), hx] at h1
        omega
      refine Prod.ext ?_ (Prod.ext ?_ rfl)
      · show out ++ s.extract 0 (min sz s.size) ++ s.extract (min sz s.size) s.size = out ++ s
        exact bytesOf_inj (by rw [bytesOf_append, bytesOf_append, List.append_assoc, ← bytesOf_append, ext_join, bytesOf_append])
      · simp only
        omega
theorem unch_more (sz : Nat) (hsz : 1 ≤ sz) (l : List Int) : ∀ (d : Nat) (s out : ByteArray) (i : Int) (e j : Nat), 0 ≤ i → s.size < d → j < e → out.size + s.size ≤ 60 → j < (chkL sz d s).size + 5 → l.drop i.toNat = (bytesOf (chkL sz d s) ++ [48, 13, 10, 13, 10]).take j → unchP l e out i = (⟨#[]⟩, 0, 1)
  | 0, s, out, i, e, j, h0, hs, he, ho, hj, hl => by omega
  | d + 1, s, out, i, 0, j, h0, hs, he, ho, hj, hl => by omega
  | d + 1, s, out, i, e + 1, j, h0, hs, he, ho, hj, hl => by
    rw [unchP]
    by_cases h : s.size = 0
    · have hc : chkL sz (d + 1) s = ⟨#[]⟩ := by rw [chkL, if_pos h]
      rw [hc, show (⟨#[]⟩ : ByteArray).size = 0 from rfl] at hj
      have hp : pieceP (l.drop i.toNat) out.size = (⟨#[]⟩, 0, 1) := by
        rw [hl, hc, show bytesOf (⟨#[]⟩ : ByteArray) = [] from rfl, List.nil_append, end_pie]
        exact piece_more 0 [] [] out.size j rfl (by omega) (by omega) (by rw [end_len]; omega)
      rw [hp, if_neg (by decide)]
    · have hm : min sz s.size ≤ s.size := by omega
      have hx := ext_len s _ hm
      rw [chkL_pie sz d s h] at hl
      have hx2 : (s.extract 0 (min sz s.size)).size = min sz s.size := by rw [← bytesOf_length]; exact hx
      have hx3 : (s.extract (min sz s.size) s.size).size = s.size - min sz s.size := by rw [ByteArray.size_extract]; omega
      have hcs : (chkL sz (d + 1) s).size = (bytesOf (hexNB (min sz s.size : Nat))).length + min sz s.size + 4 + (chkL sz d (s.extract (min sz s.size) s.size)).size := by
        have h1 := congrArg List.length (chkL_pie sz d s h [])
        rw [List.append_nil, List.append_nil, pieL_length, bytesOf_length (chkL sz (d + 1) s), bytesOf_length (chkL sz d _), hx] at h1
        omega
      by_cases hjp : j < (bytesOf (hexNB (min sz s.size : Nat))).length + min sz s.size + 4
      · rw [hl, piece_more _ _ _ out.size j hx (by omega) (by omega) hjp, if_neg (by decide)]
      · obtain ⟨q, rfl⟩ : ∃ q, j = (bytesOf (hexNB (min sz s.size : Nat))).length + min sz s.size + 4 + q := ⟨j - ((bytesOf (hexNB (min sz s.size : Nat))).length + min sz s.size + 4), by omega⟩
        rw [pie_take _ _ _ _ hx] at hl
        have hp := piece_ok (min sz s.size) (bytesOf (s.extract 0 (min sz s.size))) ((bytesOf (chkL sz d (s.extract (min sz s.size) s.size)) ++ [48, 13, 10, 13, 10]).take q) out.size hx (by omega) (by omega)
        rw [strOfNums_bytesOf] at hp
        have hne : s.extract 0 (min sz s.size) ≠ ⟨#[]⟩ := by
          intro hh
          have := congrArg ByteArray.size hh
          rw [hx2, show (⟨#[]⟩ : ByteArray).size = 0 from rfl] at this
          omega
        rw [hl, hp, if_pos rfl, if_neg hne]
        refine unch_more sz hsz l d (s.extract (min sz s.size) s.size) (out ++ s.extract 0 (min sz s.size)) _ e q (by simp only; omega) (by rw [hx3]; omega) (by omega) (by rw [ByteArray.size_append, hx2, hx3]; omega) (by omega) ?_
        simp only
        rw [show (i + (((bytesOf (hexNB (min sz s.size : Nat))).length : Int) + (min sz s.size : Nat) + 4)).toNat = i.toNat + ((bytesOf (hexNB (min sz s.size : Nat))).length + min sz s.size + 4) by omega, ← List.drop_drop, hl, pie_drop _ _ _ hx]
theorem chkL_big (sz : Nat) (h1 : 1 ≤ sz) : ∀ (d : Nat) (s : ByteArray), s.size < d → s.size ≤ (chkL sz d s).size
  | 0, s, h => by omega
  | d + 1, s, h => by
    by_cases h0 : s.size = 0
    · omega
    · have hx3 : (s.extract (min sz s.size) s.size).size = s.size - min sz s.size := by rw [ByteArray.size_extract]; omega
      have hx2 : (s.extract 0 (min sz s.size)).size = min sz s.size := by rw [ByteArray.size_extract]; omega
      have ih := chkL_big sz h1 d (s.extract (min sz s.size) s.size) (by rw [hx3]; omega)
      rw [chkL, if_neg h0]
      simp only [ByteArray.size_append]
      rw [hx2]
      omega
/-- A body in pieces is read as it was, whatever stands behind. -/
theorem unchunk_chk (s tail : ByteArray) (sz : Int) (h1 : 1 ≤ sz) (hs : s.size ≤ 60) : unchunkP (bytesOf (chkB s sz ++ tail)) = (s, ((chkB s sz).size : Int), 0) := by
  unfold unchunkP chkB
  rw [if_neg (by omega)]
  have e : bytesOf (chkL sz.toNat (s.size + 1) s ++ ⟨#[48, 13, 10, 13, 10]⟩ ++ tail) = bytesOf (chkL sz.toNat (s.size + 1) s) ++ (48 :: 13 :: 10 :: 13 :: 10 :: bytesOf tail) := by
    rw [bytesOf_append, bytesOf_append, List.append_assoc]
    rfl
  have hlen : s.size + 1 ≤ (bytesOf (chkL sz.toNat (s.size + 1) s ++ ⟨#[48, 13, 10, 13, 10]⟩ ++ tail)).length + 1 := by
    have := chkL_big sz.toNat (by omega) (s.size + 1) s (by omega)
    rw [bytesOf_length, ByteArray.size_append, ByteArray.size_append]
    omega
  have h := unch_ok sz.toNat (by omega) (bytesOf (chkL sz.toNat (s.size + 1) s ++ ⟨#[48, 13, 10, 13, 10]⟩ ++ tail)) (bytesOf tail) (s.size + 1) s ⟨#[]⟩ 0 ((bytesOf (chkL sz.toNat (s.size + 1) s ++ ⟨#[48, 13, 10, 13, 10]⟩ ++ tail)).length + 1) (by omega) (by omega) hlen (by rw [show (⟨#[]⟩ : ByteArray).size = 0 from rfl]; omega) (by rw [e]; rfl)
  rw [h]
  refine Prod.ext ?_ (Prod.ext ?_ rfl)
  · exact bytesOf_inj (by rw [bytesOf_append]; rfl)
  · show (0 : Int) + ((chkL sz.toNat (s.size + 1) s).size : Int) + 5 = _
    rw [ByteArray.size_append, show (⟨#[48, 13, 10, 13, 10]⟩ : ByteArray).size = 5 from rfl]
    show (0 : Int) + ((chkL sz.toNat (s.size + 1) s).size : Int) + 5 = (((chkL sz.toNat (s.size + 1) s).size + 5 : Nat) : Int)
    omega
/-- Of a beginning more is wanted. -/
theorem unchunk_more (s : ByteArray) (sz : Int) (j : Nat) (h1 : 1 ≤ sz) (hs : s.size ≤ 60) (hj : j < (chkB s sz).size) : unchunkP (bytesOf ((chkB s sz).extract 0 j)) = (⟨#[]⟩, 0, 1) := by
  rw [bytesOf_extract, List.drop_zero]
  unfold chkB at hj ⊢
  rw [if_neg (by omega)] at hj ⊢
  rw [ByteArray.size_append, show (⟨#[48, 13, 10, 13, 10]⟩ : ByteArray).size = 5 from rfl] at hj
  rw [bytesOf_append, show bytesOf (⟨#[48, 13, 10, 13, 10]⟩ : ByteArray) = [48, 13, 10, 13, 10] from rfl]
  have hx : ((bytesOf (chkL sz.toNat (s.size + 1) s) ++ [48, 13, 10, 13, 10]).take j).length = j := by
    rw [List.length_take, List.length_append, bytesOf_length]
    simp
    omega
  exact unch_more sz.toNat (by omega) _ (s.size + 1) s ⟨#[]⟩ 0 _ j (by omega) (by omega) (by rw [hx]; omega) (by rw [show (⟨#[]⟩ : ByteArray).size = 0 from rfl]; omega) hj rfl
theorem body_chunked (s : ByteArray) (c : Bool) : bodyP [(nmTE, chunkedW)] s c = unchunkP (bytesOf s) := by
  have e1 : getL nmTE [(nmTE, chunkedW)] = [chunkedW] := by rw [getL, if_pos rfl]; rfl
  have e2 : getL nmCL [(nmTE, chunkedW)] = [] := by rw [getL, if_neg (fun h => absurd (congrArg bytesOf h) (by decide))]; rfl
  have e3 : lowB (joinG nmTE [(nmTE, chunkedW)]) = chunkedW := by
    unfold joinG
    rw [e1]
    exact bytesOf_inj (by decide)
  unfold bodyP
  rw [e1, e2, e3, if_pos (by rfl), if_pos rfl, if_neg (by decide)]
theorem secP_dec (n : Nat) (h : n ≤ 60) : secP (bytesOf (decB (n : Int))) = ((n : Int), true) := by
  have key : ((List.range 61).all fun n => decide (secP (bytesOf (decB (n : Int))) = ((n : Int), true))) = true := by decide
  rw [List.all_eq_true] at key
  exact of_decide_eq_true (key n (List.mem_range.2 (by omega)))
theorem body_length (s tail : ByteArray) (h : s.size ≤ 60) : bodyP [(nmCL, decB (s.size : Int))] (s ++ tail) true = (s, (s.size : Int), 0) := by
  have e1 : getL nmTE [(nmCL, decB (s.size : Int))] = [] := by rw [getL, if_neg (fun h => absurd (show bytesOf nmCL = bytesOf nmTE from congrArg bytesOf h) (by decide))]; rfl
  have e2 : getL nmCL [(nmCL, decB (s.size : Int))] = [decB (s.size : Int)] := by rw [getL, if_pos rfl]; rfl
  have e3 : joinG nmCL [(nmCL, decB (s.size : Int))] = decB (s.size : Int) := by
    unfold joinG
    rw [e2]
    rfl
  unfold bodyP
  rw [e1, e2, e3, if_neg (by decide), if_pos (by rfl), secP_dec _ h]
  unfold lenP
  rw [if_pos ⟨rfl, by simp only; omega⟩, if_neg (by simp only [ByteArray.size_append]; omega)]
  refine Prod.ext ?_ rfl
  refine bytesOf_inj ?_
  show bytesOf ((s ++ tail).extract 0 ((s.size : Int)).toNat) = bytesOf s
  rw [bytesOf_extract, bytesOf_append, Int.toNat_natCast, List.drop_zero, ← bytesOf_length, List.take_left]

end Go.Proofs.YtjldfmkpdkhnnaaDoor.Pure

namespace Go.Proofs.YtjldfmkpdkhnnaaDoor.Pure
set_option linter.unusedVariables false
set_option linter.unusedSimpArgs false
open Go.RowKit Go.Proofs.YtjldfmkpdkhnnaaDoor.QL Go.Proofs.YtjldfmkpdkhnnaaDoorW.PrintWords Go.Proofs.YtjldfmkpdkhnnaaDoorW.PrintLast Go.Proofs.YtjldfmkpdkhnnaaDoorW.PrintMore Go.Proofs.YtjldfmkpdkhnnaaDoor.Aux Go.Proofs.YtjldfmkpdkhnnaaDoor.Dom Go.Proofs.YtjldfmkpdkhnnaaDoor.Ext
theorem wf_u8 {a : Int} (h : (Lit.int .u8 a).wf = true) : 0 ≤ a ∧ a ≤ 255 := by
  simp [Lit.wf, IntKind.min, IntKind.max, IntKind.signed, IntKind.bits] at h
  omega
theorem laws_at_ok (b : List Int) (hb : b.length ≤ 1048576) (hw : ∀ x ∈ b, (Lit.int .u8 x).wf = true) : ∃ v, laws_at.f b 0 = some v ∧ 0 ≤ v ∧ v ≤ 255 := by
  unfold laws_at.f
  by_cases h : 0 < (b.length : Int)
  · have hm := drop_rd (xs := b) (i := 0) (by omega) h
    have h1 := wf_u8 (hw (rd b 0) (List.mem_of_mem_drop (i := (0 : Int).toNat) (by rw [hm]; exact List.mem_cons_self)))
    rw [if_pos h, if_pos (by omega), wrap_id (by omega) (by omega)]
    exact ⟨_, rfl, h1.1, h1.2⟩
  · have h0 : (b.length : Int) = 0 := by omega
    have e : wrap64 (wrap64 (0 * 37) + wrap64 (0 * 11)) = 0 := by unfold wrap64; omega
    rw [if_neg h, h0, e]
    exact ⟨_, rfl, by decide, by decide⟩

end Go.Proofs.YtjldfmkpdkhnnaaDoor.Pure

namespace Go.Proofs.YtjldfmkpdkhnnaaDoor.Pure
set_option linter.unusedVariables false
set_option linter.unusedSimpArgs false
open Go.RowKit Go.Proofs.YtjldfmkpdkhnnaaDoor.QL Go.Proofs.YtjldfmkpdkhnnaaDoorW.PrintWords Go.Proofs.YtjldfmkpdkhnnaaDoorW.PrintLast Go.Proofs.YtjldfmkpdkhnnaaDoorW.PrintMore Go.Proofs.YtjldfmkpdkhnnaaDoor.Aux Go.Proofs.YtjldfmkpdkhnnaaDoor.Dom Go.Proofs.YtjldfmkpdkhnnaaDoor.Ext

theorem dec_short (n : Int) : (decB n).size ≤ 21 := by
  unfold decB decP
  rw [strOfNums_size]
  split
  · simp
  · split
    · have := decL_length 20 (-n) []
      simp at this ⊢
      omega
    · have := decL_length 20 n []
      simp at this
      omega
theorem FnBodies : laws_FnBodies.Pure := by
  intro b hl hl2 hw
  refine Ev.rounds (Ev.congr (fun k => by unfold laws_FnBodies.f laws_big.f; rw [Option.bind_some]) ?_)
  by_cases hb : (b.length : Int) > 1048576
  · exact ev_if_pos (decide_eq_true hb) (Ev.now _)
  refine ev_if_neg (by rw [decide_eq_true_eq]; exact hb) ?_
  have hb' : b.length ≤ 1048576 := by omega
  obtain ⟨s, z, es, hs, hz1, hz2⟩ := spec_DrawChunk_ev b hb'
  have hbig : (chkB s z).size ≤ 10000 := by
    unfold chkB
    split
    · decide
    · have := chkL_size z.toNat (by omega) (s.size + 1) s
      rw [ByteArray.size_append, show (⟨#[48, 13, 10, 13, 10]⟩ : ByteArray).size = 5 from rfl]
      omega
  refine ev_bind es (ev_bind (impl_Chunk_ev s z (by omega)) ?_)
  by_cases hz : z < 1
  · refine ev_if_pos hz (ev_eq (Ev.now _) ?_)
    have e : chkB s z = ⟨#[]⟩ := by unfold chkB; rw [if_pos hz]
    rw [e, (trim_nil _).2 rfl]
    rfl
  have hpos : 1 ≤ (chkB s z).size := by
    unfold chkB
    rw [if_neg hz, ByteArray.size_append, show (⟨#[48, 13, 10, 13, 10]⟩ : ByteArray).size = 5 from rfl]
    omega
  have ht : (chkB s z ++ ⟨#[116, 97, 105, 108]⟩).size ≤ 8388608 := by
    rw [ByteArray.size_append, show (⟨#[116, 97, 105, 108]⟩ : ByteArray).size = 4 from rfl]
    omega
  have hst : (s ++ ⟨#[116, 97, 105, 108]⟩).size ≤ 8388608 := by
    rw [ByteArray.size_append, show (⟨#[116, 97, 105, 108]⟩ : ByteArray).size = 4 from rfl]
    omega
  have hun := unchunk_chk s ⟨#[116, 97, 105, 108]⟩ z (by omega) (by omega)
  have eu := impl_Unchunk_ev (chkB s z ++ ⟨#[116, 97, 105, 108]⟩) ht
  rw [hun] at eu
  have e1 : (((chkB s z).size : Int) != ((chkB s z).size : Int)) = false := bne_self_eq_false _
  refine ev_if_neg hz (ev_if_pos (show (chkB s z).size + 4 ≤ 9223372036854775807 by omega) (ev_bind eu (ev_if_pos rfl (ev_if_pos rfl ?_))))
  simp only [e1]
  obtain ⟨v, ev, v0, v1⟩ := laws_at_ok b hb' hw
  obtain ⟨h, eh, h0, h1⟩ := spec_DrawHexNum_ev b hb'
  have tm := tmod_bd v0 (show (0 : Int) < (chkB s z).size by omega)
  have hmore := unchunk_more s z (Int.tmod v (chkB s z).size).toNat (by omega) (by omega) (by omega)
  have em := impl_Unchunk_ev ((chkB s z).extract 0 (Int.tmod v (chkB s z).size).toNat) (by rw [ByteArray.size_extract]; omega)
  rw [hmore] at em
  have ehx := impl_HexNum_eq h h1
  have ehr := impl_ReadHexNum_ev (if h < 0 then ⟨#[]⟩ else hexNB h) (by
    have := hexNB_size h
    split
    · decide
    · omega)
  have z1 : ¬ szF 1048576 ([(⟨nmTE, chunkedW⟩ : S49)].map fun x => (x.f0, x.f1)) < 0 := by decide
  have z2 : ¬ szF 1048576 ([(⟨nmCL, decB (s.size : Int)⟩ : S49)].map fun x => (x.f0, x.f1)) < 0 := by
    have d := dec_short (s.size : Int)
    have n1 : nmCL.size = 14 := rfl
    show ¬ szF 1048576 [(nmCL, decB (s.size : Int))] < 0
    unfold szF
    rw [if_neg (by simp), szL, if_neg (by simp only [List.length_singleton]; omega), szL]
    simp only [List.length_singleton]
    omega
  have b1 := impl_BodyOf_ev [(⟨nmTE, chunkedW⟩ : S49)] (chkB s z ++ ⟨#[116, 97, 105, 108]⟩) false (by simp) z1 ht
  have b2 := impl_BodyOf_ev [(⟨nmCL, decB (s.size : Int)⟩ : S49)] (s ++ ⟨#[116, 97, 105, 108]⟩) true (by simp) z2 hst
  rw [show ([(⟨nmTE, chunkedW⟩ : S49)].map fun x => (x.f0, x.f1)) = [(nmTE, chunkedW)] from rfl, body_chunked, hun] at b1
  rw [show ([(⟨nmCL, decB (s.size : Int)⟩ : S49)].map fun x => (x.f0, x.f1)) = [(nmCL, decB (s.size : Int))] from rfl, body_length s _ (by omega)] at b2
  have dd := spec_Dec_ev (s.size : Int) (by omega) (by omega)
  refine Ev.step (fun k => by simp only [laws_FnBodies.j0]; rfl) (ev_if_neg (by decide) (ev_if_neg (by omega) (ev_bind (ev_k ev) (ev_if_pos tm.1 (ev_if_pos (show Int.tmod v (chkB s z).size ≤ (chkB s z).size by omega) (ev_bind em (ev_bind eh (ev_bind (ev_k ehx) (ev_bind ehr (ev_if_pos (show (chkB s z).size + 4 ≤ 9223372036854775807 by omega) (ev_bind b1 (ev_bind dd (ev_if_pos (show s.size + 4 ≤ 9223372036854775807 by omega) (ev_bind b2 (ev_if_pos rfl (ev_if_pos rfl ?_))))))))))))))))
  by_cases c1 : h < 0
  · exact ev_if_pos c1 (ev_if_pos rfl (ev_if_pos rfl (ev_if_pos rfl (ev_if_pos rfl (ev_if_pos rfl (ev_eq (Ev.now _) rfl))))))
  refine ev_if_neg c1 ?_
  by_cases c2 : h > 16777215
  · exact ev_if_pos c2 (ev_if_pos rfl (ev_if_pos rfl (ev_if_pos rfl (ev_if_pos rfl (ev_if_pos rfl (ev_eq (Ev.now _) rfl))))))
  have hr : readHexP (bytesOf (if h < 0 then ⟨#[]⟩ else hexNB h)) = (h, true) := by rw [if_neg c1, readHexP_hex (by omega) (by omega)]
  rw [hr]
  exact ev_if_neg c2 (ev_if_pos rfl (ev_if_pos rfl (ev_if_pos rfl (ev_if_pos rfl (ev_if_pos rfl (ev_if_pos rfl (ev_if_pos rfl (ev_eq (Ev.now _) rfl))))))))

end Go.Proofs.YtjldfmkpdkhnnaaDoor.Pure
