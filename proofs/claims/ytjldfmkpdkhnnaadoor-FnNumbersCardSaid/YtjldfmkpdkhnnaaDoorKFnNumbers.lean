/- Numbers are read again out of their texts, whatever stands behind; what is read as a Var is a Var: for all codes that are drawn from (codes of more than 2^20 bytes are let by). -/
import Derived.Test.YtjldfmkpdkhnnaaDoorDom
import Derived.Test.YtjldfmkpdkhnnaaDoorEstrconvAtoi
import Derived.Test.YtjldfmkpdkhnnaaDoorDomB
import Derived.Test.YtjldfmkpdkhnnaaDoorEstringsIndexByte
import Derived.Test.YtjldfmkpdkhnnaaDoorCFnNumbersb
namespace Go.Proofs.YtjldfmkpdkhnnaaDoor.QL
open Go.RowKit Go.Proofs.YtjldfmkpdkhnnaaDoorW.PrintWords Go.Proofs.YtjldfmkpdkhnnaaDoorW.PrintLast Go.Proofs.YtjldfmkpdkhnnaaDoorW.PrintMore Go.Proofs.YtjldfmkpdkhnnaaDoor.Aux Go.Proofs.YtjldfmkpdkhnnaaDoor.Dom Go.Proofs.YtjldfmkpdkhnnaaDoor.Ext Go.Proofs.YtjldfmkpdkhnnaaDoor.Glob
def laws_FnNumbers.Pure : Prop := ∀ (l0 : List Int), l0.length ≤ maxLen → l0.length * 1 ≤ 140737488351232 → (∀ x ∈ l0, (Lit.int .u8 x).wf = true) → ∃ k, laws_FnNumbers.f k l0 = some true
theorem laws_FnNumbers.walk (P : laws_FnNumbers.Pure) (a0 : Option Addr) (len0 cap0 : Nat) (z0 : List Int) (w : World) (w0 : (a0 = none ∧ len0 = 0 ∧ cap0 = 0 ∧ z0 = []) ∨ ∃ x, a0 = some x ∧ len0 ≤ cap0 ∧ cap0 ≤ maxLen ∧ z0.length = cap0 ∧ (∀ i, i < z0.length → w.cell? (x.add i) = some (.int .u8 (z0.getD i 0))) ∧ ∀ n ∈ z0, (Lit.int .u8 n).wf = true) (y0 : len0 * 1 ≤ 140737488351232) (hGErr : GErr w) (hGPow : GPow w) :
    Calls Tryd.prog 4 #[.slice a0 len0 cap0] w fun e w' => e = .returned (.bool true) ∧ Below w.heap.size w w' := by
  obtain ⟨l0, rfl, hr0, hm0, hw0, hc0⟩ := ReadsInt.ofRowC w0
  obtain ⟨k, h⟩ := P l0 hm0 y0 hw0
  refine (laws_FnNumbers.calls k _ _ l0 true w (Kd.C_of_reads (d := (0 : Int)) (h1 := fun _ => rfl) hr0) hc0 hGErr hGPow h).mono ?_
  rintro e w' ⟨rfl, hd⟩
  exact ⟨rfl, hd⟩
end Go.Proofs.YtjldfmkpdkhnnaaDoor.QL

namespace Go.Proofs.YtjldfmkpdkhnnaaDoor.Pure
set_option linter.unusedVariables false
set_option linter.unusedSimpArgs false
open Go.RowKit Go.Proofs.YtjldfmkpdkhnnaaDoor.QL Go.Proofs.YtjldfmkpdkhnnaaDoorW.PrintWords Go.Proofs.YtjldfmkpdkhnnaaDoorW.PrintLast Go.Proofs.YtjldfmkpdkhnnaaDoorW.PrintMore Go.Proofs.YtjldfmkpdkhnnaaDoor.Aux Go.Proofs.YtjldfmkpdkhnnaaDoor.Dom Go.Proofs.YtjldfmkpdkhnnaaDoor.Ext
theorem spec_l1New_l0 (b : List Int) (hb : b.length ≤ 1048576) : ∀ (d : Nat) (h i : Int), 0 ≤ i → (b.length : Int) - i = d → ∃ h', Ev (fun k => spec_l1New.l0 k b h i) (b, 0, h')
  | 0, h, i, h0, hd => ⟨h, ev_last fun k => by simp only [spec_l1New.l0]; rw [if_neg (by omega)]⟩
  | d + 1, h, i, h0, hd => by
    by_cases h1 : i < 4000
    · obtain ⟨h', e⟩ := spec_l1New_l0 b hb d (Go.bits .and .i64 (wrap64 (wrap64 (wrap64 (h * 131) + wrap64 (rd b i)) + 7)) 1073741823) (i + 1) (by omega) (by omega)
      refine ⟨h', Ev.step (fun k => ?_) e⟩
      simp only [spec_l1New.l0]
      rw [if_pos (by omega), if_pos h1, if_pos h0, wrap_id (x := i + 1) (by omega) (by omega)]
    · exact ⟨h, ev_last fun k => by simp only [spec_l1New.l0]; rw [if_pos (by omega), if_neg h1]⟩
theorem spec_l1New_ev (b : List Int) (hb : b.length ≤ 1048576) : ∃ h', Ev (fun k => spec_l1New.f k b) (b, 0, h') :=
  spec_l1New_l0 b hb b.length _ 0 (by omega) (by omega)

end Go.Proofs.YtjldfmkpdkhnnaaDoor.Pure

namespace Go.Proofs.YtjldfmkpdkhnnaaDoor.Pure
set_option linter.unusedVariables false
set_option linter.unusedSimpArgs false
open Go.RowKit Go.Proofs.YtjldfmkpdkhnnaaDoor.QL Go.Proofs.YtjldfmkpdkhnnaaDoorW.PrintWords Go.Proofs.YtjldfmkpdkhnnaaDoorW.PrintLast Go.Proofs.YtjldfmkpdkhnnaaDoorW.PrintMore Go.Proofs.YtjldfmkpdkhnnaaDoor.Aux Go.Proofs.YtjldfmkpdkhnnaaDoor.Dom Go.Proofs.YtjldfmkpdkhnnaaDoor.Ext
/-! What is drawn: some number, some text, some one of a list; the place goes on from 0. -/
theorem and255_bd (x : Int) : 0 ≤ Go.bits .and .i64 x 255 ∧ Go.bits .and .i64 x 255 ≤ 255 := by
  have h : (BitVec.ofInt 64 x &&& BitVec.ofInt 64 255).toNat ≤ 255 := by
    rw [BitVec.toNat_and]
    exact Nat.and_le_right
  have e : Go.bits .and .i64 x 255 = (((BitVec.ofInt 64 x &&& BitVec.ofInt 64 255).toNat : Nat) : Int) := i64_pos (((BitVec.ofInt 64 x &&& BitVec.ofInt 64 255).toNat : Nat) : Int) (by omega) (by omega)
  rw [e]
  omega
theorem l1Byte_ok (b : List Int) (i h : Int) (hb : b.length ≤ 1048576) (h0 : 0 ≤ i) : ∃ x i' h', spec_l1Byte.f b i h = some (x, i', h') ∧ 0 ≤ x ∧ x ≤ 255 ∧ 0 ≤ i' := by
  unfold spec_l1Byte.f
  by_cases h1 : i < (b.length : Int)
  · rw [if_pos h1, if_pos h0, wrap_id (x := i + 1) (by omega) (by omega)]
    exact ⟨_, _, _, rfl, (and255_bd _).1, (and255_bd _).2, by omega⟩
  · rw [if_neg h1]
    exact ⟨_, _, _, rfl, (and255_bd _).1, (and255_bd _).2, h0⟩
theorem tmod_bd {x n : Int} (hx : 0 ≤ x) (hn : 0 < n) : 0 ≤ Int.tmod x n ∧ Int.tmod x n < n := by
  rw [Int.tmod_eq_emod_of_nonneg hx]
  exact ⟨Int.emod_nonneg _ (by omega), Int.emod_lt_of_pos _ hn⟩
theorem l1Below_ok (b : List Int) (i h n : Int) (hb : b.length ≤ 1048576) (h0 : 0 ≤ i) : ∃ x i' h', spec_l1Below.f b i h n = some (x, i', h') ∧ 0 ≤ x ∧ (x < n ∨ (n ≤ 0 ∧ x = 0)) ∧ 0 ≤ i' := by
  unfold spec_l1Below.f
  by_cases h1 : n ≤ 0
  · rw [if_pos h1]
    exact ⟨0, i, h, rfl, by omega, Or.inr ⟨h1, rfl⟩, h0⟩
  rw [if_neg h1]
  obtain ⟨x, i1, g1, e1, a1, a2, a3⟩ := l1Byte_ok b i h hb h0
  by_cases h2 : n ≤ 256
  · rw [if_pos h2, e1, Option.bind_some, if_neg (by omega)]
    have := tmod_bd a1 (show 0 < n by omega)
    exact ⟨_, _, _, rfl, this.1, Or.inl this.2, a3⟩
  · obtain ⟨y, i2, g2, e2, b1, b2, b3⟩ := l1Byte_ok b i1 g1 hb a3
    obtain ⟨z, i3, g3, e3, c1, c2, c3⟩ := l1Byte_ok b i2 g2 hb b3
    obtain ⟨v, i4, g4, e4, d1, d2, d3⟩ := l1Byte_ok b i3 g3 hb c3
    rw [if_neg h2, e1, Option.bind_some, e2, Option.bind_some, e3, Option.bind_some, e4, Option.bind_some, if_neg (by omega)]
    have w : wrap64 (wrap64 (wrap64 (wrap64 (x * 16777216) + wrap64 (y * 65536)) + wrap64 (z * 256)) + v) = x * 16777216 + y * 65536 + z * 256 + v := by
      rw [wrap_id (x := x * 16777216) (by omega) (by omega), wrap_id (x := y * 65536) (by omega) (by omega), wrap_id (x := z * 256) (by omega) (by omega), wrap_id (x := x * 16777216 + y * 65536) (by omega) (by omega), wrap_id (x := x * 16777216 + y * 65536 + z * 256) (by omega) (by omega), wrap_id (by omega) (by omega)]
    have t := tmod_bd (show 0 ≤ x * 16777216 + y * 65536 + z * 256 + v by omega) (show 0 < n by omega)
    refine ⟨_, _, _, rfl, ?_, Or.inl ?_, d3⟩
    · show 0 ≤ Int.tmod (wrap64 (wrap64 (wrap64 (wrap64 (x * 16777216) + wrap64 (y * 65536)) + wrap64 (z * 256)) + v)) n
      rw [w]; exact t.1
    · show Int.tmod (wrap64 (wrap64 (wrap64 (wrap64 (x * 16777216) + wrap64 (y * 65536)) + wrap64 (z * 256)) + v)) n < n
      rw [w]; exact t.2
theorem l1Once_ok (b : List Int) (i h n : Int) (hb : b.length ≤ 1048576) (h0 : 0 ≤ i) : ∃ x i' h', spec_l1Once.f b i h n = some (x, i', h') ∧ 0 ≤ i' := by
  obtain ⟨x, i1, g1, e1, a1, a2, a3⟩ := l1Below_ok b i h n hb h0
  unfold spec_l1Once.f
  rw [e1, Option.bind_some]
  exact ⟨_, _, _, rfl, a3⟩
theorem rdOf_mem {α : Type} {d : α} {l : List α} {j : Int} (h0 : 0 ≤ j) (h1 : j < (l.length : Int)) : rdOf d l j ∈ l := by
  have e := drop_rdOf (d := d) h0 h1
  exact List.mem_of_mem_drop (i := j.toNat) (by rw [e]; exact List.mem_cons_self)
theorem rd_mem {l : List Int} {j : Int} (h0 : 0 ≤ j) (h1 : j < (l.length : Int)) : rd l j ∈ l := by
  have e := drop_rd h0 h1
  exact List.mem_of_mem_drop (i := j.toNat) (by rw [e]; exact List.mem_cons_self)
theorem l1Pick_ok (b : List Int) (i h : Int) (l : List ByteArray) (hl : 0 < l.length) (hb : b.length ≤ 1048576) (h0 : 0 ≤ i) : ∃ x i' h', spec_l1Pick.f b i h l = some (x, i', h') ∧ x ∈ l ∧ 0 ≤ i' := by
  obtain ⟨x, i1, g1, e1, a1, a2, a3⟩ := l1Below_ok b i h (l.length : Int) hb h0
  have hx : x < (l.length : Int) := by omega
  unfold spec_l1Pick.f
  rw [e1, Option.bind_some, if_pos a1, if_pos hx]
  exact ⟨_, _, _, rfl, rdOf_mem a1 hx, a3⟩
theorem l1PickInt_ok (b : List Int) (i h : Int) (l : List Int) (hl : 0 < l.length) (hb : b.length ≤ 1048576) (h0 : 0 ≤ i) : ∃ x i' h', spec_l1PickInt.f b i h l = some (x, i', h') ∧ x ∈ l ∧ 0 ≤ i' := by
  obtain ⟨x, i1, g1, e1, a1, a2, a3⟩ := l1Below_ok b i h (l.length : Int) hb h0
  have hx : x < (l.length : Int) := by omega
  unfold spec_l1PickInt.f
  rw [e1, Option.bind_some, if_pos a1, if_pos hx]
  exact ⟨_, _, _, rfl, rd_mem a1 hx, a3⟩
theorem wrap64_bd (x : Int) : -9223372036854775808 ≤ wrap64 x ∧ wrap64 x ≤ 9223372036854775807 := by
  unfold wrap64
  omega
theorem ev_k {α : Type} {x : Option α} {r : α} (h : x = some r) : Ev (fun _ : Nat => x) r := ev_some fun _ => h

end Go.Proofs.YtjldfmkpdkhnnaaDoor.Pure

namespace Go.Proofs.YtjldfmkpdkhnnaaDoor.Pure
set_option linter.unusedVariables false
set_option linter.unusedSimpArgs false
open Go.RowKit Go.Proofs.YtjldfmkpdkhnnaaDoor.QL Go.Proofs.YtjldfmkpdkhnnaaDoorW.PrintWords Go.Proofs.YtjldfmkpdkhnnaaDoorW.PrintLast Go.Proofs.YtjldfmkpdkhnnaaDoorW.PrintMore Go.Proofs.YtjldfmkpdkhnnaaDoor.Aux Go.Proofs.YtjldfmkpdkhnnaaDoor.Dom Go.Proofs.YtjldfmkpdkhnnaaDoor.Ext
theorem l1Num_ok (b : List Int) (i h : Int) (hb : b.length ≤ 1048576) (h0 : 0 ≤ i) : ∃ x i' h', spec_l1Num.f b i h = some (x, i', h') ∧ -9223372036854775808 ≤ x ∧ x ≤ 9223372036854775807 ∧ 0 ≤ i' := by
  obtain ⟨x, i1, g1, e1, a1, a2, a3⟩ := l1Below_ok b i h 8 hb h0
  unfold spec_l1Num.f
  rw [e1, Option.bind_some]
  by_cases c0 : x = 0
  · obtain ⟨y, i2, g2, e2, b1, b3⟩ := l1PickInt_ok b i1 g1 [(-1), 0, 127, 128, 255, 256, 16383, 16384, 65535, 65536, 562949953421311, 562949953421312, 999999999, 1000000000, (-999999999), 9223372036854775807, (-9223372036854775808)] (by decide) hb a3
    rw [if_pos c0, e2, Option.bind_some]
    have hm : ∀ z ∈ ([(-1), 0, 127, 128, 255, 256, 16383, 16384, 65535, 65536, 562949953421311, 562949953421312, 999999999, 1000000000, (-999999999), 9223372036854775807, (-9223372036854775808)] : List Int), -9223372036854775808 ≤ z ∧ z ≤ 9223372036854775807 := by decide
    exact ⟨_, _, _, rfl, (hm y b1).1, (hm y b1).2, b3⟩
  rw [if_neg c0]
  by_cases c1 : x = 1
  · obtain ⟨y, i2, g2, e2, b1, b2, b3⟩ := l1Below_ok b i1 g1 1000000000 hb a3
    obtain ⟨z, i3, g3, e3, d1, d2, d3⟩ := l1Below_ok b i2 g2 1000000000 hb b3
    rw [if_pos c1, e2, Option.bind_some, e3, Option.bind_some]
    exact ⟨_, _, _, rfl, (wrap64_bd _).1, (wrap64_bd _).2, d3⟩
  rw [if_neg c1]
  by_cases c2 : x = 2
  · obtain ⟨y, i2, g2, e2, b1, b2, b3⟩ := l1Below_ok b i1 g1 100000 hb a3
    rw [if_pos c2, e2, Option.bind_some]
    exact ⟨_, _, _, rfl, (wrap64_bd _).1, (wrap64_bd _).2, b3⟩
  · obtain ⟨y, i2, g2, e2, b1, b2, b3⟩ := l1Below_ok b i1 g1 70000 hb a3
    rw [if_neg c2, e2, Option.bind_some]
    exact ⟨_, _, _, rfl, by omega, by omega, b3⟩

end Go.Proofs.YtjldfmkpdkhnnaaDoor.Pure

namespace Go.Proofs.YtjldfmkpdkhnnaaDoor.Pure
set_option linter.unusedVariables false
set_option linter.unusedSimpArgs false
open Go.RowKit Go.Proofs.YtjldfmkpdkhnnaaDoor.QL Go.Proofs.YtjldfmkpdkhnnaaDoorW.PrintWords Go.Proofs.YtjldfmkpdkhnnaaDoorW.PrintLast Go.Proofs.YtjldfmkpdkhnnaaDoorW.PrintMore Go.Proofs.YtjldfmkpdkhnnaaDoor.Aux Go.Proofs.YtjldfmkpdkhnnaaDoor.Dom Go.Proofs.YtjldfmkpdkhnnaaDoor.Ext
theorem spec_DrawVar_ev (b : List Int) (hb : b.length ≤ 1048576) : ∃ x, Ev (fun k => spec_DrawVar.f k b) x ∧ -9223372036854775808 ≤ x ∧ x ≤ 9223372036854775807 := by
  obtain ⟨h', e⟩ := spec_l1New_ev b hb
  obtain ⟨x, i1, g1, e1, a1, a2, a3⟩ := l1Num_ok b 0 h' hb (by omega)
  exact ⟨x, Ev.congr (fun k => by unfold spec_DrawVar.f; rfl) (ev_bind e (ev_bind (ev_k e1) (Ev.now _))), a1, a2⟩

end Go.Proofs.YtjldfmkpdkhnnaaDoor.Pure

namespace Go.Proofs.YtjldfmkpdkhnnaaDoor.Pure
set_option linter.unusedVariables false
set_option linter.unusedSimpArgs false
open Go.RowKit Go.Proofs.YtjldfmkpdkhnnaaDoor.QL Go.Proofs.YtjldfmkpdkhnnaaDoorW.PrintWords Go.Proofs.YtjldfmkpdkhnnaaDoorW.PrintLast Go.Proofs.YtjldfmkpdkhnnaaDoorW.PrintMore Go.Proofs.YtjldfmkpdkhnnaaDoor.Aux Go.Proofs.YtjldfmkpdkhnnaaDoor.Dom Go.Proofs.YtjldfmkpdkhnnaaDoor.Ext
theorem spec_l1Text_l0 (b : List Int) (hb : b.length ≤ 1048576) (st : Int) : ∀ (d : Nat) (acc : List Int) (i h : Int), 0 ≤ i → acc.length + d ≤ 1000000 → ∃ s i' h', Ev (fun k => spec_l1Text.l0 k acc st (d : Int) b i h) (s, i', h') ∧ s.size = acc.length + d ∧ 0 ≤ i'
  | 0, acc, i, h, h0, hd => ⟨strOfNums acc, i, h, ev_last fun k => by simp only [spec_l1Text.l0]; rw [if_neg (by omega)], by rw [strOfNums_size]; omega, h0⟩
  | d + 1, acc, i, h, h0, hd => by
    obtain ⟨x, i1, g1, e1, a1, a2, a3⟩ := l1Byte_ok b i h hb h0
    have hl : acc.length < 140737488355328 := by omega
    have key : ∃ v, ∀ k, spec_l1Text.l0 (k + 1) acc st ((d + 1 : Nat) : Int) b i h = spec_l1Text.l0 k (acc ++ [v]) st (d : Int) b i1 g1 := by
      have hw : wrap64 (((d + 1 : Nat) : Int) - 1) = (d : Int) := by rw [wrap_id (by omega) (by omega)]; omega
      by_cases s1 : st = 1
      · by_cases s2 : st = 2
        · omega
        · exact ⟨_, fun k => by simp only [spec_l1Text.l0]; rw [if_pos (by omega), e1, Option.bind_some, if_pos s1, if_neg s2, if_pos hl, hw]⟩
      · by_cases s2 : st = 2
        · exact ⟨_, fun k => by simp only [spec_l1Text.l0]; rw [if_pos (by omega), e1, Option.bind_some, if_neg s1, if_pos s2, if_pos hl, hw]⟩
        · exact ⟨_, fun k => by simp only [spec_l1Text.l0]; rw [if_pos (by omega), e1, Option.bind_some, if_neg s1, if_neg s2, if_pos hl, hw]⟩
    obtain ⟨v, hv⟩ := key
    obtain ⟨s, i', h', e, q, r⟩ := spec_l1Text_l0 b hb st d (acc ++ [v]) i1 g1 a3 (by rw [List.length_append, List.length_singleton]; omega)
    refine ⟨s, i', h', Ev.step hv e, ?_, r⟩
    rw [q, List.length_append, List.length_singleton]
    omega
theorem spec_l1Text_ev (b : List Int) (i h a : Int) (hb : b.length ≤ 1048576) (h0 : 0 ≤ i) (ha : 0 ≤ a) (ha2 : a ≤ 100000) : ∃ s i' h', Ev (fun k => spec_l1Text.f k b i h a) (s, i', h') ∧ (s.size : Int) ≤ a ∧ 0 ≤ i' := by
  obtain ⟨x, i1, g1, e1, a1, a2, a3⟩ := l1Below_ok b i h 4 hb h0
  obtain ⟨y, i2, g2, e2, b1, b2, b3⟩ := l1Below_ok b i1 g1 (a + 1) hb a3
  obtain ⟨n, rfl⟩ := Int.eq_ofNat_of_zero_le b1
  obtain ⟨s, i', h', e, q, r⟩ := spec_l1Text_l0 b hb x n [] i2 g2 b3 (by simp; omega)
  refine ⟨s, i', h', ?_, by rw [q]; simp; omega, r⟩
  refine Ev.congr (fun k => by unfold spec_l1Text.f; rw [e1, Option.bind_some, wrap_id (x := a + 1) (by omega) (by omega), e2, Option.bind_some]) e

end Go.Proofs.YtjldfmkpdkhnnaaDoor.Pure

namespace Go.Proofs.YtjldfmkpdkhnnaaDoor.Pure
set_option linter.unusedVariables false
set_option linter.unusedSimpArgs false
open Go.RowKit Go.Proofs.YtjldfmkpdkhnnaaDoor.QL Go.Proofs.YtjldfmkpdkhnnaaDoorW.PrintWords Go.Proofs.YtjldfmkpdkhnnaaDoorW.PrintLast Go.Proofs.YtjldfmkpdkhnnaaDoorW.PrintMore Go.Proofs.YtjldfmkpdkhnnaaDoor.Aux Go.Proofs.YtjldfmkpdkhnnaaDoor.Dom Go.Proofs.YtjldfmkpdkhnnaaDoor.Ext
theorem spec_DrawHex_ev (b : List Int) (hb : b.length ≤ 1048576) : ∃ s, Ev (fun k => spec_DrawHex.f k b) s ∧ s.size ≤ 40 := by
  obtain ⟨h', e⟩ := spec_l1New_ev b hb
  obtain ⟨s, i1, g1, e1, a1, a3⟩ := spec_l1Text_ev b 0 h' 40 hb (by omega) (by omega) (by omega)
  exact ⟨s, Ev.congr (fun k => by unfold spec_DrawHex.f; rfl) (ev_bind e (ev_bind e1 (Ev.now _))), by omega⟩

end Go.Proofs.YtjldfmkpdkhnnaaDoor.Pure

namespace Go.Proofs.YtjldfmkpdkhnnaaDoor.Pure
set_option linter.unusedVariables false
set_option linter.unusedSimpArgs false
open Go.RowKit Go.Proofs.YtjldfmkpdkhnnaaDoor.QL Go.Proofs.YtjldfmkpdkhnnaaDoorW.PrintWords Go.Proofs.YtjldfmkpdkhnnaaDoorW.PrintLast Go.Proofs.YtjldfmkpdkhnnaaDoorW.PrintMore Go.Proofs.YtjldfmkpdkhnnaaDoor.Aux Go.Proofs.YtjldfmkpdkhnnaaDoor.Dom Go.Proofs.YtjldfmkpdkhnnaaDoor.Ext
theorem size_pre (s : ByteArray) (n : Nat) : (s.extract 0 n).size ≤ s.size := by rw [ByteArray.size_extract]; omega
theorem size_suf (s : ByteArray) (n : Nat) : (s.extract n s.size).size ≤ s.size := by rw [ByteArray.size_extract]; omega
theorem size_one (x : Int) : (strOfNums [x]).size = 1 := by rw [strOfNums_size]; rfl
theorem spec_l1Spoil_ev (b : List Int) (i h : Int) (s : ByteArray) (hb : b.length ≤ 1048576) (h0 : 0 ≤ i) (hs : s.size ≤ 8388608) : ∃ t i' h', Ev (fun k => spec_l1Spoil.f k b i h s) (t, i', h') ∧ t.size ≤ 2 * s.size + 3 ∧ 0 ≤ i' := by
  by_cases hz : (s.size : Int) = 0
  · obtain ⟨t, i', h', e, q, r⟩ := spec_l1Text_ev b i h 3 hb h0 (by omega) (by omega)
    exact ⟨t, i', h', Ev.congr (fun k => by unfold spec_l1Spoil.f; rw [if_pos hz]) (ev_bind e (Ev.now _)), by omega, r⟩
  obtain ⟨x, i1, g1, e1, a1, a2, a3⟩ := l1Below_ok b i h (s.size : Int) hb h0
  obtain ⟨y, i2, g2, e2, b1, b2, b3⟩ := l1Below_ok b i1 g1 4 hb a3
  have hx : x < (s.size : Int) := by omega
  have hw : wrap64 (x + 1) = x + 1 := wrap_id (by omega) (by omega)
  have p1 := size_pre s x.toNat
  have p2 := size_suf s (x + 1).toNat
  have p3 := size_suf s x.toNat
  by_cases c0 : y = 0
  · refine ⟨s.extract 0 x.toNat ++ s.extract (x + 1).toNat s.size, i2, g2, ev_some fun k => ?_, by rw [ByteArray.size_append]; omega, b3⟩
    unfold spec_l1Spoil.f
    rw [if_neg hz, e1, Option.bind_some, e2, Option.bind_some]
    dsimp only
    rw [if_pos c0, if_pos a1, if_pos (by omega), hw, if_pos (by omega), if_pos (by omega), if_pos (by omega)]
  by_cases c1 : y = 1
  · obtain ⟨z, i3, g3, e3, d1, d2, d3⟩ := l1Byte_ok b i2 g2 hb b3
    have q1 := size_one (z % 256)
    refine ⟨s.extract 0 x.toNat ++ strOfNums [z % 256] ++ s.extract x.toNat s.size, i3, g3, ev_some fun k => ?_, by rw [ByteArray.size_append, ByteArray.size_append]; omega, d3⟩
    unfold spec_l1Spoil.f
    rw [if_neg hz, e1, Option.bind_some, e2, Option.bind_some]
    dsimp only
    rw [if_neg c0, if_pos c1, if_pos a1, if_pos (by omega), e3, Option.bind_some, Option.bind_some]
    dsimp only
    rw [if_pos (by omega), if_pos (by rw [ByteArray.size_append]; omega)]
  by_cases c2 : y = 2
  · refine ⟨s.extract 0 x.toNat, i2, g2, ev_some fun k => ?_, by omega, b3⟩
    unfold spec_l1Spoil.f
    rw [if_neg hz, e1, Option.bind_some, e2, Option.bind_some]
    dsimp only
    rw [if_neg c0, if_neg c1, if_pos c2, if_pos a1, if_pos (by omega)]
  · obtain ⟨z, i3, g3, e3, d1, d2, d3⟩ := l1Below_ok b i2 g2 255 hb b3
    have q1 := size_one (Go.bits .xor .i64 (wrap64 (bt s x)) (wrap64 (1 + z)) % 256)
    refine ⟨s.extract 0 x.toNat ++ strOfNums [Go.bits .xor .i64 (wrap64 (bt s x)) (wrap64 (1 + z)) % 256] ++ s.extract (x + 1).toNat s.size, i3, g3, ev_some fun k => ?_, by rw [ByteArray.size_append, ByteArray.size_append]; omega, d3⟩
    unfold spec_l1Spoil.f
    rw [if_neg hz, e1, Option.bind_some, e2, Option.bind_some]
    dsimp only
    rw [if_neg c0, if_neg c1, if_neg c2, if_pos a1, if_pos (by omega), if_pos hx, e3, Option.bind_some, Option.bind_some]
    dsimp only
    rw [if_pos (by omega), hw, if_pos (by omega), if_pos (by omega), if_pos (by rw [ByteArray.size_append]; omega)]

end Go.Proofs.YtjldfmkpdkhnnaaDoor.Pure

namespace Go.Proofs.YtjldfmkpdkhnnaaDoor.Pure
set_option linter.unusedVariables false
set_option linter.unusedSimpArgs false
open Go.RowKit Go.Proofs.YtjldfmkpdkhnnaaDoor.QL Go.Proofs.YtjldfmkpdkhnnaaDoorW.PrintWords Go.Proofs.YtjldfmkpdkhnnaaDoorW.PrintLast Go.Proofs.YtjldfmkpdkhnnaaDoorW.PrintMore Go.Proofs.YtjldfmkpdkhnnaaDoor.Aux Go.Proofs.YtjldfmkpdkhnnaaDoor.Dom Go.Proofs.YtjldfmkpdkhnnaaDoor.Ext
theorem spec_l1In_eq (a b c : Int) : spec_l1In.f a b c = some (decide (b ≤ a ∧ a ≤ c)) := by
  unfold spec_l1In.f
  by_cases h : a ≥ b
  · rw [if_pos h]; simp [show b ≤ a from h]
  · rw [if_neg h]; simp [show ¬ b ≤ a from h]

end Go.Proofs.YtjldfmkpdkhnnaaDoor.Pure

namespace Go.Proofs.YtjldfmkpdkhnnaaDoor.Pure
set_option linter.unusedVariables false
set_option linter.unusedSimpArgs false
open Go.RowKit Go.Proofs.YtjldfmkpdkhnnaaDoor.QL Go.Proofs.YtjldfmkpdkhnnaaDoorW.PrintWords Go.Proofs.YtjldfmkpdkhnnaaDoorW.PrintLast Go.Proofs.YtjldfmkpdkhnnaaDoorW.PrintMore Go.Proofs.YtjldfmkpdkhnnaaDoor.Aux Go.Proofs.YtjldfmkpdkhnnaaDoor.Dom Go.Proofs.YtjldfmkpdkhnnaaDoor.Ext
theorem spec_Var_l0 : ∀ (f : Nat) (n : Int) (xs : List Int), 0 ≤ n → n < 128 ^ (f + 1) → f < 9 → xs.length + f ≤ 100 →
    Ev (fun k => spec_Var.l0 k n xs) (strOfNums (xs ++ varL f n))
  | 0, n, xs, h0, h1, hf, hx => by
    refine ev_last fun k => ?_
    simp only [spec_Var.l0]
    rw [if_neg (by omega), if_pos (by omega), Int.emod_eq_of_lt h0 (by omega)]
    rfl
  | f + 1, n, xs, h0, h1, hf, hx => by
    have hm : n < 2 ^ 63 := by
      have : (128 : Int) ^ (f + 1 + 1) ≤ 128 ^ 9 := pow_le 128 (by decide) (by omega)
      omega
    by_cases h : n > 127
    · refine Ev.step (f := fun k => spec_Var.l0 k (n / 128) (xs ++ [128 + n % 128])) (fun k => ?_) (ev_eq (spec_Var_l0 f (n / 128) (xs ++ [128 + n % 128]) (by omega) ?_ (by omega) (by simp; omega)) ?_)
      · simp only [spec_Var.l0]
        rw [if_pos (by omega), if_pos (by omega), Int.tdiv_eq_ediv_of_nonneg h0, Int.tmod_eq_emod_of_nonneg h0, wrap_id (by omega) (by omega), wrap_id (by omega) (by omega), Int.emod_eq_of_lt (a := 128 + n % 128) (by omega) (by omega)]
      · rw [Int.pow_succ] at h1; omega
      · simp [varL, h]
    · refine ev_last fun k => ?_
      simp only [spec_Var.l0]
      rw [if_neg (by omega), if_pos (by omega), Int.emod_eq_of_lt h0 (by omega)]
      simp [varL, h]
theorem spec_Var_ev (n : Int) : Ev (fun k => spec_Var.f k n) (strOfNums (varT n)) := by
  refine Ev.congr (fun k => by unfold spec_Var.f; rw [spec_l1In_eq, Option.bind_some]) ?_
  unfold varT
  by_cases h : 0 ≤ n ∧ n ≤ 562949953421311
  · rw [if_pos h]
    exact ev_if_pos (by simpa using h) (by simpa using spec_Var_l0 7 n [] h.1 (by omega) (by decide) (by simp))
  · rw [if_neg h]
    exact ev_if_neg (by simpa using h) (Ev.now _)

end Go.Proofs.YtjldfmkpdkhnnaaDoor.Pure

namespace Go.Proofs.YtjldfmkpdkhnnaaDoor.Pure
set_option linter.unusedVariables false
set_option linter.unusedSimpArgs false
open Go.RowKit Go.Proofs.YtjldfmkpdkhnnaaDoor.QL Go.Proofs.YtjldfmkpdkhnnaaDoorW.PrintWords Go.Proofs.YtjldfmkpdkhnnaaDoorW.PrintLast Go.Proofs.YtjldfmkpdkhnnaaDoorW.PrintMore Go.Proofs.YtjldfmkpdkhnnaaDoor.Aux Go.Proofs.YtjldfmkpdkhnnaaDoor.Dom Go.Proofs.YtjldfmkpdkhnnaaDoor.Ext
theorem impl_in_eq (a b c : Int) : impl_in.f a b c = some (decide (b ≤ a ∧ a ≤ c)) := by
  unfold impl_in.f
  by_cases h : a ≥ b
  · rw [if_pos h]; simp [show b ≤ a from h]
  · rw [if_neg h]; simp [show ¬ b ≤ a from h]

end Go.Proofs.YtjldfmkpdkhnnaaDoor.Pure

namespace Go.Proofs.YtjldfmkpdkhnnaaDoor.Pure
set_option linter.unusedVariables false
set_option linter.unusedSimpArgs false
open Go.RowKit Go.Proofs.YtjldfmkpdkhnnaaDoor.QL Go.Proofs.YtjldfmkpdkhnnaaDoorW.PrintWords Go.Proofs.YtjldfmkpdkhnnaaDoorW.PrintLast Go.Proofs.YtjldfmkpdkhnnaaDoorW.PrintMore Go.Proofs.YtjldfmkpdkhnnaaDoor.Aux Go.Proofs.YtjldfmkpdkhnnaaDoor.Dom Go.Proofs.YtjldfmkpdkhnnaaDoor.Ext
theorem impl_Var_l0 : ∀ (f : Nat) (n : Int) (xs : List Int), 0 ≤ n → n < 128 ^ (f + 1) → f < 9 → xs.length + f ≤ 100 →
    Ev (fun k => impl_Var.l0 k n xs) (strOfNums (xs ++ varL f n))
  | 0, n, xs, h0, h1, hf, hx => by
    refine ev_last fun k => ?_
    simp only [impl_Var.l0]
    rw [if_neg (by omega), if_pos (by omega), Int.emod_eq_of_lt h0 (by omega)]
    rfl
  | f + 1, n, xs, h0, h1, hf, hx => by
    have hm : n < 2 ^ 63 := by
      have : (128 : Int) ^ (f + 1 + 1) ≤ 128 ^ 9 := pow_le 128 (by decide) (by omega)
      omega
    by_cases h : n > 127
    · refine Ev.step (f := fun k => impl_Var.l0 k (n / 128) (xs ++ [128 + n % 128])) (fun k => ?_) (ev_eq (impl_Var_l0 f (n / 128) (xs ++ [128 + n % 128]) (by omega) ?_ (by omega) (by simp; omega)) ?_)
      · simp only [impl_Var.l0]
        rw [if_pos (by omega), if_pos (by omega), and127 h0 hm, or128 (by omega) (by omega), Int.emod_eq_of_lt (a := 128 + n % 128) (by omega) (by omega)]
      · rw [Int.pow_succ] at h1; omega
      · simp [varL, h]
    · refine ev_last fun k => ?_
      simp only [impl_Var.l0]
      rw [if_neg (by omega), if_pos (by omega), Int.emod_eq_of_lt h0 (by omega)]
      simp [varL, h]
theorem impl_Var_ev (n : Int) : Ev (fun k => impl_Var.f k n) (strOfNums (varT n)) := by
  refine Ev.congr (fun k => by unfold impl_Var.f; rw [impl_in_eq, Option.bind_some]) ?_
  unfold varT
  by_cases h : 0 ≤ n ∧ n ≤ 562949953421311
  · rw [if_pos h]
    exact ev_if_pos (by simpa using h) (by simpa using impl_Var_l0 7 n [] h.1 (by omega) (by decide) (by simp))
  · rw [if_neg h]
    exact ev_if_neg (by simpa using h) (Ev.now _)

end Go.Proofs.YtjldfmkpdkhnnaaDoor.Pure

namespace Go.Proofs.YtjldfmkpdkhnnaaDoor.Pure
set_option linter.unusedVariables false
set_option linter.unusedSimpArgs false
open Go.RowKit Go.Proofs.YtjldfmkpdkhnnaaDoor.QL Go.Proofs.YtjldfmkpdkhnnaaDoorW.PrintWords Go.Proofs.YtjldfmkpdkhnnaaDoorW.PrintLast Go.Proofs.YtjldfmkpdkhnnaaDoorW.PrintMore Go.Proofs.YtjldfmkpdkhnnaaDoor.Aux Go.Proofs.YtjldfmkpdkhnnaaDoor.Dom Go.Proofs.YtjldfmkpdkhnnaaDoor.Ext
theorem impl_ReadVar_l0 (s : ByteArray) : ∀ (d k0 : Nat), k0 + d = 7 → k0 ≤ s.size →
    Ev (fun k => impl_ReadVar.l0 k s (lowV ((bytesOf s).take k0)) k0) (rvP (bytesOf s) d k0)
  | 0, k0, hd, hk => by
    refine Ev.step (f := fun k => impl_ReadVar.j1 k s (lowV ((bytesOf s).take k0)) k0 false) (fun k => ?_) (ev_last fun k => ?_)
    · simp only [impl_ReadVar.l0]; rw [if_neg (by omega)]
    · simp only [impl_ReadVar.j1]; rw [if_neg (by decide)]; rfl
  | d + 1, k0, hd, hk => by
    have hb := bt_bound s (k0 : Int)
    have hl := bytesOf_length s
    refine Ev.step (f := fun k => impl_ReadVar.j1 k s (lowV ((bytesOf s).take k0)) k0 (decide ((k0 : Int) < (s.size : Int)))) (fun k => by simp only [impl_ReadVar.l0]; rw [if_pos (by omega)]) ?_
    rw [rvP, hl]
    by_cases h : (k0 : Int) < (s.size : Int)
    · rw [if_pos h, decide_eq_true h, ← bt_eq]
      have hw : wrap64 (7 * (k0 : Int)) = 7 * k0 := wrap_id (by omega) (by omega)
      have hwb : wrap64 (bt s (k0 : Int)) = bt s (k0 : Int) := wrap_id (by omega) (by omega)
      have hlow := lowV_lt ((bytesOf s).take k0)
      have hlow0 := lowV_nonneg ((bytesOf s).take k0)
      have hlen : ((bytesOf s).take k0).length = k0 := by rw [List.length_take, hl]; omega
      rw [hlen] at hlow
      have h49 : (128 : Int) ^ k0 ≤ 128 ^ 6 := pow_le 128 (by decide) (by omega)
      have h27 : (2 : Int) ^ (7 * k0) = 128 ^ k0 := by rw [Int.pow_mul]; rfl
      have hand : Go.bits .and .i64 (bt s (k0 : Int)) 127 = bt s k0 % 128 := and127 hb.1 (by omega)
      have hp0 : (0 : Int) < 128 ^ k0 := Int.pow_pos (by decide)
      have hm : bt s (k0 : Int) % 128 * 128 ^ k0 ≤ 127 * 128 ^ k0 := Int.mul_le_mul_of_nonneg_right (by omega) (by omega)
      have hm0 : 0 ≤ bt s (k0 : Int) % 128 * 128 ^ k0 := Int.mul_nonneg (by omega) (by omega)
      have hor : Go.bits .or .i64 (lowV ((bytesOf s).take k0)) (shl .i64 (Go.bits .and .i64 (bt s (k0 : Int)) 127) (7 * (k0 : Int))) = lowV ((bytesOf s).take (k0 + 1)) := by
        rw [hand]
        have e : shl .i64 (bt s (k0 : Int) % 128) (7 * (k0 : Int)) = bt s (k0 : Int) % 128 * 2 ^ (7 * k0) := by
          unfold shl
          rw [show (7 * (k0 : Int)).toNat = 7 * k0 by omega, Nat.min_eq_left (by simp [IntKind.bits]; omega), h27]
          exact i64_pos _ hm0 (by omega)
        rw [e, or_add (7 * k0) (by rw [h27]; exact hlow) hlow0 (by omega) (by rw [h27]; omega) (by omega), h27]
        have ht : (bytesOf s).take (k0 + 1) = (bytesOf s).take k0 ++ [bt s (k0 : Int)] := by
          rw [List.take_succ_eq_append_getElem (by omega), bt_get s k0 (by omega)]
        rw [ht, lowV_snoc, hlen]
      by_cases h1 : bt s (k0 : Int) > 127
      · rw [if_pos h1]
        refine Ev.step (f := fun k => impl_ReadVar.l0 k s (lowV ((bytesOf s).take (k0 + 1))) ((k0 + 1 : Nat) : Int)) (fun k => ?_) (impl_ReadVar_l0 s d (k0 + 1) (by omega) (by omega))
        simp only [impl_ReadVar.j1]
        rw [if_pos trivial, if_pos (by omega), if_pos h, hw, if_pos (by omega), hwb, if_pos h1, hor, wrap_id (by omega) (by omega)]
        rfl
      · rw [if_neg h1]
        refine ev_last fun k => ?_
        simp only [impl_ReadVar.j1]
        rw [if_pos trivial, if_pos (by omega), if_pos h, hw, if_pos (by omega), hwb, if_neg h1, hor, wrap_id (by omega) (by omega)]
        have hmax : ¬ lowV ((bytesOf s).take (k0 + 1)) > 562949953421311 := by
          have hx := lowV_lt ((bytesOf s).take (k0 + 1))
          have : (128 : Int) ^ ((bytesOf s).take (k0 + 1)).length ≤ 128 ^ 7 := pow_le 128 (by decide) (by rw [List.length_take]; omega)
          omega
        by_cases h2 : bt s (k0 : Int) = 0
        · rw [if_pos h2]
          by_cases h3 : (k0 : Int) > 0
          · rw [if_pos h3, if_pos ⟨h2, by omega⟩]
          · rw [if_neg h3, if_neg hmax, if_neg (fun hh => h3 (by omega))]
        · rw [if_neg h2, if_neg hmax, if_neg (fun hh => h2 hh.1)]
    · rw [if_neg h, decide_eq_false h]
      refine ev_last fun k => ?_
      simp only [impl_ReadVar.j1]; rw [if_neg (by decide)]
theorem impl_ReadVar_ev (s : ByteArray) : Ev (fun k => impl_ReadVar.f k s) (readVarP (bytesOf s)) := by
  have h := impl_ReadVar_l0 s 7 0 (by omega) (by omega)
  simpa [impl_ReadVar.f, lowV, readVarP] using h

end Go.Proofs.YtjldfmkpdkhnnaaDoor.Pure

namespace Go.Proofs.YtjldfmkpdkhnnaaDoor.Pure
set_option linter.unusedVariables false
set_option linter.unusedSimpArgs false
open Go.RowKit Go.Proofs.YtjldfmkpdkhnnaaDoor.QL Go.Proofs.YtjldfmkpdkhnnaaDoorW.PrintWords Go.Proofs.YtjldfmkpdkhnnaaDoorW.PrintLast Go.Proofs.YtjldfmkpdkhnnaaDoorW.PrintMore Go.Proofs.YtjldfmkpdkhnnaaDoor.Aux Go.Proofs.YtjldfmkpdkhnnaaDoor.Dom Go.Proofs.YtjldfmkpdkhnnaaDoor.Ext
theorem impl_Fixed_l0 : ∀ (d : Nat) (n : Int) (tail : List Int), d < 9 → Ev (fun k => impl_Fixed.l0 k n (List.replicate d 0 ++ tail) ((d : Int) - 1)) (strOfNums (fixL n d ++ tail))
  | 0, n, tail, hd => by
    refine ev_last fun k => ?_
    simp only [impl_Fixed.l0]
    rw [if_neg (by omega)]; rfl
  | d + 1, n, tail, hd => by
    refine Ev.step (f := fun k => impl_Fixed.l0 k (n / 256) (List.replicate d 0 ++ (n % 256 :: tail)) ((d : Int) - 1)) (fun k => ?_) (ev_eq (impl_Fixed_l0 d (n / 256) (n % 256 :: tail) (by omega)) ?_)
    · simp only [impl_Fixed.l0]
      rw [if_pos (by omega), if_pos (by omega), if_pos (by simp; omega), wrap_id (by omega) (by omega)]
      have e : (List.replicate (d + 1) (0 : Int) ++ tail).set (((d + 1 : Nat) : Int) - 1).toNat (n % 256) = List.replicate d 0 ++ (n % 256 :: tail) := by
        rw [show (((d + 1 : Nat) : Int) - 1).toNat = d by omega, List.replicate_succ', List.append_assoc, List.set_append_right _ _ (by simp)]
        simp
      rw [e]
      congr 1
      omega
    · simp [fixL]
theorem impl_shl {w : Int} (h : 1 ≤ w ∧ w ≤ 7) : shl .i64 1 (wrap64 (8 * w)) = 256 ^ w.toNat := by
  rw [wrap_id (by omega) (by omega)]
  have : w = 1 ∨ w = 2 ∨ w = 3 ∨ w = 4 ∨ w = 5 ∨ w = 6 ∨ w = 7 := by omega
  rcases this with rfl | rfl | rfl | rfl | rfl | rfl | rfl <;> decide
theorem impl_Fixed_ev (n w : Int) : Ev (fun k => impl_Fixed.f k n w) (strOfNums (fixT n w)) := by
  refine Ev.congr (fun k => by unfold impl_Fixed.f; rw [impl_in_eq, Option.bind_some]) ?_
  unfold fixT
  by_cases h : 1 ≤ w ∧ w ≤ 7
  · have hp : (256 : Int) ^ w.toNat ≤ 256 ^ 7 := pow_le 256 (by decide) (by omega)
    have hp0 : (0 : Int) < 256 ^ w.toNat := Int.pow_pos (by decide)
    refine ev_if_pos (by simpa using h) (ev_if_pos (by rw [wrap_id (by omega) (by omega)]; omega) ?_)
    rw [impl_shl h, wrap_id (by omega) (by omega)]
    refine Ev.congr (fun k => by rw [impl_in_eq, Option.bind_some]) ?_
    by_cases h2 : 0 ≤ n ∧ n ≤ 256 ^ w.toNat - 1
    · refine Ev.step (f := fun k => impl_Fixed.l0 k n (List.replicate w.toNat 0 ++ []) ((w.toNat : Int) - 1)) (fun k => ?_) (ev_eq (impl_Fixed_l0 w.toNat n [] (by omega)) ?_)
      · simp only [impl_Fixed.j0]
        rw [if_neg (by simp only [decide_eq_true h2, Bool.not_true]; decide), if_pos (by omega), if_pos (by omega), wrap_id (by omega) (by omega), List.append_nil, show ((w.toNat : Nat) : Int) = w by omega]
      · rw [if_pos ⟨h, by omega, by omega⟩, List.append_nil]
    · rw [if_neg (fun hh => h2 ⟨hh.2.1, by omega⟩)]
      refine ev_last fun k => ?_
      simp only [impl_Fixed.j0]; rw [if_pos (by simp only [decide_eq_false h2, Bool.not_false])]; rfl
  · refine ev_if_neg (by simpa using h) ?_
    rw [if_neg (fun hh => h hh.1)]
    refine ev_last fun k => ?_
    simp only [impl_Fixed.j0]; rw [if_pos trivial]; rfl

end Go.Proofs.YtjldfmkpdkhnnaaDoor.Pure

namespace Go.Proofs.YtjldfmkpdkhnnaaDoor.Pure
set_option linter.unusedVariables false
set_option linter.unusedSimpArgs false
open Go.RowKit Go.Proofs.YtjldfmkpdkhnnaaDoor.QL Go.Proofs.YtjldfmkpdkhnnaaDoorW.PrintWords Go.Proofs.YtjldfmkpdkhnnaaDoorW.PrintLast Go.Proofs.YtjldfmkpdkhnnaaDoorW.PrintMore Go.Proofs.YtjldfmkpdkhnnaaDoor.Aux Go.Proofs.YtjldfmkpdkhnnaaDoor.Dom Go.Proofs.YtjldfmkpdkhnnaaDoor.Ext
theorem impl_ReadFixed_l0 (s : ByteArray) (w : Int) (hw : w ≤ 7) (hs : w ≤ (s.size : Int)) : ∀ (d : Nat) (n i : Int), 0 ≤ i → w - i = d → 0 ≤ n → n < 256 ^ i.toNat →
    Ev (fun k => impl_ReadFixed.l0 k s n w i) (fixR n (((bytesOf s).take w.toNat).drop i.toNat), true)
  | 0, n, i, h0, hd, n0, n1 => by
    refine ev_last fun k => ?_
    simp only [impl_ReadFixed.l0]
    rw [if_neg (by omega), List.drop_eq_nil_of_le (by simp; omega)]
    rfl
  | d + 1, n, i, h0, hd, n0, n1 => by
    have hb := bt_bound s i
    have hlt : i < (s.size : Int) := by omega
    have hle : (256 : Int) ^ i.toNat ≤ 256 ^ 6 := pow_le 256 (by decide) (by omega)
    have hn : n * 256 + bt s i < 256 ^ (i + 1).toNat := by
      rw [show (i + 1).toNat = i.toNat + 1 by omega, Int.pow_succ]; omega
    have hdrop : ((bytesOf s).take w.toNat).drop i.toNat = bt s i :: ((bytesOf s).take w.toNat).drop (i + 1).toNat := by
      have hl := bytesOf_length s
      have e := drop_rd (xs := (bytesOf s).take w.toNat) h0 (by simp; omega)
      rw [e, bt_eq]
      simp only [rd]
      rw [List.getD_eq_getElem?_getD, List.getD_eq_getElem?_getD, List.getElem?_take_of_lt (by omega)]
    refine Ev.step (f := fun k => impl_ReadFixed.l0 k s (n * 256 + bt s i) w (i + 1)) (fun k => ?_) (ev_eq (impl_ReadFixed_l0 s w hw hs d _ (i + 1) (by omega) (by omega) (by omega) hn) ?_)
    · simp only [impl_ReadFixed.l0]
      rw [if_pos (by omega), if_pos h0, if_pos hlt, wrap_id (x := n * 256) (by omega) (by omega), wrap_id (x := bt s i) (by omega) (by omega), or256 (by omega) (by omega) (by omega) (by omega), wrap_id (by omega) (by omega)]
    · rw [hdrop]; rfl
theorem impl_ReadFixed_ev (s : ByteArray) (w : Int) :
    Ev (fun k => impl_ReadFixed.f k s w) (if (1 ≤ w ∧ w ≤ 7) ∧ w ≤ (s.size : Int) then (fixR 0 ((bytesOf s).take w.toNat), true) else (0, false)) := by
  refine Ev.congr (fun k => by unfold impl_ReadFixed.f; rw [impl_in_eq, Option.bind_some]) ?_
  by_cases h : 1 ≤ w ∧ w ≤ 7
  · refine ev_if_pos (by simpa using h) ?_
    by_cases h2 : w ≤ (s.size : Int)
    · rw [if_pos ⟨h, h2⟩]
      refine Ev.step (f := fun k => impl_ReadFixed.l0 k s 0 w 0) (fun k => ?_) ?_
      · simp only [impl_ReadFixed.j0]; rw [if_neg (by simp; omega)]
      · have e := impl_ReadFixed_l0 s w h.2 h2 w.toNat 0 0 (by omega) (by omega) (by omega) (by simp)
        simpa using e
    · rw [if_neg (fun hh => h2 hh.2)]
      refine ev_last fun k => ?_
      simp only [impl_ReadFixed.j0]; rw [if_pos (by simp; omega)]
  · refine ev_if_neg (by simpa using h) ?_
    rw [if_neg (fun hh => h hh.1)]
    refine ev_last fun k => ?_
    simp only [impl_ReadFixed.j0]; rw [if_pos trivial]

end Go.Proofs.YtjldfmkpdkhnnaaDoor.Pure

namespace Go.Proofs.YtjldfmkpdkhnnaaDoor.Pure
set_option linter.unusedVariables false
set_option linter.unusedSimpArgs false
open Go.RowKit Go.Proofs.YtjldfmkpdkhnnaaDoor.QL Go.Proofs.YtjldfmkpdkhnnaaDoorW.PrintWords Go.Proofs.YtjldfmkpdkhnnaaDoorW.PrintLast Go.Proofs.YtjldfmkpdkhnnaaDoorW.PrintMore Go.Proofs.YtjldfmkpdkhnnaaDoor.Aux Go.Proofs.YtjldfmkpdkhnnaaDoor.Dom Go.Proofs.YtjldfmkpdkhnnaaDoor.Ext
/-! Numbers read again out of their texts. No program in sight. -/
theorem varL_succ (f : Nat) (n : Int) : varL (f + 1) n = if n > 127 then (128 + n % 128) :: varL f (n / 128) else [n] := rfl
theorem varL_ne (f : Nat) (n : Int) : varL f n ≠ [] := by
  cases f with
  | zero => simp [varL]
  | succ f => rw [varL]; split <;> simp
theorem varL_len : ∀ (f : Nat) (n : Int), (varL f n).length ≤ f + 1
  | 0, n => by simp [varL]
  | f + 1, n => by
    rw [varL]
    have := varL_len f (n / 128)
    split <;> simp <;> omega
theorem lowV_varL : ∀ (f : Nat) (n : Int), 0 ≤ n → n < 128 ^ (f + 1) → lowV (varL f n) = n
  | 0, n, h0, h1 => by simp [varL, lowV]; omega
  | f + 1, n, h0, h1 => by
    rw [varL]
    by_cases h : n > 127
    · rw [if_pos h, lowV, lowV_varL f (n / 128) (by omega) (by rw [Int.pow_succ] at h1; omega)]
      omega
    · rw [if_neg h]; simp [lowV]; omega
theorem varL_short : ∀ (f : Nat) (n : Int), 0 ≤ n → n < 128 ^ (f + 1) → varL (f + 1) n = varL f n
  | 0, n, h0, h1 => by rw [varL_succ, if_neg (by simp at h1; omega)]; rfl
  | f + 1, n, h0, h1 => by
    rw [varL_succ (f + 1) n, varL_succ f n]
    by_cases h : n > 127
    · rw [if_pos h, if_pos h, varL_short f (n / 128) (by omega) (by rw [Int.pow_succ] at h1; omega)]
    · rw [if_neg h, if_neg h]
theorem rd_mid (P t : List Int) (c : Int) : rd (P ++ c :: t) ((P.length : Nat) : Int) = c := by
  simp [rd]
theorem rvP_var : ∀ (f : Nat) (n : Int) (P t : List Int) (d : Nat), 0 ≤ n → n < 128 ^ (f + 1) → (0 < n ∨ P = []) → f + 1 ≤ d → rvP (P ++ varL f n ++ t) d P.length = (lowV (P ++ varL f n), ((P ++ varL f n).length : Int))
  | f, n, P, t, 0, _, _, _, hd => by omega
  | f, n, P, t, d + 1, h0, h1, hp, hd => by
    by_cases h : n > 127
    · cases f with
      | zero => simp at h1; omega
      | succ f =>
        rw [varL_succ, if_pos h]
        have ih := rvP_var f (n / 128) (P ++ [128 + n % 128]) t d (by omega) (by rw [Int.pow_succ] at h1; omega) (Or.inl (by omega)) (by omega)
        rw [List.append_assoc P [128 + n % 128] (varL f (n / 128)), List.length_append, List.length_singleton, List.singleton_append] at ih
        rw [rvP, if_pos (by simp; omega), List.append_assoc, List.cons_append, rd_mid, if_pos (by omega), ← List.cons_append, ← List.append_assoc]
        exact ih
    · have e : varL f n = [n] := by cases f with
        | zero => rfl
        | succ f => rw [varL_succ, if_neg h]
      rw [e, rvP, if_pos (by simp; omega), List.append_assoc, List.singleton_append, rd_mid, if_neg h, if_neg (by rintro ⟨a, b⟩; rcases hp with hp | hp; omega; rw [hp] at b; simp at b)]
      have e2 : (P ++ n :: t).take (P.length + 1) = P ++ [n] := by
        rw [List.take_append, List.take_of_length_le (by omega), Nat.add_sub_cancel_left]; rfl
      rw [e2]
      simp
theorem readVarP_varT {n : Int} (h0 : 0 ≤ n) (h1 : n ≤ 562949953421311) (t : List Int) : readVarP (varT n ++ t) = (n, ((varT n).length : Int)) := by
  have e : varT n = varL 6 n := by unfold varT; rw [if_pos ⟨h0, h1⟩, varL_short 6 n h0 (by omega)]
  have h := rvP_var 6 n [] t 7 h0 (by omega) (Or.inr rfl) (by omega)
  rw [List.nil_append, lowV_varL 6 n h0 (by omega)] at h
  rw [e]
  exact h
theorem fixL_length (n : Int) : ∀ w, (fixL n w).length = w := by
  intro w
  induction w generalizing n with
  | zero => rfl
  | succ w ih => rw [fixL, List.length_append, ih]; rfl
theorem fixR_snoc : ∀ (l : List Int) (n c : Int), fixR n (l ++ [c]) = fixR n l * 256 + c
  | [], n, c => rfl
  | a :: r, n, c => by rw [List.cons_append, fixR, fixR, fixR_snoc r]
theorem fixR_fixL : ∀ (w : Nat) (n : Int), 0 ≤ n → n < 256 ^ w → fixR 0 (fixL n w) = n
  | 0, n, h0, h1 => by simp at h1; simp [fixL, fixR]; omega
  | w + 1, n, h0, h1 => by
    rw [fixL, fixR_snoc, fixR_fixL w (n / 256) (by omega) (by rw [Int.pow_succ] at h1; omega)]
    omega
theorem hexs_pair {c : Int} (h0 : 0 ≤ c) (h1 : c < 256) : ¬ (idxB hexDs (hxd (c / 16)) < 0 ∨ idxB hexDs (hxd (c % 16)) < 0) ∧ 16 * idxB hexDs (hxd (c / 16)) + idxB hexDs (hxd (c % 16)) = c := by
  have key : ∀ x : Int, 0 ≤ x → x < 16 → idxB hexDs (hxd x) = x := by
    intro x a b
    have : x = 0 ∨ x = 1 ∨ x = 2 ∨ x = 3 ∨ x = 4 ∨ x = 5 ∨ x = 6 ∨ x = 7 ∨ x = 8 ∨ x = 9 ∨ x = 10 ∨ x = 11 ∨ x = 12 ∨ x = 13 ∨ x = 14 ∨ x = 15 := by omega
    rcases this with rfl | rfl | rfl | rfl | rfl | rfl | rfl | rfl | rfl | rfl | rfl | rfl | rfl | rfl | rfl | rfl <;> decide
  rw [key (c / 16) (by omega) (by omega), key (c % 16) (by omega) (by omega)]
  omega
theorem unhexL_hexL : ∀ l : List Int, (∀ c ∈ l, 0 ≤ c ∧ c < 256) → unhexL (hexL l) = some l
  | [], _ => rfl
  | c :: r, h => by
    have hc := h c List.mem_cons_self
    have hp := hexs_pair hc.1 hc.2
    rw [hexL, unhexL, if_neg hp.1, unhexL_hexL r (fun x hx => h x (List.mem_cons_of_mem _ hx)), Option.map_some, hp.2]
theorem decL_ge : ∀ (j f : Nat) (n : Int) (acc : List Int), 10 ^ j ≤ n → j < f → j + 1 + acc.length ≤ (decL f n acc).length
  | j, 0, n, acc, _, hf => by omega
  | 0, f + 1, n, acc, h, hf => by
    rw [decL, if_pos (by simp at h; omega)]
    have : ∀ (f : Nat) (n : Int) (acc : List Int), acc.length ≤ (decL f n acc).length := by
      intro f
      induction f with
      | zero => intro n acc; rw [decL]; exact Nat.le_refl _
      | succ f ih =>
        intro n acc
        rw [decL]
        split
        · have := ih (n / 10) ((48 + n % 10) :: acc)
          rw [List.length_cons] at this
          omega
        · exact Nat.le_refl _
    have h2 := this f (n / 10) ((48 + n % 10) :: acc)
    rw [List.length_cons] at h2
    omega
  | j + 1, f + 1, n, acc, h, hf => by
    rw [Int.pow_succ] at h
    have hp : (1 : Int) ≤ 10 ^ j := by have : (0 : Int) < 10 ^ j := Int.pow_pos (by decide); omega
    rw [decL, if_pos (by omega)]
    have := decL_ge j f (n / 10) ((48 + n % 10) :: acc) (by omega) (by omega)
    rw [List.length_cons] at this
    omega
theorem decL_lt : ∀ (j f : Nat) (n : Int) (acc : List Int), n < 10 ^ j → (decL f n acc).length ≤ j + acc.length
  | j, 0, n, acc, _ => by rw [decL]; omega
  | 0, f + 1, n, acc, h => by rw [decL, if_neg (by simp at h; omega)]; omega
  | j + 1, f + 1, n, acc, h => by
    rw [Int.pow_succ] at h
    rw [decL]
    split
    · have := decL_lt j f (n / 10) ((48 + n % 10) :: acc) (by omega)
      rw [List.length_cons] at this
      omega
    · omega
theorem decL_digs : ∀ (f : Nat) (n : Int) (acc : List Int), (∀ c ∈ acc, 48 ≤ c ∧ c ≤ 57) → ∀ c ∈ decL f n acc, 48 ≤ c ∧ c ≤ 57
  | 0, n, acc, h, c, hc => by rw [decL] at hc; exact h c hc
  | f + 1, n, acc, h, c, hc => by
    rw [decL] at hc
    split at hc
    · refine decL_digs f (n / 10) ((48 + n % 10) :: acc) ?_ c hc
      intro x hx
      rcases List.mem_cons.1 hx with rfl | hx
      · omega
      · exact h x hx
    · exact h c hc
/-- A numeral's first byte is no '-' where the number is not below 0. -/
theorem decP_head {n : Int} (h : 0 ≤ n) : ∀ r, decP n ≠ 45 :: r := by
  intro r e
  unfold decP at e
  by_cases hz : n = 0
  · rw [if_pos hz] at e; simp at e
  · rw [if_neg hz, if_neg (by omega)] at e
    have := decL_digs 20 n [] (by simp) 45 (by rw [e]; exact List.mem_cons_self)
    omega
theorem decP_neg {n : Int} (h : n < 0) : decP n = 45 :: decL 20 (-n) [] := by
  unfold decP
  rw [if_neg (by omega), if_pos h]
theorem decP_big {n m : Int} (hn : n < -999999999 ∨ 999999999 < n) (h0 : -999999999 ≤ m) (h1 : m ≤ 999999999) : decP m ≠ decP n := by
  intro e
  have p9 : (10 : Int) ^ 9 = 1000000000 := by decide
  rcases hn with hn | hn
  · rw [decP_neg (show n < 0 by omega)] at e
    by_cases hm : m < 0
    · rw [decP_neg hm] at e
      have l1 := decL_ge 9 20 (-n) [] (by omega) (by omega)
      have l2 := decL_lt 9 20 (-m) [] (by omega)
      have := congrArg List.length e
      simp only [List.length_cons, List.length_nil] at this l1 l2
      omega
    · exact decP_head (by omega) _ e
  · by_cases hm : m < 0
    · rw [decP_neg hm] at e
      exact decP_head (by omega) _ e.symm
    · have l1 := decL_ge 9 20 n [] (by omega) (by omega)
      have l2 := decL_lt 9 20 m [] (by omega)
      have := congrArg List.length e
      unfold decP at this
      rw [if_neg (show ¬ n = 0 by omega), if_neg (show ¬ n < 0 by omega)] at this
      by_cases hz : m = 0
      · rw [if_pos hz] at this
        simp only [List.length_cons, List.length_nil] at this l1
        omega
      · rw [if_neg hz, if_neg hm] at this
        simp only [List.length_nil] at l1 l2
        omega
theorem goodV_rv (l : List Int) : ∀ (d k0 : Nat), k0 + d = 7 → k0 < l.length → 0 < d → (∀ j : Nat, j < k0 → rd l j > 127) →
    goodV (l.take (k0 + 1)) = decide (rd l k0 ≤ 127 ∧ ¬ (rd l k0 = 0 ∧ k0 > 0)) := by
  intro d k0 _ hk _ hall
  have key : ∀ (m : Nat) (l : List Int), m < l.length → (∀ j : Nat, j < m → rd l j > 127) → (good0 (l.take (m + 1)) = decide (rd l m ≤ 127 ∧ rd l m ≠ 0)) ∧ goodV (l.take (m + 1)) = decide (rd l m ≤ 127 ∧ ¬ (rd l m = 0 ∧ m > 0)) := by
    intro m
    induction m with
    | zero =>
      intro l hm _
      match l, hm with
      | c :: r, _ =>
        have e0 : rd (c :: r) ((0 : Nat) : Int) = c := by simp [rd]
        rw [e0]
        simp only [List.take_succ_cons, List.take_zero, good0, goodV]
        exact ⟨decide_eq_decide.2 (by omega), decide_eq_decide.2 (by omega)⟩
    | succ m ih =>
      intro l hm hall
      match l, hm with
      | c :: r, hm =>
        have h0 := hall 0 (by omega)
        have hr : ∀ j : Nat, j < m → rd r j > 127 := fun j hj => by
          have := hall (j + 1) (by omega)
          simpa [rd] using this
        have h1 := ih r (by simpa using hm) hr
        have e : rd (c :: r) ((m + 1 : Nat) : Int) = rd r m := by simp [rd]
        have hc : c > 127 := by simpa [rd] using h0
        rw [e, List.take_succ_cons]
        have hne : r.take (m + 1) ≠ [] := by
          intro h; have := congrArg List.length h; rw [List.length_take] at this; simp only [List.length_nil, List.length_cons] at this hm; omega
        match hrt : r.take (m + 1), hne with
        | x :: y, _ =>
          rw [hrt] at h1
          have e1 : good0 (c :: x :: y) = (decide (128 ≤ c) && good0 (x :: y)) := rfl
          have e2 : goodV (c :: x :: y) = (decide (128 ≤ c) && good0 (x :: y)) := rfl
          have hd : decide (128 ≤ c) = true := decide_eq_true hc
          rw [e1, e2, h1.1, hd, Bool.true_and]
          exact ⟨rfl, decide_eq_decide.2 (by omega)⟩
  exact (key k0 l hk hall).2

end Go.Proofs.YtjldfmkpdkhnnaaDoor.Pure

namespace Go.Proofs.YtjldfmkpdkhnnaaDoor.Pure
set_option linter.unusedVariables false
set_option linter.unusedSimpArgs false
open Go.RowKit Go.Proofs.YtjldfmkpdkhnnaaDoor.QL Go.Proofs.YtjldfmkpdkhnnaaDoorW.PrintWords Go.Proofs.YtjldfmkpdkhnnaaDoorW.PrintLast Go.Proofs.YtjldfmkpdkhnnaaDoorW.PrintMore Go.Proofs.YtjldfmkpdkhnnaaDoor.Aux Go.Proofs.YtjldfmkpdkhnnaaDoor.Dom Go.Proofs.YtjldfmkpdkhnnaaDoor.Ext
theorem varT_size (n : Int) : (strOfNums (varT n)).size ≤ 8 := by
  rw [strOfNums_size]
  unfold varT
  split
  · exact varL_len 7 n
  · simp
theorem spec_DrawReadVar_ev (b : List Int) (hb : b.length ≤ 1048576) : ∃ s, Ev (fun k => spec_DrawReadVar.f k b) s ∧ s.size ≤ 100 := by
  obtain ⟨h', e⟩ := spec_l1New_ev b hb
  obtain ⟨n, i1, g1, e1, a1, a2, a3⟩ := l1Num_ok b 0 h' hb (by omega)
  obtain ⟨t, i2, g2, e2, b1, b3⟩ := spec_l1Text_ev b i1 g1 4 hb a3 (by omega) (by omega)
  obtain ⟨x, i3, g3, e3, c3⟩ := l1Once_ok b i2 g2 4 hb b3
  have hv := varT_size n
  have hs : (strOfNums (varT n) ++ t).size ≤ 12 := by rw [ByteArray.size_append]; omega
  obtain ⟨u, i4, g4, e4, d1, _⟩ := spec_l1Spoil_ev b i3 g3 (strOfNums (varT n) ++ t) hb c3 (by omega)
  by_cases hx : x = true
  · exact ⟨u, Ev.congr (fun k => by unfold spec_DrawReadVar.f; rfl) (ev_bind e (ev_bind (ev_k e1) (ev_bind (spec_Var_ev n) (ev_bind e2 (ev_if_pos (show (strOfNums (varT n)).size + t.size ≤ 9223372036854775807 by omega) (ev_bind (ev_k e3) (ev_if_pos hx (ev_bind e4 (Ev.now _))))))))), by omega⟩
  · exact ⟨strOfNums (varT n) ++ t, Ev.congr (fun k => by unfold spec_DrawReadVar.f; rfl) (ev_bind e (ev_bind (ev_k e1) (ev_bind (spec_Var_ev n) (ev_bind e2 (ev_if_pos (show (strOfNums (varT n)).size + t.size ≤ 9223372036854775807 by omega) (ev_bind (ev_k e3) (ev_if_neg hx (Ev.now _)))))))), by omega⟩

end Go.Proofs.YtjldfmkpdkhnnaaDoor.Pure

namespace Go.Proofs.YtjldfmkpdkhnnaaDoor.Pure
set_option linter.unusedVariables false
set_option linter.unusedSimpArgs false
open Go.RowKit Go.Proofs.YtjldfmkpdkhnnaaDoor.QL Go.Proofs.YtjldfmkpdkhnnaaDoorW.PrintWords Go.Proofs.YtjldfmkpdkhnnaaDoorW.PrintLast Go.Proofs.YtjldfmkpdkhnnaaDoorW.PrintMore Go.Proofs.YtjldfmkpdkhnnaaDoor.Aux Go.Proofs.YtjldfmkpdkhnnaaDoor.Dom Go.Proofs.YtjldfmkpdkhnnaaDoor.Ext
theorem strconv_Atoi_short (s : ByteArray) (n : Int) (hs : s.size ≤ 18) (h : Lib.atoi s.data.toList = some n) : strconv_Atoi.f s = some (n, none) := by
  unfold strconv_Atoi.f
  rw [if_pos (by omega), Lib.atoiAll_short _ (by rw [← Lib.size_eq]; exact hs), h]
  rfl
theorem strconv_Atoi_nil : strconv_Atoi.f ⟨#[]⟩ = some (0, some 0) := rfl
theorem atoi_dig (ds : List Int) (hd : ds.all digC = true) (hne : ds ≠ []) : Lib.atoi (strOfNums ds).data.toList = some (valL 0 ds) := by
  have hr : bytesOf (strOfNums ds) = ds := bytesOf_strOfNums fun c hc => by
    have := digC_iff.1 (List.all_eq_true.1 hd c hc)
    omega
  have hm : ((strOfNums ds).data.toList.map fun b : UInt8 => (b.toNat : Int)) = ds := hr
  obtain ⟨m, h1, h2⟩ := decFrom_val (strOfNums ds).data.toList 0 (by rw [hm]; exact hd)
  rw [hm] at h2
  cases hl : (strOfNums ds).data.toList with
  | nil => rw [hl] at hm; exact absurd hm.symm hne
  | cons b r =>
    rw [hl] at hm h1
    have hb : digC (b.toNat : Int) = true := by
      rw [← hm] at hd
      rw [List.map_cons, List.all_cons, Bool.and_eq_true] at hd
      exact hd.1
    rw [digC_iff] at hb
    have n45 : (b == 45) = false := beq_eq_false_iff_ne.mpr fun e => by subst e; simp at hb
    have n43 : (b == 43) = false := beq_eq_false_iff_ne.mpr fun e => by subst e; simp at hb
    rw [Lib.atoi, if_neg (by rw [n45]; decide), if_neg (by rw [n43]; decide), Lib.decNat, if_neg (by simp), h1, Option.map_some, h2]
    rfl
theorem strconv_Atoi_dig (ds : List Int) (hd : ds.all digC = true) (hne : ds ≠ []) (hl : ds.length ≤ 18) : strconv_Atoi.f (strOfNums ds) = some (valL 0 ds, none) :=
  strconv_Atoi_short _ _ (by rw [strOfNums_size]; exact hl) (atoi_dig ds hd hne)
theorem strconv_Atoi_dec (ds : List Int) (hd : ds.all digC = true) (hl : ds.length ≤ 10) : strconv_Atoi.f ((⟨#[48]⟩ : ByteArray) ++ strOfNums ds) = some (valL 0 ds, none) := by
  have e : (⟨#[48]⟩ : ByteArray) ++ strOfNums ds = strOfNums (48 :: ds) := by
    rw [show (48 :: ds : List Int) = [48] ++ ds from rfl, strOfNums_append]
    rfl
  rw [e, strconv_Atoi_dig (48 :: ds) (by rw [List.all_cons, hd]; rfl) (by simp) (by simp; omega)]
  rfl
theorem valL_decL : ∀ (f : Nat) (n : Int) (acc : List Int), 0 ≤ n → n < 10 ^ f → valL 0 (decL f n acc) = valL n acc
  | 0, n, acc, h0, h => by
    have : n = 0 := by simp at h; omega
    subst this; rfl
  | f + 1, n, acc, h0, h => by
    rw [decL]
    split
    · rw [valL_decL f (n / 10) _ (by omega) (by rw [Int.pow_succ] at h; omega), valL]
      congr 1
      omega
    · have : n = 0 := by omega
      subst this; rfl
theorem decL_dig : ∀ (f : Nat) (n : Int) (acc : List Int), 0 ≤ n → acc.all digC = true → (decL f n acc).all digC = true
  | 0, n, acc, h0, h => h
  | f + 1, n, acc, h0, h => by
    rw [decL]
    split
    · refine decL_dig f (n / 10) _ (by omega) ?_
      rw [List.all_cons, h, Bool.and_true, digC_iff]
      omega
    · exact h
theorem decL_ne : ∀ (f : Nat) (n : Int) (acc : List Int), acc ≠ [] → decL f n acc ≠ []
  | 0, n, acc, h => h
  | f + 1, n, acc, h => by
    rw [decL]
    split
    · exact decL_ne f (n / 10) _ (by simp)
    · exact h
/-- A numeral's digits: all digits, some, they tell the number; at most nine of them where it is less than a thousand million. -/
theorem decL_facts {n : Int} (h0 : 0 < n) (h1 : n ≤ 999999999) : (decL 20 n []).all digC = true ∧ decL 20 n [] ≠ [] ∧ valL 0 (decL 20 n []) = n ∧ (decL 20 n []).length ≤ 9 := by
  have hp : (10 : Int) ^ 9 = 1000000000 := by decide
  have hp2 : (10 : Int) ^ 20 = 100000000000000000000 := by decide
  refine ⟨decL_dig 20 n [] (by omega) rfl, ?_, ?_, ?_⟩
  · rw [show (20 : Nat) = 19 + 1 from rfl, decL, if_pos (by omega)]
    exact decL_ne 19 _ _ (by simp)
  · rw [valL_decL 20 n [] (by omega) (by omega)]; rfl
  · rw [show (20 : Nat) = 9 + 11 from rfl, decL_more 11 9 n [] (by omega)]
    have := decL_length 9 n []
    simpa using this
theorem atoi_decB {n : Int} (h0 : -999999999 ≤ n) (h1 : n ≤ 999999999) : Lib.atoi (decB n).data.toList = some n := by
  unfold decB decP
  by_cases hz : n = 0
  · subst hz; rfl
  · rw [if_neg hz]
    by_cases hn : n < 0
    · rw [if_pos hn]
      obtain ⟨a1, a2, a3, a4⟩ := decL_facts (n := -n) (by omega) (by omega)
      generalize decL 20 (-n) [] = ds at a1 a2 a3 a4
      have hr : bytesOf (strOfNums ds) = ds := bytesOf_strOfNums fun c hc => by
        have := digC_iff.1 (List.all_eq_true.1 a1 c hc)
        omega
      have hm : ((strOfNums ds).data.toList.map fun b : UInt8 => (b.toNat : Int)) = ds := hr
      obtain ⟨m, h1, h2⟩ := decFrom_val (strOfNums ds).data.toList 0 (by rw [hm]; exact a1)
      rw [hm] at h2
      have e1 : (strOfNums (45 :: ds)).data.toList = 45 :: (strOfNums ds).data.toList := by
        rw [show (45 :: ds : List Int) = [45] ++ ds from rfl, strOfNums_append, ByteArray.data_append, Array.toList_append]
        rfl
      have hne : (strOfNums ds).data.toList.isEmpty = false := by
        cases hl : (strOfNums ds).data.toList with
        | nil => rw [hl] at hm; exact absurd hm.symm a2
        | cons b r => rfl
      rw [e1, Lib.atoi, if_pos (by decide), Lib.decNat, if_neg (by rw [hne]; decide), h1, Option.map_some, h2]
      congr 1
      have : ((0 : Nat) : Int) = 0 := rfl
      rw [this, a3]
      omega
    · rw [if_neg hn]
      obtain ⟨a1, a2, a3, a4⟩ := decL_facts (n := n) (by omega) (by omega)
      rw [atoi_dig _ a1 a2, a3]
theorem decB_size {n : Int} (h0 : -999999999 ≤ n) (h1 : n ≤ 999999999) : (decB n).size ≤ 10 := by
  unfold decB decP
  rw [strOfNums_size]
  by_cases hz : n = 0
  · rw [if_pos hz]; simp
  · rw [if_neg hz]
    by_cases hn : n < 0
    · rw [if_pos hn]
      have := (decL_facts (n := -n) (by omega) (by omega)).2.2.2
      simp; omega
    · rw [if_neg hn]
      have := (decL_facts (n := n) (by omega) (by omega)).2.2.2
      omega
theorem decB_inj {n m : Int} (h0 : -999999999 ≤ n) (h1 : n ≤ 999999999) (h2 : -999999999 ≤ m) (h3 : m ≤ 999999999) (h : decB n = decB m) : n = m := by
  have a := atoi_decB h0 h1
  rw [h, atoi_decB h2 h3] at a
  exact (Option.some.inj a).symm
open Classical in
/-- The number of nine digits at most whose numeral a text is. -/
noncomputable def decOf (s : ByteArray) : Option Int := if h : ∃ n, -999999999 ≤ n ∧ n ≤ 999999999 ∧ decB n = s then some h.choose else none
theorem decOf_some {s : ByteArray} {n : Int} (h0 : -999999999 ≤ n) (h1 : n ≤ 999999999) (h : decB n = s) : decOf s = some n := by
  have hx : ∃ n, -999999999 ≤ n ∧ n ≤ 999999999 ∧ decB n = s := ⟨n, h0, h1, h⟩
  unfold decOf
  rw [dif_pos hx]
  obtain ⟨a, b, c⟩ := hx.choose_spec
  exact congrArg some (decB_inj a b h0 h1 (c.trans h.symm))
theorem decOf_spec {s : ByteArray} {n : Int} (h : decOf s = some n) : -999999999 ≤ n ∧ n ≤ 999999999 ∧ decB n = s := by
  unfold decOf at h
  split at h
  · rename_i hx
    obtain rfl := Option.some.inj h
    exact hx.choose_spec
  · cases h
/-- What ReadDec tells. -/
noncomputable def readDecP (s : ByteArray) : Int × Bool := match decOf s with
  | some n => (n, true)
  | none => (0, false)

end Go.Proofs.YtjldfmkpdkhnnaaDoor.Pure

namespace Go.Proofs.YtjldfmkpdkhnnaaDoor.Pure
set_option linter.unusedVariables false
set_option linter.unusedSimpArgs false
open Go.RowKit Go.Proofs.YtjldfmkpdkhnnaaDoor.QL Go.Proofs.YtjldfmkpdkhnnaaDoorW.PrintWords Go.Proofs.YtjldfmkpdkhnnaaDoorW.PrintLast Go.Proofs.YtjldfmkpdkhnnaaDoorW.PrintMore Go.Proofs.YtjldfmkpdkhnnaaDoor.Aux Go.Proofs.YtjldfmkpdkhnnaaDoor.Dom Go.Proofs.YtjldfmkpdkhnnaaDoor.Ext
theorem impl_Dec_eq (n : Int) (h0 : -9223372036854775808 ≤ n) (h1 : n ≤ 9223372036854775807) : impl_Dec.f n = some (decB n) := by
  unfold impl_Dec.f strconv_Itoa.f
  rw [if_pos ⟨h0, h1⟩, Option.bind_some]

end Go.Proofs.YtjldfmkpdkhnnaaDoor.Pure

namespace Go.Proofs.YtjldfmkpdkhnnaaDoor.Pure
set_option linter.unusedVariables false
set_option linter.unusedSimpArgs false
open Go.RowKit Go.Proofs.YtjldfmkpdkhnnaaDoor.QL Go.Proofs.YtjldfmkpdkhnnaaDoorW.PrintWords Go.Proofs.YtjldfmkpdkhnnaaDoorW.PrintLast Go.Proofs.YtjldfmkpdkhnnaaDoorW.PrintMore Go.Proofs.YtjldfmkpdkhnnaaDoor.Aux Go.Proofs.YtjldfmkpdkhnnaaDoor.Dom Go.Proofs.YtjldfmkpdkhnnaaDoor.Ext
theorem impl_ReadDec_eq (s : ByteArray) (hs : s.size ≤ 8388608) : impl_ReadDec.f s = some (readDecP s) := by
  unfold readDecP
  have hno : (∀ v, Lib.atoiAll s.data.toList = .ok v → ¬ (decB v = s ∧ -999999999 ≤ v ∧ v ≤ 999999999)) → decOf s = none := by
    intro h
    cases hd : decOf s with
    | none => rfl
    | some n =>
      obtain ⟨a, b, c⟩ := decOf_spec hd
      have h2 := atoi_decB a b
      rw [c] at h2
      have h3 : Lib.atoiAll s.data.toList = .ok n := by
        rw [Lib.atoiAll_short _ (by rw [← Lib.size_eq, ← c]; exact Nat.le_trans (decB_size a b) (by decide)), h2]
        rfl
      exact absurd ⟨c, a, b⟩ (h n h3)
  unfold impl_ReadDec.f strconv_Atoi.f
  rw [if_pos hs]
  cases hc : Lib.atoiAll s.data.toList with
  | ok v =>
    have hb := Lib.atoiAll_bounds hc
    simp only [Option.bind_some, Option.isNone_none, if_true]
    rw [impl_Dec_eq v hb.1 hb.2, Option.bind_some, impl_in_eq, Option.bind_some]
    by_cases h1 : decB v = s
    · rw [if_pos (by rw [h1])]
      by_cases h2 : -999999999 ≤ v ∧ v ≤ 999999999
      · rw [if_pos (by simpa using h2), decOf_some h2.1 h2.2 h1]
      · rw [if_neg (by simpa using h2), hno (fun w hw hh => h2 (by rw [hc] at hw; injection hw with hw; subst hw; exact hh.2))]
    · rw [if_neg (by rw [toList_eq_iff]; exact h1), hno (fun w hw hh => h1 (by rw [hc] at hw; injection hw with hw; subst hw; exact hh.1))]
  | range =>
    rw [hno (fun w hw => by rw [hc] at hw; cases hw)]
    rfl
  | _ =>
    rw [hno (fun w hw => by rw [hc] at hw; cases hw)]
    rfl

end Go.Proofs.YtjldfmkpdkhnnaaDoor.Pure

namespace Go.Proofs.YtjldfmkpdkhnnaaDoor.Pure
set_option linter.unusedVariables false
set_option linter.unusedSimpArgs false
open Go.RowKit Go.Proofs.YtjldfmkpdkhnnaaDoor.QL Go.Proofs.YtjldfmkpdkhnnaaDoorW.PrintWords Go.Proofs.YtjldfmkpdkhnnaaDoorW.PrintLast Go.Proofs.YtjldfmkpdkhnnaaDoorW.PrintMore Go.Proofs.YtjldfmkpdkhnnaaDoor.Aux Go.Proofs.YtjldfmkpdkhnnaaDoor.Dom Go.Proofs.YtjldfmkpdkhnnaaDoor.Ext
theorem strings_IndexByte_eq (s : ByteArray) (c : Int) (h0 : 0 ≤ c) (h1 : c < 256) : strings_IndexByte.f s c = some (idxB (bytesOf s) c) := by unfold strings_IndexByte.f; rw [if_pos ⟨h0, h1⟩]

end Go.Proofs.YtjldfmkpdkhnnaaDoor.Pure

namespace Go.Proofs.YtjldfmkpdkhnnaaDoor.Pure
set_option linter.unusedVariables false
set_option linter.unusedSimpArgs false
open Go.RowKit Go.Proofs.YtjldfmkpdkhnnaaDoor.QL Go.Proofs.YtjldfmkpdkhnnaaDoorW.PrintWords Go.Proofs.YtjldfmkpdkhnnaaDoorW.PrintLast Go.Proofs.YtjldfmkpdkhnnaaDoorW.PrintMore Go.Proofs.YtjldfmkpdkhnnaaDoor.Aux Go.Proofs.YtjldfmkpdkhnnaaDoor.Dom Go.Proofs.YtjldfmkpdkhnnaaDoor.Ext
theorem hexDs_lt' (c : Int) : idxB hexDs c < 16 := (idxB_ge hexDs c).2
theorem impl_digit (c : Int) (h0 : 0 ≤ c) (h1 : c < 256) : strings_IndexByte.f (⟨#[48, 49, 50, 51, 52, 53, 54, 55, 56, 57, 97, 98, 99, 100, 101, 102]⟩ : ByteArray) c = some (idxB hexDs c) := strings_IndexByte_eq _ c h0 h1
theorem impl_Unhex_l0 (s : ByteArray) (hs : s.size ≤ 8388608) : ∀ (d : Nat) (xs : List Int) (i : Int), 0 ≤ i → (s.size : Int) - i = 2 * d → (xs.length : Int) ≤ i →
    Ev (fun k => impl_Unhex.l0 k s xs i) (unhexR xs (unhexL ((bytesOf s).drop i.toNat)))
  | 0, xs, i, h0, hd, hl => by
    refine ev_last fun k => ?_
    simp only [impl_Unhex.l0]
    rw [if_neg (by omega), drop_end (by omega)]
    simp [unhexL, unhexR]
  | d + 1, xs, i, h0, hd, hl => by
    have hb := bt_bound s i
    have hb' := bt_bound s (i + 1)
    have hlt : i < (s.size : Int) := by omega
    have hlt' : i + 1 < (s.size : Int) := by omega
    rw [drop_bt h0 hlt, drop_bt (by omega) hlt']
    have ha := hexDs_lt' (bt s i)
    have hc := hexDs_lt' (bt s (i + 1))
    simp only [unhexL]
    by_cases h1 : idxB hexDs (bt s i) < 0
    · rw [if_pos (Or.inl h1)]
      refine ev_last fun k => ?_
      simp only [impl_Unhex.l0]
      rw [if_pos hlt, if_pos h0, impl_digit _ hb.1 hb.2, Option.bind_some, wrap_id (x := i + 1) (by omega) (by omega), if_pos (show 0 ≤ i + 1 by omega), if_pos hlt', impl_digit _ hb'.1 hb'.2, Option.bind_some, if_pos h1]
      rfl
    · by_cases h2 : idxB hexDs (bt s (i + 1)) < 0
      · rw [if_pos (Or.inr h2)]
        refine ev_last fun k => ?_
        simp only [impl_Unhex.l0]
        rw [if_pos hlt, if_pos h0, impl_digit _ hb.1 hb.2, Option.bind_some, wrap_id (x := i + 1) (by omega) (by omega), if_pos (show 0 ≤ i + 1 by omega), if_pos hlt', impl_digit _ hb'.1 hb'.2, Option.bind_some, if_neg h1, if_pos h2]
        rfl
      · rw [if_neg (fun h => h.elim h1 h2)]
        have e : (Go.bits .or .i64 (wrap64 (idxB hexDs (bt s i) * 16)) (idxB hexDs (bt s (i + 1)))) % 256 = 16 * idxB hexDs (bt s i) + idxB hexDs (bt s (i + 1)) := by
          rw [wrap_id (x := _ * 16) (by omega) (by omega), or16 (by omega) ha (by omega) hc]; omega
        refine Ev.step (f := fun k => impl_Unhex.l0 k s (xs ++ [16 * idxB hexDs (bt s i) + idxB hexDs (bt s (i + 1))]) (i + 2)) (fun k => ?_) (ev_eq (impl_Unhex_l0 s hs d _ (i + 2) (by omega) (by omega) (by simp; omega)) ?_)
        · simp only [impl_Unhex.l0]
          rw [if_pos hlt, if_pos h0, impl_digit _ hb.1 hb.2, Option.bind_some, wrap_id (x := i + 1) (by omega) (by omega), if_pos (show 0 ≤ i + 1 by omega), if_pos hlt', impl_digit _ hb'.1 hb'.2, Option.bind_some, if_neg h1, if_neg h2, if_pos (by omega), e, wrap_id (x := i + 2) (by omega) (by omega)]
        · rw [show i + 1 + 1 = i + 2 by omega]
          cases unhexL ((bytesOf s).drop (i + 2).toNat) with
          | none => rfl
          | some r => simp [unhexR]
theorem unhexL_odd' : ∀ l : List Int, l.length % 2 = 1 → unhexL l = none
  | [], h => by simp at h
  | [_], _ => rfl
  | a :: b :: r, h => by
    rw [unhexL, unhexL_odd' r (by simp at h; omega)]
    split <;> rfl
theorem impl_Unhex_ev (s : ByteArray) (hs : s.size ≤ 8388608) : Ev (fun k => impl_Unhex.f k s) (unhexP (bytesOf s)) := by
  have hl := bytesOf_length s
  by_cases h : ((s.size : Int) % 2) = 0
  · refine Ev.congr (fun k => by unfold impl_Unhex.f; rw [if_pos h]) ?_
    have e := impl_Unhex_l0 s hs (s.size / 2) [] 0 (by omega) (by omega) (by simp)
    simpa [unhexP] using e
  · refine ev_some fun k => ?_
    unfold impl_Unhex.f unhexP
    rw [if_neg h, unhexL_odd' _ (by omega)]; rfl

end Go.Proofs.YtjldfmkpdkhnnaaDoor.Pure

namespace Go.Proofs.YtjldfmkpdkhnnaaDoor.Pure
set_option linter.unusedVariables false
set_option linter.unusedSimpArgs false
open Go.RowKit Go.Proofs.YtjldfmkpdkhnnaaDoor.QL Go.Proofs.YtjldfmkpdkhnnaaDoorW.PrintWords Go.Proofs.YtjldfmkpdkhnnaaDoorW.PrintLast Go.Proofs.YtjldfmkpdkhnnaaDoorW.PrintMore Go.Proofs.YtjldfmkpdkhnnaaDoor.Aux Go.Proofs.YtjldfmkpdkhnnaaDoor.Dom Go.Proofs.YtjldfmkpdkhnnaaDoor.Ext
theorem impl_Hex_l0 (s : ByteArray) (hs : s.size ≤ 8388608) : ∀ (d : Nat) (xs : List Int) (i : Int), 0 ≤ i → (s.size : Int) - i = d → (xs.length : Int) ≤ 2 * i →
    Ev (fun k => impl_Hex.l0 k s xs (s.size : Int) i) (strOfNums (xs ++ hexL ((bytesOf s).drop i.toNat)))
  | 0, xs, i, h0, hd, hl => by
    refine ev_last fun k => ?_
    simp only [impl_Hex.l0]
    rw [if_neg (by omega), drop_end (by omega)]
    simp [hexL]
  | d + 1, xs, i, h0, hd, hl => by
    have hb := bt_bound s i
    have hlt : i < (s.size : Int) := by omega
    have e2 : Go.bits .and .u8 (bt s i) 15 = bt s i % 16 := and15_u8 hb.1 hb.2
    refine Ev.step (f := fun k => impl_Hex.l0 k s (xs ++ [hxd (bt s i / 16), hxd (bt s i % 16)]) (s.size : Int) (i + 1)) (fun k => ?_) (ev_eq (impl_Hex_l0 s hs d _ (i + 1) (by omega) (by omega) (by simp; omega)) ?_)
    · simp only [impl_Hex.l0]
      rw [if_pos hlt, if_pos h0, if_pos hlt, e2, if_pos (by omega), if_pos (by omega), if_pos (by omega), if_pos (by omega)]
      simp only [Option.bind_some]
      rw [if_pos (by simp; omega), wrap_id (by omega) (by omega)]
      rfl
    · rw [drop_bt h0 hlt]
      simp [hexL]
theorem impl_Hex_ev (s : ByteArray) (hs : s.size ≤ 8388608) : Ev (fun k => impl_Hex.f k s) (strOfNums (hexL (bytesOf s))) := by
  have h := impl_Hex_l0 s hs s.size [] 0 (by omega) (by omega) (by simp)
  simpa [impl_Hex.f] using h

end Go.Proofs.YtjldfmkpdkhnnaaDoor.Pure

namespace Go.Proofs.YtjldfmkpdkhnnaaDoor.Pure
set_option linter.unusedVariables false
set_option linter.unusedSimpArgs false
open Go.RowKit Go.Proofs.YtjldfmkpdkhnnaaDoor.QL Go.Proofs.YtjldfmkpdkhnnaaDoorW.PrintWords Go.Proofs.YtjldfmkpdkhnnaaDoorW.PrintLast Go.Proofs.YtjldfmkpdkhnnaaDoorW.PrintMore Go.Proofs.YtjldfmkpdkhnnaaDoor.Aux Go.Proofs.YtjldfmkpdkhnnaaDoor.Dom Go.Proofs.YtjldfmkpdkhnnaaDoor.Ext

theorem bytesOf_cat (l : List Int) (h : ∀ c ∈ l, 0 ≤ c ∧ c < 256) (t : ByteArray) : bytesOf (strOfNums l ++ t) = l ++ bytesOf t := by
  rw [bytesOf_append, bytesOf_strOfNums h]
theorem hexL_range : ∀ l : List Int, ∀ c ∈ hexL l, 0 ≤ c ∧ c < 256
  | [], c, hc => by simp [hexL] at hc
  | a :: r, c, hc => by
    have hx : ∀ x, 0 ≤ hxd x ∧ hxd x < 256 := by
      intro x
      have := bt_bound (⟨#[48, 49, 50, 51, 52, 53, 54, 55, 56, 57, 97, 98, 99, 100, 101, 102]⟩ : ByteArray) x
      unfold hxd
      omega
    rw [hexL] at hc
    rcases List.mem_cons.1 hc with rfl | hc
    · exact hx _
    rcases List.mem_cons.1 hc with rfl | hc
    · exact hx _
    · exact hexL_range r c hc
theorem unhex_hex (t : ByteArray) : unhexP (bytesOf (strOfNums (hexL (bytesOf t)))) = (t, true) := by
  rw [bytesOf_strOfNums (hexL_range _)]
  unfold unhexP
  rw [unhexL_hexL _ fun c hc => bytesOf_range hc]
  show (strOfNums ([] ++ bytesOf t), true) = (t, true)
  rw [List.nil_append, strOfNums_bytesOf]
theorem rvP_var2 (l : List Int) (hr : ∀ c ∈ l, 0 ≤ c ∧ c < 256) : ∀ (d k : Nat), k + d = 7 → (∀ j : Nat, j < k → rd l j > 127) → (rvP l d k).2 = 0 ∨ (0 < (rvP l d k).2 ∧ (rvP l d k).2 ≤ l.length ∧ varT (rvP l d k).1 = l.take (rvP l d k).2.toNat)
  | 0, k, _, _ => Or.inl rfl
  | d + 1, k, hk, hall => by
    rw [rvP]
    by_cases h1 : (k : Int) < l.length
    · rw [if_pos h1]
      by_cases h2 : rd l k > 127
      · rw [if_pos h2]
        refine rvP_var2 l hr d (k + 1) (by omega) fun j hj => ?_
        by_cases hjk : j < k
        · exact hall j hjk
        · rw [show j = k by omega]; exact h2
      · rw [if_neg h2]
        by_cases h3 : rd l k = 0 ∧ k > 0
        · rw [if_pos h3]; exact Or.inl rfl
        · rw [if_neg h3]
          refine Or.inr ⟨by show (0 : Int) < (k : Int) + 1; omega, by show (k : Int) + 1 ≤ l.length; omega, ?_⟩
          show varT (lowV (l.take (k + 1))) = l.take ((k : Int) + 1).toNat
          have hg := goodV_rv l (d + 1) k hk (by omega) (by omega) hall
          rw [decide_eq_true ⟨by omega, h3⟩] at hg
          have hlen : (l.take (k + 1)).length ≤ 7 := by rw [List.length_take]; omega
          have hne : l.take (k + 1) ≠ [] := by
            intro h; have := congrArg List.length h; rw [List.length_take] at this; simp only [List.length_nil] at this; omega
          have hv := (varL_good 6 (l.take (k + 1)) (fun c hc => hr c (List.mem_of_mem_take hc)) hlen hne).2 hg
          have lt := lowV_lt (l.take (k + 1))
          have nn := lowV_nonneg (l.take (k + 1))
          have hp : (128 : Int) ^ (l.take (k + 1)).length ≤ 128 ^ 7 := pow_le 128 (by decide) hlen
          have p7 : (128 : Int) ^ 7 = 562949953421312 := by decide
          unfold varT
          rw [if_pos ⟨nn, by omega⟩, varL_short 6 _ nn (by omega), hv]
          congr 1
    · rw [if_neg h1]; exact Or.inl rfl
theorem ext_take (p : ByteArray) (n : Nat) : p.extract 0 n = strOfNums ((bytesOf p).take n) := bytesOf_inj (by rw [bytesOf_extract, bytesOf_strOfNums (fun c hc => bytesOf_range (List.mem_of_mem_take hc)), List.drop_zero])
theorem fixL_range : ∀ (w : Nat) (n : Int), ∀ c ∈ fixL n w, 0 ≤ c ∧ c < 256
  | 0, n, c, hc => by simp [fixL] at hc
  | w + 1, n, c, hc => by
    rw [fixL] at hc
    rcases List.mem_append.1 hc with hc | hc
    · exact fixL_range w (n / 256) c hc
    · rw [List.mem_singleton.1 hc]; omega
theorem decB_21' (n : Int) : (decB n).size ≤ 21 := by
  unfold decB decP
  rw [strOfNums_size]
  have h1 := decL_length 20 (-n) []
  have h2 := decL_length 20 n []
  (repeat' split) <;> simp at h1 h2 ⊢ <;> omega
theorem decP_range (x : Int) : ∀ c ∈ decP x, 0 ≤ c ∧ c < 256 := by
  intro c hc
  unfold decP at hc
  split at hc
  · simp at hc; omega
  · split at hc
    · rcases List.mem_cons.1 hc with rfl | hc
      · omega
      · have := decL_digs 20 (-x) [] (by simp) c hc
        omega
    · have := decL_digs 20 x [] (by simp) c hc
      omega
theorem FnNumbers : laws_FnNumbers.Pure := by
  intro b hl hl2 hw
  refine Ev.rounds (Ev.congr (fun k => by unfold laws_FnNumbers.f laws_big.f; rw [Option.bind_some]) ?_)
  by_cases hb : (b.length : Int) > 1048576
  · exact ev_if_pos (decide_eq_true hb) (Ev.now _)
  refine ev_if_neg (by rw [decide_eq_true_eq]; exact hb) ?_
  have hb' : b.length ≤ 1048576 := by omega
  obtain ⟨n, en, n0, n1⟩ := spec_DrawVar_ev b hb'
  obtain ⟨t, et, ht⟩ := spec_DrawHex_ev b hb'
  obtain ⟨v, ev, hv⟩ := spec_DrawReadVar_ev b hb'
  have hvs := varT_size n
  have hexn : ∀ l : List Int, (hexL l).length = 2 * l.length := by
    intro l
    induction l with
    | nil => rfl
    | cons a r ih => rw [hexL, List.length_cons, List.length_cons, List.length_cons, ih]; omega
  -- behind the numerals: hex, and what is read as a Var
  have hj2 : Ev (fun k => laws_FnNumbers.j2 k b t false) true := by
    have eh := impl_Hex_ev t (by omega)
    have eu := impl_Unhex_ev (strOfNums (hexL (bytesOf t))) (by rw [strOfNums_size, hexn, bytesOf_length]; omega)
    rw [unhex_hex] at eu
    have er := impl_ReadVar_ev v
    refine Ev.step (fun k => by simp only [laws_FnNumbers.j2]; rw [if_neg (by decide)]) (ev_bind eh (ev_bind eu (ev_bind ev (ev_bind er (ev_if_pos rfl (ev_if_pos rfl ?_))))))
    rcases rvP_var2 (bytesOf v) (fun c hc => bytesOf_range hc) 7 0 rfl (fun j hj => absurd hj (by omega)) with h | ⟨h1, h2, h3⟩
    · exact ev_if_pos h (Ev.now _)
    · rw [bytesOf_length] at h2
      refine ev_if_neg (show ¬ (readVarP (bytesOf v)).2 = 0 from fun h => by rw [readVarP] at h; omega) (ev_if_pos h1 (ev_bind ev (ev_if_pos h2 (ev_bind (impl_Var_ev _) (ev_bind ev (ev_if_pos (Int.le_of_lt h1) (ev_if_pos h2 (ev_eq (Ev.now _) ?_))))))))
      have e3 : strOfNums (varT (readVarP (bytesOf v)).1) = v.extract 0 (readVarP (bytesOf v)).2.toNat := by
        rw [ext_take]
        exact congrArg strOfNums h3
      rw [e3]
      exact beq_self_eq_true _
  have hj1 : Ev (fun k => laws_FnNumbers.j1 k b n t false) true := by
    have hd : Ev (fun _ => impl_Dec.f n) (decB n) := ev_k (impl_Dec_eq n n0 n1)
    have hrd : Ev (fun _ => impl_ReadDec.f (decB n)) (readDecP (decB n)) := ev_k (impl_ReadDec_eq (decB n) (Nat.le_trans (decB_21' n) (by omega)))
    refine Ev.step (fun k => by simp only [laws_FnNumbers.j1]; rw [if_neg (by decide)]) (ev_bind hd (ev_bind hrd ?_))
    by_cases hs : -999999999 ≤ n ∧ n ≤ 999999999
    · have e : readDecP (decB n) = (n, true) := by unfold readDecP; rw [decOf_some hs.1 hs.2 rfl]
      rw [e]
      refine ev_if_pos (by omega) (ev_if_neg (by rw [decide_eq_true (show n < 1000000000 by omega)]; show ¬ (true != true) = true; decide) (ev_if_pos (by trivial) ?_))
      have e2 : ((n, true).1 != n) = false := bne_self_eq_false n
      simp only [e2]
      exact hj2
    · have hno : decOf (decB n) = none := by
        cases h : decOf (decB n) with
        | none => rfl
        | some m =>
          obtain ⟨m0, m1, me⟩ := decOf_spec h
          unfold decB at me
          have h45 : ∀ x : Int, ∀ c ∈ decP x, 0 ≤ c ∧ c < 256 := decP_range
          have me2 := congrArg bytesOf me
          rw [bytesOf_strOfNums (h45 m), bytesOf_strOfNums (h45 n)] at me2
          exact absurd me2 (decP_big (n := n) (m := m) (by omega) m0 m1)
      have e : readDecP (decB n) = (0, false) := by unfold readDecP; rw [hno]
      rw [e]
      by_cases hn : n > -1000000000
      · exact ev_if_pos hn (ev_if_neg (by rw [decide_eq_false (show ¬ n < 1000000000 by omega)]; decide) (ev_if_neg (by decide) hj2))
      · exact ev_if_neg hn (ev_if_neg (by decide) (ev_if_neg (by decide) hj2))
  have hj0 : Ev (fun k => laws_FnNumbers.j0 k b n t false) true := by
    have hF := impl_Fixed_ev n 7
    have p7 : (256 : Int) ^ 7 = 72057594037927936 := by decide
    have hR := impl_ReadFixed_ev (strOfNums (fixT n 7) ++ t) 7
    by_cases hn : 0 ≤ n ∧ n < 72057594037927936
    · have e : fixT n 7 = fixL n 7 := by unfold fixT; rw [if_pos ⟨by omega, hn.1, by rw [show (7 : Int).toNat = 7 from rfl, p7]; exact hn.2⟩]; rfl
      have es : (strOfNums (fixL n 7)).size = 7 := by rw [strOfNums_size, fixL_length]
      rw [e] at hF hR
      rw [if_pos ⟨by omega, by rw [ByteArray.size_append]; omega⟩, bytesOf_cat _ (fixL_range 7 n), show (7 : Int).toNat = 7 from rfl, List.take_append, List.take_of_length_le (by rw [fixL_length]; exact Nat.le_refl _), fixL_length, Nat.sub_self, List.take_zero, List.append_nil, fixR_fixL 7 n hn.1 (by rw [p7]; exact hn.2)] at hR
      have hne : ¬ (strOfNums (fixL n 7)).toList = ([] : List UInt8) := by
        intro h
        rw [(trim_nil _).1 h] at es
        exact absurd es (by decide)
      have hne2 : ((strOfNums (fixL n 7)).toList == ([] : List UInt8)) = false := beq_eq_false_iff_ne.2 hne
      refine Ev.step (fun k => by simp only [laws_FnNumbers.j0]; rw [if_neg (by decide)]) (ev_bind hF (ev_if_pos (show (strOfNums (fixL n 7)).size + t.size ≤ 9223372036854775807 by omega) (ev_bind hR ?_)))
      refine ev_if_neg hne (ev_if_pos (by trivial) (ev_if_pos (by trivial) (ev_if_pos (by rw [es]; rfl) (ev_if_neg (by omega) ?_))))
      simp only [hne2, decide_eq_false (show ¬ n ≥ 72057594037927936 by omega), bne_self_eq_false]
      exact hj1
    · have e : fixT n 7 = [] := by unfold fixT; rw [if_neg]; rintro ⟨_, a, b⟩; exact hn ⟨a, by rw [show (7 : Int).toNat = 7 from rfl, p7] at b; exact b⟩
      rw [e] at hF hR
      have he : (strOfNums []).toList = ([] : List UInt8) := (trim_nil _).2 rfl
      have he2 : ((strOfNums []).toList == ([] : List UInt8)) = true := beq_iff_eq.2 he
      have es : (strOfNums []).size = 0 := by rw [strOfNums_size]; rfl
      refine Ev.step (fun k => by simp only [laws_FnNumbers.j0]; rw [if_neg (by decide)]) (ev_bind hF (ev_if_pos (show (strOfNums []).size + t.size ≤ 9223372036854775807 by omega) (ev_bind hR ?_)))
      refine ev_if_pos he ?_
      simp only [he2]
      by_cases h0 : n < 0
      · exact ev_if_pos h0 hj1
      · refine ev_if_neg h0 ?_
        rw [decide_eq_true (show n ≥ 72057594037927936 by omega)]
        exact hj1
  have hV := impl_Var_ev n
  have hR := impl_ReadVar_ev (strOfNums (varT n) ++ t)
  refine ev_bind en (ev_bind et (ev_bind hV (ev_if_pos (show (strOfNums (varT n)).size + t.size ≤ 9223372036854775807 by omega) (ev_bind hR ?_))))
  by_cases hn : 0 ≤ n ∧ n ≤ 562949953421311
  · rw [bytesOf_cat _ (varT_range n), readVarP_varT hn.1 hn.2]
    have hne : ¬ (strOfNums (varT n)).toList = ([] : List UInt8) := by
      intro h
      have h1 := congrArg ByteArray.size ((trim_nil _).1 h)
      rw [strOfNums_size] at h1
      unfold varT at h1
      rw [if_pos hn] at h1
      exact varL_ne 7 n (List.length_eq_zero_iff.1 h1)
    have hne2 : ((strOfNums (varT n)).toList != ([] : List UInt8)) = true := bne_iff_ne.2 hne
    simp only [hne2]
    have e4 : (((varT n).length : Int) != ((strOfNums (varT n)).size : Int)) = false := by rw [strOfNums_size]; exact bne_self_eq_false _
    refine ev_if_pos hn.1 (ev_if_neg (by rw [decide_eq_true hn.2]; decide) (ev_if_neg hne (ev_if_pos (by trivial) ?_)))
    simp only [e4]
    exact hj0
  · have e : varT n = [] := by unfold varT; rw [if_neg hn]
    have he : (strOfNums (varT n)).toList = ([] : List UInt8) := (trim_nil _).2 (by rw [e]; rfl)
    have he2 : ((strOfNums (varT n)).toList != ([] : List UInt8)) = false := by rw [he]; rfl
    simp only [he2]
    by_cases h0 : n ≥ 0
    · exact ev_if_pos h0 (ev_if_neg (by rw [decide_eq_false (show ¬ n ≤ 562949953421311 by omega)]; decide) (ev_if_pos he hj0))
    · exact ev_if_neg h0 (ev_if_neg (by decide) (ev_if_pos he hj0))

end Go.Proofs.YtjldfmkpdkhnnaaDoor.Pure
