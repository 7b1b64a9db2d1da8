/- Dates that are shown are read again as they were, days follow one on another, and what is read as a date is shown again as it was: for all codes that are drawn from (codes of more than 2^20 bytes are let by). -/
import Derived.Test.YtjldfmkpdkhnnaaDoorDom
import Derived.Test.YtjldfmkpdkhnnaaDoorDomB
import Derived.Test.YtjldfmkpdkhnnaaDoorEstrconvAtoi
import Derived.Test.YtjldfmkpdkhnnaaDoorDomC
import Derived.Test.YtjldfmkpdkhnnaaDoorCFnDatesc
namespace Go.Proofs.YtjldfmkpdkhnnaaDoor.QL
open Go.RowKit Go.Proofs.YtjldfmkpdkhnnaaDoorW.PrintWords Go.Proofs.YtjldfmkpdkhnnaaDoorW.PrintLast Go.Proofs.YtjldfmkpdkhnnaaDoorW.PrintMore Go.Proofs.YtjldfmkpdkhnnaaDoor.Aux Go.Proofs.YtjldfmkpdkhnnaaDoor.Dom Go.Proofs.YtjldfmkpdkhnnaaDoor.Ext Go.Proofs.YtjldfmkpdkhnnaaDoor.Glob
def laws_FnDates.Pure : Prop := ∀ (l0 : List Int), l0.length ≤ maxLen → l0.length * 1 ≤ 140737488351232 → (∀ x ∈ l0, (Lit.int .u8 x).wf = true) → ∃ k, laws_FnDates.f k l0 = some true
theorem laws_FnDates.walk (P : laws_FnDates.Pure) (a0 : Option Addr) (len0 cap0 : Nat) (z0 : List Int) (w : World) (w0 : (a0 = none ∧ len0 = 0 ∧ cap0 = 0 ∧ z0 = []) ∨ ∃ x, a0 = some x ∧ len0 ≤ cap0 ∧ cap0 ≤ maxLen ∧ z0.length = cap0 ∧ (∀ i, i < z0.length → w.cell? (x.add i) = some (.int .u8 (z0.getD i 0))) ∧ ∀ n ∈ z0, (Lit.int .u8 n).wf = true) (y0 : len0 * 1 ≤ 140737488351232) (hGErr : GErr w) (hGMax : GMax w) (hGPow : GPow w) :
    Calls Tryd.prog 6 #[.slice a0 len0 cap0] w fun e w' => e = .returned (.bool true) ∧ Below w.heap.size w w' := by
  obtain ⟨l0, rfl, hr0, hm0, hw0, hc0⟩ := ReadsInt.ofRowC w0
  obtain ⟨k, h⟩ := P l0 hm0 y0 hw0
  refine (laws_FnDates.calls k _ _ l0 true w (Kd.C_of_reads (d := (0 : Int)) (h1 := fun _ => rfl) hr0) hc0 hGErr hGMax hGPow h).mono ?_
  rintro e w' ⟨rfl, hd⟩
  exact ⟨rfl, hd⟩
end Go.Proofs.YtjldfmkpdkhnnaaDoor.QL

namespace Go.Proofs.YtjldfmkpdkhnnaaDoor.Pure
set_option linter.unusedVariables false
set_option linter.unusedSimpArgs false
open Go.RowKit Go.Proofs.YtjldfmkpdkhnnaaDoor.QL Go.Proofs.YtjldfmkpdkhnnaaDoorW.PrintWords Go.Proofs.YtjldfmkpdkhnnaaDoorW.PrintLast Go.Proofs.YtjldfmkpdkhnnaaDoorW.PrintMore Go.Proofs.YtjldfmkpdkhnnaaDoor.Aux Go.Proofs.YtjldfmkpdkhnnaaDoor.Dom Go.Proofs.YtjldfmkpdkhnnaaDoor.Ext
theorem spec_l1New_l0 (b : List Int) (hb : b.length ≤ 1048576) : ∀ (d : Nat) (h i : Int), 0 ≤ i → (b.length : Int) - i = d → ∃ h', Ev (fun k => spec_l1New.l0 k b h i) (b, 0, h')
  | 0, h, i, h0, hd => ⟨h, ev_last fun k => by simp only [spec_l1New.l0]; rw [if_neg (by omega)]⟩
  | d + 1, h, i, h0, hd => by
    by_cases h1 : i < 4000
    · obtain ⟨h', e⟩ := spec_l1New_l0 b hb d (Go.bits .and .i64 (wrap64 (wrap64 (wrap64 (h * 131) + wrap64 (rd b i)) + 7)) 1073741823) (i + 1) (by omega) (by omega)
      refine ⟨h', Ev.step (fun k => ?_) e⟩
      simp only [spec_l1New.l0]
      rw [if_pos (by omega), if_pos h1, if_pos h0, wrap_id (x := i + 1) (by omega) (by omega)]
    · exact ⟨h, ev_last fun k => by simp only [spec_l1New.l0]; rw [if_pos (by omega), if_neg h1]⟩
theorem spec_l1New_ev (b : List Int) (hb : b.length ≤ 1048576) : ∃ h', Ev (fun k => spec_l1New.f k b) (b, 0, h') :=
  spec_l1New_l0 b hb b.length _ 0 (by omega) (by omega)

end Go.Proofs.YtjldfmkpdkhnnaaDoor.Pure

namespace Go.Proofs.YtjldfmkpdkhnnaaDoor.Pure
set_option linter.unusedVariables false
set_option linter.unusedSimpArgs false
open Go.RowKit Go.Proofs.YtjldfmkpdkhnnaaDoor.QL Go.Proofs.YtjldfmkpdkhnnaaDoorW.PrintWords Go.Proofs.YtjldfmkpdkhnnaaDoorW.PrintLast Go.Proofs.YtjldfmkpdkhnnaaDoorW.PrintMore Go.Proofs.YtjldfmkpdkhnnaaDoor.Aux Go.Proofs.YtjldfmkpdkhnnaaDoor.Dom Go.Proofs.YtjldfmkpdkhnnaaDoor.Ext
/-! What is drawn: some number, some text, some one of a list; the place goes on from 0. -/
theorem and255_bd (x : Int) : 0 ≤ Go.bits .and .i64 x 255 ∧ Go.bits .and .i64 x 255 ≤ 255 := by
  have h : (BitVec.ofInt 64 x &&& BitVec.ofInt 64 255).toNat ≤ 255 := by
    rw [BitVec.toNat_and]
    exact Nat.and_le_right
  have e : Go.bits .and .i64 x 255 = (((BitVec.ofInt 64 x &&& BitVec.ofInt 64 255).toNat : Nat) : Int) := i64_pos (((BitVec.ofInt 64 x &&& BitVec.ofInt 64 255).toNat : Nat) : Int) (by omega) (by omega)
  rw [e]
  omega
theorem l1Byte_ok (b : List Int) (i h : Int) (hb : b.length ≤ 1048576) (h0 : 0 ≤ i) : ∃ x i' h', spec_l1Byte.f b i h = some (x, i', h') ∧ 0 ≤ x ∧ x ≤ 255 ∧ 0 ≤ i' := by
  unfold spec_l1Byte.f
  by_cases h1 : i < (b.length : Int)
  · rw [if_pos h1, if_pos h0, wrap_id (x := i + 1) (by omega) (by omega)]
    exact ⟨_, _, _, rfl, (and255_bd _).1, (and255_bd _).2, by omega⟩
  · rw [if_neg h1]
    exact ⟨_, _, _, rfl, (and255_bd _).1, (and255_bd _).2, h0⟩
theorem tmod_bd {x n : Int} (hx : 0 ≤ x) (hn : 0 < n) : 0 ≤ Int.tmod x n ∧ Int.tmod x n < n := by
  rw [Int.tmod_eq_emod_of_nonneg hx]
  exact ⟨Int.emod_nonneg _ (by omega), Int.emod_lt_of_pos _ hn⟩
theorem l1Below_ok (b : List Int) (i h n : Int) (hb : b.length ≤ 1048576) (h0 : 0 ≤ i) : ∃ x i' h', spec_l1Below.f b i h n = some (x, i', h') ∧ 0 ≤ x ∧ (x < n ∨ (n ≤ 0 ∧ x = 0)) ∧ 0 ≤ i' := by
  unfold spec_l1Below.f
  by_cases h1 : n ≤ 0
  · rw [if_pos h1]
    exact ⟨0, i, h, rfl, by omega, Or.inr ⟨h1, rfl⟩, h0⟩
  rw [if_neg h1]
  obtain ⟨x, i1, g1, e1, a1, a2, a3⟩ := l1Byte_ok b i h hb h0
  by_cases h2 : n ≤ 256
  · rw [if_pos h2, e1, Option.bind_some, if_neg (by omega)]
    have := tmod_bd a1 (show 0 < n by omega)
    exact ⟨_, _, _, rfl, this.1, Or.inl this.2, a3⟩
  · obtain ⟨y, i2, g2, e2, b1, b2, b3⟩ := l1Byte_ok b i1 g1 hb a3
    obtain ⟨z, i3, g3, e3, c1, c2, c3⟩ := l1Byte_ok b i2 g2 hb b3
    obtain ⟨v, i4, g4, e4, d1, d2, d3⟩ := l1Byte_ok b i3 g3 hb c3
    rw [if_neg h2, e1, Option.bind_some, e2, Option.bind_some, e3, Option.bind_some, e4, Option.bind_some, if_neg (by omega)]
    have w : wrap64 (wrap64 (wrap64 (wrap64 (x * 16777216) + wrap64 (y * 65536)) + wrap64 (z * 256)) + v) = x * 16777216 + y * 65536 + z * 256 + v := by
      rw [wrap_id (x := x * 16777216) (by omega) (by omega), wrap_id (x := y * 65536) (by omega) (by omega), wrap_id (x := z * 256) (by omega) (by omega), wrap_id (x := x * 16777216 + y * 65536) (by omega) (by omega), wrap_id (x := x * 16777216 + y * 65536 + z * 256) (by omega) (by omega), wrap_id (by omega) (by omega)]
    have t := tmod_bd (show 0 ≤ x * 16777216 + y * 65536 + z * 256 + v by omega) (show 0 < n by omega)
    refine ⟨_, _, _, rfl, ?_, Or.inl ?_, d3⟩
    · show 0 ≤ Int.tmod (wrap64 (wrap64 (wrap64 (wrap64 (x * 16777216) + wrap64 (y * 65536)) + wrap64 (z * 256)) + v)) n
      rw [w]; exact t.1
    · show Int.tmod (wrap64 (wrap64 (wrap64 (wrap64 (x * 16777216) + wrap64 (y * 65536)) + wrap64 (z * 256)) + v)) n < n
      rw [w]; exact t.2
theorem l1Once_ok (b : List Int) (i h n : Int) (hb : b.length ≤ 1048576) (h0 : 0 ≤ i) : ∃ x i' h', spec_l1Once.f b i h n = some (x, i', h') ∧ 0 ≤ i' := by
  obtain ⟨x, i1, g1, e1, a1, a2, a3⟩ := l1Below_ok b i h n hb h0
  unfold spec_l1Once.f
  rw [e1, Option.bind_some]
  exact ⟨_, _, _, rfl, a3⟩
theorem rdOf_mem {α : Type} {d : α} {l : List α} {j : Int} (h0 : 0 ≤ j) (h1 : j < (l.length : Int)) : rdOf d l j ∈ l := by
  have e := drop_rdOf (d := d) h0 h1
  exact List.mem_of_mem_drop (i := j.toNat) (by rw [e]; exact List.mem_cons_self)
theorem rd_mem {l : List Int} {j : Int} (h0 : 0 ≤ j) (h1 : j < (l.length : Int)) : rd l j ∈ l := by
  have e := drop_rd h0 h1
  exact List.mem_of_mem_drop (i := j.toNat) (by rw [e]; exact List.mem_cons_self)
theorem l1Pick_ok (b : List Int) (i h : Int) (l : List ByteArray) (hl : 0 < l.length) (hb : b.length ≤ 1048576) (h0 : 0 ≤ i) : ∃ x i' h', spec_l1Pick.f b i h l = some (x, i', h') ∧ x ∈ l ∧ 0 ≤ i' := by
  obtain ⟨x, i1, g1, e1, a1, a2, a3⟩ := l1Below_ok b i h (l.length : Int) hb h0
  have hx : x < (l.length : Int) := by omega
  unfold spec_l1Pick.f
  rw [e1, Option.bind_some, if_pos a1, if_pos hx]
  exact ⟨_, _, _, rfl, rdOf_mem a1 hx, a3⟩
theorem l1PickInt_ok (b : List Int) (i h : Int) (l : List Int) (hl : 0 < l.length) (hb : b.length ≤ 1048576) (h0 : 0 ≤ i) : ∃ x i' h', spec_l1PickInt.f b i h l = some (x, i', h') ∧ x ∈ l ∧ 0 ≤ i' := by
  obtain ⟨x, i1, g1, e1, a1, a2, a3⟩ := l1Below_ok b i h (l.length : Int) hb h0
  have hx : x < (l.length : Int) := by omega
  unfold spec_l1PickInt.f
  rw [e1, Option.bind_some, if_pos a1, if_pos hx]
  exact ⟨_, _, _, rfl, rd_mem a1 hx, a3⟩
theorem wrap64_bd (x : Int) : -9223372036854775808 ≤ wrap64 x ∧ wrap64 x ≤ 9223372036854775807 := by
  unfold wrap64
  omega
theorem ev_k {α : Type} {x : Option α} {r : α} (h : x = some r) : Ev (fun _ : Nat => x) r := ev_some fun _ => h

end Go.Proofs.YtjldfmkpdkhnnaaDoor.Pure

namespace Go.Proofs.YtjldfmkpdkhnnaaDoor.Pure
set_option linter.unusedVariables false
set_option linter.unusedSimpArgs false
open Go.RowKit Go.Proofs.YtjldfmkpdkhnnaaDoor.QL Go.Proofs.YtjldfmkpdkhnnaaDoorW.PrintWords Go.Proofs.YtjldfmkpdkhnnaaDoorW.PrintLast Go.Proofs.YtjldfmkpdkhnnaaDoorW.PrintMore Go.Proofs.YtjldfmkpdkhnnaaDoor.Aux Go.Proofs.YtjldfmkpdkhnnaaDoor.Dom Go.Proofs.YtjldfmkpdkhnnaaDoor.Ext
theorem l4Sec_ok (b : List Int) (i h : Int) (hb : b.length ≤ 1048576) (h0 : 0 ≤ i) : ∃ x i' h', spec_l4Sec.f b i h = some (x, i', h') ∧ -9223372036854775808 ≤ x ∧ x ≤ 9223372036854775807 ∧ 0 ≤ i' := by
  obtain ⟨x, i1, g1, e1, a1, a2, a3⟩ := l1Below_ok b i h 2000000 hb h0
  obtain ⟨y, i2, g2, e2, b1, b2, b3⟩ := l1Below_ok b i1 g1 3000000 hb a3
  obtain ⟨z, i3, g3, e3, d1, d3⟩ := l1PickInt_ok b i2 g2 [0, 59, 60, 86399, 86400, 951782400, 951868799, 1078012800, 1583020799, 2000000000, 2000000001, (-1), wrap64 (x * 997), wrap64 (y * 641)] (by simp) hb b3
  unfold spec_l4Sec.f
  rw [e1, Option.bind_some, e2, Option.bind_some, e3, Option.bind_some]
  have w1 := wrap64_bd (x * 997)
  have w2 := wrap64_bd (y * 641)
  refine ⟨_, _, _, rfl, ?_, ?_, d3⟩
  · show -9223372036854775808 ≤ z
    simp only [List.mem_cons, List.not_mem_nil, or_false] at d1
    omega
  · show z ≤ 9223372036854775807
    simp only [List.mem_cons, List.not_mem_nil, or_false] at d1
    omega

end Go.Proofs.YtjldfmkpdkhnnaaDoor.Pure

namespace Go.Proofs.YtjldfmkpdkhnnaaDoor.Pure
set_option linter.unusedVariables false
set_option linter.unusedSimpArgs false
open Go.RowKit Go.Proofs.YtjldfmkpdkhnnaaDoor.QL Go.Proofs.YtjldfmkpdkhnnaaDoorW.PrintWords Go.Proofs.YtjldfmkpdkhnnaaDoorW.PrintLast Go.Proofs.YtjldfmkpdkhnnaaDoorW.PrintMore Go.Proofs.YtjldfmkpdkhnnaaDoor.Aux Go.Proofs.YtjldfmkpdkhnnaaDoor.Dom Go.Proofs.YtjldfmkpdkhnnaaDoor.Ext
theorem spec_DrawShowDate_ev (b : List Int) (hb : b.length ≤ 1048576) : ∃ x, Ev (fun k => spec_DrawShowDate.f k b) x ∧ -9223372036854775808 ≤ x ∧ x ≤ 9223372036854775807 := by
  obtain ⟨h', e⟩ := spec_l1New_ev b hb
  obtain ⟨x, i1, g1, e1, a1, a2, a3⟩ := l4Sec_ok b 0 h' hb (by omega)
  exact ⟨x, Ev.congr (fun k => by unfold spec_DrawShowDate.f; rfl) (ev_bind e (ev_bind (ev_k e1) (Ev.now _))), a1, a2⟩

end Go.Proofs.YtjldfmkpdkhnnaaDoor.Pure

namespace Go.Proofs.YtjldfmkpdkhnnaaDoor.Pure
set_option linter.unusedVariables false
set_option linter.unusedSimpArgs false
open Go.RowKit Go.Proofs.YtjldfmkpdkhnnaaDoor.QL Go.Proofs.YtjldfmkpdkhnnaaDoorW.PrintWords Go.Proofs.YtjldfmkpdkhnnaaDoorW.PrintLast Go.Proofs.YtjldfmkpdkhnnaaDoorW.PrintMore Go.Proofs.YtjldfmkpdkhnnaaDoor.Aux Go.Proofs.YtjldfmkpdkhnnaaDoor.Dom Go.Proofs.YtjldfmkpdkhnnaaDoor.Ext
theorem spec_DrawDaysOf_ev (b : List Int) (hb : b.length ≤ 1048576) : ∃ y m d, Ev (fun k => spec_DrawDaysOf.f k b) (y, m, d) ∧ 0 ≤ y ∧ y ≤ 3000 ∧ 0 ≤ m ∧ m ≤ 13 ∧ 0 ≤ d ∧ d ≤ 40 := by
  obtain ⟨h', e⟩ := spec_l1New_ev b hb
  obtain ⟨x, i1, g1, e1, a1, a2, a3⟩ := l1Below_ok b 0 h' 68 hb (by omega)
  have w : wrap64 (1970 + x) = 1970 + x := wrap_id (by omega) (by omega)
  obtain ⟨y, i2, g2, e2, b1, b3⟩ := l1PickInt_ok b i1 g1 [1970, 1972, 2000, 2037, 2038, 1969, wrap64 (1970 + x)] (by simp) hb a3
  obtain ⟨m, i3, g3, e3, c1, c2, c3⟩ := l1Below_ok b i2 g2 14 hb b3
  obtain ⟨u, i4, g4, e4, d1, d2, d3⟩ := l1Below_ok b i3 g3 31 hb c3
  obtain ⟨d, i5, g5, e5, f1, f3⟩ := l1PickInt_ok b i4 g4 [1, 28, 29, 30, 31, 32, 0, u] (by simp) hb d3
  rw [w] at b1
  simp only [List.mem_cons, List.not_mem_nil, or_false] at b1 f1
  refine ⟨y, m, d, Ev.congr (fun k => by unfold spec_DrawDaysOf.f; rfl) (ev_bind e (ev_some fun k => by simp only [e1, Option.bind_some, e2, e3, e4, e5])), ?_, ?_, ?_, ?_, ?_, ?_⟩ <;> omega

end Go.Proofs.YtjldfmkpdkhnnaaDoor.Pure

namespace Go.Proofs.YtjldfmkpdkhnnaaDoor.Pure
set_option linter.unusedVariables false
set_option linter.unusedSimpArgs false
open Go.RowKit Go.Proofs.YtjldfmkpdkhnnaaDoor.QL Go.Proofs.YtjldfmkpdkhnnaaDoorW.PrintWords Go.Proofs.YtjldfmkpdkhnnaaDoorW.PrintLast Go.Proofs.YtjldfmkpdkhnnaaDoorW.PrintMore Go.Proofs.YtjldfmkpdkhnnaaDoor.Aux Go.Proofs.YtjldfmkpdkhnnaaDoor.Dom Go.Proofs.YtjldfmkpdkhnnaaDoor.Ext
theorem spec_l1Text_l0 (b : List Int) (hb : b.length ≤ 1048576) (st : Int) : ∀ (d : Nat) (acc : List Int) (i h : Int), 0 ≤ i → acc.length + d ≤ 1000000 → ∃ s i' h', Ev (fun k => spec_l1Text.l0 k acc st (d : Int) b i h) (s, i', h') ∧ s.size = acc.length + d ∧ 0 ≤ i'
  | 0, acc, i, h, h0, hd => ⟨strOfNums acc, i, h, ev_last fun k => by simp only [spec_l1Text.l0]; rw [if_neg (by omega)], by rw [strOfNums_size]; omega, h0⟩
  | d + 1, acc, i, h, h0, hd => by
    obtain ⟨x, i1, g1, e1, a1, a2, a3⟩ := l1Byte_ok b i h hb h0
    have hl : acc.length < 140737488355328 := by omega
    have key : ∃ v, ∀ k, spec_l1Text.l0 (k + 1) acc st ((d + 1 : Nat) : Int) b i h = spec_l1Text.l0 k (acc ++ [v]) st (d : Int) b i1 g1 := by
      have hw : wrap64 (((d + 1 : Nat) : Int) - 1) = (d : Int) := by rw [wrap_id (by omega) (by omega)]; omega
      by_cases s1 : st = 1
      · by_cases s2 : st = 2
        · omega
        · exact ⟨_, fun k => by simp only [spec_l1Text.l0]; rw [if_pos (by omega), e1, Option.bind_some, if_pos s1, if_neg s2, if_pos hl, hw]⟩
      · by_cases s2 : st = 2
        · exact ⟨_, fun k => by simp only [spec_l1Text.l0]; rw [if_pos (by omega), e1, Option.bind_some, if_neg s1, if_pos s2, if_pos hl, hw]⟩
        · exact ⟨_, fun k => by simp only [spec_l1Text.l0]; rw [if_pos (by omega), e1, Option.bind_some, if_neg s1, if_neg s2, if_pos hl, hw]⟩
    obtain ⟨v, hv⟩ := key
    obtain ⟨s, i', h', e, q, r⟩ := spec_l1Text_l0 b hb st d (acc ++ [v]) i1 g1 a3 (by rw [List.length_append, List.length_singleton]; omega)
    refine ⟨s, i', h', Ev.step hv e, ?_, r⟩
    rw [q, List.length_append, List.length_singleton]
    omega
theorem spec_l1Text_ev (b : List Int) (i h a : Int) (hb : b.length ≤ 1048576) (h0 : 0 ≤ i) (ha : 0 ≤ a) (ha2 : a ≤ 100000) : ∃ s i' h', Ev (fun k => spec_l1Text.f k b i h a) (s, i', h') ∧ (s.size : Int) ≤ a ∧ 0 ≤ i' := by
  obtain ⟨x, i1, g1, e1, a1, a2, a3⟩ := l1Below_ok b i h 4 hb h0
  obtain ⟨y, i2, g2, e2, b1, b2, b3⟩ := l1Below_ok b i1 g1 (a + 1) hb a3
  obtain ⟨n, rfl⟩ := Int.eq_ofNat_of_zero_le b1
  obtain ⟨s, i', h', e, q, r⟩ := spec_l1Text_l0 b hb x n [] i2 g2 b3 (by simp; omega)
  refine ⟨s, i', h', ?_, by rw [q]; simp; omega, r⟩
  refine Ev.congr (fun k => by unfold spec_l1Text.f; rw [e1, Option.bind_some, wrap_id (x := a + 1) (by omega) (by omega), e2, Option.bind_some]) e

end Go.Proofs.YtjldfmkpdkhnnaaDoor.Pure

namespace Go.Proofs.YtjldfmkpdkhnnaaDoor.Pure
set_option linter.unusedVariables false
set_option linter.unusedSimpArgs false
open Go.RowKit Go.Proofs.YtjldfmkpdkhnnaaDoor.QL Go.Proofs.YtjldfmkpdkhnnaaDoorW.PrintWords Go.Proofs.YtjldfmkpdkhnnaaDoorW.PrintLast Go.Proofs.YtjldfmkpdkhnnaaDoorW.PrintMore Go.Proofs.YtjldfmkpdkhnnaaDoor.Aux Go.Proofs.YtjldfmkpdkhnnaaDoor.Dom Go.Proofs.YtjldfmkpdkhnnaaDoor.Ext
theorem size_pre (s : ByteArray) (n : Nat) : (s.extract 0 n).size ≤ s.size := by rw [ByteArray.size_extract]; omega
theorem size_suf (s : ByteArray) (n : Nat) : (s.extract n s.size).size ≤ s.size := by rw [ByteArray.size_extract]; omega
theorem size_one (x : Int) : (strOfNums [x]).size = 1 := by rw [strOfNums_size]; rfl
theorem spec_l1Spoil_ev (b : List Int) (i h : Int) (s : ByteArray) (hb : b.length ≤ 1048576) (h0 : 0 ≤ i) (hs : s.size ≤ 8388608) : ∃ t i' h', Ev (fun k => spec_l1Spoil.f k b i h s) (t, i', h') ∧ t.size ≤ 2 * s.size + 3 ∧ 0 ≤ i' := by
  by_cases hz : (s.size : Int) = 0
  · obtain ⟨t, i', h', e, q, r⟩ := spec_l1Text_ev b i h 3 hb h0 (by omega) (by omega)
    exact ⟨t, i', h', Ev.congr (fun k => by unfold spec_l1Spoil.f; rw [if_pos hz]) (ev_bind e (Ev.now _)), by omega, r⟩
  obtain ⟨x, i1, g1, e1, a1, a2, a3⟩ := l1Below_ok b i h (s.size : Int) hb h0
  obtain ⟨y, i2, g2, e2, b1, b2, b3⟩ := l1Below_ok b i1 g1 4 hb a3
  have hx : x < (s.size : Int) := by omega
  have hw : wrap64 (x + 1) = x + 1 := wrap_id (by omega) (by omega)
  have p1 := size_pre s x.toNat
  have p2 := size_suf s (x + 1).toNat
  have p3 := size_suf s x.toNat
  by_cases c0 : y = 0
  · refine ⟨s.extract 0 x.toNat ++ s.extract (x + 1).toNat s.size, i2, g2, ev_some fun k => ?_, by rw [ByteArray.size_append]; omega, b3⟩
    unfold spec_l1Spoil.f
    rw [if_neg hz, e1, Option.bind_some, e2, Option.bind_some]
    dsimp only
    rw [if_pos c0, if_pos a1, if_pos (by omega), hw, if_pos (by omega), if_pos (by omega), if_pos (by omega)]
  by_cases c1 : y = 1
  · obtain ⟨z, i3, g3, e3, d1, d2, d3⟩ := l1Byte_ok b i2 g2 hb b3
    have q1 := size_one (z % 256)
    refine ⟨s.extract 0 x.toNat ++ strOfNums [z % 256] ++ s.extract x.toNat s.size, i3, g3, ev_some fun k => ?_, by rw [ByteArray.size_append, ByteArray.size_append]; omega, d3⟩
    unfold spec_l1Spoil.f
    rw [if_neg hz, e1, Option.bind_some, e2, Option.bind_some]
    dsimp only
    rw [if_neg c0, if_pos c1, if_pos a1, if_pos (by omega), e3, Option.bind_some, Option.bind_some]
    dsimp only
    rw [if_pos (by omega), if_pos (by rw [ByteArray.size_append]; omega)]
  by_cases c2 : y = 2
  · refine ⟨s.extract 0 x.toNat, i2, g2, ev_some fun k => ?_, by omega, b3⟩
    unfold spec_l1Spoil.f
    rw [if_neg hz, e1, Option.bind_some, e2, Option.bind_some]
    dsimp only
    rw [if_neg c0, if_neg c1, if_pos c2, if_pos a1, if_pos (by omega)]
  · obtain ⟨z, i3, g3, e3, d1, d2, d3⟩ := l1Below_ok b i2 g2 255 hb b3
    have q1 := size_one (Go.bits .xor .i64 (wrap64 (bt s x)) (wrap64 (1 + z)) % 256)
    refine ⟨s.extract 0 x.toNat ++ strOfNums [Go.bits .xor .i64 (wrap64 (bt s x)) (wrap64 (1 + z)) % 256] ++ s.extract (x + 1).toNat s.size, i3, g3, ev_some fun k => ?_, by rw [ByteArray.size_append, ByteArray.size_append]; omega, d3⟩
    unfold spec_l1Spoil.f
    rw [if_neg hz, e1, Option.bind_some, e2, Option.bind_some]
    dsimp only
    rw [if_neg c0, if_neg c1, if_neg c2, if_pos a1, if_pos (by omega), if_pos hx, e3, Option.bind_some, Option.bind_some]
    dsimp only
    rw [if_pos (by omega), hw, if_pos (by omega), if_pos (by omega), if_pos (by rw [ByteArray.size_append]; omega)]

end Go.Proofs.YtjldfmkpdkhnnaaDoor.Pure

namespace Go.Proofs.YtjldfmkpdkhnnaaDoor.Pure
set_option linter.unusedVariables false
set_option linter.unusedSimpArgs false
open Go.RowKit Go.Proofs.YtjldfmkpdkhnnaaDoor.QL Go.Proofs.YtjldfmkpdkhnnaaDoorW.PrintWords Go.Proofs.YtjldfmkpdkhnnaaDoorW.PrintLast Go.Proofs.YtjldfmkpdkhnnaaDoorW.PrintMore Go.Proofs.YtjldfmkpdkhnnaaDoor.Aux Go.Proofs.YtjldfmkpdkhnnaaDoor.Dom Go.Proofs.YtjldfmkpdkhnnaaDoor.Ext
theorem spec_l1In_eq (a b c : Int) : spec_l1In.f a b c = some (decide (b ≤ a ∧ a ≤ c)) := by
  unfold spec_l1In.f
  by_cases h : a ≥ b
  · rw [if_pos h]; simp [show b ≤ a from h]
  · rw [if_neg h]; simp [show ¬ b ≤ a from h]

end Go.Proofs.YtjldfmkpdkhnnaaDoor.Pure

namespace Go.Proofs.YtjldfmkpdkhnnaaDoor.Pure
set_option linter.unusedVariables false
set_option linter.unusedSimpArgs false
open Go.RowKit Go.Proofs.YtjldfmkpdkhnnaaDoor.QL Go.Proofs.YtjldfmkpdkhnnaaDoorW.PrintWords Go.Proofs.YtjldfmkpdkhnnaaDoorW.PrintLast Go.Proofs.YtjldfmkpdkhnnaaDoorW.PrintMore Go.Proofs.YtjldfmkpdkhnnaaDoor.Aux Go.Proofs.YtjldfmkpdkhnnaaDoor.Dom Go.Proofs.YtjldfmkpdkhnnaaDoor.Ext
theorem spec_IsLeap_eq {y : Int} (h : 0 ≤ y) : spec_IsLeap.f y = some (leapB y) := by
  unfold spec_IsLeap.f leapB
  rw [Int.tmod_eq_emod_of_nonneg h, Int.tmod_eq_emod_of_nonneg h, Int.tmod_eq_emod_of_nonneg h]
  by_cases h4 : y % 4 = 0
  · rw [if_pos h4]
    by_cases h100 : y % 100 = 0
    · rw [if_pos h100]
      congr 1
      rw [Bool.eq_iff_iff]; simp; omega
    · rw [if_neg h100, decide_eq_true (Or.inl ⟨h4, h100⟩)]
  · rw [if_neg h4, decide_eq_false (by omega)]

end Go.Proofs.YtjldfmkpdkhnnaaDoor.Pure

namespace Go.Proofs.YtjldfmkpdkhnnaaDoor.Pure
set_option linter.unusedVariables false
set_option linter.unusedSimpArgs false
open Go.RowKit Go.Proofs.YtjldfmkpdkhnnaaDoor.QL Go.Proofs.YtjldfmkpdkhnnaaDoorW.PrintWords Go.Proofs.YtjldfmkpdkhnnaaDoorW.PrintLast Go.Proofs.YtjldfmkpdkhnnaaDoorW.PrintMore Go.Proofs.YtjldfmkpdkhnnaaDoor.Aux Go.Proofs.YtjldfmkpdkhnnaaDoor.Dom Go.Proofs.YtjldfmkpdkhnnaaDoor.Ext
theorem spec_l4Months_eq {y : Int} (h : 0 ≤ y) : ∃ l, spec_l4Months.f y = some l ∧ l.length = 12 ∧ ∀ m : Int, 1 ≤ m → m ≤ 12 → rd l (m - 1) = monthD y m := by
  unfold spec_l4Months.f
  rw [spec_IsLeap_eq h, Option.bind_some]
  have hm : ∀ m : Int, 1 ≤ m → m ≤ 12 → m = 1 ∨ m = 2 ∨ m = 3 ∨ m = 4 ∨ m = 5 ∨ m = 6 ∨ m = 7 ∨ m = 8 ∨ m = 9 ∨ m = 10 ∨ m = 11 ∨ m = 12 := fun m h1 h2 => by omega
  cases hl : leapB y with
  | true =>
    refine ⟨_, if_pos rfl, rfl, fun m h1 h2 => ?_⟩
    rcases hm m h1 h2 with rfl | rfl | rfl | rfl | rfl | rfl | rfl | rfl | rfl | rfl | rfl | rfl <;> simp [monthD, hl, rd]
  | false =>
    refine ⟨_, if_neg (by decide), rfl, fun m h1 h2 => ?_⟩
    rcases hm m h1 h2 with rfl | rfl | rfl | rfl | rfl | rfl | rfl | rfl | rfl | rfl | rfl | rfl <;> simp [monthD, hl, rd]
theorem spec_DaysOf_l1 (y m : Int) (hy : 0 ≤ y) (hm : m ≤ 13) : ∀ (d : Nat) (n i : Int), 1 ≤ i → m - i = d → 0 ≤ n → n + 31 * d ≤ 100000 → Ev (fun k => spec_DaysOf.l1 k y m n i) (n + monthsD y d i)
  | 0, n, i, h1, hd, n0, n1 => by
    refine ev_last fun k => ?_
    simp only [spec_DaysOf.l1]
    rw [if_neg (by omega)]
    simp [monthsD]
  | d + 1, n, i, h1, hd, n0, n1 => by
    obtain ⟨l, e, hl, hr⟩ := spec_l4Months_eq hy
    have hb := monthD_bd y i
    refine Ev.step (f := fun k => spec_DaysOf.l1 k y m (n + monthD y i) (i + 1)) (fun k => ?_) (ev_eq (spec_DaysOf_l1 y m hy hm d _ (i + 1) (by omega) (by omega) (by omega) (by omega)) (by rw [monthsD]; omega))
    simp only [spec_DaysOf.l1]
    rw [if_pos (by omega), e, Option.bind_some, wrap_id (x := i - 1) (by omega) (by omega), if_pos (by omega), if_pos (by omega), hr i h1 (by omega), wrap_id (by omega) (by omega), wrap_id (by omega) (by omega)]
theorem spec_DaysOf_l0 (y m : Int) (hy : y ≤ 2037) (h1970 : 1970 ≤ y) (hm1 : 1 ≤ m) (hm : m ≤ 12) : ∀ (d : Nat) (n i : Int), 1970 ≤ i → y - i = d → 0 ≤ n → n + 366 * d ≤ 50000 → Ev (fun k => spec_DaysOf.l0 k y m n i) (n + yearsD d i + monthsD y (m - 1).toNat 1)
  | 0, n, i, h1, hd, n0, n1 => by
    refine Ev.step (f := fun k => spec_DaysOf.l1 k y m n 1) (fun k => ?_) (ev_eq (spec_DaysOf_l1 y m (by omega) (by omega) (m - 1).toNat n 1 (by omega) (by omega) n0 (by omega)) (by simp [yearsD]))
    simp only [spec_DaysOf.l0]
    rw [if_neg (by omega)]
  | d + 1, n, i, h1, hd, n0, n1 => by
    have hb := yearD_bd i
    refine Ev.step (f := fun k => spec_DaysOf.l0 k y m (n + yearD i) (i + 1)) (fun k => ?_) (ev_eq (spec_DaysOf_l0 y m hy h1970 hm1 hm d _ (i + 1) (by omega) (by omega) (by omega) (by omega)) (by rw [yearsD]; omega))
    simp only [spec_DaysOf.l0]
    rw [if_pos (by omega), spec_IsLeap_eq (by omega), Option.bind_some, wrap_id (x := n + 365) (by omega) (by omega), wrap_id (x := i + 1) (by omega) (by omega), wrap_id (x := n + 365 + 1) (by omega) (by omega)]
    unfold yearD
    cases leapB i with
    | true => rw [if_pos rfl, if_pos rfl, show n + 365 + 1 = n + 366 by omega]
    | false => rw [if_neg (by decide), if_neg (by decide)]
theorem spec_DaysOf_ev (y m d : Int) : Ev (fun k => spec_DaysOf.f k y m d) (daysP y m d) := by
  have hbad : ∀ k, spec_DaysOf.j0 (k + 1) y m d true = some (-1) := fun k => by simp only [spec_DaysOf.j0]; rw [if_pos trivial]
  refine Ev.congr (fun k => by unfold spec_DaysOf.f; rw [spec_l1In_eq, Option.bind_some]) ?_
  unfold daysP
  by_cases h1 : 1970 ≤ y ∧ y ≤ 2037
  · refine ev_if_pos (by simpa using h1) ?_
    refine Ev.congr (fun k => by rw [spec_l1In_eq, Option.bind_some]) ?_
    by_cases h2 : 1 ≤ m ∧ m ≤ 12
    · refine ev_if_pos (by simpa using h2) ?_
      obtain ⟨l, e, hl, hr⟩ := spec_l4Months_eq (y := y) (by omega)
      refine Ev.congr (fun k => by rw [e, Option.bind_some, wrap_id (x := m - 1) (by omega) (by omega), if_pos (by omega), if_pos (by omega), hr m h2.1 h2.2, spec_l1In_eq, Option.bind_some]) ?_
      have hb := monthD_bd y m
      by_cases h3 : 1 ≤ d ∧ d ≤ monthD y m
      · rw [decide_eq_true h3, if_pos ⟨h1, h2, h3⟩]
        refine Ev.step (f := fun k => spec_DaysOf.l0 k y m (d - 1) 1970) (fun k => ?_) (ev_eq (spec_DaysOf_l0 y m h1.2 h1.1 h2.1 h2.2 (y - 1970).toNat (d - 1) 1970 (by omega) (by omega) (by omega) (by omega)) (by omega))
        simp only [spec_DaysOf.j0]
        rw [if_neg (by decide), wrap_id (by omega) (by omega)]
      · rw [decide_eq_false h3, if_neg (fun h => h3 h.2.2)]
        exact ev_last hbad
    · rw [if_neg (fun h => h2 h.2.1)]
      exact ev_if_neg (by simpa using h2) (ev_last hbad)
  · rw [if_neg (fun h => h1 h.1)]
    exact ev_if_neg (by simpa using h1) (ev_last hbad)

end Go.Proofs.YtjldfmkpdkhnnaaDoor.Pure

namespace Go.Proofs.YtjldfmkpdkhnnaaDoor.Pure
set_option linter.unusedVariables false
set_option linter.unusedSimpArgs false
open Go.RowKit Go.Proofs.YtjldfmkpdkhnnaaDoor.QL Go.Proofs.YtjldfmkpdkhnnaaDoorW.PrintWords Go.Proofs.YtjldfmkpdkhnnaaDoorW.PrintLast Go.Proofs.YtjldfmkpdkhnnaaDoorW.PrintMore Go.Proofs.YtjldfmkpdkhnnaaDoor.Aux Go.Proofs.YtjldfmkpdkhnnaaDoor.Dom Go.Proofs.YtjldfmkpdkhnnaaDoor.Ext
theorem spec_Dec_pos : ∀ (d : Nat) (n : Int) (acc : List Int), 0 ≤ n → n ≤ 9223372036854775807 → n < 10 ^ d → acc.length + d ≤ 100 → Ev (fun k => spec_Dec.l0 k n (strOfNums acc) false) (strOfNums (decL d n acc))
  | 0, n, acc, h0, h1, hn, ha => by
    refine ev_last fun k => ?_
    simp only [spec_Dec.l0]
    rw [if_pos (by simp at hn; omega), if_neg (by decide)]
    rfl
  | d + 1, n, acc, h0, h1, hn, ha => by
    by_cases h : n > 0
    · refine Ev.step (f := fun k => spec_Dec.l0 k (n / 10) (strOfNums ((48 + n % 10) :: acc)) false) (fun k => ?_) (ev_eq (spec_Dec_pos d (n / 10) _ (by omega) (by omega) (by rw [Int.pow_succ] at hn; omega) (by simp; omega)) (by rw [decL, if_pos h]))
      simp only [spec_Dec.l0, Option.bind_some]
      rw [if_neg (by omega), Int.tmod_eq_emod_of_nonneg (by omega), Int.tdiv_eq_ediv_of_nonneg (by omega), if_neg (by omega), if_pos (by rw [strOfNums_size, strOfNums_size]; simp; omega), wrap_id (x := 48 + n % 10) (by omega) (by omega), wrap_id (by omega) (by omega), Int.emod_eq_of_lt (a := 48 + n % 10) (by omega) (by omega), ← strOfNums_append]
      rfl
    · refine ev_last fun k => ?_
      simp only [spec_Dec.l0]
      rw [if_pos (by omega), if_neg (by decide), decL, if_neg h]
theorem spec_Dec_neg : ∀ (d : Nat) (n : Int) (acc : List Int), 0 ≤ n → n ≤ 9223372036854775808 → n < 10 ^ d → acc.length + d ≤ 100 → Ev (fun k => spec_Dec.l0 k (-n) (strOfNums acc) true) (strOfNums (45 :: decL d n acc))
  | 0, n, acc, h0, h1, hn, ha => by
    refine ev_last fun k => ?_
    simp only [spec_Dec.l0]
    rw [if_pos (by simp at hn; omega), if_pos (by trivial), if_pos (by rw [strOfNums_size]; omega)]
    rw [show (45 :: decL 0 n acc : List Int) = [45] ++ acc from rfl, strOfNums_append]
    rfl
  | d + 1, n, acc, h0, h1, hn, ha => by
    by_cases h : n > 0
    · refine Ev.step (f := fun k => spec_Dec.l0 k (-(n / 10)) (strOfNums ((48 + n % 10) :: acc)) true) (fun k => ?_) (ev_eq (spec_Dec_neg d (n / 10) _ (by omega) (by omega) (by rw [Int.pow_succ] at hn; omega) (by simp; omega)) (by rw [decL, if_pos h]))
      simp only [spec_Dec.l0, Option.bind_some]
      rw [if_neg (by omega), Int.neg_tmod, Int.neg_tdiv, Int.tmod_eq_emod_of_nonneg (by omega), Int.tdiv_eq_ediv_of_nonneg (by omega)]
      by_cases hr : -(n % 10) < 0
      · rw [if_pos hr, if_pos (by rw [strOfNums_size, strOfNums_size]; simp; omega), Int.neg_neg, wrap_id (x := n % 10) (by omega) (by omega), wrap_id (x := 48 + n % 10) (by omega) (by omega), wrap_id (by omega) (by omega), Int.emod_eq_of_lt (a := 48 + n % 10) (by omega) (by omega), ← strOfNums_append]
        rfl
      · have hr0 : n % 10 = 0 := by omega
        rw [if_neg hr, if_pos (by rw [strOfNums_size, strOfNums_size]; simp; omega), hr0, wrap_id (x := -(n / 10)) (by omega) (by omega), ← strOfNums_append, show (wrap64 (48 + -0) % 256 : Int) = 48 + 0 by rw [wrap_id (by omega) (by omega)]; omega]
        rfl
    · refine ev_last fun k => ?_
      simp only [spec_Dec.l0]
      rw [if_pos (by omega), if_pos (by trivial), if_pos (by rw [strOfNums_size]; omega), decL, if_neg h]
      rw [show (45 :: acc : List Int) = [45] ++ acc from rfl, strOfNums_append]
      rfl
theorem spec_Dec_ev (n : Int) (h0 : -9223372036854775808 ≤ n) (h1 : n ≤ 9223372036854775807) : Ev (fun k => spec_Dec.f k n) (decB n) := by
  have hp : (10 : Int) ^ 20 = 100000000000000000000 := by decide
  unfold decB decP
  by_cases hz : n = 0
  · rw [if_pos hz]
    exact ev_some fun k => by unfold spec_Dec.f; rw [if_pos hz]; rfl
  · rw [if_neg hz]
    refine Ev.congr (fun k => by unfold spec_Dec.f; rw [if_neg hz]) ?_
    by_cases hn : n < 0
    · rw [if_pos hn, decide_eq_true hn]
      have h := spec_Dec_neg 20 (-n) [] (by omega) (by omega) (by rw [hp]; omega) (by simp)
      rw [Int.neg_neg] at h
      exact h
    · rw [if_neg hn, decide_eq_false hn]
      exact spec_Dec_pos 20 n [] (by omega) (by omega) (by rw [hp]; omega) (by simp)

end Go.Proofs.YtjldfmkpdkhnnaaDoor.Pure

namespace Go.Proofs.YtjldfmkpdkhnnaaDoor.Pure
set_option linter.unusedVariables false
set_option linter.unusedSimpArgs false
open Go.RowKit Go.Proofs.YtjldfmkpdkhnnaaDoor.QL Go.Proofs.YtjldfmkpdkhnnaaDoorW.PrintWords Go.Proofs.YtjldfmkpdkhnnaaDoorW.PrintLast Go.Proofs.YtjldfmkpdkhnnaaDoorW.PrintMore Go.Proofs.YtjldfmkpdkhnnaaDoor.Aux Go.Proofs.YtjldfmkpdkhnnaaDoor.Dom Go.Proofs.YtjldfmkpdkhnnaaDoor.Ext
theorem spec_l4Two_eq {n : Int} (h0 : 0 ≤ n) (h1 : n ≤ 99) : spec_l4Two.f n = some (strOfNums (twoL n)) := by
  unfold spec_l4Two.f twoL
  rw [Int.tdiv_eq_ediv_of_nonneg h0, wrap_id (x := n / 10) (by omega) (by omega), Int.tmod_eq_emod_of_nonneg (by omega), Int.tmod_eq_emod_of_nonneg h0, wrap_id (by omega) (by omega), wrap_id (by omega) (by omega), Int.emod_eq_of_lt (a := 48 + n / 10 % 10) (by omega) (by omega), Int.emod_eq_of_lt (a := 48 + n % 10) (by omega) (by omega)]
/-- The days of a year's first day, and of a month's. -/
theorem daysP_year {y : Int} (h : 1970 ≤ y) (h2 : y ≤ 2037) : daysP y 1 1 = yearsD (y - 1970).toNat 1970 := by
  have hb := monthD_bd y 1
  unfold daysP
  rw [if_pos ⟨⟨h, h2⟩, by omega, by omega⟩]
  simp [monthsD]
theorem daysP_month {y m : Int} (h : 1970 ≤ y) (h2 : y ≤ 2037) (h3 : 1 ≤ m) (h4 : m ≤ 12) : daysP y m 1 = yearsD (y - 1970).toNat 1970 + monthsD y (m - 1).toNat 1 := by
  have hb := monthD_bd y m
  unfold daysP
  rw [if_pos ⟨⟨h, h2⟩, ⟨h3, h4⟩, by omega⟩]
  omega
theorem spec_ShowDate_j3 (sec y m : Int) (hs0 : 0 ≤ sec) (hs1 : sec ≤ 2000000000) (hy : 1970 ≤ y) (hy2 : y ≤ 2037) (hm : 1 ≤ m) (hm2 : m ≤ 12) (hd : daysP y m 1 ≤ sec / 86400) (hd2 : sec / 86400 < daysP y m 1 + monthD y m) :
    Ev (fun k => spec_ShowDate.j3 k sec (sec / 86400) y m) (strOfNums (weekL (sec / 86400 % 7) ++ [44, 32] ++ twoL (sec / 86400 - daysP y m 1 + 1) ++ [32] ++ monL m ++ [32] ++ decP y ++ [32] ++ twoL (sec / 3600 % 24) ++ [58] ++ twoL (sec / 60 % 60) ++ [58] ++ twoL (sec % 60) ++ [32, 71, 77, 84])) := by
  have hb := monthD_bd y m
  have hdp := daysP_month hy hy2 hm hm2
  have hyb := yearsD_bd (y - 1970).toNat 1970
  have hmb := monthsD_bd y (m - 1).toNat 1
  have w2 : wrap64 (m - 1) = m - 1 := wrap_id (by omega) (by omega)
  have w1 : wrap64 (wrap64 (sec / 86400 - daysP y m 1) + 1) = sec / 86400 - daysP y m 1 + 1 := by rw [wrap_id (x := sec / 86400 - daysP y m 1) (by omega) (by omega), wrap_id (by omega) (by omega)]
  have w3 : Int.tmod (wrap64 (Int.tdiv sec 3600)) 24 = sec / 3600 % 24 := by rw [Int.tdiv_eq_ediv_of_nonneg hs0, wrap_id (by omega) (by omega), Int.tmod_eq_emod_of_nonneg (by omega)]
  have w4 : Int.tmod (wrap64 (Int.tdiv sec 60)) 60 = sec / 60 % 60 := by rw [Int.tdiv_eq_ediv_of_nonneg hs0, wrap_id (by omega) (by omega), Int.tmod_eq_emod_of_nonneg (by omega)]
  have w5 : Int.tmod sec 60 = sec % 60 := Int.tmod_eq_emod_of_nonneg hs0
  have w6 : Int.tmod (sec / 86400) 7 = sec / 86400 % 7 := Int.tmod_eq_emod_of_nonneg (by omega)
  have s1 : (strOfNums (weekL (sec / 86400 % 7))).size = 3 := by rw [strOfNums_size, weekL_length]
  have s2 : ∀ n, (strOfNums (twoL n)).size = 2 := fun n => by rw [strOfNums_size]; rfl
  have s3 : (strOfNums (monL m)).size = 3 := by rw [strOfNums_size, monL_length]
  have s4 : (decB y).size = 4 := by unfold decB; rw [decP_year (by omega) (by omega), strOfNums_size]; rfl
  have z1 : (⟨#[44, 32]⟩ : ByteArray).size = 2 := rfl
  have z2 : (⟨#[32]⟩ : ByteArray).size = 1 := rfl
  have z3 : (⟨#[58]⟩ : ByteArray).size = 1 := rfl
  refine Ev.step (fun k => by simp only [spec_ShowDate.j3]; rfl) (ev_bind (spec_DaysOf_ev y m 1) ?_)
  refine Ev.congr (fun k => by
    simp only [Option.bind_some]
    rw [w6, if_pos (c := 0 ≤ sec / 86400 % 7) (by omega), if_pos (c := sec / 86400 % 7 < _) (by simp; omega), w2, if_pos (c := 0 ≤ m - 1) (by omega), if_pos (c := m - 1 < _) (by simp; omega), week_rd (by omega) (by omega), months_rd hm hm2, if_pos (by rw [s1]; decide), w1, spec_l4Two_eq (n := sec / 86400 - daysP y m 1 + 1) (by omega) (by omega), Option.bind_some]) ?_
  refine Ev.congr (fun k => by
    simp only [ByteArray.size_append, s1, s2, s3, z1, z2, Nat.reduceAdd, Nat.reduceLeDiff, if_true]
    rfl) ?_
  refine ev_bind (spec_Dec_ev y (by omega) (by omega)) ?_
  refine ev_some fun k => ?_
  rw [w3, w4, w5, spec_l4Two_eq (n := sec / 3600 % 24) (by omega) (by omega), spec_l4Two_eq (n := sec / 60 % 60) (by omega) (by omega), spec_l4Two_eq (n := sec % 60) (by omega) (by omega)]
  simp only [Option.bind_some, ByteArray.size_append, s1, s2, s3, s4, z1, z2, z3, Nat.reduceAdd, Nat.reduceLeDiff, if_true]
  congr 1
  simp only [strOfNums_append, decB]
  rfl
theorem spec_ShowDate_l1 (sec y : Int) (hs0 : 0 ≤ sec) (hs1 : sec ≤ 2000000000) (hy : 1970 ≤ y) (hy2 : y ≤ 2037) : ∀ (f : Nat) (m d : Int), 1 ≤ m → m + f = 13 → 0 ≤ d → d < monthsD y f m → daysP y m 1 + d = sec / 86400 →
    Ev (fun k => spec_ShowDate.l1 k sec (sec / 86400) y m) (strOfNums (weekL (sec / 86400 % 7) ++ [44, 32] ++ twoL ((mdL y f m d).2 + 1) ++ [32] ++ monL (mdL y f m d).1 ++ [32] ++ decP y ++ [32] ++ twoL (sec / 3600 % 24) ++ [58] ++ twoL (sec / 60 % 60) ++ [58] ++ twoL (sec % 60) ++ [32, 71, 77, 84]))
  | 0, m, d, h1, hf, h0, hd, he => by simp [monthsD] at hd; omega
  | f + 1, m, d, h1, hf, h0, hd, he => by
    have hb := monthD_bd y m
    rw [monthsD] at hd
    rw [mdL]
    have e3 : d = sec / 86400 - daysP y m 1 := by omega
    by_cases h12 : m < 12
    · have hn : daysP y (m + 1) 1 = daysP y m 1 + monthD y m := by
        rw [daysP_month hy hy2 (by omega) (by omega), daysP_month hy hy2 h1 (by omega), show (m + 1 - 1).toNat = (m - 1).toNat + 1 by omega, monthsD_succ, show 1 + (((m - 1).toNat : Nat) : Int) = m by omega]
        omega
      refine Ev.step (fun k => by simp only [spec_ShowDate.l1]; rw [if_pos h12, wrap_id (x := m + 1) (by omega) (by omega)]) (ev_bind (spec_DaysOf_ev y (m + 1) 1) ?_)
      by_cases h : monthD y m ≤ d
      · rw [if_pos h]
        exact ev_if_pos (by omega) (spec_ShowDate_l1 sec y hs0 hs1 hy hy2 f (m + 1) (d - monthD y m) (by omega) (by omega) (by omega) (by omega) (by omega))
      · rw [if_neg h]
        refine ev_if_neg (by omega) ?_
        have := spec_ShowDate_j3 sec y m hs0 hs1 hy hy2 h1 (by omega) (by omega) (by omega)
        rw [← e3] at this
        exact this
    · refine Ev.step (f := fun k => spec_ShowDate.j3 k sec (sec / 86400) y m) (fun k => by simp only [spec_ShowDate.l1]; rw [if_neg h12]) ?_
      have hf0 : f = 0 := by omega
      subst hf0
      simp only [monthsD] at hd
      rw [if_neg (by omega)]
      have := spec_ShowDate_j3 sec y m hs0 hs1 hy hy2 h1 (by omega) (by omega) (by omega)
      rw [← e3] at this
      exact this
theorem spec_ShowDate_l0 (sec : Int) (hs0 : 0 ≤ sec) (hs1 : sec ≤ 2000000000) : ∀ (f : Nat) (y d : Int), 1970 ≤ y → y + f = 2037 → 0 ≤ d → d < 365 * f → daysP y 1 1 + d = sec / 86400 →
    Ev (fun k => spec_ShowDate.l0 k sec (sec / 86400) y 1) (strOfNums (weekL (sec / 86400 % 7) ++ [44, 32] ++ twoL ((mdL (ydL f y d).1 12 1 (ydL f y d).2).2 + 1) ++ [32] ++ monL (mdL (ydL f y d).1 12 1 (ydL f y d).2).1 ++ [32] ++ decP (ydL f y d).1 ++ [32] ++ twoL (sec / 3600 % 24) ++ [58] ++ twoL (sec / 60 % 60) ++ [58] ++ twoL (sec % 60) ++ [32, 71, 77, 84]))
  | 0, y, d, h1, hf, h0, hd, he => by omega
  | f + 1, y, d, h1, hf, h0, hd, he => by
    have hb := yearD_bd y
    rw [ydL]
    have hn : daysP (y + 1) 1 1 = daysP y 1 1 + yearD y := by
      rw [daysP_year (by omega) (by omega), daysP_year h1 (by omega), show (y + 1 - 1970).toNat = (y - 1970).toNat + 1 by omega, yearsD_succ, show 1970 + (((y - 1970).toNat : Nat) : Int) = y by omega]
    refine Ev.step (fun k => by simp only [spec_ShowDate.l0]; rw [if_pos (by omega), wrap_id (x := y + 1) (by omega) (by omega)]) (ev_bind (spec_DaysOf_ev (y + 1) 1 1) ?_)
    by_cases h : yearD y ≤ d
    · rw [if_pos h]
      exact ev_if_pos (by omega) (spec_ShowDate_l0 sec hs0 hs1 f (y + 1) (d - yearD y) (by omega) (by omega) (by omega) (by omega) (by omega))
    · rw [if_neg h]
      have hw := yearW_eq y
      unfold yearW at hw
      refine ev_if_neg (by omega) (Ev.step (f := fun k => spec_ShowDate.l1 k sec (sec / 86400) y 1) (fun k => by simp only [spec_ShowDate.j1]) ?_)
      exact spec_ShowDate_l1 sec y hs0 hs1 h1 (by omega) 12 1 d (by omega) (by omega) h0 (by omega) he
theorem spec_ShowDate_ev (sec : Int) (h0 : -9223372036854775808 ≤ sec) (h1 : sec ≤ 9223372036854775807) : Ev (fun k => spec_ShowDate.f k sec) (dateB sec) := by
  refine Ev.congr (fun k => by unfold spec_ShowDate.f; rw [spec_l1In_eq, Option.bind_some]) ?_
  unfold dateB
  by_cases h : 0 ≤ sec ∧ sec ≤ 2000000000
  · rw [if_pos h]
    refine ev_if_pos (by simpa using h) ?_
    have w1 : wrap64 (Int.tdiv sec 86400) = sec / 86400 := by rw [Int.tdiv_eq_ediv_of_nonneg h.1, wrap_id (by omega) (by omega)]
    refine Ev.congr (fun k => by rw [w1]) ?_
    have hy0 : daysP 1970 1 1 = 0 := by rw [daysP_year (by omega) (by omega)]; rfl
    refine ev_eq (spec_ShowDate_l0 sec h.1 h.2 67 1970 (sec / 86400) (by omega) (by omega) (by omega) (by omega) (by omega)) ?_
    unfold dateL ymd
    rw [show (70 : Nat) = 67 + 3 from rfl, ydL_more 67 3 1970 (sec / 86400) (by omega) (by omega)]
  · rw [if_neg h]
    exact ev_if_neg (by simpa using h) (Ev.now _)

end Go.Proofs.YtjldfmkpdkhnnaaDoor.Pure

namespace Go.Proofs.YtjldfmkpdkhnnaaDoor.Pure
set_option linter.unusedVariables false
set_option linter.unusedSimpArgs false
open Go.RowKit Go.Proofs.YtjldfmkpdkhnnaaDoor.QL Go.Proofs.YtjldfmkpdkhnnaaDoorW.PrintWords Go.Proofs.YtjldfmkpdkhnnaaDoorW.PrintLast Go.Proofs.YtjldfmkpdkhnnaaDoorW.PrintMore Go.Proofs.YtjldfmkpdkhnnaaDoor.Aux Go.Proofs.YtjldfmkpdkhnnaaDoor.Dom Go.Proofs.YtjldfmkpdkhnnaaDoor.Ext
theorem dateB_size (x : Int) : (dateB x).size ≤ 29 := by
  unfold dateB
  split
  · rename_i hx
    rw [strOfNums_size, dateL_length hx.1 hx.2]
    exact Nat.le_refl _
  · exact Nat.zero_le _
theorem spec_DrawReadDate_ev (b : List Int) (hb : b.length ≤ 1048576) : ∃ s, Ev (fun k => spec_DrawReadDate.f k b) s ∧ s.size ≤ 1000 := by
  obtain ⟨h', e⟩ := spec_l1New_ev b hb
  obtain ⟨x, i1, g1, e1, a1, a2, a3⟩ := l4Sec_ok b 0 h' hb (by omega)
  obtain ⟨y, i2, g2, e2, b1, b2, b3⟩ := l1Below_ok b i1 g1 5 hb a3
  have sd := spec_ShowDate_ev x a1 a2
  have hs := dateB_size x
  by_cases c0 : y = 0
  · obtain ⟨t, i3, g3, e3, q, _⟩ := spec_l1Spoil_ev b i2 g2 (dateB x) hb b3 (by omega)
    exact ⟨t, Ev.congr (fun k => by unfold spec_DrawReadDate.f; rfl) (ev_bind e (ev_bind (ev_k e1) (ev_bind sd (ev_bind (ev_k e2) (ev_if_pos c0 (ev_bind e3 (Ev.now _))))))), by omega⟩
  by_cases c1 : y = 1
  · obtain ⟨t, i3, g3, e3, q, _⟩ := l1Pick_ok b i2 g2 [(⟨#[84, 104, 117, 44, 32, 48, 49, 32, 74, 97, 110, 32, 49, 57, 55, 48, 32, 48, 48, 58, 48, 48, 58, 48, 48, 32, 71, 77, 84]⟩ : ByteArray), (⟨#[70, 114, 105, 44, 32, 48, 49, 32, 74, 97, 110, 32, 49, 57, 55, 48, 32, 48, 48, 58, 48, 48, 58, 48, 48, 32, 71, 77, 84]⟩ : ByteArray), (⟨#[84, 104, 117, 44, 32, 50, 57, 32, 70, 101, 98, 32, 49, 57, 55, 57, 32, 48, 48, 58, 48, 48, 58, 48, 48, 32, 71, 77, 84]⟩ : ByteArray), (⟨#[84, 104, 117, 44, 32, 48, 49, 32, 74, 97, 110, 32, 49, 57, 55, 48, 32, 50, 52, 58, 48, 48, 58, 48, 48, 32, 71, 77, 84]⟩ : ByteArray), (⟨#[]⟩ : ByteArray), (⟨#[84, 117, 101, 44, 32, 50, 57, 32, 70, 101, 98, 32, 50, 48, 48, 48, 32, 48, 48, 58, 48, 48, 58, 54, 48, 32, 71, 77, 84]⟩ : ByteArray)] (by decide) hb b3
    have hq : ∀ z ∈ [(⟨#[84, 104, 117, 44, 32, 48, 49, 32, 74, 97, 110, 32, 49, 57, 55, 48, 32, 48, 48, 58, 48, 48, 58, 48, 48, 32, 71, 77, 84]⟩ : ByteArray), (⟨#[70, 114, 105, 44, 32, 48, 49, 32, 74, 97, 110, 32, 49, 57, 55, 48, 32, 48, 48, 58, 48, 48, 58, 48, 48, 32, 71, 77, 84]⟩ : ByteArray), (⟨#[84, 104, 117, 44, 32, 50, 57, 32, 70, 101, 98, 32, 49, 57, 55, 57, 32, 48, 48, 58, 48, 48, 58, 48, 48, 32, 71, 77, 84]⟩ : ByteArray), (⟨#[84, 104, 117, 44, 32, 48, 49, 32, 74, 97, 110, 32, 49, 57, 55, 48, 32, 50, 52, 58, 48, 48, 58, 48, 48, 32, 71, 77, 84]⟩ : ByteArray), (⟨#[]⟩ : ByteArray), (⟨#[84, 117, 101, 44, 32, 50, 57, 32, 70, 101, 98, 32, 50, 48, 48, 48, 32, 48, 48, 58, 48, 48, 58, 54, 48, 32, 71, 77, 84]⟩ : ByteArray)], z.size ≤ 29 := by
      intro z hz
      simp only [List.mem_cons, List.not_mem_nil, or_false] at hz
      rcases hz with rfl | rfl | rfl | rfl | rfl | rfl <;> decide
    have := hq t q
    exact ⟨t, Ev.congr (fun k => by unfold spec_DrawReadDate.f; rfl) (ev_bind e (ev_bind (ev_k e1) (ev_bind sd (ev_bind (ev_k e2) (ev_if_neg c0 (ev_if_pos c1 (ev_bind (ev_k e3) (Ev.now _)))))))), by omega⟩
  · exact ⟨dateB x, Ev.congr (fun k => by unfold spec_DrawReadDate.f; rfl) (ev_bind e (ev_bind (ev_k e1) (ev_bind sd (ev_bind (ev_k e2) (ev_if_neg c0 (ev_if_neg c1 (Ev.now _))))))), by omega⟩

end Go.Proofs.YtjldfmkpdkhnnaaDoor.Pure

namespace Go.Proofs.YtjldfmkpdkhnnaaDoor.Pure
set_option linter.unusedVariables false
set_option linter.unusedSimpArgs false
open Go.RowKit Go.Proofs.YtjldfmkpdkhnnaaDoor.QL Go.Proofs.YtjldfmkpdkhnnaaDoorW.PrintWords Go.Proofs.YtjldfmkpdkhnnaaDoorW.PrintLast Go.Proofs.YtjldfmkpdkhnnaaDoorW.PrintMore Go.Proofs.YtjldfmkpdkhnnaaDoor.Aux Go.Proofs.YtjldfmkpdkhnnaaDoor.Dom Go.Proofs.YtjldfmkpdkhnnaaDoor.Ext
theorem impl_in_eq (a b c : Int) : impl_in.f a b c = some (decide (b ≤ a ∧ a ≤ c)) := by
  unfold impl_in.f
  by_cases h : a ≥ b
  · rw [if_pos h]; simp [show b ≤ a from h]
  · rw [if_neg h]; simp [show ¬ b ≤ a from h]

end Go.Proofs.YtjldfmkpdkhnnaaDoor.Pure

namespace Go.Proofs.YtjldfmkpdkhnnaaDoor.Pure
set_option linter.unusedVariables false
set_option linter.unusedSimpArgs false
open Go.RowKit Go.Proofs.YtjldfmkpdkhnnaaDoor.QL Go.Proofs.YtjldfmkpdkhnnaaDoorW.PrintWords Go.Proofs.YtjldfmkpdkhnnaaDoorW.PrintLast Go.Proofs.YtjldfmkpdkhnnaaDoorW.PrintMore Go.Proofs.YtjldfmkpdkhnnaaDoor.Aux Go.Proofs.YtjldfmkpdkhnnaaDoor.Dom Go.Proofs.YtjldfmkpdkhnnaaDoor.Ext
theorem impl_IsLeap_eq {y : Int} (h : 0 ≤ y) : impl_IsLeap.f y = some (leapB y) := by
  unfold impl_IsLeap.f leapB
  rw [Int.tmod_eq_emod_of_nonneg h, Int.tmod_eq_emod_of_nonneg h, Int.tmod_eq_emod_of_nonneg h]
  by_cases h4 : y % 4 = 0
  · rw [if_pos h4]
    by_cases h100 : y % 100 = 0
    · rw [if_pos h100]
      congr 1
      rw [Bool.eq_iff_iff]; simp; omega
    · rw [if_neg h100, decide_eq_true (Or.inl ⟨h4, h100⟩)]
  · rw [if_neg h4]
    congr 1
    rw [Bool.eq_iff_iff]; simp; omega

end Go.Proofs.YtjldfmkpdkhnnaaDoor.Pure

namespace Go.Proofs.YtjldfmkpdkhnnaaDoor.Pure
set_option linter.unusedVariables false
set_option linter.unusedSimpArgs false
open Go.RowKit Go.Proofs.YtjldfmkpdkhnnaaDoor.QL Go.Proofs.YtjldfmkpdkhnnaaDoorW.PrintWords Go.Proofs.YtjldfmkpdkhnnaaDoorW.PrintLast Go.Proofs.YtjldfmkpdkhnnaaDoorW.PrintMore Go.Proofs.YtjldfmkpdkhnnaaDoor.Aux Go.Proofs.YtjldfmkpdkhnnaaDoor.Dom Go.Proofs.YtjldfmkpdkhnnaaDoor.Ext
theorem impl_monthDays_eq {y m : Int} (hy : 0 ≤ y) (h1 : 1 ≤ m) (h2 : m ≤ 12) : impl_monthDays.f y m = some (monthD y m) := by
  unfold impl_monthDays.f
  rw [impl_IsLeap_eq hy]
  have hm : m = 1 ∨ m = 2 ∨ m = 3 ∨ m = 4 ∨ m = 5 ∨ m = 6 ∨ m = 7 ∨ m = 8 ∨ m = 9 ∨ m = 10 ∨ m = 11 ∨ m = 12 := by omega
  cases hl : leapB y with
  | true => rcases hm with rfl | rfl | rfl | rfl | rfl | rfl | rfl | rfl | rfl | rfl | rfl | rfl <;> simp [monthD, hl, rd, wrap64]
  | false => rcases hm with rfl | rfl | rfl | rfl | rfl | rfl | rfl | rfl | rfl | rfl | rfl | rfl <;> simp [monthD, hl, rd, wrap64]
theorem impl_yearDays_eq {y : Int} (hy : 0 ≤ y) : impl_yearDays.f y = some (yearD y) := by
  unfold impl_yearDays.f yearD
  rw [impl_IsLeap_eq hy, Option.bind_some]
  cases leapB y <;> rfl
theorem impl_DaysOf_l1 (y m : Int) (hy : 0 ≤ y) (hm : m ≤ 13) : ∀ (d : Nat) (n i : Int), 1 ≤ i → m - i = d → 0 ≤ n → n + 31 * d ≤ 100000 → Ev (fun k => impl_DaysOf.l1 k y m n i) (n + monthsD y d i)
  | 0, n, i, h1, hd, n0, n1 => by
    refine ev_last fun k => ?_
    simp only [impl_DaysOf.l1]
    rw [if_neg (by omega)]
    simp [monthsD]
  | d + 1, n, i, h1, hd, n0, n1 => by
    have hb := monthD_bd y i
    refine Ev.step (f := fun k => impl_DaysOf.l1 k y m (n + monthD y i) (i + 1)) (fun k => ?_) (ev_eq (impl_DaysOf_l1 y m hy hm d _ (i + 1) (by omega) (by omega) (by omega) (by omega)) (by rw [monthsD]; omega))
    simp only [impl_DaysOf.l1]
    rw [if_pos (by omega), impl_monthDays_eq hy h1 (by omega), Option.bind_some, wrap_id (by omega) (by omega), wrap_id (by omega) (by omega)]
theorem impl_DaysOf_l0 (y m : Int) (hy : y ≤ 2037) (h1970 : 1970 ≤ y) (hm1 : 1 ≤ m) (hm : m ≤ 12) : ∀ (d : Nat) (n i : Int), 1970 ≤ i → y - i = d → 0 ≤ n → n + 366 * d ≤ 50000 → Ev (fun k => impl_DaysOf.l0 k y m n i) (n + yearsD d i + monthsD y (m - 1).toNat 1)
  | 0, n, i, h1, hd, n0, n1 => by
    refine Ev.step (f := fun k => impl_DaysOf.l1 k y m n 1) (fun k => ?_) (ev_eq (impl_DaysOf_l1 y m (by omega) (by omega) (m - 1).toNat n 1 (by omega) (by omega) n0 (by omega)) (by simp [yearsD]))
    simp only [impl_DaysOf.l0]
    rw [if_neg (by omega)]
  | d + 1, n, i, h1, hd, n0, n1 => by
    have hb := yearD_bd i
    refine Ev.step (f := fun k => impl_DaysOf.l0 k y m (n + yearD i) (i + 1)) (fun k => ?_) (ev_eq (impl_DaysOf_l0 y m hy h1970 hm1 hm d _ (i + 1) (by omega) (by omega) (by omega) (by omega)) (by rw [yearsD]; omega))
    simp only [impl_DaysOf.l0]
    rw [if_pos (by omega), impl_yearDays_eq (by omega), Option.bind_some, wrap_id (by omega) (by omega), wrap_id (by omega) (by omega)]
theorem impl_DaysOf_ev (y m d : Int) : Ev (fun k => impl_DaysOf.f k y m d) (daysP y m d) := by
  have hbad : ∀ k, impl_DaysOf.j0 (k + 1) y m d true = some (-1) := fun k => by simp only [impl_DaysOf.j0]; rw [if_pos trivial]
  refine Ev.congr (fun k => by unfold impl_DaysOf.f; rw [impl_in_eq, Option.bind_some]) ?_
  unfold daysP
  by_cases h1 : 1970 ≤ y ∧ y ≤ 2037
  · refine ev_if_pos (by simpa using h1) ?_
    refine Ev.congr (fun k => by rw [impl_in_eq, Option.bind_some]) ?_
    by_cases h2 : 1 ≤ m ∧ m ≤ 12
    · refine ev_if_pos (by simpa using h2) ?_
      refine Ev.congr (fun k => by rw [impl_monthDays_eq (by omega) h2.1 h2.2, Option.bind_some, impl_in_eq, Option.bind_some]) ?_
      have hb := monthD_bd y m
      by_cases h3 : 1 ≤ d ∧ d ≤ monthD y m
      · rw [decide_eq_true h3, if_pos ⟨h1, h2, h3⟩]
        refine Ev.step (f := fun k => impl_DaysOf.l0 k y m (d - 1) 1970) (fun k => ?_) (ev_eq (impl_DaysOf_l0 y m h1.2 h1.1 h2.1 h2.2 (y - 1970).toNat (d - 1) 1970 (by omega) (by omega) (by omega) (by omega)) (by omega))
        simp only [impl_DaysOf.j0]
        rw [if_neg (by decide), wrap_id (by omega) (by omega)]
      · rw [decide_eq_false h3, if_neg (fun h => h3 h.2.2)]
        exact ev_last hbad
    · rw [if_neg (fun h => h2 h.2.1)]
      exact ev_if_neg (by simpa using h2) (ev_last hbad)
  · rw [if_neg (fun h => h1 h.1)]
    exact ev_if_neg (by simpa using h1) (ev_last hbad)

end Go.Proofs.YtjldfmkpdkhnnaaDoor.Pure

namespace Go.Proofs.YtjldfmkpdkhnnaaDoor.Pure
set_option linter.unusedVariables false
set_option linter.unusedSimpArgs false
open Go.RowKit Go.Proofs.YtjldfmkpdkhnnaaDoor.QL Go.Proofs.YtjldfmkpdkhnnaaDoorW.PrintWords Go.Proofs.YtjldfmkpdkhnnaaDoorW.PrintLast Go.Proofs.YtjldfmkpdkhnnaaDoorW.PrintMore Go.Proofs.YtjldfmkpdkhnnaaDoor.Aux Go.Proofs.YtjldfmkpdkhnnaaDoor.Dom Go.Proofs.YtjldfmkpdkhnnaaDoor.Ext
theorem impl_two_eq {n : Int} (h0 : 0 ≤ n) (h1 : n ≤ 99) : impl_two.f n = some (strOfNums (twoL n)) := by
  unfold impl_two.f strconv_Itoa.f
  rw [wrap_id (by omega) (by omega), if_pos ⟨by omega, by omega⟩, Option.bind_some]
  have e : decB (100 + n) = strOfNums (49 :: twoL n) := by unfold decB; rw [decP_100 h0 h1]
  rw [e, if_pos (by rw [strOfNums_size]; simp [twoL])]
  congr 1
theorem impl_ShowDate_fin (k : Nat) (d rest y m wd : Int) (hy : 1970 ≤ y) (hy2 : y ≤ 2037) (hm : 1 ≤ m) (hm2 : m ≤ 12) (hd : 0 ≤ d) (hd2 : d < monthD y m) (hr0 : 0 ≤ rest) (hr1 : rest < 86400) :
    impl_ShowDate.l1 (k + 1) d rest (strOfNums (weekL wd)) y m = some (strOfNums (weekL wd ++ [44, 32] ++ twoL (d + 1) ++ [32] ++ monL m ++ [32] ++ decP y ++ [32] ++ twoL (rest / 3600) ++ [58] ++ twoL (rest / 60 % 60) ++ [58] ++ twoL (rest % 60) ++ [32, 71, 77, 84])) := by
  have hb := monthD_bd y m
  have w1 : wrap64 (d + 1) = d + 1 := wrap_id (by omega) (by omega)
  have w2 : wrap64 (m - 1) = m - 1 := wrap_id (by omega) (by omega)
  have w3 : wrap64 (Int.tdiv rest 3600) = rest / 3600 := by rw [Int.tdiv_eq_ediv_of_nonneg hr0, wrap_id (by omega) (by omega)]
  have w4 : Int.tmod (wrap64 (Int.tdiv rest 60)) 60 = rest / 60 % 60 := by rw [Int.tdiv_eq_ediv_of_nonneg hr0, wrap_id (by omega) (by omega), Int.tmod_eq_emod_of_nonneg (by omega)]
  have w5 : Int.tmod rest 60 = rest % 60 := Int.tmod_eq_emod_of_nonneg hr0
  have s1 : (strOfNums (weekL wd)).size = 3 := by rw [strOfNums_size, weekL_length]
  have s2 : ∀ n, (strOfNums (twoL n)).size = 2 := fun n => by rw [strOfNums_size]; rfl
  have s3 : (strOfNums (monL m)).size = 3 := by rw [strOfNums_size, monL_length]
  have s4 : (decB y).size = 4 := by unfold decB; rw [decP_year (by omega) (by omega), strOfNums_size]; rfl
  have z1 : (⟨#[44, 32]⟩ : ByteArray).size = 2 := rfl
  have z2 : (⟨#[32]⟩ : ByteArray).size = 1 := rfl
  have z3 : (⟨#[58]⟩ : ByteArray).size = 1 := rfl
  have i1 : strconv_Itoa.f y = some (decB y) := by unfold strconv_Itoa.f; rw [if_pos ⟨by omega, by omega⟩]
  simp only [impl_ShowDate.l1, impl_monthDays_eq (y := y) (m := m) (by omega) hm hm2, Option.bind_some]
  rw [if_neg (by omega), w1, w2, w3, w4, w5, impl_two_eq (n := d + 1) (by omega) (by omega), impl_two_eq (n := rest / 3600) (by omega) (by omega), impl_two_eq (n := rest / 60 % 60) (by omega) (by omega), impl_two_eq (n := rest % 60) (by omega) (by omega), i1]
  simp only [impl_months.f, Option.bind_some]
  rw [if_pos (c := 0 ≤ m - 1) (by omega), if_pos (c := m - 1 < _) (by simp; omega)]
  simp only [months_rd hm hm2, ByteArray.size_append, s1, s2, s3, s4, z1, z2, z3, Nat.reduceAdd, Nat.reduceLeDiff, if_true]
  congr 1
  simp only [strOfNums_append, decB]
  rfl
theorem impl_ShowDate_l1 (rest y wd : Int) (hy : 1970 ≤ y) (hy2 : y ≤ 2037) (hr0 : 0 ≤ rest) (hr1 : rest < 86400) : ∀ (f : Nat) (m d : Int), 1 ≤ m → m + f = 13 → 0 ≤ d → d < monthsD y f m →
    Ev (fun k => impl_ShowDate.l1 k d rest (strOfNums (weekL wd)) y m) (strOfNums (weekL wd ++ [44, 32] ++ twoL ((mdL y f m d).2 + 1) ++ [32] ++ monL (mdL y f m d).1 ++ [32] ++ decP y ++ [32] ++ twoL (rest / 3600) ++ [58] ++ twoL (rest / 60 % 60) ++ [58] ++ twoL (rest % 60) ++ [32, 71, 77, 84]))
  | 0, m, d, h1, hf, h0, hd => by simp [monthsD] at hd; omega
  | f + 1, m, d, h1, hf, h0, hd => by
    have hb := monthD_bd y m
    have hb2 := monthsD_bd y f (m + 1)
    rw [monthsD] at hd
    rw [mdL]
    by_cases h : monthD y m ≤ d
    · rw [if_pos h]
      refine Ev.step (f := fun k => impl_ShowDate.l1 k (d - monthD y m) rest (strOfNums (weekL wd)) y (m + 1)) (fun k => ?_) (impl_ShowDate_l1 rest y wd hy hy2 hr0 hr1 f (m + 1) (d - monthD y m) (by omega) (by omega) (by omega) (by omega))
      simp only [impl_ShowDate.l1, impl_monthDays_eq (y := y) (m := m) (by omega) h1 (by omega), Option.bind_some]
      rw [if_pos h, wrap_id (x := d - monthD y m) (by omega) (by omega), wrap_id (x := m + 1) (by omega) (by omega)]
    · rw [if_neg h]
      exact ev_last fun k => impl_ShowDate_fin k d rest y m wd hy hy2 h1 (by omega) h0 (by omega) hr0 hr1
theorem impl_ShowDate_l0 (rest wd : Int) (hr0 : 0 ≤ rest) (hr1 : rest < 86400) : ∀ (f : Nat) (y d : Int), 1970 ≤ y → y + f = 2038 → 0 ≤ d → d < 365 * f →
    Ev (fun k => impl_ShowDate.l0 k d rest (strOfNums (weekL wd)) y 1) (strOfNums (weekL wd ++ [44, 32] ++ twoL ((mdL (ydL f y d).1 12 1 (ydL f y d).2).2 + 1) ++ [32] ++ monL (mdL (ydL f y d).1 12 1 (ydL f y d).2).1 ++ [32] ++ decP (ydL f y d).1 ++ [32] ++ twoL (rest / 3600) ++ [58] ++ twoL (rest / 60 % 60) ++ [58] ++ twoL (rest % 60) ++ [32, 71, 77, 84]))
  | 0, y, d, h1, hf, h0, hd => by omega
  | f + 1, y, d, h1, hf, h0, hd => by
    have hb := yearD_bd y
    rw [ydL]
    by_cases h : yearD y ≤ d
    · rw [if_pos h]
      refine Ev.step (f := fun k => impl_ShowDate.l0 k (d - yearD y) rest (strOfNums (weekL wd)) (y + 1) 1) (fun k => ?_) (impl_ShowDate_l0 rest wd hr0 hr1 f (y + 1) (d - yearD y) (by omega) (by omega) (by omega) (by omega))
      simp only [impl_ShowDate.l0, impl_yearDays_eq (y := y) (by omega), Option.bind_some]
      rw [if_pos h, wrap_id (x := d - yearD y) (by omega) (by omega), wrap_id (x := y + 1) (by omega) (by omega)]
    · rw [if_neg h]
      have hw := yearW_eq y
      unfold yearW at hw
      refine Ev.step (f := fun k => impl_ShowDate.l1 k d rest (strOfNums (weekL wd)) y 1) (fun k => ?_) (impl_ShowDate_l1 rest y wd h1 (by omega) hr0 hr1 12 1 d (by omega) (by omega) h0 (by omega))
      simp only [impl_ShowDate.l0, impl_yearDays_eq (y := y) (by omega), Option.bind_some]
      rw [if_neg (by omega)]
theorem impl_ShowDate_ev (sec : Int) (h0 : -9223372036854775808 ≤ sec) (h1 : sec ≤ 9223372036854775807) : Ev (fun k => impl_ShowDate.f k sec) (dateB sec) := by
  refine Ev.congr (fun k => by unfold impl_ShowDate.f; rw [impl_in_eq, Option.bind_some]) ?_
  unfold dateB
  by_cases h : 0 ≤ sec ∧ sec ≤ 2000000000
  · rw [if_pos h]
    refine ev_if_pos (by simpa using h) ?_
    have w1 : wrap64 (Int.tdiv sec 86400) = sec / 86400 := by rw [Int.tdiv_eq_ediv_of_nonneg h.1, wrap_id (by omega) (by omega)]
    have w2 : Int.tmod (sec / 86400) 7 = sec / 86400 % 7 := Int.tmod_eq_emod_of_nonneg (by omega)
    have w3 : Int.tmod sec 86400 = sec % 86400 := Int.tmod_eq_emod_of_nonneg h.1
    refine Ev.congr (fun k => by rw [w1, w2, w3, Option.bind_some, if_pos (by omega), if_pos (by simp; omega), week_rd (by omega) (by omega)]) ?_
    refine ev_eq (impl_ShowDate_l0 (sec % 86400) (sec / 86400 % 7) (by omega) (by omega) 68 1970 (sec / 86400) (by omega) (by omega) (by omega) (by omega)) ?_
    unfold dateL ymd
    rw [show (70 : Nat) = 68 + 2 from rfl, ydL_more 68 2 1970 (sec / 86400) (by omega) (by omega), show sec % 86400 / 3600 = sec / 3600 % 24 by omega, show sec % 86400 / 60 % 60 = sec / 60 % 60 by omega, show sec % 86400 % 60 = sec % 60 by omega]
  · rw [if_neg h]
    exact ev_if_neg (by simpa using h) (Ev.now _)

end Go.Proofs.YtjldfmkpdkhnnaaDoor.Pure

namespace Go.Proofs.YtjldfmkpdkhnnaaDoor.Pure
set_option linter.unusedVariables false
set_option linter.unusedSimpArgs false
open Go.RowKit Go.Proofs.YtjldfmkpdkhnnaaDoor.QL Go.Proofs.YtjldfmkpdkhnnaaDoorW.PrintWords Go.Proofs.YtjldfmkpdkhnnaaDoorW.PrintLast Go.Proofs.YtjldfmkpdkhnnaaDoorW.PrintMore Go.Proofs.YtjldfmkpdkhnnaaDoor.Aux Go.Proofs.YtjldfmkpdkhnnaaDoor.Dom Go.Proofs.YtjldfmkpdkhnnaaDoor.Ext
theorem strconv_Atoi_short (s : ByteArray) (n : Int) (hs : s.size ≤ 18) (h : Lib.atoi s.data.toList = some n) : strconv_Atoi.f s = some (n, none) := by
  unfold strconv_Atoi.f
  rw [if_pos (by omega), Lib.atoiAll_short _ (by rw [← Lib.size_eq]; exact hs), h]
  rfl
theorem strconv_Atoi_nil : strconv_Atoi.f ⟨#[]⟩ = some (0, some 0) := rfl
theorem atoi_dig (ds : List Int) (hd : ds.all digC = true) (hne : ds ≠ []) : Lib.atoi (strOfNums ds).data.toList = some (valL 0 ds) := by
  have hr : bytesOf (strOfNums ds) = ds := bytesOf_strOfNums fun c hc => by
    have := digC_iff.1 (List.all_eq_true.1 hd c hc)
    omega
  have hm : ((strOfNums ds).data.toList.map fun b : UInt8 => (b.toNat : Int)) = ds := hr
  obtain ⟨m, h1, h2⟩ := decFrom_val (strOfNums ds).data.toList 0 (by rw [hm]; exact hd)
  rw [hm] at h2
  cases hl : (strOfNums ds).data.toList with
  | nil => rw [hl] at hm; exact absurd hm.symm hne
  | cons b r =>
    rw [hl] at hm h1
    have hb : digC (b.toNat : Int) = true := by
      rw [← hm] at hd
      rw [List.map_cons, List.all_cons, Bool.and_eq_true] at hd
      exact hd.1
    rw [digC_iff] at hb
    have n45 : (b == 45) = false := beq_eq_false_iff_ne.mpr fun e => by subst e; simp at hb
    have n43 : (b == 43) = false := beq_eq_false_iff_ne.mpr fun e => by subst e; simp at hb
    rw [Lib.atoi, if_neg (by rw [n45]; decide), if_neg (by rw [n43]; decide), Lib.decNat, if_neg (by simp), h1, Option.map_some, h2]
    rfl
theorem strconv_Atoi_dig (ds : List Int) (hd : ds.all digC = true) (hne : ds ≠ []) (hl : ds.length ≤ 18) : strconv_Atoi.f (strOfNums ds) = some (valL 0 ds, none) :=
  strconv_Atoi_short _ _ (by rw [strOfNums_size]; exact hl) (atoi_dig ds hd hne)
theorem strconv_Atoi_dec (ds : List Int) (hd : ds.all digC = true) (hl : ds.length ≤ 10) : strconv_Atoi.f ((⟨#[48]⟩ : ByteArray) ++ strOfNums ds) = some (valL 0 ds, none) := by
  have e : (⟨#[48]⟩ : ByteArray) ++ strOfNums ds = strOfNums (48 :: ds) := by
    rw [show (48 :: ds : List Int) = [48] ++ ds from rfl, strOfNums_append]
    rfl
  rw [e, strconv_Atoi_dig (48 :: ds) (by rw [List.all_cons, hd]; rfl) (by simp) (by simp; omega)]
  rfl
theorem valL_decL : ∀ (f : Nat) (n : Int) (acc : List Int), 0 ≤ n → n < 10 ^ f → valL 0 (decL f n acc) = valL n acc
  | 0, n, acc, h0, h => by
    have : n = 0 := by simp at h; omega
    subst this; rfl
  | f + 1, n, acc, h0, h => by
    rw [decL]
    split
    · rw [valL_decL f (n / 10) _ (by omega) (by rw [Int.pow_succ] at h; omega), valL]
      congr 1
      omega
    · have : n = 0 := by omega
      subst this; rfl
theorem decL_dig : ∀ (f : Nat) (n : Int) (acc : List Int), 0 ≤ n → acc.all digC = true → (decL f n acc).all digC = true
  | 0, n, acc, h0, h => h
  | f + 1, n, acc, h0, h => by
    rw [decL]
    split
    · refine decL_dig f (n / 10) _ (by omega) ?_
      rw [List.all_cons, h, Bool.and_true, digC_iff]
      omega
    · exact h
theorem decL_ne : ∀ (f : Nat) (n : Int) (acc : List Int), acc ≠ [] → decL f n acc ≠ []
  | 0, n, acc, h => h
  | f + 1, n, acc, h => by
    rw [decL]
    split
    · exact decL_ne f (n / 10) _ (by simp)
    · exact h
/-- A numeral's digits: all digits, some, they tell the number; at most nine of them where it is less than a thousand million. -/
theorem decL_facts {n : Int} (h0 : 0 < n) (h1 : n ≤ 999999999) : (decL 20 n []).all digC = true ∧ decL 20 n [] ≠ [] ∧ valL 0 (decL 20 n []) = n ∧ (decL 20 n []).length ≤ 9 := by
  have hp : (10 : Int) ^ 9 = 1000000000 := by decide
  have hp2 : (10 : Int) ^ 20 = 100000000000000000000 := by decide
  refine ⟨decL_dig 20 n [] (by omega) rfl, ?_, ?_, ?_⟩
  · rw [show (20 : Nat) = 19 + 1 from rfl, decL, if_pos (by omega)]
    exact decL_ne 19 _ _ (by simp)
  · rw [valL_decL 20 n [] (by omega) (by omega)]; rfl
  · rw [show (20 : Nat) = 9 + 11 from rfl, decL_more 11 9 n [] (by omega)]
    have := decL_length 9 n []
    simpa using this
theorem atoi_decB {n : Int} (h0 : -999999999 ≤ n) (h1 : n ≤ 999999999) : Lib.atoi (decB n).data.toList = some n := by
  unfold decB decP
  by_cases hz : n = 0
  · subst hz; rfl
  · rw [if_neg hz]
    by_cases hn : n < 0
    · rw [if_pos hn]
      obtain ⟨a1, a2, a3, a4⟩ := decL_facts (n := -n) (by omega) (by omega)
      generalize decL 20 (-n) [] = ds at a1 a2 a3 a4
      have hr : bytesOf (strOfNums ds) = ds := bytesOf_strOfNums fun c hc => by
        have := digC_iff.1 (List.all_eq_true.1 a1 c hc)
        omega
      have hm : ((strOfNums ds).data.toList.map fun b : UInt8 => (b.toNat : Int)) = ds := hr
      obtain ⟨m, h1, h2⟩ := decFrom_val (strOfNums ds).data.toList 0 (by rw [hm]; exact a1)
      rw [hm] at h2
      have e1 : (strOfNums (45 :: ds)).data.toList = 45 :: (strOfNums ds).data.toList := by
        rw [show (45 :: ds : List Int) = [45] ++ ds from rfl, strOfNums_append, ByteArray.data_append, Array.toList_append]
        rfl
      have hne : (strOfNums ds).data.toList.isEmpty = false := by
        cases hl : (strOfNums ds).data.toList with
        | nil => rw [hl] at hm; exact absurd hm.symm a2
        | cons b r => rfl
      rw [e1, Lib.atoi, if_pos (by decide), Lib.decNat, if_neg (by rw [hne]; decide), h1, Option.map_some, h2]
      congr 1
      have : ((0 : Nat) : Int) = 0 := rfl
      rw [this, a3]
      omega
    · rw [if_neg hn]
      obtain ⟨a1, a2, a3, a4⟩ := decL_facts (n := n) (by omega) (by omega)
      rw [atoi_dig _ a1 a2, a3]
theorem decB_size {n : Int} (h0 : -999999999 ≤ n) (h1 : n ≤ 999999999) : (decB n).size ≤ 10 := by
  unfold decB decP
  rw [strOfNums_size]
  by_cases hz : n = 0
  · rw [if_pos hz]; simp
  · rw [if_neg hz]
    by_cases hn : n < 0
    · rw [if_pos hn]
      have := (decL_facts (n := -n) (by omega) (by omega)).2.2.2
      simp; omega
    · rw [if_neg hn]
      have := (decL_facts (n := n) (by omega) (by omega)).2.2.2
      omega
theorem decB_inj {n m : Int} (h0 : -999999999 ≤ n) (h1 : n ≤ 999999999) (h2 : -999999999 ≤ m) (h3 : m ≤ 999999999) (h : decB n = decB m) : n = m := by
  have a := atoi_decB h0 h1
  rw [h, atoi_decB h2 h3] at a
  exact (Option.some.inj a).symm
open Classical in
/-- The number of nine digits at most whose numeral a text is. -/
noncomputable def decOf (s : ByteArray) : Option Int := if h : ∃ n, -999999999 ≤ n ∧ n ≤ 999999999 ∧ decB n = s then some h.choose else none
theorem decOf_some {s : ByteArray} {n : Int} (h0 : -999999999 ≤ n) (h1 : n ≤ 999999999) (h : decB n = s) : decOf s = some n := by
  have hx : ∃ n, -999999999 ≤ n ∧ n ≤ 999999999 ∧ decB n = s := ⟨n, h0, h1, h⟩
  unfold decOf
  rw [dif_pos hx]
  obtain ⟨a, b, c⟩ := hx.choose_spec
  exact congrArg some (decB_inj a b h0 h1 (c.trans h.symm))
theorem decOf_spec {s : ByteArray} {n : Int} (h : decOf s = some n) : -999999999 ≤ n ∧ n ≤ 999999999 ∧ decB n = s := by
  unfold decOf at h
  split at h
  · rename_i hx
    obtain rfl := Option.some.inj h
    exact hx.choose_spec
  · cases h
/-- What ReadDec tells. -/
noncomputable def readDecP (s : ByteArray) : Int × Bool := match decOf s with
  | some n => (n, true)
  | none => (0, false)

end Go.Proofs.YtjldfmkpdkhnnaaDoor.Pure

namespace Go.Proofs.YtjldfmkpdkhnnaaDoor.Pure
set_option linter.unusedVariables false
set_option linter.unusedSimpArgs false
open Go.RowKit Go.Proofs.YtjldfmkpdkhnnaaDoor.QL Go.Proofs.YtjldfmkpdkhnnaaDoorW.PrintWords Go.Proofs.YtjldfmkpdkhnnaaDoorW.PrintLast Go.Proofs.YtjldfmkpdkhnnaaDoorW.PrintMore Go.Proofs.YtjldfmkpdkhnnaaDoor.Aux Go.Proofs.YtjldfmkpdkhnnaaDoor.Dom Go.Proofs.YtjldfmkpdkhnnaaDoor.Ext
/-- What the program's number tells. -/
def numA (s : ByteArray) : Int := if (bytesOf s).all digC = true then (match Lib.atoiAll s.data.toList with
  | .ok v => v
  | .range => Lib.atoiSat s.data.toList
  | _ => 0) else -1
theorem numA_short {s : ByteArray} (h : s.size ≤ 18) : numA s = numP (bytesOf s) := by
  unfold numA numP
  by_cases ha : (bytesOf s).all digC = true
  · rw [if_pos ha, if_pos ha]
    by_cases hn : bytesOf s = []
    · have hs : s = ⟨#[]⟩ := bytesOf_inj (hn.trans rfl)
      subst hs
      rfl
    · have h1 := atoi_dig (bytesOf s) ha hn
      rw [strOfNums_bytesOf] at h1
      rw [Lib.atoiAll_short _ (by rw [← Lib.size_eq]; exact h), h1]
      rfl
  · rw [if_neg ha, if_neg ha]
theorem strconv_Atoi_num (s : ByteArray) (hs : s.size ≤ 8388608) (ha : (bytesOf s).all digC = true) : ∃ e, strconv_Atoi.f s = some (numA s, e) := by
  unfold strconv_Atoi.f numA
  rw [if_pos hs, if_pos ha]
  cases hc : Lib.atoiAll s.data.toList with
  | ok v => exact ⟨none, rfl⟩
  | range => exact ⟨some 0, rfl⟩
  | _ => exact ⟨some 0, rfl⟩
theorem impl_number_l0 (s : ByteArray) (hs : s.size ≤ 8388608) : ∀ (d : Nat) (i : Int), 0 ≤ i → (s.size : Int) - i = d → ((bytesOf s).take i.toNat).all digC = true →
    Ev (fun k => impl_number.l0 k s (s.size : Int) i) (numA s)
  | 0, i, h0, hd, ht => by
    have hl := bytesOf_length s
    have hall : (bytesOf s).all digC = true := by rw [List.take_of_length_le (by omega)] at ht; exact ht
    obtain ⟨e, he⟩ := strconv_Atoi_num s hs hall
    refine ev_last fun k => ?_
    simp only [impl_number.l0]
    rw [if_neg (by omega), he, Option.bind_some]
  | d + 1, i, h0, hd, ht => by
    have hlt : i < (s.size : Int) := by omega
    have hl := bytesOf_length s
    have hmem : bt s i ∈ bytesOf s := List.mem_of_mem_drop (i := i.toNat) (by rw [drop_bt h0 hlt]; exact List.mem_cons_self)
    by_cases h1 : digC (bt s i) = true
    · have h2 := digC_iff.1 h1
      refine Ev.step (f := fun k => impl_number.l0 k s (s.size : Int) (i + 1)) (fun k => ?_) (impl_number_l0 s hs d (i + 1) (by omega) (by omega) ?_)
      · simp only [impl_number.l0]
        rw [if_pos hlt, if_pos h0, if_pos hlt, if_neg (by omega), if_neg (by omega), wrap_id (by omega) (by omega)]
      · have e : (bytesOf s).take (i + 1).toNat = (bytesOf s).take i.toNat ++ [bt s i] := by
          have h3 := List.take_append_drop i.toNat ((bytesOf s).take (i + 1).toNat)
          rw [List.take_take, Nat.min_eq_left (by omega), List.drop_take, drop_bt h0 hlt, show (i + 1).toNat - i.toNat = 1 by omega] at h3
          rw [← h3]
          rfl
        rw [e, List.all_append, ht, List.all_cons, h1]
        rfl
    · have hn : ¬ (bytesOf s).all digC = true := fun h => h1 (List.all_eq_true.1 h _ hmem)
      unfold numA
      rw [if_neg hn]
      rw [digC_iff] at h1
      refine ev_last fun k => ?_
      simp only [impl_number.l0]
      rw [if_pos hlt, if_pos h0, if_pos hlt]
      by_cases h3 : bt s i < 48
      · rw [if_pos h3]
      · rw [if_neg h3, if_pos (by omega)]
theorem impl_number_ev (s : ByteArray) (hs : s.size ≤ 8388608) : Ev (fun k => impl_number.f k s) (numA s) :=
  impl_number_l0 s hs s.size 0 (by omega) (by omega) (by simp)

end Go.Proofs.YtjldfmkpdkhnnaaDoor.Pure

namespace Go.Proofs.YtjldfmkpdkhnnaaDoor.Pure
set_option linter.unusedVariables false
set_option linter.unusedSimpArgs false
open Go.RowKit Go.Proofs.YtjldfmkpdkhnnaaDoor.QL Go.Proofs.YtjldfmkpdkhnnaaDoorW.PrintWords Go.Proofs.YtjldfmkpdkhnnaaDoorW.PrintLast Go.Proofs.YtjldfmkpdkhnnaaDoorW.PrintMore Go.Proofs.YtjldfmkpdkhnnaaDoor.Aux Go.Proofs.YtjldfmkpdkhnnaaDoor.Dom Go.Proofs.YtjldfmkpdkhnnaaDoor.Ext
theorem slices_Index_l0 (L : List ByteArray) (w : ByteArray) (hL : L.length ≤ 1000000) : ∀ (d : Nat) (i : Int), 0 ≤ i → (L.length : Int) - i = d →
    Ev (fun k => slices_Index_string_string.l0 k L w (L.length : Int) i) (if idxT w (L.drop i.toNat) = -1 then -1 else idxT w (L.drop i.toNat) + i)
  | 0, i, h0, hd => by
    refine ev_last fun k => ?_
    simp only [slices_Index_string_string.l0]
    rw [if_neg (by omega), drop_nil (by omega)]
    rfl
  | d + 1, i, h0, hd => by
    have hlt : i < (L.length : Int) := by omega
    have hdrop : L.drop i.toNat = rdOf ByteArray.empty L i :: L.drop (i + 1).toNat := drop_rdOf (d := ByteArray.empty) h0 hlt
    rw [hdrop, idxT]
    by_cases h : w = rdOf ByteArray.empty L i
    · rw [if_pos h, if_neg (by decide)]
      refine ev_last fun k => ?_
      simp only [slices_Index_string_string.l0]
      rw [if_pos hlt, if_pos h0, if_pos hlt, if_pos (by rw [← h]), Int.zero_add]
    · rw [if_neg h]
      refine Ev.step (f := fun k => slices_Index_string_string.l0 k L w (L.length : Int) (i + 1)) (fun k => ?_) (ev_eq (slices_Index_l0 L w hL d (i + 1) (by omega) (by omega)) ?_)
      · simp only [slices_Index_string_string.l0]
        rw [if_pos hlt, if_pos h0, if_pos hlt, if_neg (by rw [toList_eq_iff]; exact h), wrap_id (by omega) (by omega)]
      · have hb := idxT_bd w (L.drop (i + 1).toNat)
        by_cases h2 : idxT w (L.drop (i + 1).toNat) = -1
        · rw [if_pos h2, if_pos h2, if_pos rfl]
        · rw [if_neg h2, if_neg h2, if_neg (by omega)]
          omega
theorem slices_Index_ev (L : List ByteArray) (w : ByteArray) (hL : L.length ≤ 1000000) : Ev (fun k => slices_Index_string_string.f k L w) (idxT w L) := by
  refine ev_eq (slices_Index_l0 L w hL L.length 0 (by omega) (by omega)) ?_
  simp only [Int.toNat_zero, List.drop_zero, Int.add_zero]
  split
  · rename_i h; exact h.symm
  · rfl

end Go.Proofs.YtjldfmkpdkhnnaaDoor.Pure

namespace Go.Proofs.YtjldfmkpdkhnnaaDoor.Pure
set_option linter.unusedVariables false
set_option linter.unusedSimpArgs false
open Go.RowKit Go.Proofs.YtjldfmkpdkhnnaaDoor.QL Go.Proofs.YtjldfmkpdkhnnaaDoorW.PrintWords Go.Proofs.YtjldfmkpdkhnnaaDoorW.PrintLast Go.Proofs.YtjldfmkpdkhnnaaDoorW.PrintMore Go.Proofs.YtjldfmkpdkhnnaaDoor.Aux Go.Proofs.YtjldfmkpdkhnnaaDoor.Dom Go.Proofs.YtjldfmkpdkhnnaaDoor.Ext
theorem size_29 {s : ByteArray} {a b : Nat} : bytesOf (s.extract a b) = ((bytesOf s).take b).drop a := bytesOf_extract s a b
theorem impl_ReadDate_ev (s : ByteArray) (hs : s.size ≤ 8388608) : Ev (fun k => impl_ReadDate.f k s) (readDateP s) := by
  have hsp : strings_Split.f s (⟨#[32]⟩ : ByteArray) = some ((splC 32 (bytesOf s)).map strOfNums) := by unfold strings_Split.f; rw [if_pos ⟨hs, rfl⟩]
  have hbad : ∀ L, Ev (fun k => impl_ReadDate.j0 k s L true) ((0 : Int), false) := fun L => ev_last fun k => by simp only [impl_ReadDate.j0]; rw [if_pos (by trivial)]
  -- what a date's parts are
  have hok : ∀ sec, s.size = 29 → dateB sec = s → 0 ≤ sec ∧ sec ≤ 2000000000 ∧ splC 32 (bytesOf s) = [weekL (sec / 86400 % 7) ++ [44], twoL (ymd (sec / 86400)).2.2, monL (ymd (sec / 86400)).2.1, decP (ymd (sec / 86400)).1, twoL (sec / 3600 % 24) ++ [58] ++ twoL (sec / 60 % 60) ++ [58] ++ twoL (sec % 60), [71, 77, 84]] := by
    intro sec h1 h2
    obtain ⟨a, b, c, _⟩ := dateB_some h1 h2
    exact ⟨a, b, by rw [c]; exact splC_date a b⟩
  refine Ev.congr (fun k => by unfold impl_ReadDate.f; rw [hsp, Option.bind_some]) ?_
  generalize hP : (splC 32 (bytesOf s)).map strOfNums = L
  have hPl : ∀ p ∈ L, p.size ≤ s.size := by
    intro p hp
    rw [← hP] at hp
    obtain ⟨q, hq, rfl⟩ := List.mem_map.1 hp
    rw [strOfNums_size]
    have := splC_mem (bytesOf s) 32 q hq
    rw [bytesOf_length] at this
    exact this
  by_cases h6 : (L.length : Int) = 6
  · refine ev_if_pos h6 ?_
    by_cases h29 : (s.size : Int) = 29
    · refine ev_if_pos h29 (ev_if_pos (by omega) ?_)
      by_cases h8 : ((rdOf ByteArray.empty L 4).size : Int) = 8
      · refine ev_if_pos h8 (ev_if_pos (by omega) ?_)
        by_cases h4 : ((rdOf ByteArray.empty L 3).size : Int) = 4
        · have hin : ∀ i : Int, 0 ≤ i → i < 6 → (rdOf ByteArray.empty L i).size ≤ s.size := by
            intro i i0 i1
            refine hPl _ (List.mem_of_mem_drop (i := i.toNat) ?_)
            rw [drop_rdOf (d := ByteArray.empty) i0 (by omega)]
            exact List.mem_cons_self
          have hc : (rdOf ByteArray.empty L 4).size = 8 := by omega
          have x1 : ((rdOf ByteArray.empty L 4).extract 0 2).size = 2 := by rw [ByteArray.size_extract]; omega
          have x2 : ((rdOf ByteArray.empty L 4).extract 3 5).size = 2 := by rw [ByteArray.size_extract]; omega
          have x3 : ((rdOf ByteArray.empty L 4).extract 6 (rdOf ByteArray.empty L 4).size).size = 2 := by rw [ByteArray.size_extract]; omega
          have n3 := impl_number_ev (rdOf ByteArray.empty L 3) (by omega)
          have n1 := impl_number_ev (rdOf ByteArray.empty L 1) (by have := hin 1 (by omega) (by omega); omega)
          have c1 := impl_number_ev ((rdOf ByteArray.empty L 4).extract 0 2) (by omega)
          have c2 := impl_number_ev ((rdOf ByteArray.empty L 4).extract 3 5) (by omega)
          have c3 := impl_number_ev ((rdOf ByteArray.empty L 4).extract 6 (rdOf ByteArray.empty L 4).size) (by omega)
          rw [numA_short (s := (rdOf ByteArray.empty L 4).extract 0 2) (by omega)] at c1
          rw [numA_short (s := (rdOf ByteArray.empty L 4).extract 3 5) (by omega)] at c2
          rw [numA_short (s := (rdOf ByteArray.empty L 4).extract 6 (rdOf ByteArray.empty L 4).size) (by omega)] at c3
          rw [numA_short (s := rdOf ByteArray.empty L 3) (by omega)] at n3
          have e2 : (10 : Int) ^ 2 = 100 := by decide
          have b1 := numP_bd (bytesOf ((rdOf ByteArray.empty L 4).extract 0 2)) 2 (by rw [bytesOf_length]; omega)
          have b2 := numP_bd (bytesOf ((rdOf ByteArray.empty L 4).extract 3 5)) 2 (by rw [bytesOf_length]; omega)
          have b3 := numP_bd (bytesOf ((rdOf ByteArray.empty L 4).extract 6 (rdOf ByteArray.empty L 4).size)) 2 (by rw [bytesOf_length]; omega)
          have ix := slices_Index_ev monthsB (rdOf ByteArray.empty L 2) (by decide)
          have ib := idxT_bd (rdOf ByteArray.empty L 2) monthsB
          have ibl : (monthsB.length : Int) = 12 := rfl
          have hmo : impl_months.f = some monthsB := rfl
          have key : ∀ sec, dateB sec = s → sec = daysP (numP (bytesOf (rdOf ByteArray.empty L 3))) (idxT (rdOf ByteArray.empty L 2) monthsB + 1) (numA (rdOf ByteArray.empty L 1)) * 86400 + 3600 * numP (bytesOf ((rdOf ByteArray.empty L 4).extract 0 2)) + 60 * numP (bytesOf ((rdOf ByteArray.empty L 4).extract 3 5)) + numP (bytesOf ((rdOf ByteArray.empty L 4).extract 6 (rdOf ByteArray.empty L 4).size)) ∧ 0 ≤ daysP (numP (bytesOf (rdOf ByteArray.empty L 3))) (idxT (rdOf ByteArray.empty L 2) monthsB + 1) (numA (rdOf ByteArray.empty L 1)) := by
            intro sec e
            obtain ⟨q0, q1, q2⟩ := hok sec (by omega) e
            obtain ⟨a1, a2, a3, a4, a5, a6, _⟩ := ymd_spec (days := sec / 86400) (by omega) (by omega)
            have hmb := monthD_bd (ymd (sec / 86400)).1 (ymd (sec / 86400)).2.1
            rw [q2] at hP
            subst hP
            have rT : ∀ n : Int, 0 ≤ n → n ≤ 99 → bytesOf (strOfNums (twoL n)) = twoL n := fun n h0 h1 => bytesOf_strOfNums (fun c hc => by simp [twoL] at hc; omega)
            have rY : bytesOf (strOfNums (decP (ymd (sec / 86400)).1)) = decP (ymd (sec / 86400)).1 := bytesOf_strOfNums (fun c hc => by rw [decP_year (by omega) (by omega)] at hc; simp at hc; omega)
            have rC : bytesOf (strOfNums (twoL (sec / 3600 % 24) ++ [58] ++ twoL (sec / 60 % 60) ++ [58] ++ twoL (sec % 60))) = twoL (sec / 3600 % 24) ++ [58] ++ twoL (sec / 60 % 60) ++ [58] ++ twoL (sec % 60) := bytesOf_strOfNums (fun c hc => by simp [twoL] at hc; omega)
            have sC : (strOfNums (twoL (sec / 3600 % 24) ++ [58] ++ twoL (sec / 60 % 60) ++ [58] ++ twoL (sec % 60))).size = 8 := by rw [strOfNums_size]; rfl
            show sec = daysP (numP (bytesOf (strOfNums (decP (ymd (sec / 86400)).1)))) (idxT (strOfNums (monL (ymd (sec / 86400)).2.1)) monthsB + 1) (numA (strOfNums (twoL (ymd (sec / 86400)).2.2))) * 86400 + 3600 * numP (bytesOf ((strOfNums (twoL (sec / 3600 % 24) ++ [58] ++ twoL (sec / 60 % 60) ++ [58] ++ twoL (sec % 60))).extract 0 2)) + 60 * numP (bytesOf ((strOfNums (twoL (sec / 3600 % 24) ++ [58] ++ twoL (sec / 60 % 60) ++ [58] ++ twoL (sec % 60))).extract 3 5)) + numP (bytesOf ((strOfNums (twoL (sec / 3600 % 24) ++ [58] ++ twoL (sec / 60 % 60) ++ [58] ++ twoL (sec % 60))).extract 6 (strOfNums (twoL (sec / 3600 % 24) ++ [58] ++ twoL (sec / 60 % 60) ++ [58] ++ twoL (sec % 60))).size)) ∧ 0 ≤ daysP (numP (bytesOf (strOfNums (decP (ymd (sec / 86400)).1)))) (idxT (strOfNums (monL (ymd (sec / 86400)).2.1)) monthsB + 1) (numA (strOfNums (twoL (ymd (sec / 86400)).2.2)))
            rw [sC, bytesOf_extract, bytesOf_extract, bytesOf_extract, rC, rY, idxT_month a3 a4, numA_short (s := strOfNums (twoL (ymd (sec / 86400)).2.2)) (by rw [strOfNums_size]; show 2 ≤ 18; omega), rT _ (by omega) (by omega), numP_year (by omega) (by omega), numP_two (n := (ymd (sec / 86400)).2.2) (by omega) (by omega), show (ymd (sec / 86400)).2.1 - 1 + 1 = (ymd (sec / 86400)).2.1 by omega, daysP_ymd (by omega) (by omega)]
            have p1 : numP (((twoL (sec / 3600 % 24) ++ [58] ++ twoL (sec / 60 % 60) ++ [58] ++ twoL (sec % 60)).take 2).drop 0) = sec / 3600 % 24 := numP_two (by omega) (by omega)
            have p2 : numP (((twoL (sec / 3600 % 24) ++ [58] ++ twoL (sec / 60 % 60) ++ [58] ++ twoL (sec % 60)).take 5).drop 3) = sec / 60 % 60 := numP_two (by omega) (by omega)
            have p3 : numP (((twoL (sec / 3600 % 24) ++ [58] ++ twoL (sec / 60 % 60) ++ [58] ++ twoL (sec % 60)).take 8).drop 6) = sec % 60 := numP_two (by omega) (by omega)
            rw [p1, p2, p3]
            omega
          have db := daysP_bd (numP (bytesOf (rdOf ByteArray.empty L 3))) (idxT (rdOf ByteArray.empty L 2) monthsB + 1) (numA (rdOf ByteArray.empty L 1))
          refine Ev.congr (fun k => by rw [show (((rdOf ByteArray.empty L 3).size : Int) != 4) = false from bne_eq_false_iff_eq.2 h4]) ?_
          refine Ev.step (fun k => by simp only [impl_ReadDate.j0]; rw [if_neg (by decide), if_pos (by omega), if_pos (by omega), hmo]) ?_
          refine ev_bind n3 (Ev.congr (fun k => by rw [Option.bind_some, if_pos (by omega)]) (ev_bind ix ?_))
          refine ev_if_pos (show (1 : Int) < (L.length : Int) by omega) (ev_bind n1 ?_)
          refine Ev.congr (fun k => by rw [wrap_id (x := idxT (rdOf ByteArray.empty L 2) monthsB + 1) (by omega) (by omega)]) (ev_bind (impl_DaysOf_ev _ _ _) ?_)
          generalize daysP (numP (bytesOf (rdOf ByteArray.empty L 3))) (idxT (rdOf ByteArray.empty L 2) monthsB + 1) (numA (rdOf ByteArray.empty L 1)) = days at key db
          by_cases hd : days < 0
          · rw [readDateP_none (fun sec _ e => by have := (key sec e).2; omega)]
            exact ev_if_pos hd (Ev.now _)
          · refine ev_if_neg hd ?_
            refine ev_if_pos (show (0 : Nat) ≤ 2 by decide) ?_
            refine ev_if_pos (show (2 : Int) ≤ ((rdOf ByteArray.empty L 4).size : Int) by omega) (ev_bind c1 ?_)
            refine ev_if_pos (show (3 : Nat) ≤ 5 by decide) ?_
            refine ev_if_pos (show (5 : Int) ≤ ((rdOf ByteArray.empty L 4).size : Int) by omega) (ev_bind c2 ?_)
            refine ev_if_pos (show (6 : Int) ≤ ((rdOf ByteArray.empty L 4).size : Int) by omega) (ev_bind c3 ?_)
            generalize numP (bytesOf ((rdOf ByteArray.empty L 4).extract 0 2)) = v1 at key b1
            generalize numP (bytesOf ((rdOf ByteArray.empty L 4).extract 3 5)) = v2 at key b2
            generalize numP (bytesOf ((rdOf ByteArray.empty L 4).extract 6 (rdOf ByteArray.empty L 4).size)) = v3 at key b3
            refine Ev.congr (fun k => by rw [wrap_id (x := days * 86400) (by omega) (by omega), wrap_id (x := 3600 * v1) (by omega) (by omega), wrap_id (x := days * 86400 + 3600 * v1) (by omega) (by omega), wrap_id (x := 60 * v2) (by omega) (by omega), wrap_id (x := days * 86400 + 3600 * v1 + 60 * v2) (by omega) (by omega), wrap_id (x := days * 86400 + 3600 * v1 + 60 * v2 + v3) (by omega) (by omega)]) (ev_bind (impl_ShowDate_ev (days * 86400 + 3600 * v1 + 60 * v2 + v3) (by omega) (by omega)) ?_)
            by_cases he : dateB (days * 86400 + 3600 * v1 + 60 * v2 + v3) = s
            · exact ev_if_pos (by rw [he]) (ev_eq (Ev.now _) (readDateP_some (by omega) he).symm)
            · rw [readDateP_none (fun sec _ e => he (by rw [← (key sec e).1]; exact e))]
              exact ev_if_neg (by rw [toList_eq_iff]; exact he) (Ev.now _)
        · rw [readDateP_none (fun sec e1 e2 => by
            obtain ⟨a, b, c⟩ := hok sec e1 e2
            rw [c] at hP
            subst hP
            exact h4 (by
              obtain ⟨a1, a2, _⟩ := ymd_spec (days := sec / 86400) (by omega) (by omega)
              show ((strOfNums (decP _)).size : Int) = 4
              rw [decP_year (by omega) (by omega), strOfNums_size]
              rfl))]
          refine Ev.congr (fun k => by rw [show (((rdOf ByteArray.empty L 3).size : Int) != 4) = true from bne_iff_ne.2 h4]) (hbad L)
      · rw [readDateP_none (fun sec e1 e2 => by
          obtain ⟨a, b, c⟩ := hok sec e1 e2
          rw [c] at hP
          subst hP
          exact h8 (by
            show ((strOfNums (twoL _ ++ [58] ++ twoL _ ++ [58] ++ twoL _)).size : Int) = 8
            rw [strOfNums_size]
            rfl))]
        exact ev_if_neg h8 (hbad L)
    · rw [readDateP_none (fun sec e1 e2 => h29 (by omega))]
      exact ev_if_neg h29 (hbad L)
  · rw [readDateP_none (fun sec e1 e2 => by
      obtain ⟨a, b, c⟩ := hok sec e1 e2
      rw [c] at hP
      subst hP
      exact h6 rfl)]
    exact ev_if_neg h6 (hbad L)

end Go.Proofs.YtjldfmkpdkhnnaaDoor.Pure

namespace Go.Proofs.YtjldfmkpdkhnnaaDoor.Pure
set_option linter.unusedVariables false
set_option linter.unusedSimpArgs false
open Go.RowKit Go.Proofs.YtjldfmkpdkhnnaaDoor.QL Go.Proofs.YtjldfmkpdkhnnaaDoorW.PrintWords Go.Proofs.YtjldfmkpdkhnnaaDoorW.PrintLast Go.Proofs.YtjldfmkpdkhnnaaDoorW.PrintMore Go.Proofs.YtjldfmkpdkhnnaaDoor.Aux Go.Proofs.YtjldfmkpdkhnnaaDoor.Dom Go.Proofs.YtjldfmkpdkhnnaaDoor.Ext

theorem days_next {y m d : Int} (h1 : 0 ≤ daysP y m d) (h2 : 0 ≤ daysP y m (d + 1)) : daysP y m (d + 1) = daysP y m d + 1 := by
  unfold daysP at h1 h2 ⊢
  split at h1
  · split at h2
    · rename_i a b
      rw [if_pos a, if_pos b]
      omega
    · omega
  · omega
theorem days_month {y m d : Int} (h1 : 0 ≤ daysP y m d) (h2 : daysP y m (d + 1) < 0) (hm : m < 12) : daysP y (m + 1) 1 = daysP y m d + 1 := by
  have y0 := yearsD_bd (y - 1970).toNat 1970
  unfold daysP at h1
  split at h1
  · rename_i a
    have hd : d = monthD y m := by
      by_cases hd : d + 1 ≤ monthD y m
      · have m0 := (monthsD_bd y (m - 1).toNat 1).1
        unfold daysP at h2
        rw [if_pos ⟨a.1, a.2.1, by omega, hd⟩] at h2
        omega
      · omega
    have b1 := monthD_bd y (m + 1)
    unfold daysP
    rw [if_pos a, if_pos ⟨a.1, ⟨by omega, by omega⟩, by omega, by omega⟩, show (m + 1 - 1).toNat = (m - 1).toNat + 1 by omega, monthsD_succ, show 1 + (((m - 1).toNat : Nat) : Int) = m by omega]
    omega
  · omega
theorem days_year {y d : Int} (h1 : 0 ≤ daysP y 12 d) (h2 : daysP y 12 (d + 1) < 0) (hy : y < 2037) : daysP (y + 1) 1 1 = daysP y 12 d + 1 := by
  have y0 := yearsD_bd (y - 1970).toNat 1970
  unfold daysP at h1
  split at h1
  · rename_i a
    have hd : d = monthD y 12 := by
      by_cases hd : d + 1 ≤ monthD y 12
      · have m0 := (monthsD_bd y (12 - 1 : Int).toNat 1).1
        unfold daysP at h2
        rw [if_pos ⟨a.1, a.2.1, by omega, hd⟩] at h2
        omega
      · omega
    have b1 := monthD_bd (y + 1) 1
    have e1 := yearW_eq y
    unfold yearW at e1
    have e2 := monthsD_succ y 11 1
    have e3 := yearsD_succ (y - 1970).toNat 1970
    rw [show 1970 + (((y - 1970).toNat : Nat) : Int) = y by omega] at e3
    unfold daysP
    rw [if_pos a, if_pos ⟨⟨by omega, by omega⟩, ⟨by omega, by omega⟩, by omega, by omega⟩, show (y + 1 - 1970).toNat = (y - 1970).toNat + 1 by omega, e3, show ((12 : Int) - 1).toNat = 11 from rfl, show ((1 : Int) - 1).toNat = 0 from rfl]
    have e4 : (1 : Int) + ((11 : Nat) : Int) = 12 := by omega
    have e5 : monthsD y (11 + 1) 1 = yearD y := e1
    have e6 : monthsD (y + 1) 0 1 = 0 := rfl
    rw [e4] at e2
    rw [e6]
    omega
  · omega
theorem FnDates : laws_FnDates.Pure := by
  intro b hl hl2 hw
  refine Ev.rounds (Ev.congr (fun k => by unfold laws_FnDates.f laws_big.f; rw [Option.bind_some]) ?_)
  by_cases hb : (b.length : Int) > 1048576
  · exact ev_if_pos (decide_eq_true hb) (Ev.now _)
  refine ev_if_neg (by rw [decide_eq_true_eq]; exact hb) ?_
  have hb' : b.length ≤ 1048576 := by omega
  -- what is read is shown
  have tail : ∀ t : ByteArray, t.size ≤ 1000 → Ev (fun k => (impl_ReadDate.f k t).bind fun q => if q.2 = true then (impl_ShowDate.f k q.1).bind fun u => some (u.toList == t.toList) else some true) true := by
    intro t ht
    refine ev_bind (impl_ReadDate_ev t (by omega)) ?_
    unfold readDateP
    by_cases hc : t.size = 29 ∧ dateB (readL (bytesOf t)) = t
    · obtain ⟨a, c, _⟩ := dateB_some hc.1 hc.2
      rw [if_pos hc]
      refine ev_if_pos rfl (ev_bind (impl_ShowDate_ev (readL (bytesOf t)) (by omega) (by omega)) (ev_eq (Ev.now _) ?_))
      rw [hc.2]
      simp
    · rw [if_neg hc]
      exact ev_if_neg (by decide) (Ev.now _)
  obtain ⟨t, et, ht⟩ := spec_DrawReadDate_ev b hb'
  have hj4 : Ev (fun k => laws_FnDates.j4 k b false) true :=
    Ev.step (f := fun k => (spec_DrawReadDate.f k b).bind fun t => (impl_ReadDate.f k t).bind fun q => if q.2 = true then (impl_ShowDate.f k q.1).bind fun u => some (u.toList == t.toList) else some true) (fun k => by simp only [laws_FnDates.j4]; rw [if_neg (by decide)]) (ev_bind et (tail t ht))
  have hj2 : ∀ y m a, Ev (fun k => laws_FnDates.j2 k b y m a false) true := fun y m a =>
    Ev.step (f := fun k => (spec_DrawReadDate.f k b).bind fun t => (impl_ReadDate.f k t).bind fun q => if q.2 = true then (impl_ShowDate.f k q.1).bind fun u => some (u.toList == t.toList) else some true) (fun k => by simp only [laws_FnDates.j2]; rw [if_neg (by decide)]) (ev_bind et (tail t ht))
  obtain ⟨y, m, d, ed, y0, y1, m0, m1, d0, d1⟩ := spec_DrawDaysOf_ev b hb'
  have hw1 : wrap64 (d + 1) = d + 1 := wrap_id (by omega) (by omega)
  have hw2 : wrap64 (m + 1) = m + 1 := wrap_id (by omega) (by omega)
  have hw3 : wrap64 (y + 1) = y + 1 := wrap_id (by omega) (by omega)
  have hbd : daysP y m d ≤ 30000 := by
    unfold daysP
    split
    · rename_i a
      have a1 := yearsD_bd (y - 1970).toNat 1970
      have a2 := (monthsD_bd y (m - 1).toNat 1).2
      have a3 := monthD_bd y m
      omega
    · omega
  have hw4 : 0 ≤ daysP y m d → wrap64 (daysP y m d + 1) = daysP y m d + 1 := fun _ => wrap_id (by omega) (by omega)
  have hj3 : ∀ x, (x = daysP y m d + 1 ∨ ¬ y < 2037) → 0 ≤ daysP y m d → Ev (fun k => laws_FnDates.j3 k b y (daysP y m d) x) true := by
    intro x hx ha
    by_cases hc : x = daysP y m d + 1
    · exact Ev.step (f := fun k => laws_FnDates.j4 k b false) (fun k => by simp only [laws_FnDates.j3]; rw [hw4 ha, if_pos hc]) hj4
    · exact Ev.step (f := fun k => laws_FnDates.j4 k b false) (fun k => by simp only [laws_FnDates.j3]; rw [hw4 ha, if_neg hc, decide_eq_false (by omega)]) hj4
  have hj0 : Ev (fun k => laws_FnDates.j0 k b false) true := by
    refine Ev.step (f := fun k => (spec_DrawDaysOf.f k b).bind fun bt106 => ((impl_DaysOf.f k bt106.1 bt106.2.1 bt106.2.2).bind fun t109 => ((impl_DaysOf.f k bt106.1 bt106.2.1 (wrap64 (bt106.2.2 + 1))).bind fun t110 => (if t109 ≥ 0 then (if t110 ≥ 0 then (laws_FnDates.j1 k b bt106.1 bt106.2.1 t109 t110 (t110 != (wrap64 (t109 + 1)))) else (laws_FnDates.j1 k b bt106.1 bt106.2.1 t109 t110 false)) else (laws_FnDates.j1 k b bt106.1 bt106.2.1 t109 t110 false))))) (fun k => by simp only [laws_FnDates.j0]; rw [if_neg (by decide)]) ?_
    have ea2 := impl_DaysOf_ev y m (d + 1)
    rw [← hw1] at ea2
    refine ev_bind ed (ev_bind (impl_DaysOf_ev y m d) (ev_bind ea2 ?_))
    rw [hw1]
    have hj1 : ∀ a c, (0 ≤ a → ¬ c < 0) → Ev (fun k => laws_FnDates.j1 k b y m a c false) true := by
      intro a c hc
      refine Ev.step (f := fun k => if a ≥ 0 then laws_FnDates.j2 k b y m a (decide (c < 0)) else laws_FnDates.j2 k b y m a false) (fun k => by simp only [laws_FnDates.j1]; rw [if_neg (by decide)]) ?_
      by_cases ha : a ≥ 0
      · refine ev_if_pos ha ?_
        rw [decide_eq_false (hc ha)]
        exact hj2 y m a
      · exact ev_if_neg ha (hj2 y m a)
    by_cases ha : daysP y m d ≥ 0
    · refine ev_if_pos ha ?_
      by_cases hc : daysP y m (d + 1) ≥ 0
      · refine ev_if_pos hc ?_
        have e : (daysP y m (d + 1) != wrap64 (daysP y m d + 1)) = false := by rw [hw4 ha, days_next ha hc]; exact bne_self_eq_false _
        simp only [e]
        exact hj1 _ _ (fun _ => by omega)
      · refine ev_if_neg hc ?_
        have hc' : daysP y m (d + 1) < 0 := by omega
        refine Ev.step (f := fun k => laws_FnDates.j2 k b y m (daysP y m d) true) (fun k => by simp only [laws_FnDates.j1]; rw [if_neg (by decide), if_pos ha, decide_eq_true hc']) ?_
        refine Ev.step (f := fun k => (impl_DaysOf.f k y (m + 1) 1).bind fun t111 => (if m = 12 then ((impl_DaysOf.f k (y + 1) 1 1).bind fun t112 => (laws_FnDates.j3 k b y (daysP y m d) t112)) else (laws_FnDates.j3 k b y (daysP y m d) t111))) (fun k => by simp only [laws_FnDates.j2]; rw [if_pos trivial, hw2, hw3]) ?_
        refine ev_bind (impl_DaysOf_ev y (m + 1) 1) ?_
        by_cases h12 : m = 12
        · subst h12
          refine ev_if_pos rfl (ev_bind (impl_DaysOf_ev (y + 1) 1 1) (hj3 _ ?_ ha))
          by_cases hy : y < 2037
          · exact Or.inl (days_year ha hc' hy)
          · exact Or.inr hy
        · refine ev_if_neg h12 (hj3 _ (Or.inl (days_month ha hc' ?_)) ha)
          unfold daysP at ha
          split at ha <;> omega
    · exact ev_if_neg ha (hj1 _ _ (fun h => absurd h ha))
  obtain ⟨n, en, n0, n1⟩ := spec_DrawShowDate_ev b hb'
  have hsz := dateB_size n
  refine ev_bind en (ev_bind (impl_ShowDate_ev n n0 n1) (ev_bind (impl_ReadDate_ev (dateB n) (by omega)) ?_))
  by_cases hn : 0 ≤ n ∧ n ≤ 2000000000
  · have hd : dateB n = strOfNums (dateL n) := by unfold dateB; rw [if_pos hn]
    have h29 : (dateB n).size = 29 := by rw [hd, strOfNums_size, dateL_length hn.1 hn.2]
    have hr : readDateP (dateB n) = (n, true) := readDateP_some h29 rfl
    have hne : ¬ (dateB n).toList = ([] : List UInt8) := by
      intro h
      rw [(trim_nil _).1 h] at h29
      exact absurd h29 (by decide)
    have hne2 : ((dateB n).toList != ([] : List UInt8)) = true := by rw [bne_iff_ne]; exact hne
    have h29' : (((dateB n).size : Int) != 29) = false := by rw [h29]; rfl
    rw [hr]
    simp only [hne2, h29']
    exact ev_if_pos hn.1 (ev_if_neg (by rw [decide_eq_true hn.2]; decide) (ev_if_neg (by decide) (ev_if_pos (by trivial) (ev_if_pos (by trivial) (ev_if_neg hne hj0)))))
  · have hd : dateB n = ⟨#[]⟩ := by unfold dateB; rw [if_neg hn]
    have he : (dateB n).toList = ([] : List UInt8) := (trim_nil _).2 hd
    have he2 : ((dateB n).toList != ([] : List UInt8)) = false := by rw [he]; rfl
    have hr : readDateP (dateB n) = (0, false) := by
      unfold readDateP
      rw [if_neg]
      rw [hd]
      exact fun h => absurd h.1 (by decide)
    rw [hr]
    simp only [he2]
    by_cases h0 : n ≥ 0
    · exact ev_if_pos h0 (ev_if_neg (by rw [decide_eq_false (by omega)]; decide) (ev_if_neg (by decide) (ev_if_neg (by decide) (ev_if_pos he hj0))))
    · exact ev_if_neg h0 (ev_if_neg (by decide) (ev_if_neg (by decide) (ev_if_neg (by decide) (ev_if_pos he hj0))))

end Go.Proofs.YtjldfmkpdkhnnaaDoor.Pure
