/- What is set is there once, what is dropped is not, all else stays in order, and fields are read from their text: for all codes that are drawn from (codes of more than 2^20 bytes are let by). -/
import Derived.Test.YtjldfmkpdkhnnaaDoorProg
import Derived.Below
import Derived.Deep.Draws
import Derived.Deep.AppendLies
import Derived.Maps.AppendAt
import Derived.OwnWalk
import Derived.Laws.BytesArg
import Derived.Laws.MakeOwn
import Derived.Laws.OwnMore
import Derived.Deep.OwnRows
import Derived.Tactics
import Derived.Lib.ConvBytes
import Derived.Laws.Slices
import Derived.WalkKit
import Derived.KernelRfl
import Derived.RowKit3
import Derived.Deep.LoopGhost
import Derived.Deep.QuietTactic
import Derived.BigQuiet
import Derived.WideLaws
import Derived.Deep.DeepCutAuto
import Derived.Deep.CutBlock
import Derived.Deep.RegionHeld3
import Derived.Laws.Rows
import Derived.Lib.AppendStr
import Derived.ArgAppend
import Derived.Laws.IdiomCopy
import Derived.OrdersHeld
import Derived.Laws.BitsLemmas
import Derived.RowKit
import Derived.Test.YtjldfmkpdkhnnaaDoorCFnFieldsc
set_option linter.unusedVariables false
set_option linter.unusedSimpArgs false
namespace Go.Proofs.YtjldfmkpdkhnnaaDoor.Ext
open Go.RowKit Go.Proofs.YtjldfmkpdkhnnaaDoorW.PrintWords Go.Proofs.YtjldfmkpdkhnnaaDoorW.PrintLast Go.Proofs.YtjldfmkpdkhnnaaDoorW.PrintMore Go.Proofs.YtjldfmkpdkhnnaaDoor.Aux Go.Proofs.YtjldfmkpdkhnnaaDoor.Dom Go.Proofs.YtjldfmkpdkhnnaaDoor.Glob
attribute [local go_sem] max2_int min2_int max_two min_two max_three min_three max_four min_four
def spec_Lower.f (a0 : ByteArray) : Option ByteArray := if a0.size ≤ 8388608 then some (strOfNums ((bytesOf a0).map lowC)) else none
set_option maxHeartbeats 4000000 in
set_option maxRecDepth 100000 in
theorem spec_Lower.calls (a0 : ByteArray) (r : ByteArray) (w : World) (h : spec_Lower.f a0 = some r) :
    Calls Tryd.prog 96 #[.string a0] w fun e w' => e = .returned (.string r) ∧ Below w.heap.size w w' := by
  have hs : a0.size ≤ 8388608 := by
    unfold spec_Lower.f at h
    split at h
    · assumption
    · cases h
  have hr : strOfNums ((bytesOf a0).map lowC) = r := by
    unfold spec_Lower.f at h
    rw [if_pos hs] at h
    exact Option.some.inj h
  clear h
  have kb := fun W => print_bytes (P := Tryd.prog) 9 30 5 Tryd.underlying9 Tryd.underlying30 Tryd.underlying5 a0 W
  generalize grownCap w a0.size 0 5 = cp at kb
  have hbelow : Below w.heap.size w (Lib.bytesWorld w 5 a0) := bytes_below (Below.refl _ _) (Nat.le_refl _) _ _
  have hcell0 : ∀ j : Nat, j < a0.size → (Lib.bytesWorld w 5 a0).cell? ⟨w.heap.size, j, none⟩ = some (.int .u8 (lowAt a0 0 j)) ∧ (Lib.bytesWorld w 5 a0).frozen? ⟨w.heap.size, j, none⟩ = false := by
    intro j hj
    refine ⟨?_, bytes_frozen w _ a0 j hj⟩
    rw [Lib.bytesWorld_cell w _ a0 j hj]
    simp only [lowAt, Nat.not_lt_zero, if_false]
    rw [bt_get a0 j (by rw [bytesOf_length]; exact hj)]
    simp [bytesOf, List.getD_eq_getElem?_getD, hj]
  go_enter Tryd.func96, Tryd.ntmps96
  go_wp2
  generalize grownCap w a0.size 0 5 = cp at kb ⊢
  clear kb
  go_loopw [4] (fun v10 wr => ∃ k : Nat, k ≤ a0.size ∧ v10 = .int .i64 k ∧ (∀ j : Nat, j < a0.size → wr.cell? ⟨w.heap.size, j, none⟩ = some (.int .u8 (lowAt a0 k j)) ∧ wr.frozen? ⟨w.heap.size, j, none⟩ = false) ∧ Below w.heap.size w wr ∧ w.heap.size < wr.heap.size) (fun v10 _ => a0.size - (intOf v10).toNat)
  case atStart => exact ⟨0, Nat.zero_le _, rfl, hcell0, hbelow, by rw [Lib.bytesWorld_size]; omega⟩
  case round =>
    obtain ⟨k, hk, rfl, hc, hb, hsz⟩ := hrel
    by_cases hlt : k < a0.size
    · obtain ⟨hck, hfk⟩ := hc k hlt
      have hHc := Aside0.mk hc
      have hHb := Aside0.mk hb
      clear hc hb hcell0 hbelow
      have hbd := bt_bound a0 k
      have hck' : wr.cell? ⟨w.heap.size, k, none⟩ = some (.int .u8 (bt a0 k)) := by rw [hck]; simp [lowAt]
      clear hck
      generalize hbt : bt a0 (k : Int) = c at hck' hbd
      by_cases h1 : 65 ≤ c
      · by_cases h2 : c ≤ 90
        · have d1 : decide (65 ≤ c) = true := decide_eq_true h1
          have d2 : decide (c ≤ 90) = true := decide_eq_true h2
          go_wp2
          go_roundw
          case measure => simp [intOf]; omega
          case rel => exact ⟨k + 1, hlt, rfl, row_step hHc.out hlt (by rw [lowAt, if_pos (by omega), hbt, lowC, if_pos ⟨h1, h2⟩]) (fun j hj => by simp only [lowAt]; by_cases hjk : j < k; rw [if_pos (by omega), if_pos hjk]; rw [if_neg (by omega), if_neg hjk]), hHb.out.setCell (Nat.le_refl _) _, by simpa [World.setCell] using hsz⟩
        · have d1 : decide (65 ≤ c) = true := decide_eq_true h1
          have d2 : decide (c ≤ 90) = false := decide_eq_false h2
          go_wp2
          go_roundw
          case measure => simp [intOf]; omega
          case rel => exact ⟨k + 1, hlt, rfl, fun j hj => by rw [show lowAt a0 (k + 1) j = lowAt a0 k j from by simp only [lowAt]; by_cases hjk : j < k; rw [if_pos (by omega), if_pos hjk]; by_cases hje : j = k; subst hje; rw [if_pos (by omega), if_neg hjk, hbt, lowC, if_neg (fun hh => h2 hh.2)]; rw [if_neg (by omega), if_neg hjk]]; exact hHc.out j hj, hHb.out, hsz⟩
      · have d1 : decide (65 ≤ c) = false := decide_eq_false h1
        go_wp2
        go_roundw
        case measure => simp [intOf]; omega
        case rel => exact ⟨k + 1, hlt, rfl, fun j hj => by rw [show lowAt a0 (k + 1) j = lowAt a0 k j from by simp only [lowAt]; by_cases hjk : j < k; rw [if_pos (by omega), if_pos hjk]; by_cases hje : j = k; subst hje; rw [if_pos (by omega), if_neg hjk, hbt, lowC, if_neg (fun hh => h1 hh.1)]; rw [if_neg (by omega), if_neg hjk]]; exact hHc.out j hj, hHb.out, hsz⟩
    · obtain rfl : k = a0.size := by omega
      have kc : (convert 30 9 (.slice (some ⟨w.heap.size, 0, none⟩) a0.size cp)).run Tryd.prog wr = .ok (.string r) wr := by
        rw [← hr]
        refine run_convert_bytes_arg wr 30 5 Tryd.underlying30 Tryd.underlying5 w.heap.size 0 a0.size cp _ (by rw [List.length_map, bytesOf_length]) (fun i hi => ?_) 9 Tryd.underlying9
        rw [Nat.zero_add, (hc i hi).1, lowAt, if_pos hi]
        rw [bt_get a0 i (by rw [bytesOf_length]; exact hi)]
        simp [List.getD_eq_getElem?_getD, bytesOf_length, hi]
      have hHb := Aside0.mk hb
      clear hc hb hcell0 hbelow
      go_wp2
      go_ret
      exact ⟨rfl, hHb.out⟩

end Go.Proofs.YtjldfmkpdkhnnaaDoor.Ext

namespace Go.Proofs.YtjldfmkpdkhnnaaDoor.Ext
open Go.RowKit Go.Proofs.YtjldfmkpdkhnnaaDoorW.PrintWords Go.Proofs.YtjldfmkpdkhnnaaDoorW.PrintLast Go.Proofs.YtjldfmkpdkhnnaaDoorW.PrintMore Go.Proofs.YtjldfmkpdkhnnaaDoor.Aux Go.Proofs.YtjldfmkpdkhnnaaDoor.Dom Go.Proofs.YtjldfmkpdkhnnaaDoor.Glob
attribute [local go_sem] max2_int min2_int max_two min_two max_three min_three max_four min_four
def spec_l2Token.f (a0 : Int) : Option Bool := if 0 ≤ a0 ∧ a0 < 256 then some (tokC a0) else none
theorem step_val {P : Program} {ops : Array Oper} {Q : Exit → Act → World → Prop} {rest : List Oper} {o : Oper} {a : Act} {w : World} {d : Nat} (v : Value) (hd : o.dst = some d) (hrun : (execOp a.eval o).run P w = .ok (.value v) w) (hw : Region.wanted o (yielded ops a.tmps) = true)
    (h : wpList P ops Q rest ⟨a.tmps.setIfInBounds d v, a.defers⟩ w) : wpList P ops Q (o :: rest) a w := by
  refine wpList_step fun K hK => ?_
  rw [if_pos hw]
  unfold Oper.wp
  rw [hrun, Oper.upon_value]
  refine hK _ _ ?_
  have e : a.put o.dst v = ⟨a.tmps.setIfInBounds d v, a.defers⟩ := by rw [hd]; rfl
  rw [e]; exact h
theorem step_skip {P : Program} {ops : Array Oper} {Q : Exit → Act → World → Prop} {rest : List Oper} {o : Oper} {a : Act} {w : World} {d : Nat} (hd : o.dst = some d) (hw : Region.wanted o (yielded ops a.tmps) = false)
    (h : wpList P ops Q rest ⟨a.tmps.setIfInBounds d undef, a.defers⟩ w) : wpList P ops Q (o :: rest) a w := by
  refine wpList_step fun K hK => ?_
  rw [if_neg (by rw [hw]; decide)]
  refine hK _ _ ?_
  have e : a.put o.dst undef = ⟨a.tmps.setIfInBounds d undef, a.defers⟩ := by rw [hd]; rfl
  rw [e]; exact h
theorem get_set_same (T : Array Value) (d : Nat) (v : Value) (h : d < T.size) : (T.setIfInBounds d v)[d]? = some v := by simp [h]
theorem get_set_other (T : Array Value) (d e : Nat) (v x : Value) (h : T[e]? = some x) (hne : e ≠ d) : (T.setIfInBounds d v)[e]? = some x := by
  rw [Array.getElem?_setIfInBounds_ne (fun hh => hne hh.symm)]; exact h
theorem eval_tmp {T : Array Value} {D : List Deferred} {t : Nat} {v : Value} (h : T[t]? = some v) : Act.eval ⟨T, D⟩ (.tmp t) = v := by
  simp [Act.eval, Array.getD_eq_getD_getElem?, h]
theorem run_move {P : Program} {T : Array Value} {D : List Deferred} {w : World} {o : Oper} {t : Nat} {v : Value} (ho : o.op = .move (.tmp t)) (h : T[t]? = some v) : (execOp (Act.eval ⟨T, D⟩) o).run P w = .ok (.value v) w := by
  have e := eval_tmp (D := D) h
  unfold execOp
  rw [ho]
  simp [e]
theorem run_assign {P : Program} {T : Array Value} {D : List Deferred} {w : World} {o : Oper} {t : Nat} {v : Value} (ho : o.op = .assign (.tmp t)) (h : T[t]? = some v) : (execOp (Act.eval ⟨T, D⟩) o).run P w = .ok (.value v) w := by
  have e := eval_tmp (D := D) h
  unfold execOp
  rw [ho]
  simp [e]
theorem run_pick {P : Program} {T : Array Value} {D : List Deferred} {w : World} {o : Oper} {x : Operand} {y z : Operand} {b : Bool} (ho : o.op = .pick x y z) (h : Act.eval ⟨T, D⟩ x = .bool b) : (execOp (Act.eval ⟨T, D⟩) o).run P w = .ok (.value (if b then Act.eval ⟨T, D⟩ y else Act.eval ⟨T, D⟩ z)) w := by
  unfold execOp
  rw [ho]
  cases b <;> simp [h] <;> rfl
theorem run_eql {T : Array Value} {D : List Deferred} {w : World} {o : Oper} {t : Nat} {c n : Int} (ho : o.op = .binOp .eql 5 (.tmp t) (.const (.int .u8 n)) 5) (h : T[t]? = some (.int .u8 c)) : (execOp (Act.eval ⟨T, D⟩) o).run Tryd.prog w = .ok (.value (.bool (c == n))) w := by
  have e := eval_tmp (D := D) h
  unfold execOp
  rw [ho]
  go_simp
theorem run_geq {T : Array Value} {D : List Deferred} {w : World} {o : Oper} {t : Nat} {c n : Int} (ho : o.op = .binOp .geq 5 (.tmp t) (.const (.int .u8 n)) 5) (h : T[t]? = some (.int .u8 c)) : (execOp (Act.eval ⟨T, D⟩) o).run Tryd.prog w = .ok (.value (.bool (decide (n ≤ c)))) w := by
  have e := eval_tmp (D := D) h
  unfold execOp
  rw [ho]
  go_simp
theorem run_leq {T : Array Value} {D : List Deferred} {w : World} {o : Oper} {t : Nat} {c n : Int} (ho : o.op = .binOp .leq 5 (.tmp t) (.const (.int .u8 n)) 5) (h : T[t]? = some (.int .u8 c)) : (execOp (Act.eval ⟨T, D⟩) o).run Tryd.prog w = .ok (.value (.bool (decide (c ≤ n)))) w := by
  have e := eval_tmp (D := D) h
  unfold execOp
  rw [ho]
  go_simp
theorem yield_of {ops : Array Oper} {T : Array Value} {j s : Nat} {b : Bool} (hj : (ops[j]?).bind (·.dst) = some s) (h : T[s]? = some (.bool b)) : yielded ops T j = some b := by
  simp only [yielded, hj, Option.bind_some, h]
theorem yield_undef {ops : Array Oper} {T : Array Value} {j s : Nat} (hj : (ops[j]?).bind (·.dst) = some s) (h : T[s]? = some undef) : yielded ops T j = none := by
  simp only [yielded, hj, Option.bind_some, h, undef]
theorem want_none {o : Oper} {f : Nat → Option Bool} (h : o.guard = none) : Region.wanted o f = true := by simp only [Region.wanted, h]
theorem want_some {o : Oper} {f : Nat → Option Bool} {j : Nat} {b c : Bool} (h : o.guard = some (j, b)) (hf : f j = some c) : Region.wanted o f = (c == b) := by
  simp only [Region.wanted, h, hf]
  cases b <;> cases c <;> rfl
theorem want_undef {o : Oper} {f : Nat → Option Bool} {j : Nat} {b : Bool} (h : o.guard = some (j, b)) (hf : f j = none) : Region.wanted o f = false := by
  simp only [Region.wanted, h, hf]
  cases b <;> rfl
theorem orBlock {ops : Array Oper} {Q : Exit → Act → World → Prop} {rest : List Oper} {T : Array Value} {D : List Deferred} {w : World} {o1 o2 o3 o4 : Oper} (s j : Nat) (n c : Int) (B : Bool)
    (d1 : o1.dst = some (s + 1)) (g1 : o1.guard = none) (p1 : o1.op = .move (.tmp s))
    (d2 : o2.dst = some (s + 2)) (g2 : o2.guard = some (j, false)) (p2 : o2.op = .move (.tmp 0))
    (d3 : o3.dst = some (s + 3)) (g3 : o3.guard = some (j, false)) (p3 : o3.op = .binOp .eql 5 (.tmp (s + 2)) (.const (.int .u8 n)) 5)
    (d4 : o4.dst = some (s + 4)) (g4 : o4.guard = none) (p4 : o4.op = .pick (.tmp (s + 1)) (.const (.bool true)) (.tmp (s + 3)))
    (hj : (ops[j]?).bind (·.dst) = some (s + 1)) (hN : T.size = 85) (hs : s + 4 < 85) (h0 : T[0]? = some (.int .u8 c)) (hB : T[s]? = some (.bool B)) (hs0 : 0 < s)
    (k : ∀ T' : Array Value, T'.size = 85 → T'[0]? = some (.int .u8 c) → T'[s + 4]? = some (.bool (B || c == n)) → wpList Tryd.prog ops Q rest ⟨T', D⟩ w) :
    wpList Tryd.prog ops Q (o1 :: o2 :: o3 :: o4 :: rest) ⟨T, D⟩ w := by
  refine step_val (.bool B) d1 (run_move p1 hB) (want_none g1) ?_
  have hN1 : (T.setIfInBounds (s + 1) (.bool B)).size = 85 := by simpa using hN
  have z1 := get_set_other T (s + 1) 0 (.bool B) _ h0 (by omega)
  have y1 := get_set_same T (s + 1) (.bool B) (by omega)
  have w1 : yielded ops (T.setIfInBounds (s + 1) (.bool B)) j = some B := yield_of hj y1
  generalize T.setIfInBounds (s + 1) (.bool B) = T1 at hN1 z1 y1 w1
  cases B with
  | true =>
    refine step_skip d2 (by rw [want_some g2 w1]; rfl) ?_
    have hN2 : (T1.setIfInBounds (s + 2) undef).size = 85 := by simpa using hN1
    have z2 := get_set_other T1 (s + 2) 0 undef _ z1 (by omega)
    have y2 := get_set_other T1 (s + 2) (s + 1) undef _ y1 (by omega)
    generalize T1.setIfInBounds (s + 2) undef = T2 at hN2 z2 y2
    refine step_skip d3 (by rw [want_some g3 (yield_of hj y2)]; rfl) ?_
    have hN3 : (T2.setIfInBounds (s + 3) undef).size = 85 := by simpa using hN2
    have z3 := get_set_other T2 (s + 3) 0 undef _ z2 (by omega)
    have y3 := get_set_other T2 (s + 3) (s + 1) undef _ y2 (by omega)
    generalize T2.setIfInBounds (s + 3) undef = T3 at hN3 z3 y3
    refine step_val (.bool true) d4 (run_pick p4 (eval_tmp y3)) (want_none g4) ?_
    exact k _ (by simpa using hN3) (get_set_other _ _ _ _ _ z3 (by omega)) ((get_set_same T3 _ _ (by omega)).trans rfl)
  | false =>
    refine step_val (.int .u8 c) d2 (run_move p2 z1) (by rw [want_some g2 w1]; rfl) ?_
    have hN2 : (T1.setIfInBounds (s + 2) (.int .u8 c)).size = 85 := by simpa using hN1
    have z2 := get_set_other T1 (s + 2) 0 (.int .u8 c) _ z1 (by omega)
    have y2 := get_set_other T1 (s + 2) (s + 1) (.int .u8 c) _ y1 (by omega)
    have x2 := get_set_same T1 (s + 2) (.int .u8 c) (by omega)
    generalize T1.setIfInBounds (s + 2) (.int .u8 c) = T2 at hN2 z2 y2 x2
    refine step_val (.bool (c == n)) d3 (run_eql p3 x2) (by rw [want_some g3 (yield_of hj y2)]; rfl) ?_
    have hN3 : (T2.setIfInBounds (s + 3) (.bool (c == n))).size = 85 := by simpa using hN2
    have z3 := get_set_other T2 (s + 3) 0 (.bool (c == n)) _ z2 (by omega)
    have y3 := get_set_other T2 (s + 3) (s + 1) (.bool (c == n)) _ y2 (by omega)
    have x3 := get_set_same T2 (s + 3) (.bool (c == n)) (by omega)
    generalize T2.setIfInBounds (s + 3) (.bool (c == n)) = T3 at hN3 z3 y3 x3
    have hp := run_pick (P := Tryd.prog) (D := D) (w := w) p4 (eval_tmp y3)
    rw [if_neg (by decide), eval_tmp x3] at hp
    refine step_val (.bool (c == n)) d4 hp (want_none g4) ?_
    exact k _ (by simpa using hN3) (get_set_other _ _ _ _ _ z3 (by omega)) ((get_set_same T3 _ _ (by omega)).trans rfl)
theorem andBlock {ops : Array Oper} {Q : Exit → Act → World → Prop} {rest : List Oper} {T : Array Value} {D : List Deferred} {w : World} {o1 o2 o3 o4 o5 o6 : Oper} (s j : Nat) (lo hi c : Int)
    (d1 : o1.dst = some (s + 1)) (g1 : o1.guard = none) (p1 : o1.op = .move (.tmp 0))
    (d2 : o2.dst = some (s + 2)) (g2 : o2.guard = none) (p2 : o2.op = .binOp .geq 5 (.tmp (s + 1)) (.const (.int .u8 lo)) 5)
    (d3 : o3.dst = some (s + 3)) (g3 : o3.guard = none) (p3 : o3.op = .move (.tmp (s + 2)))
    (d4 : o4.dst = some (s + 4)) (g4 : o4.guard = some (j, true)) (p4 : o4.op = .move (.tmp 0))
    (d5 : o5.dst = some (s + 5)) (g5 : o5.guard = some (j, true)) (p5 : o5.op = .binOp .leq 5 (.tmp (s + 4)) (.const (.int .u8 hi)) 5)
    (d6 : o6.dst = some (s + 6)) (g6 : o6.guard = none) (p6 : o6.op = .pick (.tmp (s + 3)) (.tmp (s + 5)) (.const (.bool false)))
    (hj : (ops[j]?).bind (·.dst) = some (s + 3)) (hN : T.size = 85) (hs : s + 6 < 85) (h0 : T[0]? = some (.int .u8 c))
    (k : ∀ T' : Array Value, T'.size = 85 → T'[0]? = some (.int .u8 c) → T'[s + 6]? = some (.bool (decide (lo ≤ c) && decide (c ≤ hi))) → wpList Tryd.prog ops Q rest ⟨T', D⟩ w) :
    wpList Tryd.prog ops Q (o1 :: o2 :: o3 :: o4 :: o5 :: o6 :: rest) ⟨T, D⟩ w := by
  refine step_val (.int .u8 c) d1 (run_move p1 h0) (want_none g1) ?_
  have hN1 : (T.setIfInBounds (s + 1) (.int .u8 c)).size = 85 := by simpa using hN
  have z1 := get_set_other T (s + 1) 0 (.int .u8 c) _ h0 (by omega)
  have y1 := get_set_same T (s + 1) (.int .u8 c) (by omega)
  generalize T.setIfInBounds (s + 1) (.int .u8 c) = T1 at hN1 z1 y1
  refine step_val (.bool (decide (lo ≤ c))) d2 (run_geq p2 y1) (want_none g2) ?_
  have hN2 : (T1.setIfInBounds (s + 2) (.bool (decide (lo ≤ c)))).size = 85 := by simpa using hN1
  have z2 := get_set_other T1 (s + 2) 0 (.bool (decide (lo ≤ c))) _ z1 (by omega)
  have y2 := get_set_same T1 (s + 2) (.bool (decide (lo ≤ c))) (by omega)
  generalize T1.setIfInBounds (s + 2) (.bool (decide (lo ≤ c))) = T2 at hN2 z2 y2
  refine step_val (.bool (decide (lo ≤ c))) d3 (run_move p3 y2) (want_none g3) ?_
  have hN3 : (T2.setIfInBounds (s + 3) (.bool (decide (lo ≤ c)))).size = 85 := by simpa using hN2
  have z3 := get_set_other T2 (s + 3) 0 (.bool (decide (lo ≤ c))) _ z2 (by omega)
  have y3 := get_set_same T2 (s + 3) (.bool (decide (lo ≤ c))) (by omega)
  generalize T2.setIfInBounds (s + 3) (.bool (decide (lo ≤ c))) = T3 at hN3 z3 y3
  cases hb : decide (lo ≤ c) with
  | false =>
    rw [hb] at y3
    refine step_skip d4 (by rw [want_some g4 (yield_of hj y3)]; rfl) ?_
    have hN4 : (T3.setIfInBounds (s + 4) undef).size = 85 := by simpa using hN3
    have z4 := get_set_other T3 (s + 4) 0 undef _ z3 (by omega)
    have y4 := get_set_other T3 (s + 4) (s + 3) undef _ y3 (by omega)
    generalize T3.setIfInBounds (s + 4) undef = T4 at hN4 z4 y4
    refine step_skip d5 (by rw [want_some g5 (yield_of hj y4)]; rfl) ?_
    have hN5 : (T4.setIfInBounds (s + 5) undef).size = 85 := by simpa using hN4
    have z5 := get_set_other T4 (s + 5) 0 undef _ z4 (by omega)
    have y5 := get_set_other T4 (s + 5) (s + 3) undef _ y4 (by omega)
    generalize T4.setIfInBounds (s + 5) undef = T5 at hN5 z5 y5
    refine step_val (.bool false) d6 (run_pick p6 (eval_tmp y5)) (want_none g6) ?_
    exact k _ (by simpa using hN5) (get_set_other _ _ _ _ _ z5 (by omega)) ((get_set_same T5 _ _ (by omega)).trans (by rw [hb]; rfl))
  | true =>
    rw [hb] at y3
    refine step_val (.int .u8 c) d4 (run_move p4 z3) (by rw [want_some g4 (yield_of hj y3)]; rfl) ?_
    have hN4 : (T3.setIfInBounds (s + 4) (.int .u8 c)).size = 85 := by simpa using hN3
    have z4 := get_set_other T3 (s + 4) 0 (.int .u8 c) _ z3 (by omega)
    have y4 := get_set_other T3 (s + 4) (s + 3) (.int .u8 c) _ y3 (by omega)
    have x4 := get_set_same T3 (s + 4) (.int .u8 c) (by omega)
    generalize T3.setIfInBounds (s + 4) (.int .u8 c) = T4 at hN4 z4 y4 x4
    refine step_val (.bool (decide (c ≤ hi))) d5 (run_leq p5 x4) (by rw [want_some g5 (yield_of hj y4)]; rfl) ?_
    have hN5 : (T4.setIfInBounds (s + 5) (.bool (decide (c ≤ hi)))).size = 85 := by simpa using hN4
    have z5 := get_set_other T4 (s + 5) 0 (.bool (decide (c ≤ hi))) _ z4 (by omega)
    have y5 := get_set_other T4 (s + 5) (s + 3) (.bool (decide (c ≤ hi))) _ y4 (by omega)
    have x5 := get_set_same T4 (s + 5) (.bool (decide (c ≤ hi))) (by omega)
    generalize T4.setIfInBounds (s + 5) (.bool (decide (c ≤ hi))) = T5 at hN5 z5 y5 x5
    have hp := run_pick (P := Tryd.prog) (D := D) (w := w) p6 (eval_tmp y5)
    rw [if_pos rfl, eval_tmp x5] at hp
    refine step_val (.bool (decide (c ≤ hi))) d6 hp (want_none g6) ?_
    exact k _ (by simpa using hN5) (get_set_other _ _ _ _ _ z5 (by omega)) ((get_set_same T5 _ _ (by omega)).trans (by rw [hb]; rfl))
theorem orAndBlock {ops : Array Oper} {Q : Exit → Act → World → Prop} {rest : List Oper} {T : Array Value} {D : List Deferred} {w : World} {o1 o2 o3 o4 o5 o6 o7 o8 : Oper} (s j j2 : Nat) (lo hi c : Int) (B : Bool)
    (d1 : o1.dst = some (s + 1)) (g1 : o1.guard = none) (p1 : o1.op = .move (.tmp s))
    (d2 : o2.dst = some (s + 2)) (g2 : o2.guard = some (j, false)) (p2 : o2.op = .move (.tmp 0))
    (d3 : o3.dst = some (s + 3)) (g3 : o3.guard = some (j, false)) (p3 : o3.op = .binOp .geq 5 (.tmp (s + 2)) (.const (.int .u8 lo)) 5)
    (d4 : o4.dst = some (s + 4)) (g4 : o4.guard = some (j, false)) (p4 : o4.op = .move (.tmp (s + 3)))
    (d5 : o5.dst = some (s + 5)) (g5 : o5.guard = some (j2, true)) (p5 : o5.op = .move (.tmp 0))
    (d6 : o6.dst = some (s + 6)) (g6 : o6.guard = some (j2, true)) (p6 : o6.op = .binOp .leq 5 (.tmp (s + 5)) (.const (.int .u8 hi)) 5)
    (d7 : o7.dst = some (s + 7)) (g7 : o7.guard = some (j, false)) (p7 : o7.op = .pick (.tmp (s + 4)) (.tmp (s + 6)) (.const (.bool false)))
    (d8 : o8.dst = some (s + 8)) (g8 : o8.guard = none) (p8 : o8.op = .pick (.tmp (s + 1)) (.const (.bool true)) (.tmp (s + 7)))
    (hj : (ops[j]?).bind (·.dst) = some (s + 1)) (hj2 : (ops[j2]?).bind (·.dst) = some (s + 4)) (hN : T.size = 85) (hs : s + 8 < 85) (h0 : T[0]? = some (.int .u8 c)) (hB : T[s]? = some (.bool B)) (hs0 : 0 < s)
    (k : ∀ T' : Array Value, T'.size = 85 → T'[0]? = some (.int .u8 c) → T'[s + 8]? = some (.bool (B || (decide (lo ≤ c) && decide (c ≤ hi)))) → wpList Tryd.prog ops Q rest ⟨T', D⟩ w) :
    wpList Tryd.prog ops Q (o1 :: o2 :: o3 :: o4 :: o5 :: o6 :: o7 :: o8 :: rest) ⟨T, D⟩ w := by
  refine step_val (.bool B) d1 (run_move p1 hB) (want_none g1) ?_
  have hN1 : (T.setIfInBounds (s + 1) (.bool B)).size = 85 := by simpa using hN
  have z1 := get_set_other T (s + 1) 0 (.bool B) _ h0 (by omega)
  have y1 := get_set_same T (s + 1) (.bool B) (by omega)
  generalize T.setIfInBounds (s + 1) (.bool B) = T1 at hN1 z1 y1
  cases B with
  | true =>
    refine step_skip d2 (by rw [want_some g2 (yield_of hj y1)]; rfl) ?_
    have hN2 : (T1.setIfInBounds (s + 2) undef).size = 85 := by simpa using hN1
    have z2 := get_set_other T1 (s + 2) 0 undef _ z1 (by omega)
    have y2 := get_set_other T1 (s + 2) (s + 1) undef _ y1 (by omega)
    generalize T1.setIfInBounds (s + 2) undef = T2 at hN2 z2 y2
    refine step_skip d3 (by rw [want_some g3 (yield_of hj y2)]; rfl) ?_
    have hN3 : (T2.setIfInBounds (s + 3) undef).size = 85 := by simpa using hN2
    have z3 := get_set_other T2 (s + 3) 0 undef _ z2 (by omega)
    have y3 := get_set_other T2 (s + 3) (s + 1) undef _ y2 (by omega)
    generalize T2.setIfInBounds (s + 3) undef = T3 at hN3 z3 y3
    refine step_skip d4 (by rw [want_some g4 (yield_of hj y3)]; rfl) ?_
    have hN4 : (T3.setIfInBounds (s + 4) undef).size = 85 := by simpa using hN3
    have z4 := get_set_other T3 (s + 4) 0 undef _ z3 (by omega)
    have y4 := get_set_other T3 (s + 4) (s + 1) undef _ y3 (by omega)
    have x4 := get_set_same T3 (s + 4) undef (by omega)
    generalize T3.setIfInBounds (s + 4) undef = T4 at hN4 z4 y4 x4
    refine step_skip d5 (want_undef g5 (yield_undef hj2 x4)) ?_
    have hN5 : (T4.setIfInBounds (s + 5) undef).size = 85 := by simpa using hN4
    have z5 := get_set_other T4 (s + 5) 0 undef _ z4 (by omega)
    have y5 := get_set_other T4 (s + 5) (s + 1) undef _ y4 (by omega)
    have x5 := get_set_other T4 (s + 5) (s + 4) undef _ x4 (by omega)
    generalize T4.setIfInBounds (s + 5) undef = T5 at hN5 z5 y5 x5
    refine step_skip d6 (want_undef g6 (yield_undef hj2 x5)) ?_
    have hN6 : (T5.setIfInBounds (s + 6) undef).size = 85 := by simpa using hN5
    have z6 := get_set_other T5 (s + 6) 0 undef _ z5 (by omega)
    have y6 := get_set_other T5 (s + 6) (s + 1) undef _ y5 (by omega)
    generalize T5.setIfInBounds (s + 6) undef = T6 at hN6 z6 y6
    refine step_skip d7 (by rw [want_some g7 (yield_of hj y6)]; rfl) ?_
    have hN7 : (T6.setIfInBounds (s + 7) undef).size = 85 := by simpa using hN6
    have z7 := get_set_other T6 (s + 7) 0 undef _ z6 (by omega)
    have y7 := get_set_other T6 (s + 7) (s + 1) undef _ y6 (by omega)
    generalize T6.setIfInBounds (s + 7) undef = T7 at hN7 z7 y7
    refine step_val (.bool true) d8 (run_pick p8 (eval_tmp y7)) (want_none g8) ?_
    exact k _ (by simpa using hN7) (get_set_other _ _ _ _ _ z7 (by omega)) ((get_set_same T7 _ _ (by omega)).trans rfl)
  | false =>
    refine step_val (.int .u8 c) d2 (run_move p2 z1) (by rw [want_some g2 (yield_of hj y1)]; rfl) ?_
    have hN2 : (T1.setIfInBounds (s + 2) (.int .u8 c)).size = 85 := by simpa using hN1
    have z2 := get_set_other T1 (s + 2) 0 (.int .u8 c) _ z1 (by omega)
    have y2 := get_set_other T1 (s + 2) (s + 1) (.int .u8 c) _ y1 (by omega)
    have x2 := get_set_same T1 (s + 2) (.int .u8 c) (by omega)
    generalize T1.setIfInBounds (s + 2) (.int .u8 c) = T2 at hN2 z2 y2 x2
    refine step_val (.bool (decide (lo ≤ c))) d3 (run_geq p3 x2) (by rw [want_some g3 (yield_of hj y2)]; rfl) ?_
    have hN3 : (T2.setIfInBounds (s + 3) (.bool (decide (lo ≤ c)))).size = 85 := by simpa using hN2
    have z3 := get_set_other T2 (s + 3) 0 (.bool (decide (lo ≤ c))) _ z2 (by omega)
    have y3 := get_set_other T2 (s + 3) (s + 1) (.bool (decide (lo ≤ c))) _ y2 (by omega)
    have x3 := get_set_same T2 (s + 3) (.bool (decide (lo ≤ c))) (by omega)
    generalize T2.setIfInBounds (s + 3) (.bool (decide (lo ≤ c))) = T3 at hN3 z3 y3 x3
    refine step_val (.bool (decide (lo ≤ c))) d4 (run_move p4 x3) (by rw [want_some g4 (yield_of hj y3)]; rfl) ?_
    have hN4 : (T3.setIfInBounds (s + 4) (.bool (decide (lo ≤ c)))).size = 85 := by simpa using hN3
    have z4 := get_set_other T3 (s + 4) 0 (.bool (decide (lo ≤ c))) _ z3 (by omega)
    have y4 := get_set_other T3 (s + 4) (s + 1) (.bool (decide (lo ≤ c))) _ y3 (by omega)
    have x4 := get_set_same T3 (s + 4) (.bool (decide (lo ≤ c))) (by omega)
    generalize T3.setIfInBounds (s + 4) (.bool (decide (lo ≤ c))) = T4 at hN4 z4 y4 x4
    cases hb : decide (lo ≤ c) with
    | false =>
      rw [hb] at x4
      refine step_skip d5 (by rw [want_some g5 (yield_of hj2 x4)]; rfl) ?_
      have hN5 : (T4.setIfInBounds (s + 5) undef).size = 85 := by simpa using hN4
      have z5 := get_set_other T4 (s + 5) 0 undef _ z4 (by omega)
      have y5 := get_set_other T4 (s + 5) (s + 1) undef _ y4 (by omega)
      have x5 := get_set_other T4 (s + 5) (s + 4) undef _ x4 (by omega)
      generalize T4.setIfInBounds (s + 5) undef = T5 at hN5 z5 y5 x5
      refine step_skip d6 (by rw [want_some g6 (yield_of hj2 x5)]; rfl) ?_
      have hN6 : (T5.setIfInBounds (s + 6) undef).size = 85 := by simpa using hN5
      have z6 := get_set_other T5 (s + 6) 0 undef _ z5 (by omega)
      have y6 := get_set_other T5 (s + 6) (s + 1) undef _ y5 (by omega)
      have x6 := get_set_other T5 (s + 6) (s + 4) undef _ x5 (by omega)
      generalize T5.setIfInBounds (s + 6) undef = T6 at hN6 z6 y6 x6
      refine step_val (.bool false) d7 (run_pick p7 (eval_tmp x6)) (by rw [want_some g7 (yield_of hj y6)]; rfl) ?_
      have hN7 : (T6.setIfInBounds (s + 7) (.bool false)).size = 85 := by simpa using hN6
      have z7 := get_set_other T6 (s + 7) 0 (.bool false) _ z6 (by omega)
      have y7 := get_set_other T6 (s + 7) (s + 1) (.bool false) _ y6 (by omega)
      have x7 := get_set_same T6 (s + 7) (.bool false) (by omega)
      generalize T6.setIfInBounds (s + 7) (.bool false) = T7 at hN7 z7 y7 x7
      have hp := run_pick (P := Tryd.prog) (D := D) (w := w) p8 (eval_tmp y7)
      rw [if_neg (by decide), eval_tmp x7] at hp
      refine step_val (.bool false) d8 hp (want_none g8) ?_
      exact k _ (by simpa using hN7) (get_set_other _ _ _ _ _ z7 (by omega)) ((get_set_same T7 _ _ (by omega)).trans (by rw [hb]; rfl))
    | true =>
      rw [hb] at x4
      refine step_val (.int .u8 c) d5 (run_move p5 z4) (by rw [want_some g5 (yield_of hj2 x4)]; rfl) ?_
      have hN5 : (T4.setIfInBounds (s + 5) (.int .u8 c)).size = 85 := by simpa using hN4
      have z5 := get_set_other T4 (s + 5) 0 (.int .u8 c) _ z4 (by omega)
      have y5 := get_set_other T4 (s + 5) (s + 1) (.int .u8 c) _ y4 (by omega)
      have x5 := get_set_other T4 (s + 5) (s + 4) (.int .u8 c) _ x4 (by omega)
      have v5 := get_set_same T4 (s + 5) (.int .u8 c) (by omega)
      generalize T4.setIfInBounds (s + 5) (.int .u8 c) = T5 at hN5 z5 y5 x5 v5
      refine step_val (.bool (decide (c ≤ hi))) d6 (run_leq p6 v5) (by rw [want_some g6 (yield_of hj2 x5)]; rfl) ?_
      have hN6 : (T5.setIfInBounds (s + 6) (.bool (decide (c ≤ hi)))).size = 85 := by simpa using hN5
      have z6 := get_set_other T5 (s + 6) 0 (.bool (decide (c ≤ hi))) _ z5 (by omega)
      have y6 := get_set_other T5 (s + 6) (s + 1) (.bool (decide (c ≤ hi))) _ y5 (by omega)
      have x6 := get_set_other T5 (s + 6) (s + 4) (.bool (decide (c ≤ hi))) _ x5 (by omega)
      have v6 := get_set_same T5 (s + 6) (.bool (decide (c ≤ hi))) (by omega)
      generalize T5.setIfInBounds (s + 6) (.bool (decide (c ≤ hi))) = T6 at hN6 z6 y6 x6 v6
      have hq := run_pick (P := Tryd.prog) (D := D) (w := w) p7 (eval_tmp x6)
      rw [if_pos rfl, eval_tmp v6] at hq
      refine step_val (.bool (decide (c ≤ hi))) d7 hq (by rw [want_some g7 (yield_of hj y6)]; rfl) ?_
      have hN7 : (T6.setIfInBounds (s + 7) (.bool (decide (c ≤ hi)))).size = 85 := by simpa using hN6
      have z7 := get_set_other T6 (s + 7) 0 (.bool (decide (c ≤ hi))) _ z6 (by omega)
      have y7 := get_set_other T6 (s + 7) (s + 1) (.bool (decide (c ≤ hi))) _ y6 (by omega)
      have x7 := get_set_same T6 (s + 7) (.bool (decide (c ≤ hi))) (by omega)
      generalize T6.setIfInBounds (s + 7) (.bool (decide (c ≤ hi))) = T7 at hN7 z7 y7 x7
      have hp := run_pick (P := Tryd.prog) (D := D) (w := w) p8 (eval_tmp y7)
      rw [if_neg (by decide), eval_tmp x7] at hp
      refine step_val (.bool (decide (c ≤ hi))) d8 hp (want_none g8) ?_
      exact k _ (by simpa using hN7) (get_set_other _ _ _ _ _ z7 (by omega)) ((get_set_same T7 _ _ (by omega)).trans (by rw [hb]; rfl))

theorem tok_all : ∀ n : Nat, n < 256 → (fun c : Int => (((((((((((((((((decide (97 ≤ c) && decide (c ≤ 122)) || (decide (65 ≤ c) && decide (c ≤ 90))) || (decide (48 ≤ c) && decide (c ≤ 57))) || c == 33) || c == 35) || c == 36) || c == 37) || c == 38) || c == 39) || c == 42) || c == 43) || c == 45) || c == 46) || c == 94) || c == 95) || c == 96) || c == 124) || c == 126) (n : Int) = tokC n := by decide +kernel
set_option maxRecDepth 100000 in
theorem spec_l2Token.calls (a0 : Int) (r : Bool) (w : World) (h : spec_l2Token.f a0 = some r) :
    Calls Tryd.prog 124 #[.int .u8 a0] w fun e w' => e = .returned (.bool r) ∧ Drawn0 w w' := by
  have hr : 0 ≤ a0 ∧ a0 < 256 := by
    unfold spec_l2Token.f at h
    split at h
    · assumption
    · cases h
  unfold spec_l2Token.f at h
  rw [if_pos hr] at h
  obtain rfl := Option.some.inj h
  clear h
  have ht : ((((((((((((((((((decide (97 ≤ a0) && decide (a0 ≤ 122)) || (decide (65 ≤ a0) && decide (a0 ≤ 90))) || (decide (48 ≤ a0) && decide (a0 ≤ 57))) || a0 == 33) || a0 == 35) || a0 == 36) || a0 == 37) || a0 == 38) || a0 == 39) || a0 == 42) || a0 == 43) || a0 == 45) || a0 == 46) || a0 == 94) || a0 == 95) || a0 == 96) || a0 == 124) || a0 == 126) = tokC a0 := byte_all (P := fun c => ((((((((((((((((((decide (97 ≤ c) && decide (c ≤ 122)) || (decide (65 ≤ c) && decide (c ≤ 90))) || (decide (48 ≤ c) && decide (c ≤ 57))) || c == 33) || c == 35) || c == 36) || c == 37) || c == 38) || c == 39) || c == 42) || c == 43) || c == 45) || c == 46) || c == 94) || c == 95) || c == 96) || c == 124) || c == 126) = tokC c) tok_all hr.1 hr.2
  rw [← ht]
  clear ht hr
  go_enter Tryd.func124, Tryd.ntmps124
  refine wp_seq (wp_region_list (step_val (.bool false) rfl rfl rfl ?_))
  refine wp_seq (wp_region_list ?_)
  refine andBlock 2 2 97 122 a0 rfl rfl rfl rfl rfl rfl rfl rfl rfl rfl rfl rfl rfl rfl rfl rfl rfl rfl rfl rfl (by decide) rfl ?_
  intro T1 n1 z1 b1
  refine orAndBlock 8 6 9 65 90 a0 _ rfl rfl rfl rfl rfl rfl rfl rfl rfl rfl rfl rfl rfl rfl rfl rfl rfl rfl rfl rfl rfl rfl rfl rfl rfl rfl n1 (by decide) z1 b1 (by decide) ?_
  intro T2 n2 z2 b2
  refine orAndBlock 16 14 17 48 57 a0 _ rfl rfl rfl rfl rfl rfl rfl rfl rfl rfl rfl rfl rfl rfl rfl rfl rfl rfl rfl rfl rfl rfl rfl rfl rfl rfl n2 (by decide) z2 b2 (by decide) ?_
  intro T3 n3 z3 b3
  refine orBlock 24 22 33 a0 _ rfl rfl rfl rfl rfl rfl rfl rfl rfl rfl rfl rfl rfl n3 (by decide) z3 b3 (by decide) ?_
  intro T4 n4 z4 b4
  refine orBlock 28 26 35 a0 _ rfl rfl rfl rfl rfl rfl rfl rfl rfl rfl rfl rfl rfl n4 (by decide) z4 b4 (by decide) ?_
  intro T5 n5 z5 b5
  refine orBlock 32 30 36 a0 _ rfl rfl rfl rfl rfl rfl rfl rfl rfl rfl rfl rfl rfl n5 (by decide) z5 b5 (by decide) ?_
  intro T6 n6 z6 b6
  refine orBlock 36 34 37 a0 _ rfl rfl rfl rfl rfl rfl rfl rfl rfl rfl rfl rfl rfl n6 (by decide) z6 b6 (by decide) ?_
  intro T7 n7 z7 b7
  refine orBlock 40 38 38 a0 _ rfl rfl rfl rfl rfl rfl rfl rfl rfl rfl rfl rfl rfl n7 (by decide) z7 b7 (by decide) ?_
  intro T8 n8 z8 b8
  refine orBlock 44 42 39 a0 _ rfl rfl rfl rfl rfl rfl rfl rfl rfl rfl rfl rfl rfl n8 (by decide) z8 b8 (by decide) ?_
  intro T9 n9 z9 b9
  refine orBlock 48 46 42 a0 _ rfl rfl rfl rfl rfl rfl rfl rfl rfl rfl rfl rfl rfl n9 (by decide) z9 b9 (by decide) ?_
  intro T10 n10 z10 b10
  refine orBlock 52 50 43 a0 _ rfl rfl rfl rfl rfl rfl rfl rfl rfl rfl rfl rfl rfl n10 (by decide) z10 b10 (by decide) ?_
  intro T11 n11 z11 b11
  refine orBlock 56 54 45 a0 _ rfl rfl rfl rfl rfl rfl rfl rfl rfl rfl rfl rfl rfl n11 (by decide) z11 b11 (by decide) ?_
  intro T12 n12 z12 b12
  refine orBlock 60 58 46 a0 _ rfl rfl rfl rfl rfl rfl rfl rfl rfl rfl rfl rfl rfl n12 (by decide) z12 b12 (by decide) ?_
  intro T13 n13 z13 b13
  refine orBlock 64 62 94 a0 _ rfl rfl rfl rfl rfl rfl rfl rfl rfl rfl rfl rfl rfl n13 (by decide) z13 b13 (by decide) ?_
  intro T14 n14 z14 b14
  refine orBlock 68 66 95 a0 _ rfl rfl rfl rfl rfl rfl rfl rfl rfl rfl rfl rfl rfl n14 (by decide) z14 b14 (by decide) ?_
  intro T15 n15 z15 b15
  refine orBlock 72 70 96 a0 _ rfl rfl rfl rfl rfl rfl rfl rfl rfl rfl rfl rfl rfl n15 (by decide) z15 b15 (by decide) ?_
  intro T16 n16 z16 b16
  refine orBlock 76 74 124 a0 _ rfl rfl rfl rfl rfl rfl rfl rfl rfl rfl rfl rfl rfl n16 (by decide) z16 b16 (by decide) ?_
  intro T17 n17 z17 b17
  refine orBlock 80 78 126 a0 _ rfl rfl rfl rfl rfl rfl rfl rfl rfl rfl rfl rfl rfl n17 (by decide) z17 b17 (by decide) ?_
  intro T18 n18 z18 b18
  generalize hE : ((((((((((((((((((decide (97 ≤ a0) && decide (a0 ≤ 122)) || (decide (65 ≤ a0) && decide (a0 ≤ 90))) || (decide (48 ≤ a0) && decide (a0 ≤ 57))) || a0 == 33) || a0 == 35) || a0 == 36) || a0 == 37) || a0 == 38) || a0 == 39) || a0 == 42) || a0 == 43) || a0 == 45) || a0 == 46) || a0 == 94) || a0 == 95) || a0 == 96) || a0 == 124) || a0 == 126) = BB at b18 ⊢
  refine step_val (.bool BB) rfl (run_assign rfl b18) rfl ?_
  refine wp_ret (bodyPost_ret (v := .bool BB) ((results_tmp rfl _ _ _).trans ?_) rfl ⟨rfl, Drawn0.refl _⟩)
  exact congrArg (fun v => Result.ok v w) (eval_tmp (D := []) (get_set_same T18 2 (.bool BB) (by omega)))

end Go.Proofs.YtjldfmkpdkhnnaaDoor.Ext

namespace Go.Proofs.YtjldfmkpdkhnnaaDoor.QL
open Go.RowKit Go.Proofs.YtjldfmkpdkhnnaaDoorW.PrintWords Go.Proofs.YtjldfmkpdkhnnaaDoorW.PrintLast Go.Proofs.YtjldfmkpdkhnnaaDoorW.PrintMore Go.Proofs.YtjldfmkpdkhnnaaDoor.Aux Go.Proofs.YtjldfmkpdkhnnaaDoor.Dom Go.Proofs.YtjldfmkpdkhnnaaDoor.Ext Go.Proofs.YtjldfmkpdkhnnaaDoor.Glob
attribute [local go_sem] max2_int min2_int max_two min_two max_three min_three max_four min_four   -- for this text's walks alone

def spec_IsTokenText.l0 : Nat → ByteArray → Int → Option (Bool)
 | 0, _, _ => none
 | k + 1, x0, x3 => if x3 < (x0.size : Int) then (if 0 ≤ x3 then ((spec_l2Token.f (bt x0 x3)).bind fun t101 => (if t101 = true then (spec_IsTokenText.l0 k x0 (wrap64 (x3 + 1))) else (some false))) else (none)) else (some (decide ((x0.size : Int) > 0)))
def spec_IsTokenText.f (k : Nat) (a0 : ByteArray) : Option (Bool) := spec_IsTokenText.l0 k a0 0
theorem spec_IsTokenText.mono_l : ∀ k, (∀ y0 y1, LeO (spec_IsTokenText.l0 k y0 y1) (spec_IsTokenText.l0 (k + 1) y0 y1))
 | 0 => fun _ _ r h => by simp [spec_IsTokenText.l0] at h
 | k + 1 => by
  have ih0 := spec_IsTokenText.mono_l k
  ·intro y0 y1
   unfold spec_IsTokenText.l0
   repeat' first
   | (with_reducible exact ih0 _ _)
   | (with_reducible exact LeO.refl _)
   | (with_reducible exact LeO.none _)
   | (with_reducible refine LeO.ite ?_ ?_)
   | (with_reducible refine LeO.bind ?_ (fun _ => ?_))
   | exact ih0 _ _
   | exact LeO.none _
   | refine LeO.ite ?_ ?_
   | refine LeO.bind ?_ (fun _ => ?_)
theorem spec_IsTokenText.mono : ∀ a0 k, LeO (spec_IsTokenText.f k a0) (spec_IsTokenText.f (k + 1) a0) := by
 intro a0 k
 have ih0 := spec_IsTokenText.mono_l k
 unfold spec_IsTokenText.f
 repeat' first
   | (with_reducible exact ih0 _ _)
   | (with_reducible exact LeO.refl _)
   | (with_reducible exact LeO.none _)
   | (with_reducible refine LeO.ite ?_ ?_)
   | (with_reducible refine LeO.bind ?_ (fun _ => ?_))
   | exact ih0 _ _
   | exact LeO.none _
   | refine LeO.ite ?_ ?_
   | refine LeO.bind ?_ (fun _ => ?_)
set_option maxHeartbeats 8000000 in
set_option maxRecDepth 100000 in
theorem spec_IsTokenText.calls (k : Nat) (a0 : ByteArray) (r : Bool) (w : World) (h : spec_IsTokenText.f k a0 = some r) :
  Calls Tryd.prog 95 #[.string a0] w fun e w' => e = .returned (.bool r) ∧ Drawn0 w w' := by
 have H : (spec_IsTokenText.l0 k a0 0) = some r := h
 clear h
 have H' := Aside0.mk H
 clear H
 go_enter Tryd.func95, Tryd.ntmps95
 go_wp2
 go_loopg [3] k (fun kq v3 w' => ∃ (x3_1 : Int), v3 = .int .i64 x3_1 ∧ Aside0 (spec_IsTokenText.l0 kq a0 x3_1 = some r) ∧ Aside0 (kq ≤ k) ∧ Drawn0 w w')
 case atStart => exact ⟨(0), (by first | rfl | (simp; done) | (simp [*]; done)), H', ⟨Nat.le_refl _⟩, by repeat (first | exact Drawn0.refl _ | apply Drawn0.step)⟩
 case round =>
  clear H'
  obtain ⟨x3_1, rfl, HA, HK1, ⟨m1, rfl⟩⟩ := hrel
  cases gk with
  | zero => exact absurd HA.out (by simp [spec_IsTokenText.l0])
  | succ k1 =>
   have H := HA.out
   clear HA
   simp only [spec_IsTokenText.l0] at H
   by_cases c2 : x3_1 < (a0.size : Int)
   ·rw [if_pos c2] at H
    have c2b0 : decide (x3_1 < (a0.size : Int)) = true := decide_eq_true c2
    clear c2
    by_cases c3 : 0 ≤ x3_1
    ·rw [if_pos c3] at H
     have c3b0 : decide (0 ≤ x3_1) = true := decide_eq_true c3
     clear c3
     replace H := Option.bind_eq_some_iff.mp H
     obtain ⟨t101, A50, H⟩ := H
     try dsimp only at H
     have A5 := Aside0.mk A50
     clear A50
     by_cases c6 : t101 = true
     ·subst c6
      rw [if_pos rfl] at H
      have H' := Aside0.mk H
      clear H
      have p4 : 0 ≤ (x3_1 : Int) := of_decide_eq_true asm
      have q4 : x3_1 < (a0.size : Int) := of_decide_eq_true asm
      have hx4 := bt_at a0 x3_1
      replace p4 := eq_true p4
      replace q4 := eq_true q4
      go_wp2_with (first | ((with_reducible refine gate_callee (f := 124) rfl ?_); refine goesL_ (some 13) rfl rfl Tryd.func124 (by kernel_rfl) rfl #[.int .u8 (bt a0 x3_1)] rfl am ?_; (with_reducible refine (spec_l2Token.calls (bt a0 x3_1) true _ A5.out).mono ?_); rintro e w' ⟨rfl, ⟨nd, rfl⟩⟩; refine ⟨_, rfl, ?_⟩))
      go_roundg k1
      case measure => have := HK1.out; omega
      case rel => exact ⟨(wrap64 (x3_1 + 1)), (by first | rfl | (simp; done) | (simp [*]; done)), H', ⟨by have := HK1.out; omega⟩, by repeat (first | exact Drawn0.refl _ | apply Drawn0.step)⟩
     ·replace c6 := Bool.eq_false_iff.mpr c6
      subst c6
      rw [if_neg (show ¬ (false = true) by decide)] at H
      obtain rfl := Option.some.inj H
      have p4 : 0 ≤ (x3_1 : Int) := of_decide_eq_true asm
      have q4 : x3_1 < (a0.size : Int) := of_decide_eq_true asm
      have hx4 := bt_at a0 x3_1
      replace p4 := eq_true p4
      replace q4 := eq_true q4
      go_wp2_with (first | ((with_reducible refine gate_callee (f := 124) rfl ?_); refine goesL_ (some 13) rfl rfl Tryd.func124 (by kernel_rfl) rfl #[.int .u8 (bt a0 x3_1)] rfl am ?_; (with_reducible refine (spec_l2Token.calls (bt a0 x3_1) false _ A5.out).mono ?_); rintro e w' ⟨rfl, ⟨nd, rfl⟩⟩; refine ⟨_, rfl, ?_⟩))
      go_ret
      exact ⟨by first | rfl | (simp; done) | (simp [*]; done) | (simp; generalize ByteArray.toList _ = L_; cases L_ <;> rfl), by repeat (first | exact Drawn0.refl _ | apply Drawn0.step)⟩
    ·rw [if_neg c3] at H
     exact absurd H (by simp)
   ·rw [if_neg c2] at H
    have c2b0 : decide (x3_1 < (a0.size : Int)) = false := decide_eq_false c2
    clear c2
    obtain rfl := Option.some.inj H
    go_wp2
    go_ret
    exact ⟨by first | rfl | (simp; done) | (simp [*]; done) | (simp; generalize ByteArray.toList _ = L_; cases L_ <;> rfl), by repeat (first | exact Drawn0.refl _ | apply Drawn0.step)⟩

end Go.Proofs.YtjldfmkpdkhnnaaDoor.QL

namespace Go.Proofs.YtjldfmkpdkhnnaaDoor.QL
open Go.RowKit Go.Proofs.YtjldfmkpdkhnnaaDoorW.PrintWords Go.Proofs.YtjldfmkpdkhnnaaDoorW.PrintLast Go.Proofs.YtjldfmkpdkhnnaaDoorW.PrintMore Go.Proofs.YtjldfmkpdkhnnaaDoor.Aux Go.Proofs.YtjldfmkpdkhnnaaDoor.Dom Go.Proofs.YtjldfmkpdkhnnaaDoor.Ext Go.Proofs.YtjldfmkpdkhnnaaDoor.Glob
attribute [local go_sem] max2_int min2_int max_two min_two max_three min_three max_four min_four   -- for this text's walks alone

def spec_l2Blank.f (a0 : Int) : Option (Bool) := if a0 = 32 then (some true) else (some (a0 == 9))
set_option maxHeartbeats 8000000 in
set_option maxRecDepth 100000 in
theorem spec_l2Blank.calls (a0 : Int) (r : Bool) (w : World) (h : spec_l2Blank.f a0 = some r) :
  Calls Tryd.prog 153 #[.int .u8 a0] w fun e w' => e = .returned (.bool r) ∧ Drawn0 w w' := by
 have H : (if a0 = 32 then (some true) else (some (a0 == 9))) = some r := h
 clear h
 by_cases c2 : a0 = 32
 ·rw [if_pos c2] at H
  have c2b0 : (a0 == 32) = true := beq_iff_eq.mpr c2
  have c2b1 : (a0 != 32) = false := bne_eq_false_iff_eq.mpr c2
  clear c2
  obtain rfl := Option.some.inj H
  go_enter Tryd.func153, Tryd.ntmps153
  go_wp2
  go_ret
  exact ⟨by first | rfl | (simp; done) | (simp [*]; done) | (simp; generalize ByteArray.toList _ = L_; cases L_ <;> rfl), by repeat (first | exact Drawn0.refl _ | apply Drawn0.step)⟩
 ·rw [if_neg c2] at H
  have c2b0 : (a0 == 32) = false := beq_eq_false_iff_ne.mpr c2
  have c2b1 : (a0 != 32) = true := bne_iff_ne.mpr c2
  obtain rfl := Option.some.inj H
  go_enter Tryd.func153, Tryd.ntmps153
  go_wp2
  go_ret
  exact ⟨by first | rfl | (simp; done) | (simp [*]; done) | (simp; generalize ByteArray.toList _ = L_; cases L_ <;> rfl), by repeat (first | exact Drawn0.refl _ | apply Drawn0.step)⟩

end Go.Proofs.YtjldfmkpdkhnnaaDoor.QL

namespace Go.Proofs.YtjldfmkpdkhnnaaDoor.QL
open Go.RowKit Go.Proofs.YtjldfmkpdkhnnaaDoorW.PrintWords Go.Proofs.YtjldfmkpdkhnnaaDoorW.PrintLast Go.Proofs.YtjldfmkpdkhnnaaDoorW.PrintMore Go.Proofs.YtjldfmkpdkhnnaaDoor.Aux Go.Proofs.YtjldfmkpdkhnnaaDoor.Dom Go.Proofs.YtjldfmkpdkhnnaaDoor.Ext Go.Proofs.YtjldfmkpdkhnnaaDoor.Glob
attribute [local go_sem] max2_int min2_int max_two min_two max_three min_three max_four min_four   -- for this text's walks alone

mutual
def spec_Trim.j1 : Nat → ByteArray → Option (ByteArray)
 | 0, _ => none
 | k + 1, x0 => spec_Trim.l1 k x0
def spec_Trim.l1 : Nat → ByteArray → Option (ByteArray)
 | 0, _ => none
 | k + 1, x0 => if (x0.size : Int) > 0 then (if 0 ≤ (wrap64 ((x0.size : Int) - 1)) then (if (wrap64 ((x0.size : Int) - 1)) < (x0.size : Int) then ((spec_l2Blank.f (bt x0 (wrap64 ((x0.size : Int) - 1)))).bind fun t102 => (if t102 = true then (if (wrap64 ((x0.size : Int) - 1)) ≤ (x0.size : Int) then (spec_Trim.l1 k (x0.extract 0 ((wrap64 ((x0.size : Int) - 1)) : Int).toNat)) else (none)) else (some x0))) else (none)) else (none)) else (some x0)
def spec_Trim.l0 : Nat → ByteArray → Option (ByteArray)
 | 0, _ => none
 | k + 1, x0 => if (x0.size : Int) > 0 then (if 0 < (x0.size : Int) then ((spec_l2Blank.f (bt x0 0)).bind fun t101 => (if t101 = true then (if 1 ≤ (x0.size : Int) then (spec_Trim.l0 k (x0.extract 1 x0.size)) else (none)) else (spec_Trim.j1 k x0))) else (none)) else (spec_Trim.j1 k x0)
end
def spec_Trim.f (k : Nat) (a0 : ByteArray) : Option (ByteArray) := spec_Trim.l0 k a0
theorem spec_Trim.mono_l : ∀ k, (∀ y0, LeO (spec_Trim.j1 k y0) (spec_Trim.j1 (k + 1) y0)) ∧ (∀ y0, LeO (spec_Trim.l1 k y0) (spec_Trim.l1 (k + 1) y0)) ∧ (∀ y0, LeO (spec_Trim.l0 k y0) (spec_Trim.l0 (k + 1) y0))
 | 0 => ⟨fun _ r h => by simp [spec_Trim.j1] at h, fun _ r h => by simp [spec_Trim.l1] at h, fun _ r h => by simp [spec_Trim.l0] at h⟩
 | k + 1 => by
  obtain ⟨ih0, ih1, ih2⟩ := spec_Trim.mono_l k
  refine ⟨?_, ?_, ?_⟩
  ·intro y0
   unfold spec_Trim.j1
   repeat' first
   | (with_reducible exact ih0 _)
   | (with_reducible exact ih1 _)
   | (with_reducible exact ih2 _)
   | (with_reducible exact LeO.refl _)
   | (with_reducible exact LeO.none _)
   | (with_reducible refine LeO.ite ?_ ?_)
   | (with_reducible refine LeO.bind ?_ (fun _ => ?_))
   | exact ih0 _
   | exact ih1 _
   | exact ih2 _
   | exact LeO.none _
   | refine LeO.ite ?_ ?_
   | refine LeO.bind ?_ (fun _ => ?_)
  ·intro y0
   unfold spec_Trim.l1
   repeat' first
   | (with_reducible exact ih0 _)
   | (with_reducible exact ih1 _)
   | (with_reducible exact ih2 _)
   | (with_reducible exact LeO.refl _)
   | (with_reducible exact LeO.none _)
   | (with_reducible refine LeO.ite ?_ ?_)
   | (with_reducible refine LeO.bind ?_ (fun _ => ?_))
   | exact ih0 _
   | exact ih1 _
   | exact ih2 _
   | exact LeO.none _
   | refine LeO.ite ?_ ?_
   | refine LeO.bind ?_ (fun _ => ?_)
  ·intro y0
   unfold spec_Trim.l0
   repeat' first
   | (with_reducible exact ih0 _)
   | (with_reducible exact ih1 _)
   | (with_reducible exact ih2 _)
   | (with_reducible exact LeO.refl _)
   | (with_reducible exact LeO.none _)
   | (with_reducible refine LeO.ite ?_ ?_)
   | (with_reducible refine LeO.bind ?_ (fun _ => ?_))
   | exact ih0 _
   | exact ih1 _
   | exact ih2 _
   | exact LeO.none _
   | refine LeO.ite ?_ ?_
   | refine LeO.bind ?_ (fun _ => ?_)
theorem spec_Trim.mono : ∀ a0 k, LeO (spec_Trim.f k a0) (spec_Trim.f (k + 1) a0) := by
 intro a0 k
 obtain ⟨ih0, ih1, ih2⟩ := spec_Trim.mono_l k
 unfold spec_Trim.f
 repeat' first
   | (with_reducible exact ih0 _)
   | (with_reducible exact ih1 _)
   | (with_reducible exact ih2 _)
   | (with_reducible exact LeO.refl _)
   | (with_reducible exact LeO.none _)
   | (with_reducible refine LeO.ite ?_ ?_)
   | (with_reducible refine LeO.bind ?_ (fun _ => ?_))
   | exact ih0 _
   | exact ih1 _
   | exact ih2 _
   | exact LeO.none _
   | refine LeO.ite ?_ ?_
   | refine LeO.bind ?_ (fun _ => ?_)
set_option maxHeartbeats 8000000 in
set_option maxRecDepth 100000 in
theorem spec_Trim.calls (k : Nat) (a0 : ByteArray) (r : ByteArray) (w : World) (h : spec_Trim.f k a0 = some r) :
  Calls Tryd.prog 123 #[.string a0] w fun e w' => e = .returned (.string r) ∧ Drawn0 w w' := by
 have H : (spec_Trim.l0 k a0) = some r := h
 clear h
 have HC2 := Aside0.mk H
 clear H
 go_enter Tryd.func123, Tryd.ntmps123
 go_upto_block 0 with (fail)
 go_cut [0] (fun v0 wc => ∃ (kq : Nat) (x0_1 : ByteArray), v0 = .string x0_1 ∧ Aside0 (spec_Trim.j1 kq x0_1 = some r) ∧ Aside0 (kq ≤ k) ∧ Drawn0 w wc)
 case first =>
  have H := HC2.out
  clear HC2
  have H' := Aside0.mk H
  clear H
  go_wp2
  go_loopg [0] k (fun kq v0 w' => ∃ (x0_1 : ByteArray), v0 = .string x0_1 ∧ Aside0 (spec_Trim.l0 kq x0_1 = some r) ∧ Aside0 (kq ≤ k) ∧ Drawn0 w w')
  case atStart => exact ⟨(a0), (by first | rfl | (simp; done) | (simp [*]; done)), H', ⟨Nat.le_refl _⟩, by repeat (first | exact Drawn0.refl _ | apply Drawn0.step)⟩
  case round =>
   clear H'
   try clear c1
   try clear p2
   obtain ⟨x0_1, rfl, HA, HK1, ⟨m1, rfl⟩⟩ := hrel
   cases gk with
   | zero => exact absurd HA.out (by simp [spec_Trim.l0])
   | succ k1 =>
    have H := HA.out
    clear HA
    simp only [spec_Trim.l0] at H
    by_cases c3 : (x0_1.size : Int) > 0
    ·rw [if_pos c3] at H
     have c3b0 : decide (0 < (x0_1.size : Int)) = true := decide_eq_true c3
     have c3b1 : decide (0 < x0_1.size) = true := decide_eq_true (by omega)
     clear c3
     (first | rw [c3b0] | (simp only [i64_w, i32_w]; rw [c3b0]) | skip)
     by_cases c4 : 0 < (x0_1.size : Int)
     ·rw [if_pos c4] at H
      have c4b0 : decide (0 < (x0_1.size : Int)) = true := decide_eq_true c4
      have c4b1 : decide (0 < x0_1.size) = true := decide_eq_true (by omega)
      clear c4
      replace H := Option.bind_eq_some_iff.mp H
      obtain ⟨t101, A60, H⟩ := H
      try dsimp only at H
      have A6 := Aside0.mk A60
      clear A60
      by_cases c7 : t101 = true
      ·subst c7
       rw [if_pos rfl] at H
       by_cases c8 : 1 ≤ (x0_1.size : Int)
       ·rw [if_pos c8] at H
        have c8b0 := eq_true c8
        have c8b1 : decide (1 ≤ (x0_1.size : Int)) = true := decide_eq_true c8
        clear c8
        have H' := Aside0.mk H
        clear H
        have p5 : 0 ≤ (0 : Int) := (by omega)
        have q5 : 0 < x0_1.size := (by have : (0 : Int) < (x0_1.size : Int) := of_decide_eq_true asm; omega)
        have hx5 : ∀ h : 0 < x0_1.size, ((x0_1[0]'h).toNat : Int) = bt x0_1 0 := bt_at x0_1 0
        clear p5
        have qi5 : (0 < (x0_1.size : Int)) = True := eq_true (of_decide_eq_true asm)
        replace q5 := eq_true q5
        go_wp2_with (first | (go_at_call 153; (with_reducible refine (spec_l2Blank.calls (bt x0_1 0) true _ A6.out).mono ?_); rintro e w' ⟨rfl, ⟨nd, rfl⟩⟩))
        go_roundg k1
        case measure => have := HK1.out; omega
        case rel => exact ⟨(x0_1.extract 1 x0_1.size), (by first | rfl | (simp; done) | (simp [*]; done)), H', ⟨by have := HK1.out; omega⟩, by repeat (first | exact Drawn0.refl _ | apply Drawn0.step)⟩
       ·rw [if_neg c8] at H
        exact absurd H (by simp)
      ·replace c7 := Bool.eq_false_iff.mpr c7
       subst c7
       rw [if_neg (show ¬ (false = true) by decide)] at H
       have H' := Aside0.mk H
       clear H
       have p5 : 0 ≤ (0 : Int) := (by omega)
       have q5 : 0 < x0_1.size := (by have : (0 : Int) < (x0_1.size : Int) := of_decide_eq_true asm; omega)
       have hx5 : ∀ h : 0 < x0_1.size, ((x0_1[0]'h).toNat : Int) = bt x0_1 0 := bt_at x0_1 0
       clear p5
       have qi5 : (0 < (x0_1.size : Int)) = True := eq_true (of_decide_eq_true asm)
       replace q5 := eq_true q5
       go_wp2_with (first | (go_at_call 153; (with_reducible refine (spec_l2Blank.calls (bt x0_1 0) false _ A6.out).mono ?_); rintro e w' ⟨rfl, ⟨nd, rfl⟩⟩))
       go_meet
       case rel => exact ⟨_, (x0_1), (by first | rfl | (simp; done) | (simp [*]; done)), H', ⟨by have := HK1.out; first | omega | exact Nat.le_refl _⟩, by repeat (first | exact Drawn0.refl _ | apply Drawn0.step)⟩
     ·rw [if_neg c4] at H
      exact absurd H (by simp)
    ·rw [if_neg c3] at H
     have c3b0 : decide (0 < (x0_1.size : Int)) = false := decide_eq_false c3
     have c3b1 : decide (0 < x0_1.size) = false := decide_eq_false (by omega)
     clear c3
     (first | rw [c3b0] | (simp only [i64_w, i32_w]; rw [c3b0]) | skip)
     have H' := Aside0.mk H
     clear H
     go_wp2
     go_meet
     case rel => exact ⟨_, (x0_1), (by first | rfl | (simp; done) | (simp [*]; done)), H', ⟨by have := HK1.out; first | omega | exact Nat.le_refl _⟩, by repeat (first | exact Drawn0.refl _ | apply Drawn0.step)⟩
 case rest =>
  clear HC2
  try clear c1
  try clear p2
  try clear c3
  try clear c3b0
  try clear c3b1
  try clear c4
  try clear c4b0
  try clear c4b1
  try clear p5
  try clear q5
  try clear hx5
  try clear qi5
  try clear c7
  try clear c8
  try clear c8b0
  try clear c8b1
  try clear p2
  try clear p5
  try clear q5
  obtain ⟨kq, x0_1, rfl, HA, HJ1, ⟨mc1, rfl⟩⟩ := hcut
  cases kq with
  | zero => exact absurd HA.out (by simp [spec_Trim.j1])
  | succ kj1 =>
   have H := HA.out
   clear HA
   simp only [spec_Trim.j1] at H
   have H' := Aside0.mk H
   clear H
   go_wp2
   go_loopg [0] kj1 (fun kq v0 w' => ∃ (x0_2 : ByteArray), v0 = .string x0_2 ∧ Aside0 (spec_Trim.l1 kq x0_2 = some r) ∧ Aside0 (kq ≤ kj1) ∧ Drawn0 w w')
   case atStart => exact ⟨(x0_1), (by first | rfl | (simp; done) | (simp [*]; done)), H', ⟨Nat.le_refl _⟩, by repeat (first | exact Drawn0.refl _ | apply Drawn0.step)⟩
   case round =>
    clear H'
    try clear c1
    try clear p2
    try clear c3
    try clear c3b0
    try clear c3b1
    try clear c4
    try clear c4b0
    try clear c4b1
    try clear p5
    try clear q5
    try clear hx5
    try clear qi5
    try clear c7
    try clear c8
    try clear c8b0
    try clear c8b1
    try clear p2
    try clear p5
    try clear q5
    obtain ⟨x0_2, rfl, HA, HK2, ⟨m2, rfl⟩⟩ := hrel
    cases gk with
    | zero => exact absurd HA.out (by simp [spec_Trim.l1])
    | succ k2 =>
     have H := HA.out
     clear HA
     simp only [spec_Trim.l1] at H
     by_cases c9 : (x0_2.size : Int) > 0
     ·rw [if_pos c9] at H
      have c9b0 : decide (0 < (x0_2.size : Int)) = true := decide_eq_true c9
      have c9b1 : decide (0 < x0_2.size) = true := decide_eq_true (by omega)
      clear c9
      obtain ⟨ji10, hji10⟩ : ∃ j_ : Int, (wrap64 ((x0_2.size : Int) - 1)) = j_ := ⟨_, rfl⟩
      replace H : (if 0 ≤ (ji10) then (if (ji10) < (x0_2.size : Int) then ((spec_l2Blank.f (bt x0_2 (ji10))).bind fun t102 => (if t102 = true then (if (ji10) ≤ (x0_2.size : Int) then (spec_Trim.l1 k2 (x0_2.extract 0 ((ji10) : Int).toNat)) else (none)) else (some x0_2))) else (none)) else (none)) = some r := by first | (rw [hji10] at H; exact H) | (simp only [hji10] at H ⊢; exact H)
      have hji10w : (IntKind.i64.wrap ((x0_2.size : Int) - 1)) = ji10 := (i64_w _).trans hji10
      by_cases c11 : 0 ≤ (ji10)
      ·rw [if_pos c11] at H
       have c11b0 : decide (0 ≤ (ji10)) = true := decide_eq_true c11
       clear c11
       by_cases c12 : (ji10) < (x0_2.size : Int)
       ·rw [if_pos c12] at H
        have c12b0 : decide ((ji10) < (x0_2.size : Int)) = true := decide_eq_true c12
        clear c12
        replace H := Option.bind_eq_some_iff.mp H
        obtain ⟨t102, A140, H⟩ := H
        try dsimp only at H
        have A14 := Aside0.mk A140
        clear A140
        by_cases c15 : t102 = true
        ·subst c15
         rw [if_pos rfl] at H
         have c16b0 := eq_true (of_decide_eq_true asm : 0 ≤ (ji10))
         by_cases c17 : (ji10) ≤ (x0_2.size : Int)
         ·rw [if_pos c17] at H
          have c17b0 := eq_true c17
          have c17b1 : decide ((ji10) ≤ (x0_2.size : Int)) = true := decide_eq_true c17
          clear c17
          have H' := Aside0.mk H
          clear H
          have p13 : 0 ≤ ((ji10) : Int) := of_decide_eq_true asm
          have q13 : (ji10) < (x0_2.size : Int) := of_decide_eq_true asm
          have hx13 := bt_at x0_2 (ji10)
          replace p13 := eq_true p13
          replace q13 := eq_true q13
          go_wp2_with (first | (go_at_call 153; (with_reducible refine (spec_l2Blank.calls (bt x0_2 (ji10)) true _ A14.out).mono ?_); rintro e w' ⟨rfl, ⟨nd, rfl⟩⟩))
          go_roundg k2
          case measure => have := HJ1.out; have := HK2.out; omega
          case rel => exact ⟨(x0_2.extract 0 ((ji10) : Int).toNat), (by first | rfl | (simp; done) | (simp only [← hji10] <;> (first | rfl | simp)) | (simp [*]; done)), H', ⟨by have := HJ1.out; have := HK2.out; omega⟩, by repeat (first | exact Drawn0.refl _ | apply Drawn0.step)⟩
         ·rw [if_neg c17] at H
          exact absurd H (by simp)
        ·replace c15 := Bool.eq_false_iff.mpr c15
         subst c15
         rw [if_neg (show ¬ (false = true) by decide)] at H
         obtain rfl := Option.some.inj H
         have p13 : 0 ≤ ((ji10) : Int) := of_decide_eq_true asm
         have q13 : (ji10) < (x0_2.size : Int) := of_decide_eq_true asm
         have hx13 := bt_at x0_2 (ji10)
         replace p13 := eq_true p13
         replace q13 := eq_true q13
         go_wp2_with (first | (go_at_call 153; (with_reducible refine (spec_l2Blank.calls (bt x0_2 (ji10)) false _ A14.out).mono ?_); rintro e w' ⟨rfl, ⟨nd, rfl⟩⟩))
         go_ret
         exact ⟨by first | rfl | (simp; done) | (simp only [← hji10] <;> (first | rfl | simp)) | (simp [*]; done) | (simp; generalize ByteArray.toList _ = L_; cases L_ <;> rfl), by repeat (first | exact Drawn0.refl _ | apply Drawn0.step)⟩
       ·rw [if_neg c12] at H
        exact absurd H (by simp)
      ·rw [if_neg c11] at H
       exact absurd H (by simp)
     ·rw [if_neg c9] at H
      have c9b0 : decide (0 < (x0_2.size : Int)) = false := decide_eq_false c9
      have c9b1 : decide (0 < x0_2.size) = false := decide_eq_false (by omega)
      clear c9
      obtain rfl := Option.some.inj H
      go_wp2
      go_ret
      exact ⟨by first | rfl | (simp; done) | (simp [*]; done) | (simp; generalize ByteArray.toList _ = L_; cases L_ <;> rfl), by repeat (first | exact Drawn0.refl _ | apply Drawn0.step)⟩

end Go.Proofs.YtjldfmkpdkhnnaaDoor.QL

namespace Go.Proofs.YtjldfmkpdkhnnaaDoor.QL
open Go.RowKit Go.Proofs.YtjldfmkpdkhnnaaDoorW.PrintWords Go.Proofs.YtjldfmkpdkhnnaaDoorW.PrintLast Go.Proofs.YtjldfmkpdkhnnaaDoorW.PrintMore Go.Proofs.YtjldfmkpdkhnnaaDoor.Aux Go.Proofs.YtjldfmkpdkhnnaaDoor.Dom Go.Proofs.YtjldfmkpdkhnnaaDoor.Ext Go.Proofs.YtjldfmkpdkhnnaaDoor.Glob
attribute [local go_sem] max2_int min2_int max_two min_two max_three min_three max_four min_four   -- for this text's walks alone

def spec_IsValueText.l0 : Nat → ByteArray → Int → Option (Bool)
 | 0, _, _ => none
 | k + 1, x0, x3 => if x3 < (x0.size : Int) then (if 0 ≤ x3 then (if (bt x0 x3) = 9 then (spec_IsValueText.l0 k x0 (wrap64 (x3 + 1))) else (if (bt x0 x3) < 32 then (some false) else (if (bt x0 x3) = 127 then (some false) else (spec_IsValueText.l0 k x0 (wrap64 (x3 + 1)))))) else (none)) else ((spec_Trim.f k x0).bind fun t101 => (some (t101.toList == x0.toList)))
def spec_IsValueText.f (k : Nat) (a0 : ByteArray) : Option (Bool) := spec_IsValueText.l0 k a0 0
theorem spec_IsValueText.mono_l : ∀ k, (∀ y0 y1, LeO (spec_IsValueText.l0 k y0 y1) (spec_IsValueText.l0 (k + 1) y0 y1))
 | 0 => fun _ _ r h => by simp [spec_IsValueText.l0] at h
 | k + 1 => by
  have ih0 := spec_IsValueText.mono_l k
  ·intro y0 y1
   unfold spec_IsValueText.l0
   repeat' first
   | (with_reducible exact ih0 _ _)
   | (with_reducible exact spec_Trim.mono _ _)
   | (with_reducible exact LeO.refl _)
   | (with_reducible exact LeO.none _)
   | (with_reducible refine LeO.ite ?_ ?_)
   | (with_reducible refine LeO.bind ?_ (fun _ => ?_))
   | exact ih0 _ _
   | exact spec_Trim.mono _ _
   | exact LeO.none _
   | refine LeO.ite ?_ ?_
   | refine LeO.bind ?_ (fun _ => ?_)
theorem spec_IsValueText.mono : ∀ a0 k, LeO (spec_IsValueText.f k a0) (spec_IsValueText.f (k + 1) a0) := by
 intro a0 k
 have ih0 := spec_IsValueText.mono_l k
 unfold spec_IsValueText.f
 repeat' first
   | (with_reducible exact ih0 _ _)
   | (with_reducible exact spec_Trim.mono _ _)
   | (with_reducible exact LeO.refl _)
   | (with_reducible exact LeO.none _)
   | (with_reducible refine LeO.ite ?_ ?_)
   | (with_reducible refine LeO.bind ?_ (fun _ => ?_))
   | exact ih0 _ _
   | exact spec_Trim.mono _ _
   | exact LeO.none _
   | refine LeO.ite ?_ ?_
   | refine LeO.bind ?_ (fun _ => ?_)
set_option maxHeartbeats 8000000 in
set_option maxRecDepth 100000 in
theorem spec_IsValueText.calls (k : Nat) (a0 : ByteArray) (r : Bool) (w : World) (h : spec_IsValueText.f k a0 = some r) :
  Calls Tryd.prog 117 #[.string a0] w fun e w' => e = .returned (.bool r) ∧ Drawn0 w w' := by
 have H : (spec_IsValueText.l0 k a0 0) = some r := h
 clear h
 have H' := Aside0.mk H
 clear H
 go_enter Tryd.func117, Tryd.ntmps117
 go_wp2
 go_loopg [3] k (fun kq v3 w' => ∃ (x3_1 : Int), v3 = .int .i64 x3_1 ∧ Aside0 (spec_IsValueText.l0 kq a0 x3_1 = some r) ∧ Aside0 (kq ≤ k) ∧ Drawn0 w w')
 case atStart => exact ⟨(0), (by first | rfl | (simp; done) | (simp [*]; done)), H', ⟨Nat.le_refl _⟩, by repeat (first | exact Drawn0.refl _ | apply Drawn0.step)⟩
 case round =>
  clear H'
  try clear c1
  obtain ⟨x3_1, rfl, HA, HK1, ⟨m1, rfl⟩⟩ := hrel
  cases gk with
  | zero => exact absurd HA.out (by simp [spec_IsValueText.l0])
  | succ k1 =>
   have H := HA.out
   clear HA
   simp only [spec_IsValueText.l0] at H
   by_cases c2 : x3_1 < (a0.size : Int)
   ·rw [if_pos c2] at H
    have c2b0 : decide (x3_1 < (a0.size : Int)) = true := decide_eq_true c2
    clear c2
    by_cases c3 : 0 ≤ x3_1
    ·rw [if_pos c3] at H
     have c3b0 : decide (0 ≤ x3_1) = true := decide_eq_true c3
     clear c3
     by_cases c5 : (bt a0 x3_1) = 9
     ·rw [if_pos c5] at H
      have c5b0 : ((bt a0 x3_1) == 9) = true := beq_iff_eq.mpr c5
      have c5b1 : ((bt a0 x3_1) != 9) = false := bne_eq_false_iff_eq.mpr c5
      clear c5
      have H' := Aside0.mk H
      clear H
      have p4 : 0 ≤ (x3_1 : Int) := of_decide_eq_true asm
      have q4 : x3_1 < (a0.size : Int) := of_decide_eq_true asm
      have hx4 := bt_at a0 x3_1
      replace p4 := eq_true p4
      replace q4 := eq_true q4
      go_wp2
      go_roundg k1
      case measure => have := HK1.out; omega
      case rel => exact ⟨(wrap64 (x3_1 + 1)), (by first | rfl | (simp; done) | (simp [*]; done)), H', ⟨by have := HK1.out; omega⟩, by repeat (first | exact Drawn0.refl _ | apply Drawn0.step)⟩
     ·rw [if_neg c5] at H
      have c5b0 : ((bt a0 x3_1) == 9) = false := beq_eq_false_iff_ne.mpr c5
      have c5b1 : ((bt a0 x3_1) != 9) = true := bne_iff_ne.mpr c5
      by_cases c7 : (bt a0 x3_1) < 32
      ·rw [if_pos c7] at H
       have c7b0 : decide ((bt a0 x3_1) < 32) = true := decide_eq_true c7
       clear c7
       obtain rfl := Option.some.inj H
       have p4 : 0 ≤ (x3_1 : Int) := of_decide_eq_true asm
       have q4 : x3_1 < (a0.size : Int) := of_decide_eq_true asm
       have hx4 := bt_at a0 x3_1
       replace p4 := eq_true p4
       replace q4 := eq_true q4
       have p6 : 0 ≤ (x3_1 : Int) := of_decide_eq_true asm
       have q6 : x3_1 < (a0.size : Int) := of_decide_eq_true asm
       have hx6 := bt_at a0 x3_1
       replace p6 := eq_true p6
       replace q6 := eq_true q6
       go_wp2
       go_ret
       exact ⟨by first | rfl | (simp; done) | (simp [*]; done) | (simp; generalize ByteArray.toList _ = L_; cases L_ <;> rfl), by repeat (first | exact Drawn0.refl _ | apply Drawn0.step)⟩
      ·rw [if_neg c7] at H
       have c7b0 : decide ((bt a0 x3_1) < 32) = false := decide_eq_false c7
       clear c7
       by_cases c9 : (bt a0 x3_1) = 127
       ·rw [if_pos c9] at H
        have c9b0 : ((bt a0 x3_1) == 127) = true := beq_iff_eq.mpr c9
        have c9b1 : ((bt a0 x3_1) != 127) = false := bne_eq_false_iff_eq.mpr c9
        clear c9
        obtain rfl := Option.some.inj H
        have p4 : 0 ≤ (x3_1 : Int) := of_decide_eq_true asm
        have q4 : x3_1 < (a0.size : Int) := of_decide_eq_true asm
        have hx4 := bt_at a0 x3_1
        replace p4 := eq_true p4
        replace q4 := eq_true q4
        have p6 : 0 ≤ (x3_1 : Int) := of_decide_eq_true asm
        have q6 : x3_1 < (a0.size : Int) := of_decide_eq_true asm
        have hx6 := bt_at a0 x3_1
        replace p6 := eq_true p6
        replace q6 := eq_true q6
        have p8 : 0 ≤ (x3_1 : Int) := of_decide_eq_true asm
        have q8 : x3_1 < (a0.size : Int) := of_decide_eq_true asm
        have hx8 := bt_at a0 x3_1
        replace p8 := eq_true p8
        replace q8 := eq_true q8
        go_wp2
        go_ret
        exact ⟨by first | rfl | (simp; done) | (simp [*]; done) | (simp; generalize ByteArray.toList _ = L_; cases L_ <;> rfl), by repeat (first | exact Drawn0.refl _ | apply Drawn0.step)⟩
       ·rw [if_neg c9] at H
        have c9b0 : ((bt a0 x3_1) == 127) = false := beq_eq_false_iff_ne.mpr c9
        have c9b1 : ((bt a0 x3_1) != 127) = true := bne_iff_ne.mpr c9
        have H' := Aside0.mk H
        clear H
        have p4 : 0 ≤ (x3_1 : Int) := of_decide_eq_true asm
        have q4 : x3_1 < (a0.size : Int) := of_decide_eq_true asm
        have hx4 := bt_at a0 x3_1
        replace p4 := eq_true p4
        replace q4 := eq_true q4
        have p6 : 0 ≤ (x3_1 : Int) := of_decide_eq_true asm
        have q6 : x3_1 < (a0.size : Int) := of_decide_eq_true asm
        have hx6 := bt_at a0 x3_1
        replace p6 := eq_true p6
        replace q6 := eq_true q6
        have p8 : 0 ≤ (x3_1 : Int) := of_decide_eq_true asm
        have q8 : x3_1 < (a0.size : Int) := of_decide_eq_true asm
        have hx8 := bt_at a0 x3_1
        replace p8 := eq_true p8
        replace q8 := eq_true q8
        go_wp2
        go_roundg k1
        case measure => have := HK1.out; omega
        case rel => exact ⟨(wrap64 (x3_1 + 1)), (by first | rfl | (simp; done) | (simp [*]; done)), H', ⟨by have := HK1.out; omega⟩, by repeat (first | exact Drawn0.refl _ | apply Drawn0.step)⟩
    ·rw [if_neg c3] at H
     exact absurd H (by simp)
   ·rw [if_neg c2] at H
    have c2b0 : decide (x3_1 < (a0.size : Int)) = false := decide_eq_false c2
    clear c2
    replace H := Option.bind_eq_some_iff.mp H
    obtain ⟨t101, A100, H⟩ := H
    try dsimp only at H
    have A10 := Aside0.mk A100
    clear A100
    obtain rfl := Option.some.inj H
    go_wp2_with (first | ((with_reducible refine gate_callee (f := 123) rfl ?_); refine goesL_ (some 27) rfl rfl Tryd.func123 (by kernel_rfl) rfl #[.string a0] rfl am ?_; (with_reducible refine (spec_Trim.calls k1 a0 t101 _ A10.out).mono ?_); rintro e w' ⟨rfl, ⟨nd, rfl⟩⟩; refine ⟨_, rfl, ?_⟩))
    go_ret
    exact ⟨by first | rfl | (simp; done) | (simp [*]; done) | (simp; generalize ByteArray.toList _ = L_; cases L_ <;> rfl), by repeat (first | exact Drawn0.refl _ | apply Drawn0.step)⟩

end Go.Proofs.YtjldfmkpdkhnnaaDoor.QL

namespace Go.Proofs.YtjldfmkpdkhnnaaDoor.QL
open Go.RowKit Go.Proofs.YtjldfmkpdkhnnaaDoorW.PrintWords Go.Proofs.YtjldfmkpdkhnnaaDoorW.PrintLast Go.Proofs.YtjldfmkpdkhnnaaDoorW.PrintMore Go.Proofs.YtjldfmkpdkhnnaaDoor.Aux Go.Proofs.YtjldfmkpdkhnnaaDoor.Dom Go.Proofs.YtjldfmkpdkhnnaaDoor.Ext Go.Proofs.YtjldfmkpdkhnnaaDoor.Glob
attribute [local go_sem] max2_int min2_int max_two min_two max_three min_three max_four min_four   -- for this text's walks alone

def spec_l3FieldOk.f (k : Nat) (a0_0 : ByteArray) (a0_1 : ByteArray) : Option (Bool) := (spec_IsTokenText.f k a0_0).bind fun t102 => (if t102 = true then ((spec_Lower.f a0_0).bind fun t103 => (if a0_0.toList = t103.toList then (if (a0_0.size : Int) ≤ 24 then ((spec_IsValueText.f k a0_1).bind fun t104 => (if t104 = true then (some (decide ((a0_1.size : Int) ≤ 60))) else (some false))) else (some false)) else (some false))) else (some false))
theorem spec_l3FieldOk.mono : ∀ a0 a1 k, LeO (spec_l3FieldOk.f k a0 a1) (spec_l3FieldOk.f (k + 1) a0 a1) := by
 intro a0 a1 k
 unfold spec_l3FieldOk.f
 repeat' first
   | (with_reducible exact spec_IsTokenText.mono _ _)
   | (with_reducible exact spec_IsValueText.mono _ _)
   | (with_reducible exact LeO.refl _)
   | (with_reducible exact LeO.none _)
   | (with_reducible refine LeO.ite ?_ ?_)
   | (with_reducible refine LeO.bind ?_ (fun _ => ?_))
   | exact spec_IsTokenText.mono _ _
   | exact spec_IsValueText.mono _ _
   | exact LeO.none _
   | refine LeO.ite ?_ ?_
   | refine LeO.bind ?_ (fun _ => ?_)
def spec_l3FieldOk.T1 : Bool × List (List Nat × List Nat) := (true, [([], []), ([0], [0]), ([1], [1]), ([2, 2], [2]), ([3], [3]), ([4, 3], [3, 4]), ([3], [3]), ([6, 3], [3, 6]), ([7, 3, 3], [3, 7]), ([5, 8, 3], [3, 5, 8]), ([3, 9], [3, 9]), ([10, 8], [10]), ([11], [11]), ([12, 11], [11, 12]), ([13, 11], [11, 13]), ([14, 11], [11, 14]), ([11, 15], [11, 15]), ([16, 11], [16]), ([17], [17]), ([18, 17], [17, 18]), ([19, 17, 17], [17, 19]), ([17, 20], [17, 20]), ([21, 20], [21]), ([22], [22]), ([23, 22], [22, 23]), ([24, 22], [22, 24]), ([25, 22], [22, 25]), ([22, 26], [22, 26]), ([27, 22, 0, 1, 2, 3, 4, 5, 6, 7, 8, 9, 10, 11, 12, 13, 14, 15, 16, 17, 18, 19, 20, 21, 22, 23, 24, 25, 26, 27], [27])])
def spec_l3FieldOk.B1 : List Nat := [0, 1, 3, 7, 15, 31, 15, 79, 207, 511, 1023, 2047, 4095, 8191, 16383, 32767, 65535, 131071, 262143, 524287, 1048575, 2097151, 4194303, 8388607, 16777215, 33554431, 67108863, 134217727, 268435455]
theorem spec_l3FieldOk.tab1 : rtab .any (opsOf Tryd.f79 1) = spec_l3FieldOk.T1 := by kernel_rfl
theorem spec_l3FieldOk.bits1 : waitsOk spec_l3FieldOk.T1.2 spec_l3FieldOk.B1 = true := by kernel_rfl
set_option maxHeartbeats 8000000 in
set_option maxRecDepth 100000 in
theorem spec_l3FieldOk.calls (k : Nat) (a0_0 : ByteArray) (a0_1 : ByteArray) (r : Bool) (w : World) (h : spec_l3FieldOk.f k a0_0 a0_1 = some r) :
  Calls Tryd.prog 79 #[.agg #[.string a0_0, .string a0_1]] w fun e w' => e = .returned (.bool r) ∧ Below w.heap.size w w' := by
 have hu49 := Tryd.underlying49
 have HB := Aside0.mk (Below.refl w.heap.size w)
 have H : ((spec_IsTokenText.f k a0_0).bind fun t102 => (if t102 = true then ((spec_Lower.f a0_0).bind fun t103 => (if a0_0.toList = t103.toList then (if (a0_0.size : Int) ≤ 24 then ((spec_IsValueText.f k a0_1).bind fun t104 => (if t104 = true then (some (decide ((a0_1.size : Int) ≤ 60))) else (some false))) else (some false)) else (some false))) else (some false))) = some r := h
 clear h
 replace H := Option.bind_eq_some_iff.mp H
 obtain ⟨t102, A20, H⟩ := H
 try dsimp only at H
 have A2 := Aside0.mk A20
 clear A20
 by_cases c3 : t102 = true
 ·subst c3
  rw [if_pos rfl] at H
  replace H := Option.bind_eq_some_iff.mp H
  obtain ⟨t103, A40, H⟩ := H
  try dsimp only at H
  have A4 := Aside0.mk A40
  clear A40
  by_cases c5 : a0_0.toList = t103.toList
  ·rw [if_pos c5] at H
   have c5b0 : (a0_0.toList == t103.toList) = true := beq_iff_eq.mpr c5
   have c5b1 : (a0_0.toList != t103.toList) = false := bne_eq_false_iff_eq.mpr c5
   clear c5
   by_cases c6 : (a0_0.size : Int) ≤ 24
   ·rw [if_pos c6] at H
    have c6b0 : decide ((a0_0.size : Int) ≤ 24) = true := decide_eq_true c6
    have c6b1 : decide (a0_0.size ≤ 24) = true := decide_eq_true (by omega)
    clear c6
    replace H := Option.bind_eq_some_iff.mp H
    obtain ⟨t104, A70, H⟩ := H
    try dsimp only at H
    have A7 := Aside0.mk A70
    clear A70
    by_cases c8 : t104 = true
    ·subst c8
     rw [if_pos rfl] at H
     obtain rfl := Option.some.inj H
     go_enter Tryd.func79, Tryd.ntmps79
     try go_wp2_with (first | ((with_reducible refine gate_dst (N := 1) rfl ?_); (try (refine gate_guard (by rfl) ?_; dsimp only)); refine box_event ?hg (N := 1) ?hd (cs := #[.string a0_0, .string a0_1]) (t := 49) ?hr ?_; (case hd => rfl); (case hg => rfl); (case hr => first | (go_simp; done) | (go_simp; rfl)); intro gb101 hg w9 hbox hb; have n0_ := Aside0.mk (below_step bq hb); have n1_ := Aside0.mk (hbox); have n2_ := Aside0.mk ((by rw [hg]; exact (below_size bq) : w.heap.size ≤ gb101)); have n3_ := Aside0.mk ((by rw [hg]; exact (below_size bq) : w.heap.size ≤ gb101)); clear HB; have HB := n0_; have BK101 := n1_; have GW101 := n2_; have GE101 := n3_; clear n0_ n1_ n2_ n3_; clear hb hbox hg))
     have n0_ := Aside0.mk (blk_drew BK101.out)
     have n1_ := Aside0.mk (below_drew1 HB.out)
     clear BK101
     clear HB
     have BK101 := n0_
     have HB := n1_
     clear n0_ n1_
     refine start_ (n := 29) (S := fun w' => w'.cell? ⟨gb101, 0, none⟩ = some (.string a0_0) ∧ w'.cell? ⟨gb101, 1, none⟩ = some (.string a0_1)) (ds := []) (Array.replicate 29 false) (by kernel_rfl) rfl rfl ⟨(blk_cell BK101.out 0).trans rfl, (blk_cell BK101.out 1).trans rfl⟩ (fun hHeld => ?_); refine with_tabW spec_l3FieldOk.tab1 spec_l3FieldOk.bits1 (fun HT_ HW_ => ?_)
     generalize w9.drew = w10 at BK101 HB hHeld ⊢
     refine pu 0 3 HT_ ?_
     refine tk 1 4 HT_ HW_ hHeld ?_ (hy := by rintro w' ⟨s0, s1⟩; go_simp; with_reducible rfl)
     refine on1 2 5 HT_ (fun K hK => ?_)
     refine goes_ Tryd.func95 (by kernel_rfl) rfl #[.string a0_0] (by rfl) rfl rfl am ?_
     with_reducible refine (spec_IsTokenText.calls k a0_0 true _ A2.out).mono ?_
     rintro e w' ⟨rfl, ⟨nd, rfl⟩⟩
     refine ⟨_, rfl, ?_⟩
     refine hK.out _ _ ⟨(blk_cell BK101.out 0).trans rfl, (blk_cell BK101.out 1).trans rfl⟩ (fun hHeld => ?_)
     clear hK K
     refine nrm 5 ?_
     refine pu 3 6 HT_ ?_
     refine pu 4 7 HT_ ?_
     refine pu 6 9 HT_ ?_
     refine tk 5 8 HT_ HW_ hHeld ?_ (hy := by rintro w' ⟨s0, s1⟩; go_simp; with_reducible rfl)
     refine tk 7 10 HT_ HW_ hHeld ?_ (hy := by rintro w' ⟨s0, s1⟩; go_simp; with_reducible rfl)
     refine on1 8 11 HT_ (fun K hK => ?_)
     refine goes_ Tryd.func96 (by kernel_rfl) rfl #[.string a0_0] (by rfl) rfl rfl am ?_
     with_reducible refine (spec_Lower.calls a0_0 t103 _ A4.out).mono ?_
     rintro e w11 ⟨rfl, hb⟩
     refine ⟨_, rfl, ?_⟩
     have n0_ := Aside0.mk (blk_below (g := gb101) (o := .cells #[.string a0_0, .string a0_1] 49 (0, 0)) (blq BK101.out) hb)
     have n1_ := Aside0.mk (below_step (bq1 GE101.out) hb)
     clear BK101
     clear HB
     have BK101 := n0_
     have HB := n1_
     clear n0_ n1_
     (try clear hb)
     (try clear hb2)
     (try clear hk)
     (try clear hi)
     refine hK.out _ _ ⟨(blk_cell BK101.out 0).trans rfl, (blk_cell BK101.out 1).trans rfl⟩ (fun hHeld => ?_)
     clear hK K
     refine nrm 11 ?_
     refine pu 9 12 HT_ ?_
     refine pu 10 13 HT_ ?_
     refine pu 11 14 HT_ ?_
     refine pu 12 15 HT_ ?_
     refine tk 13 16 HT_ HW_ hHeld ?_ (hy := by rintro w' ⟨s0, s1⟩; go_simp; with_reducible rfl)
     refine pu 14 17 HT_ ?_
     refine pu 15 18 HT_ ?_
     refine pu 16 19 HT_ ?_
     refine pu 17 20 HT_ ?_
     refine pu 18 21 HT_ ?_
     refine tk 19 22 HT_ HW_ hHeld ?_ (hy := by rintro w' ⟨s0, s1⟩; go_simp; with_reducible rfl)
     refine on1 20 23 HT_ (fun K hK => ?_)
     refine goes_ Tryd.func117 (by kernel_rfl) rfl #[.string a0_1] (by rfl) rfl rfl am ?_
     with_reducible refine (spec_IsValueText.calls k a0_1 true _ A7.out).mono ?_
     rintro e w' ⟨rfl, ⟨nd, rfl⟩⟩
     refine ⟨_, rfl, ?_⟩
     refine hK.out _ _ ⟨(blk_cell BK101.out 0).trans rfl, (blk_cell BK101.out 1).trans rfl⟩ (fun hHeld => ?_)
     clear hK K
     refine nrm 23 ?_
     refine pu 21 24 HT_ ?_
     refine pu 22 25 HT_ ?_
     refine pu 23 26 HT_ ?_
     refine tk 24 27 HT_ HW_ hHeld ?_ (hy := by rintro w' ⟨s0, s1⟩; go_simp; with_reducible rfl)
     refine pu 25 28 HT_ ?_
     refine pu 26 29 HT_ ?_
     refine pu 27 30 HT_ ?_
     refine pu 28 2 HT_ ?_
     refine done_ (done_of HT_.out (by kernel_rfl)) ?_
     try go_wp2
     go_ret
     exact ⟨by first | rfl | (simp [errW_none, errW_some] <;> rfl) | (simp [*, errW_none, errW_some] <;> rfl), by repeat (first | (with_reducible first | exact HB.out | apply below_alloc | apply pw_below_drewN | apply below_drew1 | refine below_set ?_ GE101.out) | exact HB.out)⟩
    ·replace c8 := Bool.eq_false_iff.mpr c8
     subst c8
     rw [if_neg (show ¬ (false = true) by decide)] at H
     obtain rfl := Option.some.inj H
     go_enter Tryd.func79, Tryd.ntmps79
     try go_wp2_with (first | ((with_reducible refine gate_dst (N := 1) rfl ?_); (try (refine gate_guard (by rfl) ?_; dsimp only)); refine box_event ?hg (N := 1) ?hd (cs := #[.string a0_0, .string a0_1]) (t := 49) ?hr ?_; (case hd => rfl); (case hg => rfl); (case hr => first | (go_simp; done) | (go_simp; rfl)); intro gb101 hg w12 hbox hb; have n0_ := Aside0.mk (below_step bq hb); have n1_ := Aside0.mk (hbox); have n2_ := Aside0.mk ((by rw [hg]; exact (below_size bq) : w.heap.size ≤ gb101)); have n3_ := Aside0.mk ((by rw [hg]; exact (below_size bq) : w.heap.size ≤ gb101)); clear HB; have HB := n0_; have BK101 := n1_; have GW101 := n2_; have GE101 := n3_; clear n0_ n1_ n2_ n3_; clear hb hbox hg))
     have n0_ := Aside0.mk (blk_drew BK101.out)
     have n1_ := Aside0.mk (below_drew1 HB.out)
     clear BK101
     clear HB
     have BK101 := n0_
     have HB := n1_
     clear n0_ n1_
     refine start_ (n := 29) (S := fun w' => w'.cell? ⟨gb101, 0, none⟩ = some (.string a0_0) ∧ w'.cell? ⟨gb101, 1, none⟩ = some (.string a0_1)) (ds := []) (Array.replicate 29 false) (by kernel_rfl) rfl rfl ⟨(blk_cell BK101.out 0).trans rfl, (blk_cell BK101.out 1).trans rfl⟩ (fun hHeld => ?_); refine with_tabW spec_l3FieldOk.tab1 spec_l3FieldOk.bits1 (fun HT_ HW_ => ?_)
     generalize w12.drew = w13 at BK101 HB hHeld ⊢
     refine pu 0 3 HT_ ?_
     refine tk 1 4 HT_ HW_ hHeld ?_ (hy := by rintro w' ⟨s0, s1⟩; go_simp; with_reducible rfl)
     refine on1 2 5 HT_ (fun K hK => ?_)
     refine goes_ Tryd.func95 (by kernel_rfl) rfl #[.string a0_0] (by rfl) rfl rfl am ?_
     with_reducible refine (spec_IsTokenText.calls k a0_0 true _ A2.out).mono ?_
     rintro e w' ⟨rfl, ⟨nd, rfl⟩⟩
     refine ⟨_, rfl, ?_⟩
     refine hK.out _ _ ⟨(blk_cell BK101.out 0).trans rfl, (blk_cell BK101.out 1).trans rfl⟩ (fun hHeld => ?_)
     clear hK K
     refine nrm 5 ?_
     refine pu 3 6 HT_ ?_
     refine pu 4 7 HT_ ?_
     refine pu 6 9 HT_ ?_
     refine tk 5 8 HT_ HW_ hHeld ?_ (hy := by rintro w' ⟨s0, s1⟩; go_simp; with_reducible rfl)
     refine tk 7 10 HT_ HW_ hHeld ?_ (hy := by rintro w' ⟨s0, s1⟩; go_simp; with_reducible rfl)
     refine on1 8 11 HT_ (fun K hK => ?_)
     refine goes_ Tryd.func96 (by kernel_rfl) rfl #[.string a0_0] (by rfl) rfl rfl am ?_
     with_reducible refine (spec_Lower.calls a0_0 t103 _ A4.out).mono ?_
     rintro e w14 ⟨rfl, hb⟩
     refine ⟨_, rfl, ?_⟩
     have n0_ := Aside0.mk (blk_below (g := gb101) (o := .cells #[.string a0_0, .string a0_1] 49 (0, 0)) (blq BK101.out) hb)
     have n1_ := Aside0.mk (below_step (bq1 GE101.out) hb)
     clear BK101
     clear HB
     have BK101 := n0_
     have HB := n1_
     clear n0_ n1_
     (try clear hb)
     (try clear hb2)
     (try clear hk)
     (try clear hi)
     refine hK.out _ _ ⟨(blk_cell BK101.out 0).trans rfl, (blk_cell BK101.out 1).trans rfl⟩ (fun hHeld => ?_)
     clear hK K
     refine nrm 11 ?_
     refine pu 9 12 HT_ ?_
     refine pu 10 13 HT_ ?_
     refine pu 11 14 HT_ ?_
     refine pu 12 15 HT_ ?_
     refine tk 13 16 HT_ HW_ hHeld ?_ (hy := by rintro w' ⟨s0, s1⟩; go_simp; with_reducible rfl)
     refine pu 14 17 HT_ ?_
     refine pu 15 18 HT_ ?_
     refine pu 16 19 HT_ ?_
     refine pu 17 20 HT_ ?_
     refine pu 18 21 HT_ ?_
     refine tk 19 22 HT_ HW_ hHeld ?_ (hy := by rintro w' ⟨s0, s1⟩; go_simp; with_reducible rfl)
     refine on1 20 23 HT_ (fun K hK => ?_)
     refine goes_ Tryd.func117 (by kernel_rfl) rfl #[.string a0_1] (by rfl) rfl rfl am ?_
     with_reducible refine (spec_IsValueText.calls k a0_1 false _ A7.out).mono ?_
     rintro e w' ⟨rfl, ⟨nd, rfl⟩⟩
     refine ⟨_, rfl, ?_⟩
     refine hK.out _ _ ⟨(blk_cell BK101.out 0).trans rfl, (blk_cell BK101.out 1).trans rfl⟩ (fun hHeld => ?_)
     clear hK K
     refine nrm 23 ?_
     refine pu 21 24 HT_ ?_
     refine pu 22 25 HT_ ?_
     refine pure_ (i := 23) (N := some 26) (v := undef) (a' := ?_) #[true, true, true, true, true, true, true, true, true, true, true, true, true, true, true, true, true, true, true, true, true, true, true, true, false, false, false, false, false] rfl rfl (any_of HT_.out (by kernel_rfl)) (fun _ _ _ h => h) (Or.inr ⟨by rfl, rfl⟩) ?_ ?_
     rotate_left
     ·simp only [Act.put, List.setIfInBounds_toArray, List.set_cons_zero, List.set_cons_succ, i64_w, i32_w]
      rfl
     refine pure_ (i := 24) (N := some 27) (v := undef) (a' := ?_) #[true, true, true, true, true, true, true, true, true, true, true, true, true, true, true, true, true, true, true, true, true, true, true, true, true, false, false, false, false] rfl rfl (any_of HT_.out (by kernel_rfl)) (fun _ _ _ h => h) (Or.inr ⟨by rfl, rfl⟩) ?_ ?_
     rotate_left
     ·simp only [Act.put, List.setIfInBounds_toArray, List.set_cons_zero, List.set_cons_succ, i64_w, i32_w]
      rfl
     refine pure_ (i := 25) (N := some 28) (v := undef) (a' := ?_) #[true, true, true, true, true, true, true, true, true, true, true, true, true, true, true, true, true, true, true, true, true, true, true, true, true, true, false, false, false] rfl rfl (any_of HT_.out (by kernel_rfl)) (fun _ _ _ h => h) (Or.inr ⟨by rfl, rfl⟩) ?_ ?_
     rotate_left
     ·simp only [Act.put, List.setIfInBounds_toArray, List.set_cons_zero, List.set_cons_succ, i64_w, i32_w]
      rfl
     refine pure_ (i := 26) (N := some 29) (v := undef) (a' := ?_) #[true, true, true, true, true, true, true, true, true, true, true, true, true, true, true, true, true, true, true, true, true, true, true, true, true, true, true, false, false] rfl rfl (any_of HT_.out (by kernel_rfl)) (fun _ _ _ h => h) (Or.inr ⟨by rfl, rfl⟩) ?_ ?_
     rotate_left
     ·simp only [Act.put, List.setIfInBounds_toArray, List.set_cons_zero, List.set_cons_succ, i64_w, i32_w]
      rfl
     refine pu 27 30 HT_ ?_
     refine pu 28 2 HT_ ?_
     refine done_ (done_of HT_.out (by kernel_rfl)) ?_
     try go_wp2
     go_ret
     exact ⟨by first | rfl | (simp [errW_none, errW_some] <;> rfl) | (simp [*, errW_none, errW_some] <;> rfl), by repeat (first | (with_reducible first | exact HB.out | apply below_alloc | apply pw_below_drewN | apply below_drew1 | refine below_set ?_ GE101.out) | exact HB.out)⟩
   ·rw [if_neg c6] at H
    have c6b0 : decide ((a0_0.size : Int) ≤ 24) = false := decide_eq_false c6
    have c6b1 : decide (a0_0.size ≤ 24) = false := decide_eq_false (by omega)
    clear c6
    obtain rfl := Option.some.inj H
    go_enter Tryd.func79, Tryd.ntmps79
    try go_wp2_with (first | ((with_reducible refine gate_dst (N := 1) rfl ?_); (try (refine gate_guard (by rfl) ?_; dsimp only)); refine box_event ?hg (N := 1) ?hd (cs := #[.string a0_0, .string a0_1]) (t := 49) ?hr ?_; (case hd => rfl); (case hg => rfl); (case hr => first | (go_simp; done) | (go_simp; rfl)); intro gb101 hg w15 hbox hb; have n0_ := Aside0.mk (below_step bq hb); have n1_ := Aside0.mk (hbox); have n2_ := Aside0.mk ((by rw [hg]; exact (below_size bq) : w.heap.size ≤ gb101)); have n3_ := Aside0.mk ((by rw [hg]; exact (below_size bq) : w.heap.size ≤ gb101)); clear HB; have HB := n0_; have BK101 := n1_; have GW101 := n2_; have GE101 := n3_; clear n0_ n1_ n2_ n3_; clear hb hbox hg))
    have n0_ := Aside0.mk (blk_drew BK101.out)
    have n1_ := Aside0.mk (below_drew1 HB.out)
    clear BK101
    clear HB
    have BK101 := n0_
    have HB := n1_
    clear n0_ n1_
    refine start_ (n := 29) (S := fun w' => w'.cell? ⟨gb101, 0, none⟩ = some (.string a0_0) ∧ w'.cell? ⟨gb101, 1, none⟩ = some (.string a0_1)) (ds := []) (Array.replicate 29 false) (by kernel_rfl) rfl rfl ⟨(blk_cell BK101.out 0).trans rfl, (blk_cell BK101.out 1).trans rfl⟩ (fun hHeld => ?_); refine with_tabW spec_l3FieldOk.tab1 spec_l3FieldOk.bits1 (fun HT_ HW_ => ?_)
    generalize w15.drew = w16 at BK101 HB hHeld ⊢
    refine pu 0 3 HT_ ?_
    refine tk 1 4 HT_ HW_ hHeld ?_ (hy := by rintro w' ⟨s0, s1⟩; go_simp; with_reducible rfl)
    refine on1 2 5 HT_ (fun K hK => ?_)
    refine goes_ Tryd.func95 (by kernel_rfl) rfl #[.string a0_0] (by rfl) rfl rfl am ?_
    with_reducible refine (spec_IsTokenText.calls k a0_0 true _ A2.out).mono ?_
    rintro e w' ⟨rfl, ⟨nd, rfl⟩⟩
    refine ⟨_, rfl, ?_⟩
    refine hK.out _ _ ⟨(blk_cell BK101.out 0).trans rfl, (blk_cell BK101.out 1).trans rfl⟩ (fun hHeld => ?_)
    clear hK K
    refine nrm 5 ?_
    refine pu 3 6 HT_ ?_
    refine pu 4 7 HT_ ?_
    refine pu 6 9 HT_ ?_
    refine tk 5 8 HT_ HW_ hHeld ?_ (hy := by rintro w' ⟨s0, s1⟩; go_simp; with_reducible rfl)
    refine tk 7 10 HT_ HW_ hHeld ?_ (hy := by rintro w' ⟨s0, s1⟩; go_simp; with_reducible rfl)
    refine on1 8 11 HT_ (fun K hK => ?_)
    refine goes_ Tryd.func96 (by kernel_rfl) rfl #[.string a0_0] (by rfl) rfl rfl am ?_
    with_reducible refine (spec_Lower.calls a0_0 t103 _ A4.out).mono ?_
    rintro e w17 ⟨rfl, hb⟩
    refine ⟨_, rfl, ?_⟩
    have n0_ := Aside0.mk (blk_below (g := gb101) (o := .cells #[.string a0_0, .string a0_1] 49 (0, 0)) (blq BK101.out) hb)
    have n1_ := Aside0.mk (below_step (bq1 GE101.out) hb)
    clear BK101
    clear HB
    have BK101 := n0_
    have HB := n1_
    clear n0_ n1_
    (try clear hb)
    (try clear hb2)
    (try clear hk)
    (try clear hi)
    refine hK.out _ _ ⟨(blk_cell BK101.out 0).trans rfl, (blk_cell BK101.out 1).trans rfl⟩ (fun hHeld => ?_)
    clear hK K
    refine nrm 11 ?_
    refine pu 9 12 HT_ ?_
    refine pu 10 13 HT_ ?_
    refine pu 11 14 HT_ ?_
    refine pu 12 15 HT_ ?_
    refine tk 13 16 HT_ HW_ hHeld ?_ (hy := by rintro w' ⟨s0, s1⟩; go_simp; with_reducible rfl)
    refine pu 14 17 HT_ ?_
    refine pu 15 18 HT_ ?_
    refine pu 16 19 HT_ ?_
    refine pu 17 20 HT_ ?_
    refine pure_ (i := 18) (N := some 21) (v := undef) (a' := ?_) #[true, true, true, true, true, true, true, true, true, true, true, true, true, true, true, true, true, true, true, false, false, false, false, false, false, false, false, false, false] rfl rfl (any_of HT_.out (by kernel_rfl)) (fun _ _ _ h => h) (Or.inr ⟨by rfl, rfl⟩) ?_ ?_
    rotate_left
    ·simp only [Act.put, List.setIfInBounds_toArray, List.set_cons_zero, List.set_cons_succ, i64_w, i32_w]
     rfl
    refine pure_ (i := 19) (N := some 22) (v := undef) (a' := ?_) #[true, true, true, true, true, true, true, true, true, true, true, true, true, true, true, true, true, true, true, true, false, false, false, false, false, false, false, false, false] rfl rfl (any_of HT_.out (by kernel_rfl)) (fun _ _ _ h => h) (Or.inr ⟨by rfl, rfl⟩) ?_ ?_
    rotate_left
    ·simp only [Act.put, List.setIfInBounds_toArray, List.set_cons_zero, List.set_cons_succ, i64_w, i32_w]
     rfl
    refine pure_ (i := 20) (N := some 23) (v := undef) (a' := ?_) #[true, true, true, true, true, true, true, true, true, true, true, true, true, true, true, true, true, true, true, true, true, false, false, false, false, false, false, false, false] rfl rfl (any_of HT_.out (by kernel_rfl)) (fun _ _ _ h => h) (Or.inr ⟨by rfl, rfl⟩) ?_ ?_
    rotate_left
    ·simp only [Act.put, List.setIfInBounds_toArray, List.set_cons_zero, List.set_cons_succ, i64_w, i32_w]
     rfl
    refine pu 21 24 HT_ ?_
    refine pu 22 25 HT_ ?_
    refine pure_ (i := 23) (N := some 26) (v := undef) (a' := ?_) #[true, true, true, true, true, true, true, true, true, true, true, true, true, true, true, true, true, true, true, true, true, true, true, true, false, false, false, false, false] rfl rfl (any_of HT_.out (by kernel_rfl)) (fun _ _ _ h => h) (Or.inr ⟨by rfl, rfl⟩) ?_ ?_
    rotate_left
    ·simp only [Act.put, List.setIfInBounds_toArray, List.set_cons_zero, List.set_cons_succ, i64_w, i32_w]
     rfl
    refine pure_ (i := 24) (N := some 27) (v := undef) (a' := ?_) #[true, true, true, true, true, true, true, true, true, true, true, true, true, true, true, true, true, true, true, true, true, true, true, true, true, false, false, false, false] rfl rfl (any_of HT_.out (by kernel_rfl)) (fun _ _ _ h => h) (Or.inr ⟨by rfl, rfl⟩) ?_ ?_
    rotate_left
    ·simp only [Act.put, List.setIfInBounds_toArray, List.set_cons_zero, List.set_cons_succ, i64_w, i32_w]
     rfl
    refine pure_ (i := 25) (N := some 28) (v := undef) (a' := ?_) #[true, true, true, true, true, true, true, true, true, true, true, true, true, true, true, true, true, true, true, true, true, true, true, true, true, true, false, false, false] rfl rfl (any_of HT_.out (by kernel_rfl)) (fun _ _ _ h => h) (Or.inr ⟨by rfl, rfl⟩) ?_ ?_
    rotate_left
    ·simp only [Act.put, List.setIfInBounds_toArray, List.set_cons_zero, List.set_cons_succ, i64_w, i32_w]
     rfl
    refine pure_ (i := 26) (N := some 29) (v := undef) (a' := ?_) #[true, true, true, true, true, true, true, true, true, true, true, true, true, true, true, true, true, true, true, true, true, true, true, true, true, true, true, false, false] rfl rfl (any_of HT_.out (by kernel_rfl)) (fun _ _ _ h => h) (Or.inr ⟨by rfl, rfl⟩) ?_ ?_
    rotate_left
    ·simp only [Act.put, List.setIfInBounds_toArray, List.set_cons_zero, List.set_cons_succ, i64_w, i32_w]
     rfl
    refine pu 27 30 HT_ ?_
    refine pu 28 2 HT_ ?_
    refine done_ (done_of HT_.out (by kernel_rfl)) ?_
    try go_wp2
    go_ret
    exact ⟨by first | rfl | (simp [errW_none, errW_some] <;> rfl) | (simp [*, errW_none, errW_some] <;> rfl), by repeat (first | (with_reducible first | exact HB.out | apply below_alloc | apply pw_below_drewN | apply below_drew1 | refine below_set ?_ GE101.out) | exact HB.out)⟩
  ·rw [if_neg c5] at H
   have c5b0 : (a0_0.toList == t103.toList) = false := beq_eq_false_iff_ne.mpr c5
   have c5b1 : (a0_0.toList != t103.toList) = true := bne_iff_ne.mpr c5
   obtain rfl := Option.some.inj H
   go_enter Tryd.func79, Tryd.ntmps79
   try go_wp2_with (first | ((with_reducible refine gate_dst (N := 1) rfl ?_); (try (refine gate_guard (by rfl) ?_; dsimp only)); refine box_event ?hg (N := 1) ?hd (cs := #[.string a0_0, .string a0_1]) (t := 49) ?hr ?_; (case hd => rfl); (case hg => rfl); (case hr => first | (go_simp; done) | (go_simp; rfl)); intro gb101 hg w18 hbox hb; have n0_ := Aside0.mk (below_step bq hb); have n1_ := Aside0.mk (hbox); have n2_ := Aside0.mk ((by rw [hg]; exact (below_size bq) : w.heap.size ≤ gb101)); have n3_ := Aside0.mk ((by rw [hg]; exact (below_size bq) : w.heap.size ≤ gb101)); clear HB; have HB := n0_; have BK101 := n1_; have GW101 := n2_; have GE101 := n3_; clear n0_ n1_ n2_ n3_; clear hb hbox hg))
   have n0_ := Aside0.mk (blk_drew BK101.out)
   have n1_ := Aside0.mk (below_drew1 HB.out)
   clear BK101
   clear HB
   have BK101 := n0_
   have HB := n1_
   clear n0_ n1_
   refine start_ (n := 29) (S := fun w' => w'.cell? ⟨gb101, 0, none⟩ = some (.string a0_0) ∧ w'.cell? ⟨gb101, 1, none⟩ = some (.string a0_1)) (ds := []) (Array.replicate 29 false) (by kernel_rfl) rfl rfl ⟨(blk_cell BK101.out 0).trans rfl, (blk_cell BK101.out 1).trans rfl⟩ (fun hHeld => ?_); refine with_tabW spec_l3FieldOk.tab1 spec_l3FieldOk.bits1 (fun HT_ HW_ => ?_)
   generalize w18.drew = w19 at BK101 HB hHeld ⊢
   refine pu 0 3 HT_ ?_
   refine tk 1 4 HT_ HW_ hHeld ?_ (hy := by rintro w' ⟨s0, s1⟩; go_simp; with_reducible rfl)
   refine on1 2 5 HT_ (fun K hK => ?_)
   refine goes_ Tryd.func95 (by kernel_rfl) rfl #[.string a0_0] (by rfl) rfl rfl am ?_
   with_reducible refine (spec_IsTokenText.calls k a0_0 true _ A2.out).mono ?_
   rintro e w' ⟨rfl, ⟨nd, rfl⟩⟩
   refine ⟨_, rfl, ?_⟩
   refine hK.out _ _ ⟨(blk_cell BK101.out 0).trans rfl, (blk_cell BK101.out 1).trans rfl⟩ (fun hHeld => ?_)
   clear hK K
   refine nrm 5 ?_
   refine pu 3 6 HT_ ?_
   refine pu 4 7 HT_ ?_
   refine pu 6 9 HT_ ?_
   refine tk 5 8 HT_ HW_ hHeld ?_ (hy := by rintro w' ⟨s0, s1⟩; go_simp; with_reducible rfl)
   refine tk 7 10 HT_ HW_ hHeld ?_ (hy := by rintro w' ⟨s0, s1⟩; go_simp; with_reducible rfl)
   refine on1 8 11 HT_ (fun K hK => ?_)
   refine goes_ Tryd.func96 (by kernel_rfl) rfl #[.string a0_0] (by rfl) rfl rfl am ?_
   with_reducible refine (spec_Lower.calls a0_0 t103 _ A4.out).mono ?_
   rintro e w20 ⟨rfl, hb⟩
   refine ⟨_, rfl, ?_⟩
   have n0_ := Aside0.mk (blk_below (g := gb101) (o := .cells #[.string a0_0, .string a0_1] 49 (0, 0)) (blq BK101.out) hb)
   have n1_ := Aside0.mk (below_step (bq1 GE101.out) hb)
   clear BK101
   clear HB
   have BK101 := n0_
   have HB := n1_
   clear n0_ n1_
   (try clear hb)
   (try clear hb2)
   (try clear hk)
   (try clear hi)
   refine hK.out _ _ ⟨(blk_cell BK101.out 0).trans rfl, (blk_cell BK101.out 1).trans rfl⟩ (fun hHeld => ?_)
   clear hK K
   refine nrm 11 ?_
   refine pu 9 12 HT_ ?_
   refine pu 10 13 HT_ ?_
   refine pu 11 14 HT_ ?_
   refine pure_ (i := 12) (N := some 15) (v := undef) (a' := ?_) #[true, true, true, true, true, true, true, true, true, true, true, true, true, false, false, false, false, false, false, false, false, false, false, false, false, false, false, false, false] rfl rfl (any_of HT_.out (by kernel_rfl)) (fun _ _ _ h => h) (Or.inr ⟨by rfl, rfl⟩) ?_ ?_
   rotate_left
   ·simp only [Act.put, List.setIfInBounds_toArray, List.set_cons_zero, List.set_cons_succ, i64_w, i32_w]
    rfl
   refine pure_ (i := 13) (N := some 16) (v := undef) (a' := ?_) #[true, true, true, true, true, true, true, true, true, true, true, true, true, true, false, false, false, false, false, false, false, false, false, false, false, false, false, false, false] rfl rfl (any_of HT_.out (by kernel_rfl)) (fun _ _ _ h => h) (Or.inr ⟨by rfl, rfl⟩) ?_ ?_
   rotate_left
   ·simp only [Act.put, List.setIfInBounds_toArray, List.set_cons_zero, List.set_cons_succ, i64_w, i32_w]
    rfl
   refine pure_ (i := 14) (N := some 17) (v := undef) (a' := ?_) #[true, true, true, true, true, true, true, true, true, true, true, true, true, true, true, false, false, false, false, false, false, false, false, false, false, false, false, false, false] rfl rfl (any_of HT_.out (by kernel_rfl)) (fun _ _ _ h => h) (Or.inr ⟨by rfl, rfl⟩) ?_ ?_
   rotate_left
   ·simp only [Act.put, List.setIfInBounds_toArray, List.set_cons_zero, List.set_cons_succ, i64_w, i32_w]
    rfl
   refine pure_ (i := 15) (N := some 18) (v := undef) (a' := ?_) #[true, true, true, true, true, true, true, true, true, true, true, true, true, true, true, true, false, false, false, false, false, false, false, false, false, false, false, false, false] rfl rfl (any_of HT_.out (by kernel_rfl)) (fun _ _ _ h => h) (Or.inr ⟨by rfl, rfl⟩) ?_ ?_
   rotate_left
   ·simp only [Act.put, List.setIfInBounds_toArray, List.set_cons_zero, List.set_cons_succ, i64_w, i32_w]
    rfl
   refine pu 16 19 HT_ ?_
   refine pu 17 20 HT_ ?_
   refine pure_ (i := 18) (N := some 21) (v := undef) (a' := ?_) #[true, true, true, true, true, true, true, true, true, true, true, true, true, true, true, true, true, true, true, false, false, false, false, false, false, false, false, false, false] rfl rfl (any_of HT_.out (by kernel_rfl)) (fun _ _ _ h => h) (Or.inr ⟨by rfl, rfl⟩) ?_ ?_
   rotate_left
   ·simp only [Act.put, List.setIfInBounds_toArray, List.set_cons_zero, List.set_cons_succ, i64_w, i32_w]
    rfl
   refine pure_ (i := 19) (N := some 22) (v := undef) (a' := ?_) #[true, true, true, true, true, true, true, true, true, true, true, true, true, true, true, true, true, true, true, true, false, false, false, false, false, false, false, false, false] rfl rfl (any_of HT_.out (by kernel_rfl)) (fun _ _ _ h => h) (Or.inr ⟨by rfl, rfl⟩) ?_ ?_
   rotate_left
   ·simp only [Act.put, List.setIfInBounds_toArray, List.set_cons_zero, List.set_cons_succ, i64_w, i32_w]
    rfl
   refine pure_ (i := 20) (N := some 23) (v := undef) (a' := ?_) #[true, true, true, true, true, true, true, true, true, true, true, true, true, true, true, true, true, true, true, true, true, false, false, false, false, false, false, false, false] rfl rfl (any_of HT_.out (by kernel_rfl)) (fun _ _ _ h => h) (Or.inr ⟨by rfl, rfl⟩) ?_ ?_
   rotate_left
   ·simp only [Act.put, List.setIfInBounds_toArray, List.set_cons_zero, List.set_cons_succ, i64_w, i32_w]
    rfl
   refine pu 21 24 HT_ ?_
   refine pu 22 25 HT_ ?_
   refine pure_ (i := 23) (N := some 26) (v := undef) (a' := ?_) #[true, true, true, true, true, true, true, true, true, true, true, true, true, true, true, true, true, true, true, true, true, true, true, true, false, false, false, false, false] rfl rfl (any_of HT_.out (by kernel_rfl)) (fun _ _ _ h => h) (Or.inr ⟨by rfl, rfl⟩) ?_ ?_
   rotate_left
   ·simp only [Act.put, List.setIfInBounds_toArray, List.set_cons_zero, List.set_cons_succ, i64_w, i32_w]
    rfl
   refine pure_ (i := 24) (N := some 27) (v := undef) (a' := ?_) #[true, true, true, true, true, true, true, true, true, true, true, true, true, true, true, true, true, true, true, true, true, true, true, true, true, false, false, false, false] rfl rfl (any_of HT_.out (by kernel_rfl)) (fun _ _ _ h => h) (Or.inr ⟨by rfl, rfl⟩) ?_ ?_
   rotate_left
   ·simp only [Act.put, List.setIfInBounds_toArray, List.set_cons_zero, List.set_cons_succ, i64_w, i32_w]
    rfl
   refine pure_ (i := 25) (N := some 28) (v := undef) (a' := ?_) #[true, true, true, true, true, true, true, true, true, true, true, true, true, true, true, true, true, true, true, true, true, true, true, true, true, true, false, false, false] rfl rfl (any_of HT_.out (by kernel_rfl)) (fun _ _ _ h => h) (Or.inr ⟨by rfl, rfl⟩) ?_ ?_
   rotate_left
   ·simp only [Act.put, List.setIfInBounds_toArray, List.set_cons_zero, List.set_cons_succ, i64_w, i32_w]
    rfl
   refine pure_ (i := 26) (N := some 29) (v := undef) (a' := ?_) #[true, true, true, true, true, true, true, true, true, true, true, true, true, true, true, true, true, true, true, true, true, true, true, true, true, true, true, false, false] rfl rfl (any_of HT_.out (by kernel_rfl)) (fun _ _ _ h => h) (Or.inr ⟨by rfl, rfl⟩) ?_ ?_
   rotate_left
   ·simp only [Act.put, List.setIfInBounds_toArray, List.set_cons_zero, List.set_cons_succ, i64_w, i32_w]
    rfl
   refine pu 27 30 HT_ ?_
   refine pu 28 2 HT_ ?_
   refine done_ (done_of HT_.out (by kernel_rfl)) ?_
   try go_wp2
   go_ret
   exact ⟨by first | rfl | (simp [errW_none, errW_some] <;> rfl) | (simp [*, errW_none, errW_some] <;> rfl), by repeat (first | (with_reducible first | exact HB.out | apply below_alloc | apply pw_below_drewN | apply below_drew1 | refine below_set ?_ GE101.out) | exact HB.out)⟩
 ·replace c3 := Bool.eq_false_iff.mpr c3
  subst c3
  rw [if_neg (show ¬ (false = true) by decide)] at H
  obtain rfl := Option.some.inj H
  go_enter Tryd.func79, Tryd.ntmps79
  try go_wp2_with (first | ((with_reducible refine gate_dst (N := 1) rfl ?_); (try (refine gate_guard (by rfl) ?_; dsimp only)); refine box_event ?hg (N := 1) ?hd (cs := #[.string a0_0, .string a0_1]) (t := 49) ?hr ?_; (case hd => rfl); (case hg => rfl); (case hr => first | (go_simp; done) | (go_simp; rfl)); intro gb101 hg w21 hbox hb; have n0_ := Aside0.mk (below_step bq hb); have n1_ := Aside0.mk (hbox); have n2_ := Aside0.mk ((by rw [hg]; exact (below_size bq) : w.heap.size ≤ gb101)); have n3_ := Aside0.mk ((by rw [hg]; exact (below_size bq) : w.heap.size ≤ gb101)); clear HB; have HB := n0_; have BK101 := n1_; have GW101 := n2_; have GE101 := n3_; clear n0_ n1_ n2_ n3_; clear hb hbox hg))
  have n0_ := Aside0.mk (blk_drew BK101.out)
  have n1_ := Aside0.mk (below_drew1 HB.out)
  clear BK101
  clear HB
  have BK101 := n0_
  have HB := n1_
  clear n0_ n1_
  refine start_ (n := 29) (S := fun w' => w'.cell? ⟨gb101, 0, none⟩ = some (.string a0_0) ∧ w'.cell? ⟨gb101, 1, none⟩ = some (.string a0_1)) (ds := []) (Array.replicate 29 false) (by kernel_rfl) rfl rfl ⟨(blk_cell BK101.out 0).trans rfl, (blk_cell BK101.out 1).trans rfl⟩ (fun hHeld => ?_); refine with_tabW spec_l3FieldOk.tab1 spec_l3FieldOk.bits1 (fun HT_ HW_ => ?_)
  generalize w21.drew = w22 at BK101 HB hHeld ⊢
  refine pu 0 3 HT_ ?_
  refine tk 1 4 HT_ HW_ hHeld ?_ (hy := by rintro w' ⟨s0, s1⟩; go_simp; with_reducible rfl)
  refine on1 2 5 HT_ (fun K hK => ?_)
  refine goes_ Tryd.func95 (by kernel_rfl) rfl #[.string a0_0] (by rfl) rfl rfl am ?_
  with_reducible refine (spec_IsTokenText.calls k a0_0 false _ A2.out).mono ?_
  rintro e w' ⟨rfl, ⟨nd, rfl⟩⟩
  refine ⟨_, rfl, ?_⟩
  refine hK.out _ _ ⟨(blk_cell BK101.out 0).trans rfl, (blk_cell BK101.out 1).trans rfl⟩ (fun hHeld => ?_)
  clear hK K
  refine nrm 5 ?_
  refine pu 3 6 HT_ ?_
  refine pure_ (i := 4) (N := some 7) (v := undef) (a' := ?_) #[true, true, true, true, true, false, false, false, false, false, false, false, false, false, false, false, false, false, false, false, false, false, false, false, false, false, false, false, false] rfl rfl (any_of HT_.out (by kernel_rfl)) (fun _ _ _ h => h) (Or.inr ⟨by rfl, rfl⟩) ?_ ?_
  rotate_left
  ·simp only [Act.put, List.setIfInBounds_toArray, List.set_cons_zero, List.set_cons_succ, i64_w, i32_w]
   rfl
  refine pure_ (i := 5) (N := some 8) (v := undef) (a' := ?_) #[true, true, true, true, true, true, false, false, false, false, false, false, false, false, false, false, false, false, false, false, false, false, false, false, false, false, false, false, false] rfl rfl (any_of HT_.out (by kernel_rfl)) (fun _ _ _ h => h) (Or.inr ⟨by rfl, rfl⟩) ?_ ?_
  rotate_left
  ·simp only [Act.put, List.setIfInBounds_toArray, List.set_cons_zero, List.set_cons_succ, i64_w, i32_w]
   rfl
  refine pure_ (i := 6) (N := some 9) (v := undef) (a' := ?_) #[true, true, true, true, true, true, true, false, false, false, false, false, false, false, false, false, false, false, false, false, false, false, false, false, false, false, false, false, false] rfl rfl (any_of HT_.out (by kernel_rfl)) (fun _ _ _ h => h) (Or.inr ⟨by rfl, rfl⟩) ?_ ?_
  rotate_left
  ·simp only [Act.put, List.setIfInBounds_toArray, List.set_cons_zero, List.set_cons_succ, i64_w, i32_w]
   rfl
  refine pure_ (i := 7) (N := some 10) (v := undef) (a' := ?_) #[true, true, true, true, true, true, true, true, false, false, false, false, false, false, false, false, false, false, false, false, false, false, false, false, false, false, false, false, false] rfl rfl (any_of HT_.out (by kernel_rfl)) (fun _ _ _ h => h) (Or.inr ⟨by rfl, rfl⟩) ?_ ?_
  rotate_left
  ·simp only [Act.put, List.setIfInBounds_toArray, List.set_cons_zero, List.set_cons_succ, i64_w, i32_w]
   rfl
  refine pure_ (i := 8) (N := some 11) (v := undef) (a' := ?_) #[true, true, true, true, true, true, true, true, true, false, false, false, false, false, false, false, false, false, false, false, false, false, false, false, false, false, false, false, false] rfl rfl (any_of HT_.out (by kernel_rfl)) (fun _ _ _ h => h) (Or.inr ⟨by rfl, rfl⟩) ?_ ?_
  rotate_left
  ·simp only [Act.put, List.setIfInBounds_toArray, List.set_cons_zero, List.set_cons_succ, i64_w, i32_w]
   rfl
  refine pure_ (i := 9) (N := some 12) (v := undef) (a' := ?_) #[true, true, true, true, true, true, true, true, true, true, false, false, false, false, false, false, false, false, false, false, false, false, false, false, false, false, false, false, false] rfl rfl (any_of HT_.out (by kernel_rfl)) (fun _ _ _ h => h) (Or.inr ⟨by rfl, rfl⟩) ?_ ?_
  rotate_left
  ·simp only [Act.put, List.setIfInBounds_toArray, List.set_cons_zero, List.set_cons_succ, i64_w, i32_w]
   rfl
  refine pu 10 13 HT_ ?_
  refine pu 11 14 HT_ ?_
  refine pure_ (i := 12) (N := some 15) (v := undef) (a' := ?_) #[true, true, true, true, true, true, true, true, true, true, true, true, true, false, false, false, false, false, false, false, false, false, false, false, false, false, false, false, false] rfl rfl (any_of HT_.out (by kernel_rfl)) (fun _ _ _ h => h) (Or.inr ⟨by rfl, rfl⟩) ?_ ?_
  rotate_left
  ·simp only [Act.put, List.setIfInBounds_toArray, List.set_cons_zero, List.set_cons_succ, i64_w, i32_w]
   rfl
  refine pure_ (i := 13) (N := some 16) (v := undef) (a' := ?_) #[true, true, true, true, true, true, true, true, true, true, true, true, true, true, false, false, false, false, false, false, false, false, false, false, false, false, false, false, false] rfl rfl (any_of HT_.out (by kernel_rfl)) (fun _ _ _ h => h) (Or.inr ⟨by rfl, rfl⟩) ?_ ?_
  rotate_left
  ·simp only [Act.put, List.setIfInBounds_toArray, List.set_cons_zero, List.set_cons_succ, i64_w, i32_w]
   rfl
  refine pure_ (i := 14) (N := some 17) (v := undef) (a' := ?_) #[true, true, true, true, true, true, true, true, true, true, true, true, true, true, true, false, false, false, false, false, false, false, false, false, false, false, false, false, false] rfl rfl (any_of HT_.out (by kernel_rfl)) (fun _ _ _ h => h) (Or.inr ⟨by rfl, rfl⟩) ?_ ?_
  rotate_left
  ·simp only [Act.put, List.setIfInBounds_toArray, List.set_cons_zero, List.set_cons_succ, i64_w, i32_w]
   rfl
  refine pure_ (i := 15) (N := some 18) (v := undef) (a' := ?_) #[true, true, true, true, true, true, true, true, true, true, true, true, true, true, true, true, false, false, false, false, false, false, false, false, false, false, false, false, false] rfl rfl (any_of HT_.out (by kernel_rfl)) (fun _ _ _ h => h) (Or.inr ⟨by rfl, rfl⟩) ?_ ?_
  rotate_left
  ·simp only [Act.put, List.setIfInBounds_toArray, List.set_cons_zero, List.set_cons_succ, i64_w, i32_w]
   rfl
  refine pu 16 19 HT_ ?_
  refine pu 17 20 HT_ ?_
  refine pure_ (i := 18) (N := some 21) (v := undef) (a' := ?_) #[true, true, true, true, true, true, true, true, true, true, true, true, true, true, true, true, true, true, true, false, false, false, false, false, false, false, false, false, false] rfl rfl (any_of HT_.out (by kernel_rfl)) (fun _ _ _ h => h) (Or.inr ⟨by rfl, rfl⟩) ?_ ?_
  rotate_left
  ·simp only [Act.put, List.setIfInBounds_toArray, List.set_cons_zero, List.set_cons_succ, i64_w, i32_w]
   rfl
  refine pure_ (i := 19) (N := some 22) (v := undef) (a' := ?_) #[true, true, true, true, true, true, true, true, true, true, true, true, true, true, true, true, true, true, true, true, false, false, false, false, false, false, false, false, false] rfl rfl (any_of HT_.out (by kernel_rfl)) (fun _ _ _ h => h) (Or.inr ⟨by rfl, rfl⟩) ?_ ?_
  rotate_left
  ·simp only [Act.put, List.setIfInBounds_toArray, List.set_cons_zero, List.set_cons_succ, i64_w, i32_w]
   rfl
  refine pure_ (i := 20) (N := some 23) (v := undef) (a' := ?_) #[true, true, true, true, true, true, true, true, true, true, true, true, true, true, true, true, true, true, true, true, true, false, false, false, false, false, false, false, false] rfl rfl (any_of HT_.out (by kernel_rfl)) (fun _ _ _ h => h) (Or.inr ⟨by rfl, rfl⟩) ?_ ?_
  rotate_left
  ·simp only [Act.put, List.setIfInBounds_toArray, List.set_cons_zero, List.set_cons_succ, i64_w, i32_w]
   rfl
  refine pu 21 24 HT_ ?_
  refine pu 22 25 HT_ ?_
  refine pure_ (i := 23) (N := some 26) (v := undef) (a' := ?_) #[true, true, true, true, true, true, true, true, true, true, true, true, true, true, true, true, true, true, true, true, true, true, true, true, false, false, false, false, false] rfl rfl (any_of HT_.out (by kernel_rfl)) (fun _ _ _ h => h) (Or.inr ⟨by rfl, rfl⟩) ?_ ?_
  rotate_left
  ·simp only [Act.put, List.setIfInBounds_toArray, List.set_cons_zero, List.set_cons_succ, i64_w, i32_w]
   rfl
  refine pure_ (i := 24) (N := some 27) (v := undef) (a' := ?_) #[true, true, true, true, true, true, true, true, true, true, true, true, true, true, true, true, true, true, true, true, true, true, true, true, true, false, false, false, false] rfl rfl (any_of HT_.out (by kernel_rfl)) (fun _ _ _ h => h) (Or.inr ⟨by rfl, rfl⟩) ?_ ?_
  rotate_left
  ·simp only [Act.put, List.setIfInBounds_toArray, List.set_cons_zero, List.set_cons_succ, i64_w, i32_w]
   rfl
  refine pure_ (i := 25) (N := some 28) (v := undef) (a' := ?_) #[true, true, true, true, true, true, true, true, true, true, true, true, true, true, true, true, true, true, true, true, true, true, true, true, true, true, false, false, false] rfl rfl (any_of HT_.out (by kernel_rfl)) (fun _ _ _ h => h) (Or.inr ⟨by rfl, rfl⟩) ?_ ?_
  rotate_left
  ·simp only [Act.put, List.setIfInBounds_toArray, List.set_cons_zero, List.set_cons_succ, i64_w, i32_w]
   rfl
  refine pure_ (i := 26) (N := some 29) (v := undef) (a' := ?_) #[true, true, true, true, true, true, true, true, true, true, true, true, true, true, true, true, true, true, true, true, true, true, true, true, true, true, true, false, false] rfl rfl (any_of HT_.out (by kernel_rfl)) (fun _ _ _ h => h) (Or.inr ⟨by rfl, rfl⟩) ?_ ?_
  rotate_left
  ·simp only [Act.put, List.setIfInBounds_toArray, List.set_cons_zero, List.set_cons_succ, i64_w, i32_w]
   rfl
  refine pu 27 30 HT_ ?_
  refine pu 28 2 HT_ ?_
  refine done_ (done_of HT_.out (by kernel_rfl)) ?_
  try go_wp2
  go_ret
  exact ⟨by first | rfl | (simp [errW_none, errW_some] <;> rfl) | (simp [*, errW_none, errW_some] <;> rfl), by repeat (first | (with_reducible first | exact HB.out | apply below_alloc | apply pw_below_drewN | apply below_drew1 | refine below_set ?_ GE101.out) | exact HB.out)⟩

end Go.Proofs.YtjldfmkpdkhnnaaDoor.QL

namespace Go.Proofs.YtjldfmkpdkhnnaaDoor.QL
open Go.RowKit Go.Proofs.YtjldfmkpdkhnnaaDoorW.PrintWords Go.Proofs.YtjldfmkpdkhnnaaDoorW.PrintLast Go.Proofs.YtjldfmkpdkhnnaaDoorW.PrintMore Go.Proofs.YtjldfmkpdkhnnaaDoor.Aux Go.Proofs.YtjldfmkpdkhnnaaDoor.Dom Go.Proofs.YtjldfmkpdkhnnaaDoor.Ext Go.Proofs.YtjldfmkpdkhnnaaDoor.Glob
attribute [local go_sem] max2_int min2_int max_two min_two max_three min_three max_four min_four   -- for this text's walks alone

def spec_FieldsOk.l0 : Nat → List (S49) → Int → Option (Bool)
 | 0, _, _ => none
 | k + 1, x0, x3 => if x3 < (x0.length : Int) then (if 0 ≤ x3 then ((spec_l3FieldOk.f k ((rd_T49 x0 x3).f0) ((rd_T49 x0 x3).f1)).bind fun t102 => (if t102 = true then (spec_FieldsOk.l0 k x0 (wrap64 (x3 + 1))) else (some false))) else (none)) else (some (decide ((x0.length : Int) ≤ 12)))
def spec_FieldsOk.f (k : Nat) (l0 : List (S49)) : Option (Bool) := spec_FieldsOk.l0 k l0 0
theorem spec_FieldsOk.mono_l : ∀ k, (∀ y0 y1, LeO (spec_FieldsOk.l0 k y0 y1) (spec_FieldsOk.l0 (k + 1) y0 y1))
 | 0 => fun _ _ r h => by simp [spec_FieldsOk.l0] at h
 | k + 1 => by
  have ih0 := spec_FieldsOk.mono_l k
  ·intro y0 y1
   unfold spec_FieldsOk.l0
   repeat' first
   | (with_reducible exact ih0 _ _)
   | (with_reducible exact spec_l3FieldOk.mono _ _ _)
   | (with_reducible exact LeO.refl _)
   | (with_reducible exact LeO.none _)
   | (with_reducible refine LeO.ite ?_ ?_)
   | (with_reducible refine LeO.bind ?_ (fun _ => ?_))
   | exact ih0 _ _
   | exact spec_l3FieldOk.mono _ _ _
   | exact LeO.none _
   | refine LeO.ite ?_ ?_
   | refine LeO.bind ?_ (fun _ => ?_)
theorem spec_FieldsOk.mono : ∀ a0 k, LeO (spec_FieldsOk.f k a0) (spec_FieldsOk.f (k + 1) a0) := by
 intro a0 k
 have ih0 := spec_FieldsOk.mono_l k
 unfold spec_FieldsOk.f
 repeat' first
   | (with_reducible exact ih0 _ _)
   | (with_reducible exact spec_l3FieldOk.mono _ _ _)
   | (with_reducible exact LeO.refl _)
   | (with_reducible exact LeO.none _)
   | (with_reducible refine LeO.ite ?_ ?_)
   | (with_reducible refine LeO.bind ?_ (fun _ => ?_))
   | exact ih0 _ _
   | exact spec_l3FieldOk.mono _ _ _
   | exact LeO.none _
   | refine LeO.ite ?_ ?_
   | refine LeO.bind ?_ (fun _ => ?_)
set_option maxHeartbeats 8000000 in
set_option maxRecDepth 100000 in
theorem spec_FieldsOk.calls (k : Nat) (A0 : Option Addr) (c0 : Nat) (l0 : List (S49)) (r : Bool) (w : World) (hr0 : Kd.C k49 w A0 l0.length l0) (hc0 : l0.length ≤ c0) (h : spec_FieldsOk.f k l0 = some r) :
  Calls Tryd.prog 34 #[.slice A0 l0.length c0] w fun e w' => e = .returned (.bool r) ∧ Below w.heap.size w w' := by
 have hu49 := Tryd.underlying49
 have HR0 := Aside0.mk hr0
 have HC0 := Aside0.mk hc0
 clear hr0 hc0
 have HB := Aside0.mk (Below.refl w.heap.size w)
 have H : (spec_FieldsOk.l0 k l0 0) = some r := h
 clear h
 have H' := Aside0.mk H
 clear H
 go_enter Tryd.func34, Tryd.ntmps34
 go_wp2
 go_loopg [3] k (fun kq v3 w' => ∃ (x3_1 : Int), v3 = .int .i64 x3_1 ∧ Aside0 (spec_FieldsOk.l0 kq l0 x3_1 = some r) ∧ Aside0 (kq ≤ k) ∧ Aside0 (Below w.heap.size w w'))
 case atStart => exact ⟨(0), (by first | rfl | (simp; done) | (simp [*]; done)), H', ⟨Nat.le_refl _⟩, ⟨bq⟩⟩
 case round =>
  clear H'
  obtain ⟨x3_1, rfl, HA, HK1, HB⟩ := hrel
  cases gk with
  | zero => exact absurd HA.out (by simp [spec_FieldsOk.l0])
  | succ k1 =>
   have H := HA.out
   clear HA
   simp only [spec_FieldsOk.l0] at H
   by_cases c2 : x3_1 < (l0.length : Int)
   ·rw [if_pos c2] at H
    have c2b0 : decide (x3_1 < (l0.length : Int)) = true := decide_eq_true c2
    clear c2
    by_cases c3 : 0 ≤ x3_1
    ·rw [if_pos c3] at H
     have c3b0 : decide (0 ≤ x3_1) = true := decide_eq_true c3
     clear c3
     replace H := Option.bind_eq_some_iff.mp H
     obtain ⟨t102, A40, H⟩ := H
     try dsimp only at H
     have A4 := Aside0.mk A40
     clear A40
     by_cases c5 : t102 = true
     ·subst c5
      rw [if_pos rfl] at H
      have H' := Aside0.mk H
      clear H
      have p101 : 0 ≤ (x3_1 : Int) := of_decide_eq_true asm
      have q101 : x3_1 < (l0.length : Int) := of_decide_eq_true asm
      obtain ⟨ad101, e101, hx101_0, hx101_1⟩ := at_T49 HR0.out x3_1 p101 q101
      cases e101
      replace hx101_0 := (HB.out.cell (World.block_lt_of_cell? w _ hx101_0)).trans hx101_0
      replace hx101_1 := (HB.out.cell (World.block_lt_of_cell? w _ hx101_1)).trans hx101_1
      replace p101 := eq_true p101
      replace q101 := eq_true q101
      go_wp2_with (first | ((with_reducible refine gate_callee (f := 79) rfl ?_); refine goesL_ (some 14) rfl rfl Tryd.func79 (by kernel_rfl) rfl #[.agg #[.string ((rd_T49 l0 x3_1).f0), .string ((rd_T49 l0 x3_1).f1)]] rfl am ?_; (with_reducible refine (spec_l3FieldOk.calls k1 ((rd_T49 l0 x3_1).f0) ((rd_T49 l0 x3_1).f1) true _ A4.out).mono ?_); rintro e w6 ⟨rfl, hb⟩; refine ⟨_, rfl, ?_⟩; have n0_ := Aside0.mk (below_step bq hb); clear HB; have HB := n0_; clear n0_; (try clear hb); (try clear hb2); (try clear hk); (try clear hi)))
      go_roundg k1
      case measure => have := HK1.out; omega
      case rel => exact ⟨(wrap64 (x3_1 + 1)), (by first | rfl | (simp; done) | (simp [*]; done)), H', ⟨by have := HK1.out; omega⟩, ⟨bq⟩⟩
     ·replace c5 := Bool.eq_false_iff.mpr c5
      subst c5
      rw [if_neg (show ¬ (false = true) by decide)] at H
      obtain rfl := Option.some.inj H
      have p101 : 0 ≤ (x3_1 : Int) := of_decide_eq_true asm
      have q101 : x3_1 < (l0.length : Int) := of_decide_eq_true asm
      obtain ⟨ad101, e101, hx101_0, hx101_1⟩ := at_T49 HR0.out x3_1 p101 q101
      cases e101
      replace hx101_0 := (HB.out.cell (World.block_lt_of_cell? w _ hx101_0)).trans hx101_0
      replace hx101_1 := (HB.out.cell (World.block_lt_of_cell? w _ hx101_1)).trans hx101_1
      replace p101 := eq_true p101
      replace q101 := eq_true q101
      go_wp2_with (first | ((with_reducible refine gate_callee (f := 79) rfl ?_); refine goesL_ (some 14) rfl rfl Tryd.func79 (by kernel_rfl) rfl #[.agg #[.string ((rd_T49 l0 x3_1).f0), .string ((rd_T49 l0 x3_1).f1)]] rfl am ?_; (with_reducible refine (spec_l3FieldOk.calls k1 ((rd_T49 l0 x3_1).f0) ((rd_T49 l0 x3_1).f1) false _ A4.out).mono ?_); rintro e w7 ⟨rfl, hb⟩; refine ⟨_, rfl, ?_⟩; have n0_ := Aside0.mk (below_step bq hb); clear HB; have HB := n0_; clear n0_; (try clear hb); (try clear hb2); (try clear hk); (try clear hi)))
      go_ret
      exact ⟨by first | rfl | (simp [errW_none, errW_some] <;> rfl) | (simp [*, errW_none, errW_some] <;> rfl), bq⟩
    ·rw [if_neg c3] at H
     exact absurd H (by simp)
   ·rw [if_neg c2] at H
    have c2b0 : decide (x3_1 < (l0.length : Int)) = false := decide_eq_false c2
    clear c2
    obtain rfl := Option.some.inj H
    go_wp2
    go_ret
    exact ⟨by first | rfl | (simp [errW_none, errW_some] <;> rfl) | (simp [*, errW_none, errW_some] <;> rfl), bq⟩

end Go.Proofs.YtjldfmkpdkhnnaaDoor.QL

namespace Go.Proofs.YtjldfmkpdkhnnaaDoor.QL
open Go.RowKit Go.Proofs.YtjldfmkpdkhnnaaDoorW.PrintWords Go.Proofs.YtjldfmkpdkhnnaaDoorW.PrintLast Go.Proofs.YtjldfmkpdkhnnaaDoorW.PrintMore Go.Proofs.YtjldfmkpdkhnnaaDoor.Aux Go.Proofs.YtjldfmkpdkhnnaaDoor.Dom Go.Proofs.YtjldfmkpdkhnnaaDoor.Ext Go.Proofs.YtjldfmkpdkhnnaaDoor.Glob
attribute [local go_sem] max2_int min2_int max_two min_two max_three min_three max_four min_four   -- for this text's walks alone

mutual
def laws_FnFields.j0 : Nat → List Int → List (S49) → ByteArray → List (S49) → Bool → Option (Bool)
 | 0, _, _, _, _, _ => none
 | k + 1, x0, x3, x4, x7, x74 => if x74 = true then (some false) else (laws_FnFields.l0 k x0 x3 x4 x7 0)
def laws_FnFields.l0 : Nat → List Int → List (S49) → ByteArray → List (S49) → Int → Option (Bool)
 | 0, _, _, _, _, _ => none
 | k + 1, x0, x3, x4, x7, x12 => if x12 < (x3.length : Int) then (if 0 ≤ x12 then ((impl_FieldGet.f k x3 ((rd_T49 x3 x12).f0)).bind fun bt122 => ((impl_FieldGet.f k x7 ((rd_T49 x3 x12).f0)).bind fun bt125 => (if bt122.2 = true then (if ((rd_T49 x3 x12).f0).toList = x4.toList then (laws_FnFields.l0 k x0 x3 x4 x7 (wrap64 (x12 + 1))) else (if bt122.1.toList = bt125.1.toList then (if bt125.2 = true then (laws_FnFields.l0 k x0 x3 x4 x7 (wrap64 (x12 + 1))) else (some false)) else (some false))) else (some false)))) else (none)) else ((spec_DrawShowFields.f k x0).bind fun t128 => ((impl_ShowFields.f k t128).bind fun t131 => (if t131.size + 4 ≤ 9223372036854775807 then ((impl_ReadFields.f k (t131 ++ (⟨#[98, 111, 100, 121]⟩ : ByteArray))).bind fun bt132 => ((spec_FieldsOk.f k t128).bind fun t137 => (if ((t131.toList != ([] : List UInt8)) == t137) = true then (if t131.toList = ([] : List UInt8) then (some true) else (if bt132.2.2 = true then (if bt132.2.1 = (t131.size : Int) then ((spec_SameFields.f k bt132.1 t128).bind fun t138 => (some t138)) else (some false)) else (some false))) else (some false)))) else (none))))
end
def laws_FnFields.f (k : Nat) (l0 : List Int) : Option (Bool) := (laws_big.f l0).bind fun t101 => (if t101 = true then (some true) else ((spec_DrawFieldSet.f k l0).bind fun bt102 => ((impl_FieldSet.f k bt102.1 bt102.2.1 bt102.2.2).bind fun t107 => ((impl_FieldDrop.f t107 bt102.2.1).bind fun t110 => ((impl_FieldGet.f k t107 bt102.2.1).bind fun bt113 => ((impl_FieldGet.f k t110 bt102.2.1).bind fun bt115 => (if bt113.2 = true then (if bt113.1.toList = bt102.2.2.toList then (if bt115.2 = true then (laws_FnFields.j0 k l0 bt102.1 bt102.2.1 t110 true) else (if (t107.length : Int) = (wrap64 ((t110.length : Int) + 1)) then ((spec_FieldDrop.f k bt102.1 bt102.2.1).bind fun t117 => ((spec_SameFields.f k t110 t117).bind fun t120 => (laws_FnFields.j0 k l0 bt102.1 bt102.2.1 t110 (!t120)))) else (laws_FnFields.j0 k l0 bt102.1 bt102.2.1 t110 true))) else (laws_FnFields.j0 k l0 bt102.1 bt102.2.1 t110 true)) else (laws_FnFields.j0 k l0 bt102.1 bt102.2.1 t110 true))))))))
theorem laws_FnFields.mono_l : ∀ k, (∀ y0 y1 y2 y3 y4, LeO (laws_FnFields.j0 k y0 y1 y2 y3 y4) (laws_FnFields.j0 (k + 1) y0 y1 y2 y3 y4)) ∧ (∀ y0 y1 y2 y3 y4, LeO (laws_FnFields.l0 k y0 y1 y2 y3 y4) (laws_FnFields.l0 (k + 1) y0 y1 y2 y3 y4))
 | 0 => ⟨fun _ _ _ _ _ r h => by simp [laws_FnFields.j0] at h, fun _ _ _ _ _ r h => by simp [laws_FnFields.l0] at h⟩
 | k + 1 => by
  obtain ⟨ih0, ih1⟩ := laws_FnFields.mono_l k
  refine ⟨?_, ?_⟩
  ·intro y0 y1 y2 y3 y4
   unfold laws_FnFields.j0
   repeat' first
   | (with_reducible exact ih0 _ _ _ _ _)
   | (with_reducible exact ih1 _ _ _ _ _)
   | (with_reducible exact impl_FieldGet.mono _ _ _)
   | (with_reducible exact impl_FieldSet.mono _ _ _ _)
   | (with_reducible exact impl_ReadFields.mono _ _)
   | (with_reducible exact impl_ShowFields.mono _ _)
   | (with_reducible exact spec_DrawFieldSet.mono _ _)
   | (with_reducible exact spec_DrawShowFields.mono _ _)
   | (with_reducible exact spec_FieldDrop.mono _ _ _)
   | (with_reducible exact spec_FieldsOk.mono _ _)
   | (with_reducible exact spec_SameFields.mono _ _ _)
   | (with_reducible exact LeO.refl _)
   | (with_reducible exact LeO.none _)
   | (with_reducible refine LeO.ite ?_ ?_)
   | (with_reducible refine LeO.bind ?_ (fun _ => ?_))
   | exact ih0 _ _ _ _ _
   | exact ih1 _ _ _ _ _
   | exact impl_FieldGet.mono _ _ _
   | exact impl_FieldSet.mono _ _ _ _
   | exact impl_ReadFields.mono _ _
   | exact impl_ShowFields.mono _ _
   | exact spec_DrawFieldSet.mono _ _
   | exact spec_DrawShowFields.mono _ _
   | exact spec_FieldDrop.mono _ _ _
   | exact spec_FieldsOk.mono _ _
   | exact spec_SameFields.mono _ _ _
   | exact LeO.none _
   | refine LeO.ite ?_ ?_
   | refine LeO.bind ?_ (fun _ => ?_)
  ·intro y0 y1 y2 y3 y4
   unfold laws_FnFields.l0
   repeat' first
   | (with_reducible exact ih0 _ _ _ _ _)
   | (with_reducible exact ih1 _ _ _ _ _)
   | (with_reducible exact impl_FieldGet.mono _ _ _)
   | (with_reducible exact impl_FieldSet.mono _ _ _ _)
   | (with_reducible exact impl_ReadFields.mono _ _)
   | (with_reducible exact impl_ShowFields.mono _ _)
   | (with_reducible exact spec_DrawFieldSet.mono _ _)
   | (with_reducible exact spec_DrawShowFields.mono _ _)
   | (with_reducible exact spec_FieldDrop.mono _ _ _)
   | (with_reducible exact spec_FieldsOk.mono _ _)
   | (with_reducible exact spec_SameFields.mono _ _ _)
   | (with_reducible exact LeO.refl _)
   | (with_reducible exact LeO.none _)
   | (with_reducible refine LeO.ite ?_ ?_)
   | (with_reducible refine LeO.bind ?_ (fun _ => ?_))
   | exact ih0 _ _ _ _ _
   | exact ih1 _ _ _ _ _
   | exact impl_FieldGet.mono _ _ _
   | exact impl_FieldSet.mono _ _ _ _
   | exact impl_ReadFields.mono _ _
   | exact impl_ShowFields.mono _ _
   | exact spec_DrawFieldSet.mono _ _
   | exact spec_DrawShowFields.mono _ _
   | exact spec_FieldDrop.mono _ _ _
   | exact spec_FieldsOk.mono _ _
   | exact spec_SameFields.mono _ _ _
   | exact LeO.none _
   | refine LeO.ite ?_ ?_
   | refine LeO.bind ?_ (fun _ => ?_)
theorem laws_FnFields.mono : ∀ a0 k, LeO (laws_FnFields.f k a0) (laws_FnFields.f (k + 1) a0) := by
 intro a0 k
 obtain ⟨ih0, ih1⟩ := laws_FnFields.mono_l k
 unfold laws_FnFields.f
 repeat' first
   | (with_reducible exact ih0 _ _ _ _ _)
   | (with_reducible exact ih1 _ _ _ _ _)
   | (with_reducible exact impl_FieldGet.mono _ _ _)
   | (with_reducible exact impl_FieldSet.mono _ _ _ _)
   | (with_reducible exact impl_ReadFields.mono _ _)
   | (with_reducible exact impl_ShowFields.mono _ _)
   | (with_reducible exact spec_DrawFieldSet.mono _ _)
   | (with_reducible exact spec_DrawShowFields.mono _ _)
   | (with_reducible exact spec_FieldDrop.mono _ _ _)
   | (with_reducible exact spec_FieldsOk.mono _ _)
   | (with_reducible exact spec_SameFields.mono _ _ _)
   | (with_reducible exact LeO.refl _)
   | (with_reducible exact LeO.none _)
   | (with_reducible refine LeO.ite ?_ ?_)
   | (with_reducible refine LeO.bind ?_ (fun _ => ?_))
   | exact ih0 _ _ _ _ _
   | exact ih1 _ _ _ _ _
   | exact impl_FieldGet.mono _ _ _
   | exact impl_FieldSet.mono _ _ _ _
   | exact impl_ReadFields.mono _ _
   | exact impl_ShowFields.mono _ _
   | exact spec_DrawFieldSet.mono _ _
   | exact spec_DrawShowFields.mono _ _
   | exact spec_FieldDrop.mono _ _ _
   | exact spec_FieldsOk.mono _ _
   | exact spec_SameFields.mono _ _ _
   | exact LeO.none _
   | refine LeO.ite ?_ ?_
   | refine LeO.bind ?_ (fun _ => ?_)
set_option maxHeartbeats 8000000 in
set_option maxRecDepth 100000 in
theorem laws_FnFields.calls (k : Nat) (A0 : Option Addr) (c0 : Nat) (l0 : List Int) (r : Bool) (w : World) (hr0 : Kd.C (Kd.int .u8) w A0 l0.length l0) (hc0 : l0.length ≤ c0) (hGMax : GMax w) (h : laws_FnFields.f k l0 = some r) (hr_ : r = true) :
  Calls Tryd.prog 5 #[.slice A0 l0.length c0] w fun e w' => e = .returned (.bool r) ∧ Below w.heap.size w w' := by
 have HR_ := Aside0.mk hr_
 clear hr_
 have HR0 := Aside0.mk hr0
 have HC0 := Aside0.mk hc0
 clear hr0 hc0
 have HGMax := Aside0.mk hGMax
 clear hGMax
 have HB := Aside0.mk (Below.refl w.heap.size w)
 have H : ((laws_big.f l0).bind fun t101 => (if t101 = true then (some true) else ((spec_DrawFieldSet.f k l0).bind fun bt102 => ((impl_FieldSet.f k bt102.1 bt102.2.1 bt102.2.2).bind fun t107 => ((impl_FieldDrop.f t107 bt102.2.1).bind fun t110 => ((impl_FieldGet.f k t107 bt102.2.1).bind fun bt113 => ((impl_FieldGet.f k t110 bt102.2.1).bind fun bt115 => (if bt113.2 = true then (if bt113.1.toList = bt102.2.2.toList then (if bt115.2 = true then (laws_FnFields.j0 k l0 bt102.1 bt102.2.1 t110 true) else (if (t107.length : Int) = (wrap64 ((t110.length : Int) + 1)) then ((spec_FieldDrop.f k bt102.1 bt102.2.1).bind fun t117 => ((spec_SameFields.f k t110 t117).bind fun t120 => (laws_FnFields.j0 k l0 bt102.1 bt102.2.1 t110 (!t120)))) else (laws_FnFields.j0 k l0 bt102.1 bt102.2.1 t110 true))) else (laws_FnFields.j0 k l0 bt102.1 bt102.2.1 t110 true)) else (laws_FnFields.j0 k l0 bt102.1 bt102.2.1 t110 true))))))))) = some r := h
 clear h
 replace H := Option.bind_eq_some_iff.mp H
 obtain ⟨t101, A20, H⟩ := H
 try dsimp only at H
 have A2 := Aside0.mk A20
 clear A20
 by_cases c3 : t101 = true
 ·subst c3
  rw [if_pos rfl] at H
  obtain rfl := Option.some.inj H
  go_enter Tryd.func5, Tryd.ntmps5
  go_wp2_with (first | ((with_reducible refine gate_callee (f := 13) rfl ?_); refine goesL_ (some 23) rfl rfl Tryd.func13 (by kernel_rfl) rfl #[.slice A0 l0.length c0] rfl am ?_; (with_reducible refine (laws_big.calls _ _ l0 true _ ?side1 ?side2 A2.out).mono ?_); (case side1 => repeat (first | exact HR0.out | (with_reducible refine Kd.C_alloc ?_ _) | (with_reducible refine Kd.C_drewN ?_ _) | (with_reducible refine Kd.C_drew ?_))); (case side2 => exact HC0.out); rintro e w' ⟨rfl, ⟨nd, rfl⟩⟩; refine ⟨_, rfl, ?_⟩))
  go_ret
  exact ⟨by first | rfl | (simp [errW_none, errW_some] <;> rfl) | (simp [*, errW_none, errW_some] <;> rfl), bq⟩
 ·replace c3 := Bool.eq_false_iff.mpr c3
  subst c3
  rw [if_neg (show ¬ (false = true) by decide)] at H
  replace H := Option.bind_eq_some_iff.mp H
  obtain ⟨⟨t102, t103, t104⟩, A40, H⟩ := H
  try dsimp only at H
  have A4 := Aside0.mk A40
  clear A40
  replace H := Option.bind_eq_some_iff.mp H
  obtain ⟨t107, A50, H⟩ := H
  try dsimp only at H
  have A5 := Aside0.mk A50
  clear A50
  replace H := Option.bind_eq_some_iff.mp H
  obtain ⟨t110, A60, H⟩ := H
  try dsimp only at H
  have A6 := Aside0.mk A60
  clear A60
  replace H := Option.bind_eq_some_iff.mp H
  obtain ⟨⟨t113, t114⟩, A70, H⟩ := H
  try dsimp only at H
  have A7 := Aside0.mk A70
  clear A70
  replace H := Option.bind_eq_some_iff.mp H
  obtain ⟨⟨t115, t116⟩, A80, H⟩ := H
  try dsimp only at H
  have A8 := Aside0.mk A80
  clear A80
  have HC9 := Aside0.mk H
  clear H
  go_enter Tryd.func5, Tryd.ntmps5
  go_upto_region 8 with (first | ((with_reducible refine gate_callee (f := 13) rfl ?_); refine goesL_ (some 23) rfl rfl Tryd.func13 (by kernel_rfl) rfl #[.slice A0 l0.length c0] rfl am ?_; (with_reducible refine (laws_big.calls _ _ l0 false _ ?side1 ?side2 A2.out).mono ?_); (case side1 => repeat (first | exact HR0.out | (with_reducible refine Kd.C_alloc ?_ _) | (with_reducible refine Kd.C_drewN ?_ _) | (with_reducible refine Kd.C_drew ?_))); (case side2 => exact HC0.out); rintro e w' ⟨rfl, ⟨nd, rfl⟩⟩; refine ⟨_, rfl, ?_⟩) | ((with_reducible refine gate_callee (f := 25) rfl ?_); refine goesL_ (some 26) rfl rfl Tryd.func25 (by kernel_rfl) rfl #[.slice A0 l0.length c0] rfl am ?_; (with_reducible refine (spec_DrawFieldSet.calls k _ _ l0 t102 t103 t104 _ ?side1 ?side2 A4.out).mono ?_); (case side1 => repeat (first | exact HR0.out | (with_reducible refine Kd.C_alloc ?_ _) | (with_reducible refine Kd.C_drewN ?_ _) | (with_reducible refine Kd.C_drew ?_))); (case side2 => exact HC0.out); rintro e w10 ⟨v105, rfl, ho0, hb⟩; refine ⟨_, rfl, ?_⟩; have n0_ := Aside0.mk (Kd.R_lower ho0 (below_size bq)); have n1_ := Aside0.mk (below_step bq hb); clear HB; have HO106 := n0_; have HB := n1_; clear n0_ n1_; (try clear hb); (try clear hb2); (try clear hk); (try clear hi); (try clear ho0); obtain ⟨Ao11, co11, eo11⟩ := Kd.R_slice HO106.out; subst eo11) | ((with_reducible refine gate_callee (f := 26) rfl ?_); refine goesL_ (some 33) rfl rfl Tryd.func26 (by kernel_rfl) rfl #[.slice Ao11 t102.length co11, .string t103, .string t104] rfl am ?_; (with_reducible refine (impl_FieldSet.calls k _ _ t102 t103 t104 t107 _ ?side1 ?side2 A5.out).mono ?_); (case side1 => repeat (first | exact (Kd.R_reads' HO106.out).2.2 | (with_reducible refine Kd.C_alloc ?_ _) | (with_reducible refine Kd.C_drewN ?_ _) | (with_reducible refine Kd.C_drew ?_))); (case side2 => exact (Kd.R_reads' HO106.out).2.1); rintro e w12 ⟨v108, rfl, ho0, hb⟩; refine ⟨_, rfl, ?_⟩; have n0_ := Aside0.mk (Kd.R_elder' (rdq HO106.out) (Kd.R_base ho0) hb); have n1_ := Aside0.mk (Kd.R_lower (Kd.R_new' ho0 (Kd.R_lt (rdq HO106.out))) (below_size bq)); have n2_ := Aside0.mk (below_step bq hb); clear HO106; clear HB; have HO106 := n0_; have HO109 := n1_; have HB := n2_; clear n0_ n1_ n2_; (try clear hb); (try clear hb2); (try clear hk); (try clear hi); (try clear ho0); obtain ⟨Ao13, co13, eo13⟩ := Kd.R_slice HO109.out; subst eo13) | ((with_reducible refine gate_callee (f := 27) rfl ?_); refine goesL_ (some 36) rfl rfl Tryd.func27 (by kernel_rfl) rfl #[.slice Ao13 t107.length co13, .string t103] rfl am ?_; (with_reducible refine (impl_FieldDrop.calls _ _ t107 t103 t110 _ ?side1 ?side2 A6.out).mono ?_); (case side1 => repeat (first | exact (Kd.R_reads' HO109.out).2.2 | (with_reducible refine Kd.C_alloc ?_ _) | (with_reducible refine Kd.C_drewN ?_ _) | (with_reducible refine Kd.C_drew ?_))); (case side2 => exact (Kd.R_reads' HO109.out).2.1); rintro e w14 ⟨v111, rfl, ho0, hb⟩; refine ⟨_, rfl, ?_⟩; have n0_ := Aside0.mk (Kd.R_elder' (rdq HO106.out) (Kd.R_base ho0) hb); have n1_ := Aside0.mk (Kd.R_elder' (rdq HO109.out) (Kd.R_base ho0) hb); have n2_ := Aside0.mk (Kd.R_lower (Kd.R_new' (Kd.R_new' ho0 (Kd.R_lt (rdq HO106.out))) (Kd.R_lt (rdq HO109.out))) (below_size bq)); have n3_ := Aside0.mk (below_step bq hb); clear HO106; clear HO109; clear HB; have HO106 := n0_; have HO109 := n1_; have HO112 := n2_; have HB := n3_; clear n0_ n1_ n2_ n3_; (try clear hb); (try clear hb2); (try clear hk); (try clear hi); (try clear ho0)) | ((with_reducible refine gate_callee (f := 28) rfl ?_); refine goesL_ (some 40) rfl rfl Tryd.func28 (by kernel_rfl) rfl #[.slice Ao13 t107.length co13, .string t103] rfl am ?_; (with_reducible refine (impl_FieldGet.calls k _ _ t107 t103 t113 t114 _ ?side1 ?side2 A7.out).mono ?_); (case side1 => repeat (first | exact (Kd.R_reads' HO109.out).2.2 | (with_reducible refine Kd.C_alloc ?_ _) | (with_reducible refine Kd.C_drewN ?_ _) | (with_reducible refine Kd.C_drew ?_))); (case side2 => exact (Kd.R_reads' HO109.out).2.1); rintro e w15 ⟨rfl, hb⟩; refine ⟨_, rfl, ?_⟩; have n0_ := Aside0.mk (Kd.R_below (rdq HO106.out) hb); have n1_ := Aside0.mk (Kd.R_below (rdq HO109.out) hb); have n2_ := Aside0.mk (Kd.R_below (rdq HO112.out) hb); have n3_ := Aside0.mk (below_step bq hb); clear HO106; clear HO109; clear HO112; clear HB; have HO106 := n0_; have HO109 := n1_; have HO112 := n2_; have HB := n3_; clear n0_ n1_ n2_ n3_; (try clear hb); (try clear hb2); (try clear hk); (try clear hi); obtain ⟨Ao16, co16, eo16⟩ := Kd.R_slice HO112.out; subst eo16) | ((with_reducible refine gate_callee (f := 28) rfl ?_); refine goesL_ (some 46) rfl rfl Tryd.func28 (by kernel_rfl) rfl #[.slice Ao16 t110.length co16, .string t103] rfl am ?_; (with_reducible refine (impl_FieldGet.calls k _ _ t110 t103 t115 t116 _ ?side1 ?side2 A8.out).mono ?_); (case side1 => repeat (first | exact (Kd.R_reads' HO112.out).2.2 | (with_reducible refine Kd.C_alloc ?_ _) | (with_reducible refine Kd.C_drewN ?_ _) | (with_reducible refine Kd.C_drew ?_))); (case side2 => exact (Kd.R_reads' HO112.out).2.1); rintro e w17 ⟨rfl, hb⟩; refine ⟨_, rfl, ?_⟩; have n0_ := Aside0.mk (Kd.R_below (rdq HO106.out) hb); have n1_ := Aside0.mk (Kd.R_below (rdq HO109.out) hb); have n2_ := Aside0.mk (Kd.R_below (rdq HO112.out) hb); have n3_ := Aside0.mk (below_step bq hb); clear HO106; clear HO109; clear HO112; clear HB; have HO106 := n0_; have HO109 := n1_; have HO112 := n2_; have HB := n3_; clear n0_ n1_ n2_ n3_; (try clear hb); (try clear hb2); (try clear hk); (try clear hi)))
  (try simp only [Act.put, List.setIfInBounds_toArray, List.set_cons_zero, List.set_cons_succ])
  go_cut [74] (fun v74 wc => ∃ (kq : Nat) (x74_8 : Bool), v74 = .bool x74_8 ∧ Aside0 (laws_FnFields.j0 kq l0 t102 t103 t110 x74_8 = some r) ∧ Aside0 (kq ≤ k) ∧ Aside0 (Kd.R k49 49 wc w.heap.size (fun k_ => some k_ ≠ ((.slice Ao16 t110.length co16) : Value).ownBlock) (.slice Ao11 t102.length co11) t102) ∧ Aside0 (Kd.R k49 49 wc w.heap.size (fun k_ => some k_ ≠ ((.slice Ao11 t102.length co11) : Value).ownBlock) (.slice Ao16 t110.length co16) t110) ∧ Aside0 (Below w.heap.size w wc))
  case first =>
   have H := HC9.out
   clear HC9
   by_cases c18 : t114 = true
   ·subst c18
    rw [if_pos rfl] at H
    by_cases c19 : t113.toList = t104.toList
    ·rw [if_pos c19] at H
     have c19b0 : (t113.toList == t104.toList) = true := beq_iff_eq.mpr c19
     have c19b1 : (t113.toList != t104.toList) = false := bne_eq_false_iff_eq.mpr c19
     clear c19
     (first | rw [c19b0] | (simp only [i64_w, i32_w]; rw [c19b0]) | skip)
     by_cases c20 : t116 = true
     ·subst c20
      rw [if_pos rfl] at H
      have H' := Aside0.mk H
      clear H
      go_wp2
      go_meet
      case rel => exact ⟨_, (true), (by first | rfl | (simp; done) | (simp [*]; done)), H', ⟨by first | omega | exact Nat.le_refl _⟩, ⟨by (with_reducible repeat (first | apply Kd.R_alloc | apply Kd.R_drewN | apply Kd.R_drew)); exact Kd.R_mono HO106.out (fun _ hk => hk.2)⟩, ⟨by (with_reducible repeat (first | apply Kd.R_alloc | apply Kd.R_drewN | apply Kd.R_drew)); exact Kd.R_mono HO112.out (fun _ hk => hk.1.2)⟩, ⟨bq⟩⟩
     ·replace c20 := Bool.eq_false_iff.mpr c20
      subst c20
      rw [if_neg (show ¬ (false = true) by decide)] at H
      by_cases c21 : (t107.length : Int) = (wrap64 ((t110.length : Int) + 1))
      ·rw [if_pos c21] at H
       have c21b0 : ((t107.length : Int) == (wrap64 ((t110.length : Int) + 1))) = true := beq_iff_eq.mpr c21
       have c21b1 : ((t107.length : Int) != (wrap64 ((t110.length : Int) + 1))) = false := bne_eq_false_iff_eq.mpr c21
       clear c21
       replace H := Option.bind_eq_some_iff.mp H
       obtain ⟨t117, A220, H⟩ := H
       try dsimp only at H
       have A22 := Aside0.mk A220
       clear A220
       replace H := Option.bind_eq_some_iff.mp H
       obtain ⟨t120, A230, H⟩ := H
       try dsimp only at H
       have A23 := Aside0.mk A230
       clear A230
       have H' := Aside0.mk H
       clear H
       go_wp2_with (first | (go_at_call 30; (with_reducible refine (spec_FieldDrop.calls k _ _ t102 t103 t117 _ ?side1 ?side2 A22.out).mono ?_); (case side1 => repeat (first | exact (Kd.R_reads' HO106.out).2.2 | (with_reducible refine Kd.C_alloc ?_ _) | (with_reducible refine Kd.C_drewN ?_ _) | (with_reducible refine Kd.C_drew ?_))); (case side2 => exact (Kd.R_reads' HO106.out).2.1); rintro e w24 ⟨v118, rfl, ho0, hb⟩; have n0_ := Aside0.mk (Kd.R_elder' (rdq HO106.out) (Kd.R_base ho0) hb); have n1_ := Aside0.mk (Kd.R_elder' (rdq HO109.out) (Kd.R_base ho0) hb); have n2_ := Aside0.mk (Kd.R_elder' (rdq HO112.out) (Kd.R_base ho0) hb); have n3_ := Aside0.mk (Kd.R_lower (Kd.R_new' (Kd.R_new' (Kd.R_new' ho0 (Kd.R_lt (rdq HO106.out))) (Kd.R_lt (rdq HO109.out))) (Kd.R_lt (rdq HO112.out))) (below_size bq)); have n4_ := Aside0.mk (below_step bq hb); clear HO106; clear HO109; clear HO112; clear HB; have HO106 := n0_; have HO109 := n1_; have HO112 := n2_; have HO119 := n3_; have HB := n4_; clear n0_ n1_ n2_ n3_ n4_; (try clear hb); (try clear hb2); (try clear hk); (try clear hi); (try clear ho0); obtain ⟨Ao25, co25, eo25⟩ := Kd.R_slice HO119.out; subst eo25) | (go_at_call 29; (with_reducible refine (spec_SameFields.calls k _ _ t110 _ _ t117 t120 _ ?side1 ?side2 ?side3 ?side4 A23.out).mono ?_); (case side1 => repeat (first | exact (Kd.R_reads' HO112.out).2.2 | (with_reducible refine Kd.C_alloc ?_ _) | (with_reducible refine Kd.C_drewN ?_ _) | (with_reducible refine Kd.C_drew ?_))); (case side2 => exact (Kd.R_reads' HO112.out).2.1); (case side3 => repeat (first | exact (Kd.R_reads' HO119.out).2.2 | (with_reducible refine Kd.C_alloc ?_ _) | (with_reducible refine Kd.C_drewN ?_ _) | (with_reducible refine Kd.C_drew ?_))); (case side4 => exact (Kd.R_reads' HO119.out).2.1); rintro e w' ⟨rfl, ⟨nd, rfl⟩⟩))
       go_meet
       case rel => exact ⟨_, (!t120), (by first | rfl | (simp; done) | (simp [*]; done)), H', ⟨by first | omega | exact Nat.le_refl _⟩, ⟨by (with_reducible repeat (first | apply Kd.R_alloc | apply Kd.R_drewN | apply Kd.R_drew)); exact Kd.R_mono HO106.out (fun _ hk => hk.1.2)⟩, ⟨by (with_reducible repeat (first | apply Kd.R_alloc | apply Kd.R_drewN | apply Kd.R_drew)); exact Kd.R_mono HO112.out (fun _ hk => hk.1.1.2)⟩, ⟨bq⟩⟩
      ·rw [if_neg c21] at H
       have c21b0 : ((t107.length : Int) == (wrap64 ((t110.length : Int) + 1))) = false := beq_eq_false_iff_ne.mpr c21
       have c21b1 : ((t107.length : Int) != (wrap64 ((t110.length : Int) + 1))) = true := bne_iff_ne.mpr c21
       have H' := Aside0.mk H
       clear H
       go_wp2
       go_meet
       case rel => exact ⟨_, (true), (by first | rfl | (simp; done) | (simp [*]; done)), H', ⟨by first | omega | exact Nat.le_refl _⟩, ⟨by (with_reducible repeat (first | apply Kd.R_alloc | apply Kd.R_drewN | apply Kd.R_drew)); exact Kd.R_mono HO106.out (fun _ hk => hk.2)⟩, ⟨by (with_reducible repeat (first | apply Kd.R_alloc | apply Kd.R_drewN | apply Kd.R_drew)); exact Kd.R_mono HO112.out (fun _ hk => hk.1.2)⟩, ⟨bq⟩⟩
    ·rw [if_neg c19] at H
     have c19b0 : (t113.toList == t104.toList) = false := beq_eq_false_iff_ne.mpr c19
     have c19b1 : (t113.toList != t104.toList) = true := bne_iff_ne.mpr c19
     (first | rw [c19b0] | (simp only [i64_w, i32_w]; rw [c19b0]) | skip)
     have H' := Aside0.mk H
     clear H
     go_wp2
     go_meet
     case rel => exact ⟨_, (true), (by first | rfl | (simp; done) | (simp [*]; done)), H', ⟨by first | omega | exact Nat.le_refl _⟩, ⟨by (with_reducible repeat (first | apply Kd.R_alloc | apply Kd.R_drewN | apply Kd.R_drew)); exact Kd.R_mono HO106.out (fun _ hk => hk.2)⟩, ⟨by (with_reducible repeat (first | apply Kd.R_alloc | apply Kd.R_drewN | apply Kd.R_drew)); exact Kd.R_mono HO112.out (fun _ hk => hk.1.2)⟩, ⟨bq⟩⟩
   ·replace c18 := Bool.eq_false_iff.mpr c18
    subst c18
    rw [if_neg (show ¬ (false = true) by decide)] at H
    have H' := Aside0.mk H
    clear H
    go_wp2
    go_meet
    case rel => exact ⟨_, (true), (by first | rfl | (simp; done) | (simp [*]; done)), H', ⟨by first | omega | exact Nat.le_refl _⟩, ⟨by (with_reducible repeat (first | apply Kd.R_alloc | apply Kd.R_drewN | apply Kd.R_drew)); exact Kd.R_mono HO106.out (fun _ hk => hk.2)⟩, ⟨by (with_reducible repeat (first | apply Kd.R_alloc | apply Kd.R_drewN | apply Kd.R_drew)); exact Kd.R_mono HO112.out (fun _ hk => hk.1.2)⟩, ⟨bq⟩⟩
  case rest =>
   clear HC9
   try clear c1
   try clear c2
   try clear p2
   try clear c3
   try clear c5
   try clear p6
   try clear c13
   try clear c18
   try clear c19
   try clear c19b0
   try clear c19b1
   try clear c20
   try clear c21
   try clear c21b0
   try clear c21b1
   try clear c25
   obtain ⟨kq, x74_8, rfl, HA, HJ8, HO_3, HO_7, HB⟩ := hcut
   cases kq with
   | zero => exact absurd HA.out (by simp [laws_FnFields.j0])
   | succ kj8 =>
    have H := HA.out
    clear HA
    simp only [laws_FnFields.j0] at H
    by_cases c26 : x74_8 = true
    ·subst c26
     rw [if_pos rfl] at H
     obtain rfl := Option.some.inj H
     go_wp2
     go_ret
     exact ⟨by first | rfl | (simp [errW_none, errW_some] <;> rfl) | (simp [*, errW_none, errW_some] <;> rfl), bq⟩
    ·replace c26 := Bool.eq_false_iff.mpr c26
     subst c26
     rw [if_neg (show ¬ (false = true) by decide)] at H
     have H' := Aside0.mk H
     clear H
     go_wp2
     go_loopg [12] kj8 (fun kq v12 w' => ∃ (x12_2 : Int), v12 = .int .i64 x12_2 ∧ Aside0 (laws_FnFields.l0 kq l0 t102 t103 t110 x12_2 = some r) ∧ Aside0 (kq ≤ kj8) ∧ Aside0 (Kd.R k49 49 w' w.heap.size (fun k_ => some k_ ≠ ((.slice Ao16 t110.length co16) : Value).ownBlock) (.slice Ao11 t102.length co11) t102) ∧ Aside0 (Kd.R k49 49 w' w.heap.size (fun k_ => some k_ ≠ ((.slice Ao11 t102.length co11) : Value).ownBlock) (.slice Ao16 t110.length co16) t110) ∧ Aside0 (Below w.heap.size w w'))
     case atStart => exact ⟨(0), (by first | rfl | (simp; done) | (simp [*]; done)), H', ⟨Nat.le_refl _⟩, ⟨rdq HO_3.out⟩, ⟨rdq HO_7.out⟩, ⟨bq⟩⟩
     case round =>
      clear H'
      try clear c1
      try clear c2
      try clear p2
      try clear c3
      try clear c5
      try clear p6
      try clear c13
      try clear c18
      try clear c19
      try clear c19b0
      try clear c19b1
      try clear c20
      try clear c21
      try clear c21b0
      try clear c21b1
      try clear c25
      try clear c26
      try clear p2
      try clear p6
      obtain ⟨x12_2, rfl, HA, HK2, HO_3, HO_7, HB⟩ := hrel
      cases gk with
      | zero => exact absurd HA.out (by simp [laws_FnFields.l0])
      | succ k2 =>
       have H := HA.out
       clear HA
       simp only [laws_FnFields.l0] at H
       by_cases c27 : x12_2 < (t102.length : Int)
       ·rw [if_pos c27] at H
        have c27b0 : decide (x12_2 < (t102.length : Int)) = true := decide_eq_true c27
        clear c27
        by_cases c28 : 0 ≤ x12_2
        ·rw [if_pos c28] at H
         have c28b0 : decide (0 ≤ x12_2) = true := decide_eq_true c28
         clear c28
         replace H := Option.bind_eq_some_iff.mp H
         obtain ⟨⟨t122, t123⟩, A290, H⟩ := H
         try dsimp only at H
         have A29 := Aside0.mk A290
         clear A290
         replace H := Option.bind_eq_some_iff.mp H
         obtain ⟨⟨t125, t126⟩, A300, H⟩ := H
         try dsimp only at H
         have A30 := Aside0.mk A300
         clear A300
         by_cases c31 : t123 = true
         ·subst c31
          rw [if_pos rfl] at H
          by_cases c32 : ((rd_T49 t102 x12_2).f0).toList = t103.toList
          ·rw [if_pos c32] at H
           have c32b0 : (((rd_T49 t102 x12_2).f0).toList == t103.toList) = true := beq_iff_eq.mpr c32
           have c32b1 : (((rd_T49 t102 x12_2).f0).toList != t103.toList) = false := bne_eq_false_iff_eq.mpr c32
           clear c32
           have H' := Aside0.mk H
           clear H
           have p121 : 0 ≤ (x12_2 : Int) := of_decide_eq_true asm
           have q121 : x12_2 < (t102.length : Int) := of_decide_eq_true asm
           obtain ⟨ad121, e121, hx121_0, hx121_1⟩ := at_T49 (Kd.R_reads' HO_3.out).2.2 x12_2 p121 q121
           cases e121
           replace p121 := eq_true p121
           replace q121 := eq_true q121
           go_wp2_with (first | ((with_reducible refine gate_callee (f := 28) rfl ?_); refine goesL_ (some 88) rfl rfl Tryd.func28 (by kernel_rfl) rfl #[.slice (some ad121) t102.length co11, .string ((rd_T49 t102 x12_2).f0)] rfl am ?_; (with_reducible refine (impl_FieldGet.calls k2 _ _ t102 ((rd_T49 t102 x12_2).f0) t122 true _ ?side1 ?side2 A29.out).mono ?_); (case side1 => repeat (first | exact (Kd.R_reads' HO_3.out).2.2 | (with_reducible refine Kd.C_alloc ?_ _) | (with_reducible refine Kd.C_drewN ?_ _) | (with_reducible refine Kd.C_drew ?_))); (case side2 => exact (Kd.R_reads' HO_3.out).2.1); rintro e w33 ⟨rfl, hb⟩; refine ⟨_, rfl, ?_⟩; have n0_ := Aside0.mk (Kd.R_below (rdq HO_3.out) hb); have n1_ := Aside0.mk (Kd.R_below (rdq HO_7.out) hb); have n2_ := Aside0.mk (below_step bq hb); clear HO_3; clear HO_7; clear HB; have HO_3 := n0_; have HO_7 := n1_; have HB := n2_; clear n0_ n1_ n2_; (try clear hb); (try clear hb2); (try clear hk); (try clear hi); have p124 : 0 ≤ (x12_2 : Int) := of_decide_eq_true asm; have q124 : x12_2 < (t102.length : Int) := of_decide_eq_true asm; obtain ⟨ad124, e124, hx124_0, hx124_1⟩ := at_T49 (Kd.R_reads' HO_3.out).2.2 x12_2 p124 q124; obtain rfl : ad121 = ad124 := (by injection e124); replace p124 := eq_true p124; replace q124 := eq_true q124) | ((with_reducible refine gate_callee (f := 28) rfl ?_); refine goesL_ (some 98) rfl rfl Tryd.func28 (by kernel_rfl) rfl #[.slice Ao16 t110.length co16, .string ((rd_T49 t102 x12_2).f0)] rfl am ?_; (with_reducible refine (impl_FieldGet.calls k2 _ _ t110 ((rd_T49 t102 x12_2).f0) t125 t126 _ ?side1 ?side2 A30.out).mono ?_); (case side1 => repeat (first | exact (Kd.R_reads' HO_7.out).2.2 | (with_reducible refine Kd.C_alloc ?_ _) | (with_reducible refine Kd.C_drewN ?_ _) | (with_reducible refine Kd.C_drew ?_))); (case side2 => exact (Kd.R_reads' HO_7.out).2.1); rintro e w34 ⟨rfl, hb⟩; refine ⟨_, rfl, ?_⟩; have n0_ := Aside0.mk (Kd.R_below (rdq HO_3.out) hb); have n1_ := Aside0.mk (Kd.R_below (rdq HO_7.out) hb); have n2_ := Aside0.mk (below_step bq hb); clear HO_3; clear HO_7; clear HB; have HO_3 := n0_; have HO_7 := n1_; have HB := n2_; clear n0_ n1_ n2_; (try clear hb); (try clear hb2); (try clear hk); (try clear hi); have p127 : 0 ≤ (x12_2 : Int) := of_decide_eq_true asm; have q127 : x12_2 < (t102.length : Int) := of_decide_eq_true asm; obtain ⟨ad127, e127, hx127_0, hx127_1⟩ := at_T49 (Kd.R_reads' HO_3.out).2.2 x12_2 p127 q127; obtain rfl : ad121 = ad127 := (by injection e127); replace p127 := eq_true p127; replace q127 := eq_true q127))
           go_roundg k2
           case measure => have := HJ8.out; have := HK2.out; omega
           case rel => exact ⟨(wrap64 (x12_2 + 1)), (by first | rfl | (simp; done) | (simp [*]; done)), H', ⟨by have := HJ8.out; have := HK2.out; omega⟩, ⟨rdq HO_3.out⟩, ⟨rdq HO_7.out⟩, ⟨bq⟩⟩
          ·rw [if_neg c32] at H
           have c32b0 : (((rd_T49 t102 x12_2).f0).toList == t103.toList) = false := beq_eq_false_iff_ne.mpr c32
           have c32b1 : (((rd_T49 t102 x12_2).f0).toList != t103.toList) = true := bne_iff_ne.mpr c32
           by_cases c35 : t122.toList = t125.toList
           ·rw [if_pos c35] at H
            have c35b0 : (t122.toList == t125.toList) = true := beq_iff_eq.mpr c35
            have c35b1 : (t122.toList != t125.toList) = false := bne_eq_false_iff_eq.mpr c35
            clear c35
            by_cases c36 : t126 = true
            ·subst c36
             rw [if_pos rfl] at H
             have H' := Aside0.mk H
             clear H
             have p121 : 0 ≤ (x12_2 : Int) := of_decide_eq_true asm
             have q121 : x12_2 < (t102.length : Int) := of_decide_eq_true asm
             obtain ⟨ad121, e121, hx121_0, hx121_1⟩ := at_T49 (Kd.R_reads' HO_3.out).2.2 x12_2 p121 q121
             cases e121
             replace p121 := eq_true p121
             replace q121 := eq_true q121
             go_wp2_with (first | ((with_reducible refine gate_callee (f := 28) rfl ?_); refine goesL_ (some 88) rfl rfl Tryd.func28 (by kernel_rfl) rfl #[.slice (some ad121) t102.length co11, .string ((rd_T49 t102 x12_2).f0)] rfl am ?_; (with_reducible refine (impl_FieldGet.calls k2 _ _ t102 ((rd_T49 t102 x12_2).f0) t122 true _ ?side1 ?side2 A29.out).mono ?_); (case side1 => repeat (first | exact (Kd.R_reads' HO_3.out).2.2 | (with_reducible refine Kd.C_alloc ?_ _) | (with_reducible refine Kd.C_drewN ?_ _) | (with_reducible refine Kd.C_drew ?_))); (case side2 => exact (Kd.R_reads' HO_3.out).2.1); rintro e w37 ⟨rfl, hb⟩; refine ⟨_, rfl, ?_⟩; have n0_ := Aside0.mk (Kd.R_below (rdq HO_3.out) hb); have n1_ := Aside0.mk (Kd.R_below (rdq HO_7.out) hb); have n2_ := Aside0.mk (below_step bq hb); clear HO_3; clear HO_7; clear HB; have HO_3 := n0_; have HO_7 := n1_; have HB := n2_; clear n0_ n1_ n2_; (try clear hb); (try clear hb2); (try clear hk); (try clear hi); have p124 : 0 ≤ (x12_2 : Int) := of_decide_eq_true asm; have q124 : x12_2 < (t102.length : Int) := of_decide_eq_true asm; obtain ⟨ad124, e124, hx124_0, hx124_1⟩ := at_T49 (Kd.R_reads' HO_3.out).2.2 x12_2 p124 q124; obtain rfl : ad121 = ad124 := (by injection e124); replace p124 := eq_true p124; replace q124 := eq_true q124) | ((with_reducible refine gate_callee (f := 28) rfl ?_); refine goesL_ (some 98) rfl rfl Tryd.func28 (by kernel_rfl) rfl #[.slice Ao16 t110.length co16, .string ((rd_T49 t102 x12_2).f0)] rfl am ?_; (with_reducible refine (impl_FieldGet.calls k2 _ _ t110 ((rd_T49 t102 x12_2).f0) t125 true _ ?side1 ?side2 A30.out).mono ?_); (case side1 => repeat (first | exact (Kd.R_reads' HO_7.out).2.2 | (with_reducible refine Kd.C_alloc ?_ _) | (with_reducible refine Kd.C_drewN ?_ _) | (with_reducible refine Kd.C_drew ?_))); (case side2 => exact (Kd.R_reads' HO_7.out).2.1); rintro e w38 ⟨rfl, hb⟩; refine ⟨_, rfl, ?_⟩; have n0_ := Aside0.mk (Kd.R_below (rdq HO_3.out) hb); have n1_ := Aside0.mk (Kd.R_below (rdq HO_7.out) hb); have n2_ := Aside0.mk (below_step bq hb); clear HO_3; clear HO_7; clear HB; have HO_3 := n0_; have HO_7 := n1_; have HB := n2_; clear n0_ n1_ n2_; (try clear hb); (try clear hb2); (try clear hk); (try clear hi); have p127 : 0 ≤ (x12_2 : Int) := of_decide_eq_true asm; have q127 : x12_2 < (t102.length : Int) := of_decide_eq_true asm; obtain ⟨ad127, e127, hx127_0, hx127_1⟩ := at_T49 (Kd.R_reads' HO_3.out).2.2 x12_2 p127 q127; obtain rfl : ad121 = ad127 := (by injection e127); replace p127 := eq_true p127; replace q127 := eq_true q127))
             go_roundg k2
             case measure => have := HJ8.out; have := HK2.out; omega
             case rel => exact ⟨(wrap64 (x12_2 + 1)), (by first | rfl | (simp; done) | (simp [*]; done)), H', ⟨by have := HJ8.out; have := HK2.out; omega⟩, ⟨rdq HO_3.out⟩, ⟨rdq HO_7.out⟩, ⟨bq⟩⟩
            ·replace c36 := Bool.eq_false_iff.mpr c36
             subst c36
             rw [if_neg (show ¬ (false = true) by decide)] at H
             obtain rfl := Option.some.inj H
             exact absurd HR_.out (by decide)
           ·rw [if_neg c35] at H
            have c35b0 : (t122.toList == t125.toList) = false := beq_eq_false_iff_ne.mpr c35
            have c35b1 : (t122.toList != t125.toList) = true := bne_iff_ne.mpr c35
            obtain rfl := Option.some.inj H
            exact absurd HR_.out (by decide)
         ·replace c31 := Bool.eq_false_iff.mpr c31
          subst c31
          rw [if_neg (show ¬ (false = true) by decide)] at H
          obtain rfl := Option.some.inj H
          exact absurd HR_.out (by decide)
        ·rw [if_neg c28] at H
         exact absurd H (by simp)
       ·rw [if_neg c27] at H
        have c27b0 : decide (x12_2 < (t102.length : Int)) = false := decide_eq_false c27
        clear c27
        replace H := Option.bind_eq_some_iff.mp H
        obtain ⟨t128, A450, H⟩ := H
        try dsimp only at H
        have A45 := Aside0.mk A450
        clear A450
        replace H := Option.bind_eq_some_iff.mp H
        obtain ⟨t131, A460, H⟩ := H
        try dsimp only at H
        have A46 := Aside0.mk A460
        clear A460
        by_cases c47 : t131.size + 4 ≤ 9223372036854775807
        ·rw [if_pos c47] at H
         have c47b0 := eq_true c47
         have c47b1 : decide (t131.size + 4 ≤ 9223372036854775807) = true := decide_eq_true c47
         try have c47b2 : (9223372036854775807 < t131.size + 4) = False := eq_false (Nat.not_lt.2 c47)
         replace H := Option.bind_eq_some_iff.mp H
         obtain ⟨⟨t132, t133, t134⟩, A480, H⟩ := H
         try dsimp only at H
         have A48 := Aside0.mk A480
         clear A480
         replace H := Option.bind_eq_some_iff.mp H
         obtain ⟨t137, A490, H⟩ := H
         try dsimp only at H
         have A49 := Aside0.mk A490
         clear A490
         by_cases c50 : ((t131.toList != ([] : List UInt8)) == t137) = true
         ·rw [if_pos c50] at H
          have c50b0 : ((t131.toList != ([] : List UInt8)) == t137) = true := c50
          (try (have c50b1 : decide ((t131.toList != ([] : List UInt8)) = t137) = true := by simpa using c50))
          (try (have c50b2 : ((t131.toList != ([] : List UInt8)) == t137) = true := by simpa using c50))
          clear c50
          by_cases c51 : t131.toList = ([] : List UInt8)
          ·rw [if_pos c51] at H
           have c51b0 : (t131.toList == ([] : List UInt8)) = true := beq_iff_eq.mpr c51
           have c51b1 : (t131.toList != ([] : List UInt8)) = false := bne_eq_false_iff_eq.mpr c51
           have e_ : t137 = false := by simpa [c51b1] using c50b0
           clear c51
           obtain rfl := Option.some.inj H
           go_wp2_with (first | ((with_reducible refine gate_callee (f := 31) rfl ?_); refine goesL_ (some 122) rfl rfl Tryd.func31 (by kernel_rfl) rfl #[.slice A0 l0.length c0] rfl am ?_; (with_reducible refine (spec_DrawShowFields.calls k2 _ _ l0 t128 _ ?side1 ?side2 A45.out).mono ?_); (case side1 => repeat (first | exact (Kd.C_below HR0.out HB.out) | (with_reducible refine Kd.C_alloc ?_ _) | (with_reducible refine Kd.C_drewN ?_ _) | (with_reducible refine Kd.C_drew ?_))); (case side2 => exact HC0.out); rintro e w52 ⟨v129, rfl, ho0, hb⟩; refine ⟨_, rfl, ?_⟩; have n0_ := Aside0.mk (Kd.R_elder' (rdq HO_3.out) (Kd.R_base ho0) hb); have n1_ := Aside0.mk (Kd.R_elder' (rdq HO_7.out) (Kd.R_base ho0) hb); have n2_ := Aside0.mk (Kd.R_lower (Kd.R_new' (Kd.R_new' ho0 (Kd.R_lt (rdq HO_3.out))) (Kd.R_lt (rdq HO_7.out))) (below_size bq)); have n3_ := Aside0.mk (below_step bq hb); clear HO_3; clear HO_7; clear HB; have HO_3 := n0_; have HO_7 := n1_; have HO130 := n2_; have HB := n3_; clear n0_ n1_ n2_ n3_; (try clear hb); (try clear hb2); (try clear hk); (try clear hi); (try clear ho0); obtain ⟨Ao53, co53, eo53⟩ := Kd.R_slice HO130.out; subst eo53) | ((with_reducible refine gate_callee (f := 32) rfl ?_); refine goesL_ (some 124) rfl rfl Tryd.func32 (by kernel_rfl) rfl #[.slice Ao53 t128.length co53] rfl am ?_; (with_reducible refine (impl_ShowFields.calls k2 _ _ t128 t131 _ ?side1 ?side2 A46.out).mono ?_); (case side1 => repeat (first | exact (Kd.R_reads' HO130.out).2.2 | (with_reducible refine Kd.C_alloc ?_ _) | (with_reducible refine Kd.C_drewN ?_ _) | (with_reducible refine Kd.C_drew ?_))); (case side2 => exact (Kd.R_reads' HO130.out).2.1); rintro e w54 ⟨rfl, hb⟩; refine ⟨_, rfl, ?_⟩; have n0_ := Aside0.mk (Kd.R_below (rdq HO_3.out) hb); have n1_ := Aside0.mk (Kd.R_below (rdq HO_7.out) hb); have n2_ := Aside0.mk (Kd.R_below (rdq HO130.out) hb); have n3_ := Aside0.mk (below_step bq hb); clear HO_3; clear HO_7; clear HO130; clear HB; have HO_3 := n0_; have HO_7 := n1_; have HO130 := n2_; have HB := n3_; clear n0_ n1_ n2_ n3_; (try clear hb); (try clear hb2); (try clear hk); (try clear hi)) | ((with_reducible refine gate_callee (f := 33) rfl ?_); refine goesL_ (some 128) rfl rfl Tryd.func33 (by kernel_rfl) rfl #[.string (t131 ++ (⟨#[98, 111, 100, 121]⟩ : ByteArray))] rfl am ?_; (with_reducible refine (impl_ReadFields.calls k2 (t131 ++ (⟨#[98, 111, 100, 121]⟩ : ByteArray)) t132 t133 t134 _ ?side1 A48.out).mono ?_); (case side1 => refine GMax.of_below HGMax.out ?_; repeat (first | (with_reducible first | exact HB.out | apply below_alloc | apply pw_below_drewN | apply below_drew1) | exact HB.out)); rintro e w55 ⟨v135, rfl, ho0, hb⟩; refine ⟨_, rfl, ?_⟩; have n0_ := Aside0.mk (Kd.R_elder' (rdq HO_3.out) (Kd.R_base ho0) hb); have n1_ := Aside0.mk (Kd.R_elder' (rdq HO_7.out) (Kd.R_base ho0) hb); have n2_ := Aside0.mk (Kd.R_elder' (rdq HO130.out) (Kd.R_base ho0) hb); have n3_ := Aside0.mk (Kd.R_lower (Kd.R_new' (Kd.R_new' (Kd.R_new' ho0 (Kd.R_lt (rdq HO_3.out))) (Kd.R_lt (rdq HO_7.out))) (Kd.R_lt (rdq HO130.out))) (below_size bq)); have n4_ := Aside0.mk (below_step bq hb); clear HO_3; clear HO_7; clear HO130; clear HB; have HO_3 := n0_; have HO_7 := n1_; have HO130 := n2_; have HO136 := n3_; have HB := n4_; clear n0_ n1_ n2_ n3_ n4_; (try clear hb); (try clear hb2); (try clear hk); (try clear hi); (try clear ho0)) | ((with_reducible refine gate_callee (f := 34) rfl ?_); refine goesL_ (some 135) rfl rfl Tryd.func34 (by kernel_rfl) rfl #[.slice Ao53 t128.length co53] rfl am ?_; (with_reducible refine (spec_FieldsOk.calls k2 _ _ t128 t137 _ ?side1 ?side2 A49.out).mono ?_); (case side1 => repeat (first | exact (Kd.R_reads' HO130.out).2.2 | (with_reducible refine Kd.C_alloc ?_ _) | (with_reducible refine Kd.C_drewN ?_ _) | (with_reducible refine Kd.C_drew ?_))); (case side2 => exact (Kd.R_reads' HO130.out).2.1); rintro e w56 ⟨rfl, hb⟩; refine ⟨_, rfl, ?_⟩; have n0_ := Aside0.mk (Kd.R_below (rdq HO_3.out) hb); have n1_ := Aside0.mk (Kd.R_below (rdq HO_7.out) hb); have n2_ := Aside0.mk (Kd.R_below (rdq HO130.out) hb); have n3_ := Aside0.mk (Kd.R_below (rdq HO136.out) hb); have n4_ := Aside0.mk (below_step bq hb); clear HO_3; clear HO_7; clear HO130; clear HO136; clear HB; have HO_3 := n0_; have HO_7 := n1_; have HO130 := n2_; have HO136 := n3_; have HB := n4_; clear n0_ n1_ n2_ n3_ n4_; (try clear hb); (try clear hb2); (try clear hk); (try clear hi)))
           go_ret
           exact ⟨by first | rfl | (simp [errW_none, errW_some] <;> rfl) | (simp [*, errW_none, errW_some] <;> rfl), bq⟩
          ·rw [if_neg c51] at H
           have c51b0 : (t131.toList == ([] : List UInt8)) = false := beq_eq_false_iff_ne.mpr c51
           have c51b1 : (t131.toList != ([] : List UInt8)) = true := bne_iff_ne.mpr c51
           have e_ : t137 = true := by simpa [c51b1] using c50b0
           by_cases c57 : t134 = true
           ·subst c57
            rw [if_pos rfl] at H
            by_cases c58 : t133 = (t131.size : Int)
            ·rw [if_pos c58] at H
             have c58b0 : (t133 == (t131.size : Int)) = true := beq_iff_eq.mpr c58
             have c58b1 : (t133 != (t131.size : Int)) = false := bne_eq_false_iff_eq.mpr c58
             clear c58
             replace H := Option.bind_eq_some_iff.mp H
             obtain ⟨t138, A590, H⟩ := H
             try dsimp only at H
             have A59 := Aside0.mk A590
             clear A590
             obtain rfl := Option.some.inj H
             go_wp2_with (first | ((with_reducible refine gate_callee (f := 31) rfl ?_); refine goesL_ (some 122) rfl rfl Tryd.func31 (by kernel_rfl) rfl #[.slice A0 l0.length c0] rfl am ?_; (with_reducible refine (spec_DrawShowFields.calls k2 _ _ l0 t128 _ ?side1 ?side2 A45.out).mono ?_); (case side1 => repeat (first | exact (Kd.C_below HR0.out HB.out) | (with_reducible refine Kd.C_alloc ?_ _) | (with_reducible refine Kd.C_drewN ?_ _) | (with_reducible refine Kd.C_drew ?_))); (case side2 => exact HC0.out); rintro e w60 ⟨v129, rfl, ho0, hb⟩; refine ⟨_, rfl, ?_⟩; have n0_ := Aside0.mk (Kd.R_elder' (rdq HO_3.out) (Kd.R_base ho0) hb); have n1_ := Aside0.mk (Kd.R_elder' (rdq HO_7.out) (Kd.R_base ho0) hb); have n2_ := Aside0.mk (Kd.R_lower (Kd.R_new' (Kd.R_new' ho0 (Kd.R_lt (rdq HO_3.out))) (Kd.R_lt (rdq HO_7.out))) (below_size bq)); have n3_ := Aside0.mk (below_step bq hb); clear HO_3; clear HO_7; clear HB; have HO_3 := n0_; have HO_7 := n1_; have HO130 := n2_; have HB := n3_; clear n0_ n1_ n2_ n3_; (try clear hb); (try clear hb2); (try clear hk); (try clear hi); (try clear ho0); obtain ⟨Ao61, co61, eo61⟩ := Kd.R_slice HO130.out; subst eo61) | ((with_reducible refine gate_callee (f := 32) rfl ?_); refine goesL_ (some 124) rfl rfl Tryd.func32 (by kernel_rfl) rfl #[.slice Ao61 t128.length co61] rfl am ?_; (with_reducible refine (impl_ShowFields.calls k2 _ _ t128 t131 _ ?side1 ?side2 A46.out).mono ?_); (case side1 => repeat (first | exact (Kd.R_reads' HO130.out).2.2 | (with_reducible refine Kd.C_alloc ?_ _) | (with_reducible refine Kd.C_drewN ?_ _) | (with_reducible refine Kd.C_drew ?_))); (case side2 => exact (Kd.R_reads' HO130.out).2.1); rintro e w62 ⟨rfl, hb⟩; refine ⟨_, rfl, ?_⟩; have n0_ := Aside0.mk (Kd.R_below (rdq HO_3.out) hb); have n1_ := Aside0.mk (Kd.R_below (rdq HO_7.out) hb); have n2_ := Aside0.mk (Kd.R_below (rdq HO130.out) hb); have n3_ := Aside0.mk (below_step bq hb); clear HO_3; clear HO_7; clear HO130; clear HB; have HO_3 := n0_; have HO_7 := n1_; have HO130 := n2_; have HB := n3_; clear n0_ n1_ n2_ n3_; (try clear hb); (try clear hb2); (try clear hk); (try clear hi)) | ((with_reducible refine gate_callee (f := 33) rfl ?_); refine goesL_ (some 128) rfl rfl Tryd.func33 (by kernel_rfl) rfl #[.string (t131 ++ (⟨#[98, 111, 100, 121]⟩ : ByteArray))] rfl am ?_; (with_reducible refine (impl_ReadFields.calls k2 (t131 ++ (⟨#[98, 111, 100, 121]⟩ : ByteArray)) t132 t133 true _ ?side1 A48.out).mono ?_); (case side1 => refine GMax.of_below HGMax.out ?_; repeat (first | (with_reducible first | exact HB.out | apply below_alloc | apply pw_below_drewN | apply below_drew1) | exact HB.out)); rintro e w63 ⟨v135, rfl, ho0, hb⟩; refine ⟨_, rfl, ?_⟩; have n0_ := Aside0.mk (Kd.R_elder' (rdq HO_3.out) (Kd.R_base ho0) hb); have n1_ := Aside0.mk (Kd.R_elder' (rdq HO_7.out) (Kd.R_base ho0) hb); have n2_ := Aside0.mk (Kd.R_elder' (rdq HO130.out) (Kd.R_base ho0) hb); have n3_ := Aside0.mk (Kd.R_lower (Kd.R_new' (Kd.R_new' (Kd.R_new' ho0 (Kd.R_lt (rdq HO_3.out))) (Kd.R_lt (rdq HO_7.out))) (Kd.R_lt (rdq HO130.out))) (below_size bq)); have n4_ := Aside0.mk (below_step bq hb); clear HO_3; clear HO_7; clear HO130; clear HB; have HO_3 := n0_; have HO_7 := n1_; have HO130 := n2_; have HO136 := n3_; have HB := n4_; clear n0_ n1_ n2_ n3_ n4_; (try clear hb); (try clear hb2); (try clear hk); (try clear hi); (try clear ho0)) | ((with_reducible refine gate_callee (f := 34) rfl ?_); refine goesL_ (some 135) rfl rfl Tryd.func34 (by kernel_rfl) rfl #[.slice Ao61 t128.length co61] rfl am ?_; (with_reducible refine (spec_FieldsOk.calls k2 _ _ t128 t137 _ ?side1 ?side2 A49.out).mono ?_); (case side1 => repeat (first | exact (Kd.R_reads' HO130.out).2.2 | (with_reducible refine Kd.C_alloc ?_ _) | (with_reducible refine Kd.C_drewN ?_ _) | (with_reducible refine Kd.C_drew ?_))); (case side2 => exact (Kd.R_reads' HO130.out).2.1); rintro e w64 ⟨rfl, hb⟩; refine ⟨_, rfl, ?_⟩; have n0_ := Aside0.mk (Kd.R_below (rdq HO_3.out) hb); have n1_ := Aside0.mk (Kd.R_below (rdq HO_7.out) hb); have n2_ := Aside0.mk (Kd.R_below (rdq HO130.out) hb); have n3_ := Aside0.mk (Kd.R_below (rdq HO136.out) hb); have n4_ := Aside0.mk (below_step bq hb); clear HO_3; clear HO_7; clear HO130; clear HO136; clear HB; have HO_3 := n0_; have HO_7 := n1_; have HO130 := n2_; have HO136 := n3_; have HB := n4_; clear n0_ n1_ n2_ n3_ n4_; (try clear hb); (try clear hb2); (try clear hk); (try clear hi); obtain ⟨Ao65, co65, eo65⟩ := Kd.R_slice HO136.out; subst eo65) | (go_at_call 29; (with_reducible refine (spec_SameFields.calls k2 _ _ t132 _ _ t128 t138 _ ?side1 ?side2 ?side3 ?side4 A59.out).mono ?_); (case side1 => repeat (first | exact (Kd.R_reads' HO136.out).2.2 | (with_reducible refine Kd.C_alloc ?_ _) | (with_reducible refine Kd.C_drewN ?_ _) | (with_reducible refine Kd.C_drew ?_))); (case side2 => exact (Kd.R_reads' HO136.out).2.1); (case side3 => repeat (first | exact (Kd.R_reads' HO130.out).2.2 | (with_reducible refine Kd.C_alloc ?_ _) | (with_reducible refine Kd.C_drewN ?_ _) | (with_reducible refine Kd.C_drew ?_))); (case side4 => exact (Kd.R_reads' HO130.out).2.1); rintro e w' ⟨rfl, ⟨nd, rfl⟩⟩))
             go_ret
             exact ⟨by first | rfl | (simp [errW_none, errW_some] <;> rfl) | (simp [*, errW_none, errW_some] <;> rfl), bq⟩
            ·rw [if_neg c58] at H
             have c58b0 : (t133 == (t131.size : Int)) = false := beq_eq_false_iff_ne.mpr c58
             have c58b1 : (t133 != (t131.size : Int)) = true := bne_iff_ne.mpr c58
             obtain rfl := Option.some.inj H
             exact absurd HR_.out (by decide)
           ·replace c57 := Bool.eq_false_iff.mpr c57
            subst c57
            rw [if_neg (show ¬ (false = true) by decide)] at H
            obtain rfl := Option.some.inj H
            exact absurd HR_.out (by decide)
         ·rw [if_neg c50] at H
          have c50b0 : ((t131.toList != ([] : List UInt8)) == t137) = false := by simpa using c50
          (try (have c50b1 : decide ((t131.toList != ([] : List UInt8)) = t137) = false := by simpa using c50))
          (try (have c50b2 : ((t131.toList != ([] : List UInt8)) == t137) = false := by simpa using c50))
          (try (have c50b3 : ¬ ((t131.toList != ([] : List UInt8)) = t137) := by simpa using c50))
          clear c50
          obtain rfl := Option.some.inj H
          exact absurd HR_.out (by decide)
        ·rw [if_neg c47] at H
         exact absurd H (by simp)

end Go.Proofs.YtjldfmkpdkhnnaaDoor.QL

namespace Go.Proofs.YtjldfmkpdkhnnaaDoor.QL
open Go.RowKit Go.Proofs.YtjldfmkpdkhnnaaDoorW.PrintWords Go.Proofs.YtjldfmkpdkhnnaaDoorW.PrintLast Go.Proofs.YtjldfmkpdkhnnaaDoorW.PrintMore Go.Proofs.YtjldfmkpdkhnnaaDoor.Aux Go.Proofs.YtjldfmkpdkhnnaaDoor.Dom Go.Proofs.YtjldfmkpdkhnnaaDoor.Ext Go.Proofs.YtjldfmkpdkhnnaaDoor.Glob
def laws_FnFields.Pure : Prop := ∀ (l0 : List Int), l0.length ≤ maxLen → l0.length * 1 ≤ 140737488351232 → (∀ x ∈ l0, (Lit.int .u8 x).wf = true) → ∃ k, laws_FnFields.f k l0 = some true
theorem laws_FnFields.walk (P : laws_FnFields.Pure) (a0 : Option Addr) (len0 cap0 : Nat) (z0 : List Int) (w : World) (w0 : (a0 = none ∧ len0 = 0 ∧ cap0 = 0 ∧ z0 = []) ∨ ∃ x, a0 = some x ∧ len0 ≤ cap0 ∧ cap0 ≤ maxLen ∧ z0.length = cap0 ∧ (∀ i, i < z0.length → w.cell? (x.add i) = some (.int .u8 (z0.getD i 0))) ∧ ∀ n ∈ z0, (Lit.int .u8 n).wf = true) (y0 : len0 * 1 ≤ 140737488351232) (hGMax : GMax w) :
    Calls Tryd.prog 5 #[.slice a0 len0 cap0] w fun e w' => e = .returned (.bool true) ∧ Below w.heap.size w w' := by
  obtain ⟨l0, rfl, hr0, hm0, hw0, hc0⟩ := ReadsInt.ofRowC w0
  obtain ⟨k, h⟩ := P l0 hm0 y0 hw0
  refine (laws_FnFields.calls k _ _ l0 true w (Kd.C_of_reads (d := (0 : Int)) (h1 := fun _ => rfl) hr0) hc0 hGMax h rfl).mono ?_
  rintro e w' ⟨rfl, hd⟩
  exact ⟨rfl, hd⟩
end Go.Proofs.YtjldfmkpdkhnnaaDoor.QL

namespace Go.Proofs.YtjldfmkpdkhnnaaDoor.Dom
open Go.RowKit Go.Proofs.YtjldfmkpdkhnnaaDoorW.PrintWords Go.Proofs.YtjldfmkpdkhnnaaDoorW.PrintLast Go.Proofs.YtjldfmkpdkhnnaaDoorW.PrintMore Go.Proofs.YtjldfmkpdkhnnaaDoor.Aux

def szL : Int → List (ByteArray × ByteArray) → Int
  | n, [] => n
  | n, p :: r => if n - (p.1.size : Int) - (p.2.size : Int) < 0 then -1 else szL (n - (p.1.size : Int) - (p.2.size : Int)) r
def szF (n : Int) (l : List (ByteArray × ByteArray)) : Int := if n - (l.length : Int) < 0 then -1 else szL (n - l.length) l
theorem szF_len {n : Int} {l : List (ByteArray × ByteArray)} (h : ¬ szF n l < 0) : (l.length : Int) ≤ n := by
  unfold szF at h
  split at h
  · exact absurd (by omega) h
  · omega
def getL (nm : ByteArray) : List (ByteArray × ByteArray) → List ByteArray
  | [] => []
  | p :: r => if p.1 = nm then p.2 :: getL nm r else getL nm r
theorem szL_sum (nm : ByteArray) : ∀ (l : List (ByteArray × ByteArray)) (n : Int), 0 ≤ n → ¬ szL n l < 0 → ((((getL nm l).map fun v => v.size + 2).sum : Nat) : Int) ≤ n + 2 * l.length
  | [], n, h0, _ => by simp [getL]; omega
  | q :: r, n, h0, h => by
    rw [szL] at h
    split at h
    · exact absurd (by omega) h
    · rename_i h1
      have ih := szL_sum nm r _ (by omega) h
      rw [getL]
      split
      · rw [List.map_cons, List.sum_cons, List.length_cons]
        omega
      · rw [List.length_cons]
        omega
theorem szF_sum (nm : ByteArray) {n : Int} {l : List (ByteArray × ByteArray)} (h0 : 0 ≤ n) (h : ¬ szF n l < 0) : ((((getL nm l).map fun v => v.size + 2).sum : Nat) : Int) ≤ 3 * n := by
  have h1 := szF_len h
  unfold szF at h
  split at h
  · exact absurd (by omega) h
  · have := szL_sum nm l _ (by omega) h
    omega
theorem getL_length (nm : ByteArray) : ∀ l : List (ByteArray × ByteArray), (getL nm l).length ≤ l.length
  | [] => by simp [getL]
  | q :: r => by
    have := getL_length nm r
    rw [getL]
    split <;> simp <;> omega
def sameL : List (ByteArray × ByteArray) → List (ByteArray × ByteArray) → Bool
  | p :: r, q :: t => if p.1 = q.1 ∧ p.2 = q.2 then sameL r t else false
  | _, _ => true
def sameF (a b : List (ByteArray × ByteArray)) : Bool := if a.length = b.length then sameL a b else false
def setL (nm v : ByteArray) : Bool → List (ByteArray × ByteArray) → List (ByteArray × ByteArray)
  | d, [] => if d then [] else [(nm, v)]
  | d, p :: r => if p.1 = nm then (if d then setL nm v d r else (nm, v) :: setL nm v true r) else p :: setL nm v d r
def tokB (l : List Int) : Bool := l.all tokC && !l.isEmpty
def leapB (y : Int) : Bool := decide ((y % 4 = 0 ∧ y % 100 ≠ 0) ∨ y % 400 = 0)
def yearD (y : Int) : Int := if leapB y then 366 else 365
def monthD (y m : Int) : Int := if m = 2 then (if leapB y then 29 else 28) else if m = 4 ∨ m = 6 ∨ m = 9 ∨ m = 11 then 30 else 31
def yearsD : Nat → Int → Int
  | 0, _ => 0
  | d + 1, y => yearD y + yearsD d (y + 1)
def monthsD (y : Int) : Nat → Int → Int
  | 0, _ => 0
  | d + 1, m => monthD y m + monthsD y d (m + 1)
def daysP (y m d : Int) : Int := if (1970 ≤ y ∧ y ≤ 2037) ∧ (1 ≤ m ∧ m ≤ 12) ∧ (1 ≤ d ∧ d ≤ monthD y m) then d - 1 + yearsD (y - 1970).toNat 1970 + monthsD y (m - 1).toNat 1 else -1
theorem yearD_bd (y : Int) : 365 ≤ yearD y ∧ yearD y ≤ 366 := by unfold yearD; split <;> omega
theorem monthD_bd (y m : Int) : 28 ≤ monthD y m ∧ monthD y m ≤ 31 := by
  unfold monthD
  split
  · split <;> omega
  · split <;> omega
theorem yearsD_bd : ∀ (d : Nat) (y : Int), 365 * (d : Int) ≤ yearsD d y ∧ yearsD d y ≤ 366 * (d : Int)
  | 0, _ => by simp [yearsD]
  | d + 1, y => by
    have := yearsD_bd d (y + 1)
    have := yearD_bd y
    rw [yearsD]; omega
theorem monthsD_bd (y : Int) : ∀ (d : Nat) (m : Int), 28 * (d : Int) ≤ monthsD y d m ∧ monthsD y d m ≤ 31 * (d : Int)
  | 0, _ => by simp [monthsD]
  | d + 1, m => by
    have := monthsD_bd y d (m + 1)
    have := monthD_bd y m
    rw [monthsD]; omega

theorem toList_lit (b : ByteArray) (xs : List UInt8) : b.toList = xs ↔ bytesOf b = xs.map fun c => (c.toNat : Int) := by
  rw [Lib.toList_data]
  unfold bytesOf
  constructor
  · intro h; rw [h]
  · intro h
    exact List.map_inj_right (f := fun b : UInt8 => (b.toNat : Int)) (fun x y hxy => UInt8.toNat_inj.1 (by exact_mod_cast hxy)) |>.1 h
theorem idxS_bound (sub : List Int) : ∀ l : List Int, idxS l sub = -1 ∨ (0 ≤ idxS l sub ∧ idxS l sub + sub.length ≤ l.length)
  | [] => by
    cases sub with
    | nil => right; simp [idxS]
    | cons a s => left; rfl
  | b :: l => by
    rw [idxS]
    by_cases h : sub.isPrefixOf (b :: l) = true
    · rw [if_pos h]
      right
      have := (List.isPrefixOf_iff_prefix.1 h).length_le
      exact ⟨by omega, by omega⟩
    · rw [if_neg h]
      rcases idxS_bound sub l with h1 | h1
      · left; rw [if_pos h1]
      · right
        rw [if_neg (by omega), List.length_cons]
        omega
theorem idxS_crlf (a b : Int) (r : List Int) : idxS (a :: b :: r) [13, 10] = if a = 13 ∧ b = 10 then 0 else if idxS (b :: r) [13, 10] = -1 then -1 else idxS (b :: r) [13, 10] + 1 := by
  rw [idxS]
  by_cases h : a = 13 ∧ b = 10
  · obtain ⟨rfl, rfl⟩ := h
    simp [List.isPrefixOf]
  · rw [if_neg h, if_neg]
    simp only [List.isPrefixOf, Bool.and_true, Bool.and_eq_true, beq_iff_eq]
    intro hh; exact h ⟨hh.1.symm, hh.2.symm⟩
def valC (c : Int) : Bool := decide (c = 9) || (decide (32 ≤ c) && decide (c ≠ 127))
def valB (s : ByteArray) : Bool := (bytesOf s).all valC && decide (trimB s = s)
theorem toList_beq (a b : ByteArray) : (a.toList == b.toList) = decide (a = b) := by
  rw [Bool.eq_iff_iff, beq_iff_eq, decide_eq_true_eq, toList_eq_iff]
theorem bytesOf_last {s : ByteArray} {d : Nat} (h : s.size = d + 1) : bytesOf s = (bytesOf s).take d ++ [bt s (d : Int)] := by
  have hl := bytesOf_length s
  have hd : d < (bytesOf s).length := by omega
  rw [bt_get s d hd]
  conv => lhs; rw [← List.take_append_drop d (bytesOf s), List.drop_eq_getElem_cons hd, List.drop_of_length_le (by omega)]
theorem bytesOf_nil {s : ByteArray} (h : s.size = 0) : bytesOf s = [] := List.eq_nil_of_length_eq_zero (by rw [bytesOf_length]; exact h)
def lowB (s : ByteArray) : ByteArray := strOfNums ((bytesOf s).map lowC)
def fieldB (p : ByteArray × ByteArray) : Bool := tokB (bytesOf p.1) && decide (p.1.size ≤ 24) && decide (lowB p.1 = p.1) && valB p.2 && decide (p.2.size ≤ 60)
def fieldsB (l : List (ByteArray × ByteArray)) : Bool := l.all fieldB && decide (l.length ≤ 12)
theorem trim_nil (b : ByteArray) : b.toList = ([] : List UInt8) ↔ b = ⟨#[]⟩ := by
  rw [toList_lit]
  constructor
  · intro h
    refine bytesOf_inj (h.trans ?_)
    rfl
  · rintro rfl
    rfl
def showR : List (ByteArray × ByteArray) → ByteArray
  | [] => ⟨#[13, 10]⟩
  | p :: r => p.1 ++ ⟨#[58, 32]⟩ ++ p.2 ++ ⟨#[13, 10]⟩ ++ showR r
def showB (l : List (ByteArray × ByteArray)) : ByteArray := if fieldsB l = true then showR l else ⟨#[]⟩
theorem size_colon : (⟨#[58, 32]⟩ : ByteArray).size = 2 := rfl
theorem size_crlf : (⟨#[13, 10]⟩ : ByteArray).size = 2 := rfl
def lineF (line : List Int) (c : Int) : ByteArray × ByteArray := (lowB (strOfNums (line.take c.toNat)), trimB (strOfNums (line.drop (c.toNat + 1))))
def rfP (l : List Int) : Nat → List (ByteArray × ByteArray) → Int → List (ByteArray × ByteArray) × Int × Bool
  | 0, _, _ => ([], 0, false)
  | d + 1, acc, i =>
    if idxS (l.drop i.toNat) [13, 10] < 0 then ([], 0, false)
    else if idxS (l.drop i.toNat) [13, 10] = 0 then (acc, i + 2, true)
    else if idxS ((l.drop i.toNat).take (idxS (l.drop i.toNat) [13, 10]).toNat) [58] < 0 then ([], 0, false)
    else if fieldB (lineF ((l.drop i.toNat).take (idxS (l.drop i.toNat) [13, 10]).toNat) (idxS ((l.drop i.toNat).take (idxS (l.drop i.toNat) [13, 10]).toNat) [58])) = true ∧ acc.length < 12 then rfP l d (acc ++ [lineF ((l.drop i.toNat).take (idxS (l.drop i.toNat) [13, 10]).toNat) (idxS ((l.drop i.toNat).take (idxS (l.drop i.toNat) [13, 10]).toNat) [58])]) (i + idxS (l.drop i.toNat) [13, 10] + 2)
    else ([], 0, false)
theorem idxS_one (b c : Int) (r : List Int) : idxS (b :: r) [c] = if c = b then 0 else if idxS r [c] = -1 then -1 else idxS r [c] + 1 := by
  rw [idxS]
  by_cases h : c = b
  · subst h
    simp [List.isPrefixOf]
  · rw [if_neg h, if_neg (by simp [List.isPrefixOf, h])]
theorem trim_range {s : ByteArray} : (trimB s).size ≤ s.size := by
  unfold trimB
  rw [strOfNums_size]
  unfold trimC
  have h1 := (List.dropWhile_sublist blkC (l := ((bytesOf s).reverse.dropWhile blkC).reverse)).length_le
  have h2 := (List.dropWhile_sublist blkC (l := (bytesOf s).reverse)).length_le
  have h3 := bytesOf_length s
  simp only [List.length_reverse] at h1 h2
  omega
theorem nil_toList : (strOfNums []).toList = ([] : List UInt8) := (trim_nil _).2 rfl
theorem low_range {s : ByteArray} : (lowB s).size = s.size := by
  unfold lowB
  rw [strOfNums_size, List.length_map, bytesOf_length]
end Go.Proofs.YtjldfmkpdkhnnaaDoor.Dom

namespace Go.Proofs.YtjldfmkpdkhnnaaDoor.Dom
open Go.RowKit Go.Proofs.YtjldfmkpdkhnnaaDoorW.PrintWords Go.Proofs.YtjldfmkpdkhnnaaDoorW.PrintLast Go.Proofs.YtjldfmkpdkhnnaaDoorW.PrintMore Go.Proofs.YtjldfmkpdkhnnaaDoor.Aux

def dropL (nm : ByteArray) : List (ByteArray × ByteArray) → List (ByteArray × ByteArray)
  | [] => []
  | p :: r => if p.1 = nm then dropL nm r else p :: dropL nm r
theorem dropL_length (nm : ByteArray) : ∀ l, (dropL nm l).length ≤ l.length
  | [] => by simp [dropL]
  | p :: r => by
    have := dropL_length nm r
    rw [dropL]
    split
    · simp; omega
    · simp; omega
def nmCC : ByteArray := ⟨#[99, 97, 99, 104, 101, 45, 99, 111, 110, 116, 114, 111, 108]⟩
def ydL : Nat → Int → Int → Int × Int
  | 0, y, d => (y, d)
  | f + 1, y, d => if yearD y ≤ d then ydL f (y + 1) (d - yearD y) else (y, d)
def mdL (y : Int) : Nat → Int → Int → Int × Int
  | 0, m, d => (m, d)
  | f + 1, m, d => if monthD y m ≤ d then mdL y f (m + 1) (d - monthD y m) else (m, d)
theorem ydL_spec : ∀ (f : Nat) (y d : Int), 0 ≤ d → d < 365 * f → ∃ j : Nat, ydL f y d = (y + j, d - yearsD j y) ∧ 0 ≤ d - yearsD j y ∧ d - yearsD j y < yearD (y + j) ∧ j < f
  | 0, y, d, h0, h => by omega
  | f + 1, y, d, h0, h => by
    have hb := yearD_bd y
    rw [ydL]
    by_cases hd : yearD y ≤ d
    · rw [if_pos hd]
      obtain ⟨j, e, a1, a2, a3⟩ := ydL_spec f (y + 1) (d - yearD y) (by omega) (by omega)
      refine ⟨j + 1, ?_, ?_, ?_, by omega⟩
      · rw [e, yearsD]
        refine Prod.ext ?_ ?_
        · simp; omega
        · simp; omega
      · rw [yearsD]; omega
      · rw [yearsD, show y + ((j + 1 : Nat) : Int) = y + 1 + j by omega]; omega
    · rw [if_neg hd]
      exact ⟨0, by simp [yearsD], by simp [yearsD]; omega, by simp [yearsD]; omega, by omega⟩
def yearW (y : Int) : Int := monthsD y 12 1
theorem yearW_eq (y : Int) : yearW y = yearD y := by
  unfold yearW yearD
  simp only [monthsD, monthD]
  cases leapB y <;> simp
theorem monthsD_succ (y : Int) : ∀ (d : Nat) (m : Int), monthsD y (d + 1) m = monthsD y d m + monthD y (m + d)
  | 0, m => by simp [monthsD]
  | d + 1, m => by
    rw [monthsD, monthsD_succ y d (m + 1), monthsD, show m + 1 + (d : Int) = m + ((d + 1 : Nat) : Int) by omega]
    omega
theorem yearsD_succ : ∀ (d : Nat) (y : Int), yearsD (d + 1) y = yearsD d y + yearD (y + d)
  | 0, y => by simp [yearsD]
  | d + 1, y => by
    rw [yearsD, yearsD_succ d (y + 1), yearsD, show y + 1 + (d : Int) = y + ((d + 1 : Nat) : Int) by omega]
    omega
theorem mdL_spec (y : Int) : ∀ (f : Nat) (m d : Int), 0 ≤ d → d < monthsD y f m → ∃ j : Nat, mdL y f m d = (m + j, d - monthsD y j m) ∧ 0 ≤ d - monthsD y j m ∧ d - monthsD y j m < monthD y (m + j) ∧ j < f
  | 0, m, d, h0, h => by simp [monthsD] at h; omega
  | f + 1, m, d, h0, h => by
    rw [monthsD] at h
    rw [mdL]
    by_cases hd : monthD y m ≤ d
    · rw [if_pos hd]
      obtain ⟨j, e, a1, a2, a3⟩ := mdL_spec y f (m + 1) (d - monthD y m) (by omega) (by omega)
      refine ⟨j + 1, ?_, ?_, ?_, by omega⟩
      · rw [e, monthsD]
        refine Prod.ext ?_ ?_
        · simp; omega
        · simp; omega
      · rw [monthsD]; omega
      · rw [monthsD, show m + ((j + 1 : Nat) : Int) = m + 1 + j by omega]; omega
    · rw [if_neg hd]
      exact ⟨0, by simp [monthsD], by simp [monthsD]; omega, by simp [monthsD]; omega, by omega⟩
def twoL (n : Int) : List Int := [48 + n / 10 % 10, 48 + n % 10]
def weekL (d : Int) : List Int := if d = 0 then [84, 104, 117] else if d = 1 then [70, 114, 105] else if d = 2 then [83, 97, 116] else if d = 3 then [83, 117, 110] else if d = 4 then [77, 111, 110] else if d = 5 then [84, 117, 101] else [87, 101, 100]
def monL (m : Int) : List Int := if m = 1 then [74, 97, 110] else if m = 2 then [70, 101, 98] else if m = 3 then [77, 97, 114] else if m = 4 then [65, 112, 114] else if m = 5 then [77, 97, 121] else if m = 6 then [74, 117, 110] else if m = 7 then [74, 117, 108] else if m = 8 then [65, 117, 103] else if m = 9 then [83, 101, 112] else if m = 10 then [79, 99, 116] else if m = 11 then [78, 111, 118] else [68, 101, 99]
def ymd (days : Int) : Int × Int × Int := ((ydL 70 1970 days).1, (mdL (ydL 70 1970 days).1 12 1 (ydL 70 1970 days).2).1, (mdL (ydL 70 1970 days).1 12 1 (ydL 70 1970 days).2).2 + 1)
theorem ymd_spec {days : Int} (h0 : 0 ≤ days) (h1 : days ≤ 23148) : 1970 ≤ (ymd days).1 ∧ (ymd days).1 ≤ 2033 ∧ 1 ≤ (ymd days).2.1 ∧ (ymd days).2.1 ≤ 12 ∧ 1 ≤ (ymd days).2.2 ∧ (ymd days).2.2 ≤ monthD (ymd days).1 (ymd days).2.1 ∧
    days = (ymd days).2.2 - 1 + yearsD ((ymd days).1 - 1970).toNat 1970 + monthsD (ymd days).1 ((ymd days).2.1 - 1).toNat 1 := by
  obtain ⟨j, e, a1, a2, a3⟩ := ydL_spec 70 1970 days h0 (by omega)
  have hy := yearW_eq (1970 + j)
  unfold yearW at hy
  obtain ⟨i, e2, b1, b2, b3⟩ := mdL_spec (1970 + j) 12 1 (days - yearsD j 1970) a1 (by omega)
  have hj := yearsD_bd j 1970
  have ej : (1970 + (j : Int) - 1970).toNat = j := by omega
  have ei : (1 + (i : Int) - 1).toNat = i := by omega
  simp only [ymd, e, e2, ej, ei]
  omega
def dateL (sec : Int) : List Int :=
  weekL (sec / 86400 % 7) ++ [44, 32] ++ twoL (ymd (sec / 86400)).2.2 ++ [32] ++ monL (ymd (sec / 86400)).2.1 ++ [32] ++ decP (ymd (sec / 86400)).1 ++ [32] ++ twoL (sec / 3600 % 24) ++ [58] ++ twoL (sec / 60 % 60) ++ [58] ++ twoL (sec % 60) ++ [32, 71, 77, 84]
def dateB (sec : Int) : ByteArray := if 0 ≤ sec ∧ sec ≤ 2000000000 then strOfNums (dateL sec) else ⟨#[]⟩
theorem decP_year {y : Int} (h0 : 1000 ≤ y) (h1 : y ≤ 9999) : decP y = [48 + y / 1000, 48 + y / 100 % 10, 48 + y / 10 % 10, 48 + y % 10] := by
  unfold decP
  rw [if_neg (by omega), if_neg (by omega)]
  have e3 : y / 10 / 10 / 10 % 10 = y / 1000 := by omega
  have e2 : y / 10 / 10 % 10 = y / 100 % 10 := by omega
  rw [show (20 : Nat) = 15 + 1 + 1 + 1 + 1 + 1 from rfl, decL, if_pos (by omega), decL, if_pos (by omega), decL, if_pos (by omega), decL, if_pos (by omega), decL, if_neg (by omega), e3, e2]
theorem weekL_length (d : Int) : (weekL d).length = 3 := by unfold weekL; (repeat' split) <;> rfl
theorem monL_length (m : Int) : (monL m).length = 3 := by unfold monL; (repeat' split) <;> rfl
theorem dateL_length {sec : Int} (h0 : 0 ≤ sec) (h1 : sec ≤ 2000000000) : (dateL sec).length = 29 := by
  obtain ⟨a1, a2, _⟩ := ymd_spec (days := sec / 86400) (by omega) (by omega)
  unfold dateL
  rw [decP_year (by omega) (by omega)]
  simp only [List.length_append, weekL_length, monL_length, twoL, List.length_cons, List.length_nil]
theorem months_rd {m : Int} (h1 : 1 ≤ m) (h2 : m ≤ 12) : rdOf ByteArray.empty ([(⟨#[74, 97, 110]⟩ : ByteArray), (⟨#[70, 101, 98]⟩ : ByteArray), (⟨#[77, 97, 114]⟩ : ByteArray), (⟨#[65, 112, 114]⟩ : ByteArray), (⟨#[77, 97, 121]⟩ : ByteArray), (⟨#[74, 117, 110]⟩ : ByteArray), (⟨#[74, 117, 108]⟩ : ByteArray), (⟨#[65, 117, 103]⟩ : ByteArray), (⟨#[83, 101, 112]⟩ : ByteArray), (⟨#[79, 99, 116]⟩ : ByteArray), (⟨#[78, 111, 118]⟩ : ByteArray), (⟨#[68, 101, 99]⟩ : ByteArray)] : List ByteArray) (m - 1) = strOfNums (monL m) := by
  have hm : m = 1 ∨ m = 2 ∨ m = 3 ∨ m = 4 ∨ m = 5 ∨ m = 6 ∨ m = 7 ∨ m = 8 ∨ m = 9 ∨ m = 10 ∨ m = 11 ∨ m = 12 := by omega
  rcases hm with rfl | rfl | rfl | rfl | rfl | rfl | rfl | rfl | rfl | rfl | rfl | rfl <;> rfl
theorem week_rd {d : Int} (h1 : 0 ≤ d) (h2 : d < 7) : rdOf ByteArray.empty ([(⟨#[84, 104, 117]⟩ : ByteArray), (⟨#[70, 114, 105]⟩ : ByteArray), (⟨#[83, 97, 116]⟩ : ByteArray), (⟨#[83, 117, 110]⟩ : ByteArray), (⟨#[77, 111, 110]⟩ : ByteArray), (⟨#[84, 117, 101]⟩ : ByteArray), (⟨#[87, 101, 100]⟩ : ByteArray)] : List ByteArray) d = strOfNums (weekL d) := by
  have hm : d = 0 ∨ d = 1 ∨ d = 2 ∨ d = 3 ∨ d = 4 ∨ d = 5 ∨ d = 6 := by omega
  rcases hm with rfl | rfl | rfl | rfl | rfl | rfl | rfl <;> rfl
theorem ydL_more : ∀ (f j : Nat) (y d : Int), 0 ≤ d → d < 365 * f → ydL (f + j) y d = ydL f y d
  | 0, j, y, d, h0, h => by omega
  | f + 1, j, y, d, h0, h => by
    have hb := yearD_bd y
    rw [show f + 1 + j = (f + j) + 1 by omega, ydL, ydL]
    split
    · exact ydL_more f j (y + 1) _ (by omega) (by omega)
    · rfl

end Go.Proofs.YtjldfmkpdkhnnaaDoor.Dom

namespace Go.Proofs.YtjldfmkpdkhnnaaDoor.Pure
open Go.RowKit Go.Proofs.YtjldfmkpdkhnnaaDoor.QL Go.Proofs.YtjldfmkpdkhnnaaDoorW.PrintWords Go.Proofs.YtjldfmkpdkhnnaaDoorW.PrintLast Go.Proofs.YtjldfmkpdkhnnaaDoorW.PrintMore Go.Proofs.YtjldfmkpdkhnnaaDoor.Aux Go.Proofs.YtjldfmkpdkhnnaaDoor.Dom Go.Proofs.YtjldfmkpdkhnnaaDoor.Ext
theorem spec_l1New_l0 (b : List Int) (hb : b.length ≤ 1048576) : ∀ (d : Nat) (h i : Int), 0 ≤ i → (b.length : Int) - i = d → ∃ h', Ev (fun k => spec_l1New.l0 k b h i) (b, 0, h')
  | 0, h, i, h0, hd => ⟨h, ev_last fun k => by simp only [spec_l1New.l0]; rw [if_neg (by omega)]⟩
  | d + 1, h, i, h0, hd => by
    by_cases h1 : i < 4000
    · obtain ⟨h', e⟩ := spec_l1New_l0 b hb d (Go.bits .and .i64 (wrap64 (wrap64 (wrap64 (h * 131) + wrap64 (rd b i)) + 7)) 1073741823) (i + 1) (by omega) (by omega)
      refine ⟨h', Ev.step (fun k => ?_) e⟩
      simp only [spec_l1New.l0]
      rw [if_pos (by omega), if_pos h1, if_pos h0, wrap_id (x := i + 1) (by omega) (by omega)]
    · exact ⟨h, ev_last fun k => by simp only [spec_l1New.l0]; rw [if_pos (by omega), if_neg h1]⟩
theorem spec_l1New_ev (b : List Int) (hb : b.length ≤ 1048576) : ∃ h', Ev (fun k => spec_l1New.f k b) (b, 0, h') :=
  spec_l1New_l0 b hb b.length _ 0 (by omega) (by omega)

end Go.Proofs.YtjldfmkpdkhnnaaDoor.Pure

namespace Go.Proofs.YtjldfmkpdkhnnaaDoor.Pure
open Go.RowKit Go.Proofs.YtjldfmkpdkhnnaaDoor.QL Go.Proofs.YtjldfmkpdkhnnaaDoorW.PrintWords Go.Proofs.YtjldfmkpdkhnnaaDoorW.PrintLast Go.Proofs.YtjldfmkpdkhnnaaDoorW.PrintMore Go.Proofs.YtjldfmkpdkhnnaaDoor.Aux Go.Proofs.YtjldfmkpdkhnnaaDoor.Dom Go.Proofs.YtjldfmkpdkhnnaaDoor.Ext
theorem and255_bd (x : Int) : 0 ≤ Go.bits .and .i64 x 255 ∧ Go.bits .and .i64 x 255 ≤ 255 := by
  have h : (BitVec.ofInt 64 x &&& BitVec.ofInt 64 255).toNat ≤ 255 := by
    rw [BitVec.toNat_and]
    exact Nat.and_le_right
  have e : Go.bits .and .i64 x 255 = (((BitVec.ofInt 64 x &&& BitVec.ofInt 64 255).toNat : Nat) : Int) := i64_pos (((BitVec.ofInt 64 x &&& BitVec.ofInt 64 255).toNat : Nat) : Int) (by omega) (by omega)
  rw [e]
  omega
theorem l1Byte_ok (b : List Int) (i h : Int) (hb : b.length ≤ 1048576) (h0 : 0 ≤ i) : ∃ x i' h', spec_l1Byte.f b i h = some (x, i', h') ∧ 0 ≤ x ∧ x ≤ 255 ∧ 0 ≤ i' := by
  unfold spec_l1Byte.f
  by_cases h1 : i < (b.length : Int)
  · rw [if_pos h1, if_pos h0, wrap_id (x := i + 1) (by omega) (by omega)]
    exact ⟨_, _, _, rfl, (and255_bd _).1, (and255_bd _).2, by omega⟩
  · rw [if_neg h1]
    exact ⟨_, _, _, rfl, (and255_bd _).1, (and255_bd _).2, h0⟩
theorem tmod_bd {x n : Int} (hx : 0 ≤ x) (hn : 0 < n) : 0 ≤ Int.tmod x n ∧ Int.tmod x n < n := by
  rw [Int.tmod_eq_emod_of_nonneg hx]
  exact ⟨Int.emod_nonneg _ (by omega), Int.emod_lt_of_pos _ hn⟩
theorem l1Below_ok (b : List Int) (i h n : Int) (hb : b.length ≤ 1048576) (h0 : 0 ≤ i) : ∃ x i' h', spec_l1Below.f b i h n = some (x, i', h') ∧ 0 ≤ x ∧ (x < n ∨ (n ≤ 0 ∧ x = 0)) ∧ 0 ≤ i' := by
  unfold spec_l1Below.f
  by_cases h1 : n ≤ 0
  · rw [if_pos h1]
    exact ⟨0, i, h, rfl, by omega, Or.inr ⟨h1, rfl⟩, h0⟩
  rw [if_neg h1]
  obtain ⟨x, i1, g1, e1, a1, a2, a3⟩ := l1Byte_ok b i h hb h0
  by_cases h2 : n ≤ 256
  · rw [if_pos h2, e1, Option.bind_some, if_neg (by omega)]
    have := tmod_bd a1 (show 0 < n by omega)
    exact ⟨_, _, _, rfl, this.1, Or.inl this.2, a3⟩
  · obtain ⟨y, i2, g2, e2, b1, b2, b3⟩ := l1Byte_ok b i1 g1 hb a3
    obtain ⟨z, i3, g3, e3, c1, c2, c3⟩ := l1Byte_ok b i2 g2 hb b3
    obtain ⟨v, i4, g4, e4, d1, d2, d3⟩ := l1Byte_ok b i3 g3 hb c3
    rw [if_neg h2, e1, Option.bind_some, e2, Option.bind_some, e3, Option.bind_some, e4, Option.bind_some, if_neg (by omega)]
    have w : wrap64 (wrap64 (wrap64 (wrap64 (x * 16777216) + wrap64 (y * 65536)) + wrap64 (z * 256)) + v) = x * 16777216 + y * 65536 + z * 256 + v := by
      rw [wrap_id (x := x * 16777216) (by omega) (by omega), wrap_id (x := y * 65536) (by omega) (by omega), wrap_id (x := z * 256) (by omega) (by omega), wrap_id (x := x * 16777216 + y * 65536) (by omega) (by omega), wrap_id (x := x * 16777216 + y * 65536 + z * 256) (by omega) (by omega), wrap_id (by omega) (by omega)]
    have t := tmod_bd (show 0 ≤ x * 16777216 + y * 65536 + z * 256 + v by omega) (show 0 < n by omega)
    refine ⟨_, _, _, rfl, ?_, Or.inl ?_, d3⟩
    · show 0 ≤ Int.tmod (wrap64 (wrap64 (wrap64 (wrap64 (x * 16777216) + wrap64 (y * 65536)) + wrap64 (z * 256)) + v)) n
      rw [w]; exact t.1
    · show Int.tmod (wrap64 (wrap64 (wrap64 (wrap64 (x * 16777216) + wrap64 (y * 65536)) + wrap64 (z * 256)) + v)) n < n
      rw [w]; exact t.2
theorem rdOf_mem {α : Type} {d : α} {l : List α} {j : Int} (h0 : 0 ≤ j) (h1 : j < (l.length : Int)) : rdOf d l j ∈ l := by
  have e := drop_rdOf (d := d) h0 h1
  exact List.mem_of_mem_drop (i := j.toNat) (by rw [e]; exact List.mem_cons_self)
theorem l1Pick_ok (b : List Int) (i h : Int) (l : List ByteArray) (hl : 0 < l.length) (hb : b.length ≤ 1048576) (h0 : 0 ≤ i) : ∃ x i' h', spec_l1Pick.f b i h l = some (x, i', h') ∧ x ∈ l ∧ 0 ≤ i' := by
  obtain ⟨x, i1, g1, e1, a1, a2, a3⟩ := l1Below_ok b i h (l.length : Int) hb h0
  have hx : x < (l.length : Int) := by omega
  unfold spec_l1Pick.f
  rw [e1, Option.bind_some, if_pos a1, if_pos hx]
  exact ⟨_, _, _, rfl, rdOf_mem a1 hx, a3⟩
theorem ev_k {α : Type} {x : Option α} {r : α} (h : x = some r) : Ev (fun _ : Nat => x) r := ev_some fun _ => h

end Go.Proofs.YtjldfmkpdkhnnaaDoor.Pure

namespace Go.Proofs.YtjldfmkpdkhnnaaDoor.Pure
open Go.RowKit Go.Proofs.YtjldfmkpdkhnnaaDoor.QL Go.Proofs.YtjldfmkpdkhnnaaDoorW.PrintWords Go.Proofs.YtjldfmkpdkhnnaaDoorW.PrintLast Go.Proofs.YtjldfmkpdkhnnaaDoorW.PrintMore Go.Proofs.YtjldfmkpdkhnnaaDoor.Aux Go.Proofs.YtjldfmkpdkhnnaaDoor.Dom Go.Proofs.YtjldfmkpdkhnnaaDoor.Ext
theorem spec_l1In_eq (a b c : Int) : spec_l1In.f a b c = some (decide (b ≤ a ∧ a ≤ c)) := by
  unfold spec_l1In.f
  by_cases h : a ≥ b
  · rw [if_pos h]; simp [show b ≤ a from h]
  · rw [if_neg h]; simp [show ¬ b ≤ a from h]

end Go.Proofs.YtjldfmkpdkhnnaaDoor.Pure

namespace Go.Proofs.YtjldfmkpdkhnnaaDoor.Pure
open Go.RowKit Go.Proofs.YtjldfmkpdkhnnaaDoor.QL Go.Proofs.YtjldfmkpdkhnnaaDoorW.PrintWords Go.Proofs.YtjldfmkpdkhnnaaDoorW.PrintLast Go.Proofs.YtjldfmkpdkhnnaaDoorW.PrintMore Go.Proofs.YtjldfmkpdkhnnaaDoor.Aux Go.Proofs.YtjldfmkpdkhnnaaDoor.Dom Go.Proofs.YtjldfmkpdkhnnaaDoor.Ext
theorem spec_IsLeap_eq {y : Int} (h : 0 ≤ y) : spec_IsLeap.f y = some (leapB y) := by
  unfold spec_IsLeap.f leapB
  rw [Int.tmod_eq_emod_of_nonneg h, Int.tmod_eq_emod_of_nonneg h, Int.tmod_eq_emod_of_nonneg h]
  by_cases h4 : y % 4 = 0
  · rw [if_pos h4]
    by_cases h100 : y % 100 = 0
    · rw [if_pos h100]
      congr 1
      rw [Bool.eq_iff_iff]; simp; omega
    · rw [if_neg h100, decide_eq_true (Or.inl ⟨h4, h100⟩)]
  · rw [if_neg h4, decide_eq_false (by omega)]

end Go.Proofs.YtjldfmkpdkhnnaaDoor.Pure

namespace Go.Proofs.YtjldfmkpdkhnnaaDoor.Pure
open Go.RowKit Go.Proofs.YtjldfmkpdkhnnaaDoor.QL Go.Proofs.YtjldfmkpdkhnnaaDoorW.PrintWords Go.Proofs.YtjldfmkpdkhnnaaDoorW.PrintLast Go.Proofs.YtjldfmkpdkhnnaaDoorW.PrintMore Go.Proofs.YtjldfmkpdkhnnaaDoor.Aux Go.Proofs.YtjldfmkpdkhnnaaDoor.Dom Go.Proofs.YtjldfmkpdkhnnaaDoor.Ext
theorem spec_l4Months_eq {y : Int} (h : 0 ≤ y) : ∃ l, spec_l4Months.f y = some l ∧ l.length = 12 ∧ ∀ m : Int, 1 ≤ m → m ≤ 12 → rd l (m - 1) = monthD y m := by
  unfold spec_l4Months.f
  rw [spec_IsLeap_eq h, Option.bind_some]
  have hm : ∀ m : Int, 1 ≤ m → m ≤ 12 → m = 1 ∨ m = 2 ∨ m = 3 ∨ m = 4 ∨ m = 5 ∨ m = 6 ∨ m = 7 ∨ m = 8 ∨ m = 9 ∨ m = 10 ∨ m = 11 ∨ m = 12 := fun m h1 h2 => by omega
  cases hl : leapB y with
  | true =>
    refine ⟨_, if_pos rfl, rfl, fun m h1 h2 => ?_⟩
    rcases hm m h1 h2 with rfl | rfl | rfl | rfl | rfl | rfl | rfl | rfl | rfl | rfl | rfl | rfl <;> simp [monthD, hl, rd]
  | false =>
    refine ⟨_, if_neg (by decide), rfl, fun m h1 h2 => ?_⟩
    rcases hm m h1 h2 with rfl | rfl | rfl | rfl | rfl | rfl | rfl | rfl | rfl | rfl | rfl | rfl <;> simp [monthD, hl, rd]
theorem spec_DaysOf_l1 (y m : Int) (hy : 0 ≤ y) (hm : m ≤ 13) : ∀ (d : Nat) (n i : Int), 1 ≤ i → m - i = d → 0 ≤ n → n + 31 * d ≤ 100000 → Ev (fun k => spec_DaysOf.l1 k y m n i) (n + monthsD y d i)
  | 0, n, i, h1, hd, n0, n1 => by
    refine ev_last fun k => ?_
    simp only [spec_DaysOf.l1]
    rw [if_neg (by omega)]
    simp [monthsD]
  | d + 1, n, i, h1, hd, n0, n1 => by
    obtain ⟨l, e, hl, hr⟩ := spec_l4Months_eq hy
    have hb := monthD_bd y i
    refine Ev.step (f := fun k => spec_DaysOf.l1 k y m (n + monthD y i) (i + 1)) (fun k => ?_) (ev_eq (spec_DaysOf_l1 y m hy hm d _ (i + 1) (by omega) (by omega) (by omega) (by omega)) (by rw [monthsD]; omega))
    simp only [spec_DaysOf.l1]
    rw [if_pos (by omega), e, Option.bind_some, wrap_id (x := i - 1) (by omega) (by omega), if_pos (by omega), if_pos (by omega), hr i h1 (by omega), wrap_id (by omega) (by omega), wrap_id (by omega) (by omega)]
theorem spec_DaysOf_l0 (y m : Int) (hy : y ≤ 2037) (h1970 : 1970 ≤ y) (hm1 : 1 ≤ m) (hm : m ≤ 12) : ∀ (d : Nat) (n i : Int), 1970 ≤ i → y - i = d → 0 ≤ n → n + 366 * d ≤ 50000 → Ev (fun k => spec_DaysOf.l0 k y m n i) (n + yearsD d i + monthsD y (m - 1).toNat 1)
  | 0, n, i, h1, hd, n0, n1 => by
    refine Ev.step (f := fun k => spec_DaysOf.l1 k y m n 1) (fun k => ?_) (ev_eq (spec_DaysOf_l1 y m (by omega) (by omega) (m - 1).toNat n 1 (by omega) (by omega) n0 (by omega)) (by simp [yearsD]))
    simp only [spec_DaysOf.l0]
    rw [if_neg (by omega)]
  | d + 1, n, i, h1, hd, n0, n1 => by
    have hb := yearD_bd i
    refine Ev.step (f := fun k => spec_DaysOf.l0 k y m (n + yearD i) (i + 1)) (fun k => ?_) (ev_eq (spec_DaysOf_l0 y m hy h1970 hm1 hm d _ (i + 1) (by omega) (by omega) (by omega) (by omega)) (by rw [yearsD]; omega))
    simp only [spec_DaysOf.l0]
    rw [if_pos (by omega), spec_IsLeap_eq (by omega), Option.bind_some, wrap_id (x := n + 365) (by omega) (by omega), wrap_id (x := i + 1) (by omega) (by omega), wrap_id (x := n + 365 + 1) (by omega) (by omega)]
    unfold yearD
    cases leapB i with
    | true => rw [if_pos rfl, if_pos rfl, show n + 365 + 1 = n + 366 by omega]
    | false => rw [if_neg (by decide), if_neg (by decide)]
theorem spec_DaysOf_ev (y m d : Int) : Ev (fun k => spec_DaysOf.f k y m d) (daysP y m d) := by
  have hbad : ∀ k, spec_DaysOf.j0 (k + 1) y m d true = some (-1) := fun k => by simp only [spec_DaysOf.j0]; rw [if_pos trivial]
  refine Ev.congr (fun k => by unfold spec_DaysOf.f; rw [spec_l1In_eq, Option.bind_some]) ?_
  unfold daysP
  by_cases h1 : 1970 ≤ y ∧ y ≤ 2037
  · refine ev_if_pos (by simpa using h1) ?_
    refine Ev.congr (fun k => by rw [spec_l1In_eq, Option.bind_some]) ?_
    by_cases h2 : 1 ≤ m ∧ m ≤ 12
    · refine ev_if_pos (by simpa using h2) ?_
      obtain ⟨l, e, hl, hr⟩ := spec_l4Months_eq (y := y) (by omega)
      refine Ev.congr (fun k => by rw [e, Option.bind_some, wrap_id (x := m - 1) (by omega) (by omega), if_pos (by omega), if_pos (by omega), hr m h2.1 h2.2, spec_l1In_eq, Option.bind_some]) ?_
      have hb := monthD_bd y m
      by_cases h3 : 1 ≤ d ∧ d ≤ monthD y m
      · rw [decide_eq_true h3, if_pos ⟨h1, h2, h3⟩]
        refine Ev.step (f := fun k => spec_DaysOf.l0 k y m (d - 1) 1970) (fun k => ?_) (ev_eq (spec_DaysOf_l0 y m h1.2 h1.1 h2.1 h2.2 (y - 1970).toNat (d - 1) 1970 (by omega) (by omega) (by omega) (by omega)) (by omega))
        simp only [spec_DaysOf.j0]
        rw [if_neg (by decide), wrap_id (by omega) (by omega)]
      · rw [decide_eq_false h3, if_neg (fun h => h3 h.2.2)]
        exact ev_last hbad
    · rw [if_neg (fun h => h2 h.2.1)]
      exact ev_if_neg (by simpa using h2) (ev_last hbad)
  · rw [if_neg (fun h => h1 h.1)]
    exact ev_if_neg (by simpa using h1) (ev_last hbad)

end Go.Proofs.YtjldfmkpdkhnnaaDoor.Pure

namespace Go.Proofs.YtjldfmkpdkhnnaaDoor.Pure
open Go.RowKit Go.Proofs.YtjldfmkpdkhnnaaDoor.QL Go.Proofs.YtjldfmkpdkhnnaaDoorW.PrintWords Go.Proofs.YtjldfmkpdkhnnaaDoorW.PrintLast Go.Proofs.YtjldfmkpdkhnnaaDoorW.PrintMore Go.Proofs.YtjldfmkpdkhnnaaDoor.Aux Go.Proofs.YtjldfmkpdkhnnaaDoor.Dom Go.Proofs.YtjldfmkpdkhnnaaDoor.Ext
theorem spec_Dec_pos : ∀ (d : Nat) (n : Int) (acc : List Int), 0 ≤ n → n ≤ 9223372036854775807 → n < 10 ^ d → acc.length + d ≤ 100 → Ev (fun k => spec_Dec.l0 k n (strOfNums acc) false) (strOfNums (decL d n acc))
  | 0, n, acc, h0, h1, hn, ha => by
    refine ev_last fun k => ?_
    simp only [spec_Dec.l0]
    rw [if_pos (by simp at hn; omega), if_neg (by decide)]
    rfl
  | d + 1, n, acc, h0, h1, hn, ha => by
    by_cases h : n > 0
    · refine Ev.step (f := fun k => spec_Dec.l0 k (n / 10) (strOfNums ((48 + n % 10) :: acc)) false) (fun k => ?_) (ev_eq (spec_Dec_pos d (n / 10) _ (by omega) (by omega) (by rw [Int.pow_succ] at hn; omega) (by simp; omega)) (by rw [decL, if_pos h]))
      simp only [spec_Dec.l0, Option.bind_some]
      rw [if_neg (by omega), Int.tmod_eq_emod_of_nonneg (by omega), Int.tdiv_eq_ediv_of_nonneg (by omega), if_neg (by omega), if_pos (by rw [strOfNums_size, strOfNums_size]; simp; omega), wrap_id (x := 48 + n % 10) (by omega) (by omega), wrap_id (by omega) (by omega), Int.emod_eq_of_lt (a := 48 + n % 10) (by omega) (by omega), ← strOfNums_append]
      rfl
    · refine ev_last fun k => ?_
      simp only [spec_Dec.l0]
      rw [if_pos (by omega), if_neg (by decide), decL, if_neg h]
theorem spec_Dec_neg : ∀ (d : Nat) (n : Int) (acc : List Int), 0 ≤ n → n ≤ 9223372036854775808 → n < 10 ^ d → acc.length + d ≤ 100 → Ev (fun k => spec_Dec.l0 k (-n) (strOfNums acc) true) (strOfNums (45 :: decL d n acc))
  | 0, n, acc, h0, h1, hn, ha => by
    refine ev_last fun k => ?_
    simp only [spec_Dec.l0]
    rw [if_pos (by simp at hn; omega), if_pos (by trivial), if_pos (by rw [strOfNums_size]; omega)]
    rw [show (45 :: decL 0 n acc : List Int) = [45] ++ acc from rfl, strOfNums_append]
    rfl
  | d + 1, n, acc, h0, h1, hn, ha => by
    by_cases h : n > 0
    · refine Ev.step (f := fun k => spec_Dec.l0 k (-(n / 10)) (strOfNums ((48 + n % 10) :: acc)) true) (fun k => ?_) (ev_eq (spec_Dec_neg d (n / 10) _ (by omega) (by omega) (by rw [Int.pow_succ] at hn; omega) (by simp; omega)) (by rw [decL, if_pos h]))
      simp only [spec_Dec.l0, Option.bind_some]
      rw [if_neg (by omega), Int.neg_tmod, Int.neg_tdiv, Int.tmod_eq_emod_of_nonneg (by omega), Int.tdiv_eq_ediv_of_nonneg (by omega)]
      by_cases hr : -(n % 10) < 0
      · rw [if_pos hr, if_pos (by rw [strOfNums_size, strOfNums_size]; simp; omega), Int.neg_neg, wrap_id (x := n % 10) (by omega) (by omega), wrap_id (x := 48 + n % 10) (by omega) (by omega), wrap_id (by omega) (by omega), Int.emod_eq_of_lt (a := 48 + n % 10) (by omega) (by omega), ← strOfNums_append]
        rfl
      · have hr0 : n % 10 = 0 := by omega
        rw [if_neg hr, if_pos (by rw [strOfNums_size, strOfNums_size]; simp; omega), hr0, wrap_id (x := -(n / 10)) (by omega) (by omega), ← strOfNums_append, show (wrap64 (48 + -0) % 256 : Int) = 48 + 0 by rw [wrap_id (by omega) (by omega)]; omega]
        rfl
    · refine ev_last fun k => ?_
      simp only [spec_Dec.l0]
      rw [if_pos (by omega), if_pos (by trivial), if_pos (by rw [strOfNums_size]; omega), decL, if_neg h]
      rw [show (45 :: acc : List Int) = [45] ++ acc from rfl, strOfNums_append]
      rfl
theorem spec_Dec_ev (n : Int) (h0 : -9223372036854775808 ≤ n) (h1 : n ≤ 9223372036854775807) : Ev (fun k => spec_Dec.f k n) (decB n) := by
  have hp : (10 : Int) ^ 20 = 100000000000000000000 := by decide
  unfold decB decP
  by_cases hz : n = 0
  · rw [if_pos hz]
    exact ev_some fun k => by unfold spec_Dec.f; rw [if_pos hz]; rfl
  · rw [if_neg hz]
    refine Ev.congr (fun k => by unfold spec_Dec.f; rw [if_neg hz]) ?_
    by_cases hn : n < 0
    · rw [if_pos hn, decide_eq_true hn]
      have h := spec_Dec_neg 20 (-n) [] (by omega) (by omega) (by rw [hp]; omega) (by simp)
      rw [Int.neg_neg] at h
      exact h
    · rw [if_neg hn, decide_eq_false hn]
      exact spec_Dec_pos 20 n [] (by omega) (by omega) (by rw [hp]; omega) (by simp)

end Go.Proofs.YtjldfmkpdkhnnaaDoor.Pure

namespace Go.Proofs.YtjldfmkpdkhnnaaDoor.Pure
open Go.RowKit Go.Proofs.YtjldfmkpdkhnnaaDoor.QL Go.Proofs.YtjldfmkpdkhnnaaDoorW.PrintWords Go.Proofs.YtjldfmkpdkhnnaaDoorW.PrintLast Go.Proofs.YtjldfmkpdkhnnaaDoorW.PrintMore Go.Proofs.YtjldfmkpdkhnnaaDoor.Aux Go.Proofs.YtjldfmkpdkhnnaaDoor.Dom Go.Proofs.YtjldfmkpdkhnnaaDoor.Ext
theorem spec_l4Two_eq {n : Int} (h0 : 0 ≤ n) (h1 : n ≤ 99) : spec_l4Two.f n = some (strOfNums (twoL n)) := by
  unfold spec_l4Two.f twoL
  rw [Int.tdiv_eq_ediv_of_nonneg h0, wrap_id (x := n / 10) (by omega) (by omega), Int.tmod_eq_emod_of_nonneg (by omega), Int.tmod_eq_emod_of_nonneg h0, wrap_id (by omega) (by omega), wrap_id (by omega) (by omega), Int.emod_eq_of_lt (a := 48 + n / 10 % 10) (by omega) (by omega), Int.emod_eq_of_lt (a := 48 + n % 10) (by omega) (by omega)]
theorem daysP_year {y : Int} (h : 1970 ≤ y) (h2 : y ≤ 2037) : daysP y 1 1 = yearsD (y - 1970).toNat 1970 := by
  have hb := monthD_bd y 1
  unfold daysP
  rw [if_pos ⟨⟨h, h2⟩, by omega, by omega⟩]
  simp [monthsD]
theorem daysP_month {y m : Int} (h : 1970 ≤ y) (h2 : y ≤ 2037) (h3 : 1 ≤ m) (h4 : m ≤ 12) : daysP y m 1 = yearsD (y - 1970).toNat 1970 + monthsD y (m - 1).toNat 1 := by
  have hb := monthD_bd y m
  unfold daysP
  rw [if_pos ⟨⟨h, h2⟩, ⟨h3, h4⟩, by omega⟩]
  omega
theorem spec_ShowDate_j3 (sec y m : Int) (hs0 : 0 ≤ sec) (hs1 : sec ≤ 2000000000) (hy : 1970 ≤ y) (hy2 : y ≤ 2037) (hm : 1 ≤ m) (hm2 : m ≤ 12) (hd : daysP y m 1 ≤ sec / 86400) (hd2 : sec / 86400 < daysP y m 1 + monthD y m) :
    Ev (fun k => spec_ShowDate.j3 k sec (sec / 86400) y m) (strOfNums (weekL (sec / 86400 % 7) ++ [44, 32] ++ twoL (sec / 86400 - daysP y m 1 + 1) ++ [32] ++ monL m ++ [32] ++ decP y ++ [32] ++ twoL (sec / 3600 % 24) ++ [58] ++ twoL (sec / 60 % 60) ++ [58] ++ twoL (sec % 60) ++ [32, 71, 77, 84])) := by
  have hb := monthD_bd y m
  have hdp := daysP_month hy hy2 hm hm2
  have hyb := yearsD_bd (y - 1970).toNat 1970
  have hmb := monthsD_bd y (m - 1).toNat 1
  have w2 : wrap64 (m - 1) = m - 1 := wrap_id (by omega) (by omega)
  have w1 : wrap64 (wrap64 (sec / 86400 - daysP y m 1) + 1) = sec / 86400 - daysP y m 1 + 1 := by rw [wrap_id (x := sec / 86400 - daysP y m 1) (by omega) (by omega), wrap_id (by omega) (by omega)]
  have w3 : Int.tmod (wrap64 (Int.tdiv sec 3600)) 24 = sec / 3600 % 24 := by rw [Int.tdiv_eq_ediv_of_nonneg hs0, wrap_id (by omega) (by omega), Int.tmod_eq_emod_of_nonneg (by omega)]
  have w4 : Int.tmod (wrap64 (Int.tdiv sec 60)) 60 = sec / 60 % 60 := by rw [Int.tdiv_eq_ediv_of_nonneg hs0, wrap_id (by omega) (by omega), Int.tmod_eq_emod_of_nonneg (by omega)]
  have w5 : Int.tmod sec 60 = sec % 60 := Int.tmod_eq_emod_of_nonneg hs0
  have w6 : Int.tmod (sec / 86400) 7 = sec / 86400 % 7 := Int.tmod_eq_emod_of_nonneg (by omega)
  have s1 : (strOfNums (weekL (sec / 86400 % 7))).size = 3 := by rw [strOfNums_size, weekL_length]
  have s2 : ∀ n, (strOfNums (twoL n)).size = 2 := fun n => by rw [strOfNums_size]; rfl
  have s3 : (strOfNums (monL m)).size = 3 := by rw [strOfNums_size, monL_length]
  have s4 : (decB y).size = 4 := by unfold decB; rw [decP_year (by omega) (by omega), strOfNums_size]; rfl
  have z1 : (⟨#[44, 32]⟩ : ByteArray).size = 2 := rfl
  have z2 : (⟨#[32]⟩ : ByteArray).size = 1 := rfl
  have z3 : (⟨#[58]⟩ : ByteArray).size = 1 := rfl
  refine Ev.step (fun k => by simp only [spec_ShowDate.j3]; rfl) (ev_bind (spec_DaysOf_ev y m 1) ?_)
  refine Ev.congr (fun k => by
    simp only [Option.bind_some]
    rw [w6, if_pos (c := 0 ≤ sec / 86400 % 7) (by omega), if_pos (c := sec / 86400 % 7 < _) (by simp; omega), w2, if_pos (c := 0 ≤ m - 1) (by omega), if_pos (c := m - 1 < _) (by simp; omega), week_rd (by omega) (by omega), months_rd hm hm2, if_pos (by rw [s1]; decide), w1, spec_l4Two_eq (n := sec / 86400 - daysP y m 1 + 1) (by omega) (by omega), Option.bind_some]) ?_
  refine Ev.congr (fun k => by
    simp only [ByteArray.size_append, s1, s2, s3, z1, z2, Nat.reduceAdd, Nat.reduceLeDiff, if_true]
    rfl) ?_
  refine ev_bind (spec_Dec_ev y (by omega) (by omega)) ?_
  refine ev_some fun k => ?_
  rw [w3, w4, w5, spec_l4Two_eq (n := sec / 3600 % 24) (by omega) (by omega), spec_l4Two_eq (n := sec / 60 % 60) (by omega) (by omega), spec_l4Two_eq (n := sec % 60) (by omega) (by omega)]
  simp only [Option.bind_some, ByteArray.size_append, s1, s2, s3, s4, z1, z2, z3, Nat.reduceAdd, Nat.reduceLeDiff, if_true]
  congr 1
  simp only [strOfNums_append, decB]
  rfl
theorem spec_ShowDate_l1 (sec y : Int) (hs0 : 0 ≤ sec) (hs1 : sec ≤ 2000000000) (hy : 1970 ≤ y) (hy2 : y ≤ 2037) : ∀ (f : Nat) (m d : Int), 1 ≤ m → m + f = 13 → 0 ≤ d → d < monthsD y f m → daysP y m 1 + d = sec / 86400 →
    Ev (fun k => spec_ShowDate.l1 k sec (sec / 86400) y m) (strOfNums (weekL (sec / 86400 % 7) ++ [44, 32] ++ twoL ((mdL y f m d).2 + 1) ++ [32] ++ monL (mdL y f m d).1 ++ [32] ++ decP y ++ [32] ++ twoL (sec / 3600 % 24) ++ [58] ++ twoL (sec / 60 % 60) ++ [58] ++ twoL (sec % 60) ++ [32, 71, 77, 84]))
  | 0, m, d, h1, hf, h0, hd, he => by simp [monthsD] at hd; omega
  | f + 1, m, d, h1, hf, h0, hd, he => by
    have hb := monthD_bd y m
    rw [monthsD] at hd
    rw [mdL]
    have e3 : d = sec / 86400 - daysP y m 1 := by omega
    by_cases h12 : m < 12
    · have hn : daysP y (m + 1) 1 = daysP y m 1 + monthD y m := by
        rw [daysP_month hy hy2 (by omega) (by omega), daysP_month hy hy2 h1 (by omega), show (m + 1 - 1).toNat = (m - 1).toNat + 1 by omega, monthsD_succ, show 1 + (((m - 1).toNat : Nat) : Int) = m by omega]
        omega
      refine Ev.step (fun k => by simp only [spec_ShowDate.l1]; rw [if_pos h12, wrap_id (x := m + 1) (by omega) (by omega)]) (ev_bind (spec_DaysOf_ev y (m + 1) 1) ?_)
      by_cases h : monthD y m ≤ d
      · rw [if_pos h]
        exact ev_if_pos (by omega) (spec_ShowDate_l1 sec y hs0 hs1 hy hy2 f (m + 1) (d - monthD y m) (by omega) (by omega) (by omega) (by omega) (by omega))
      · rw [if_neg h]
        refine ev_if_neg (by omega) ?_
        have := spec_ShowDate_j3 sec y m hs0 hs1 hy hy2 h1 (by omega) (by omega) (by omega)
        rw [← e3] at this
        exact this
    · refine Ev.step (f := fun k => spec_ShowDate.j3 k sec (sec / 86400) y m) (fun k => by simp only [spec_ShowDate.l1]; rw [if_neg h12]) ?_
      have hf0 : f = 0 := by omega
      subst hf0
      simp only [monthsD] at hd
      rw [if_neg (by omega)]
      have := spec_ShowDate_j3 sec y m hs0 hs1 hy hy2 h1 (by omega) (by omega) (by omega)
      rw [← e3] at this
      exact this
theorem spec_ShowDate_l0 (sec : Int) (hs0 : 0 ≤ sec) (hs1 : sec ≤ 2000000000) : ∀ (f : Nat) (y d : Int), 1970 ≤ y → y + f = 2037 → 0 ≤ d → d < 365 * f → daysP y 1 1 + d = sec / 86400 →
    Ev (fun k => spec_ShowDate.l0 k sec (sec / 86400) y 1) (strOfNums (weekL (sec / 86400 % 7) ++ [44, 32] ++ twoL ((mdL (ydL f y d).1 12 1 (ydL f y d).2).2 + 1) ++ [32] ++ monL (mdL (ydL f y d).1 12 1 (ydL f y d).2).1 ++ [32] ++ decP (ydL f y d).1 ++ [32] ++ twoL (sec / 3600 % 24) ++ [58] ++ twoL (sec / 60 % 60) ++ [58] ++ twoL (sec % 60) ++ [32, 71, 77, 84]))
  | 0, y, d, h1, hf, h0, hd, he => by omega
  | f + 1, y, d, h1, hf, h0, hd, he => by
    have hb := yearD_bd y
    rw [ydL]
    have hn : daysP (y + 1) 1 1 = daysP y 1 1 + yearD y := by
      rw [daysP_year (by omega) (by omega), daysP_year h1 (by omega), show (y + 1 - 1970).toNat = (y - 1970).toNat + 1 by omega, yearsD_succ, show 1970 + (((y - 1970).toNat : Nat) : Int) = y by omega]
    refine Ev.step (fun k => by simp only [spec_ShowDate.l0]; rw [if_pos (by omega), wrap_id (x := y + 1) (by omega) (by omega)]) (ev_bind (spec_DaysOf_ev (y + 1) 1 1) ?_)
    by_cases h : yearD y ≤ d
    · rw [if_pos h]
      exact ev_if_pos (by omega) (spec_ShowDate_l0 sec hs0 hs1 f (y + 1) (d - yearD y) (by omega) (by omega) (by omega) (by omega) (by omega))
    · rw [if_neg h]
      have hw := yearW_eq y
      unfold yearW at hw
      refine ev_if_neg (by omega) (Ev.step (f := fun k => spec_ShowDate.l1 k sec (sec / 86400) y 1) (fun k => by simp only [spec_ShowDate.j1]) ?_)
      exact spec_ShowDate_l1 sec y hs0 hs1 h1 (by omega) 12 1 d (by omega) (by omega) h0 (by omega) he
theorem spec_ShowDate_ev (sec : Int) (h0 : -9223372036854775808 ≤ sec) (h1 : sec ≤ 9223372036854775807) : Ev (fun k => spec_ShowDate.f k sec) (dateB sec) := by
  refine Ev.congr (fun k => by unfold spec_ShowDate.f; rw [spec_l1In_eq, Option.bind_some]) ?_
  unfold dateB
  by_cases h : 0 ≤ sec ∧ sec ≤ 2000000000
  · rw [if_pos h]
    refine ev_if_pos (by simpa using h) ?_
    have w1 : wrap64 (Int.tdiv sec 86400) = sec / 86400 := by rw [Int.tdiv_eq_ediv_of_nonneg h.1, wrap_id (by omega) (by omega)]
    refine Ev.congr (fun k => by rw [w1]) ?_
    have hy0 : daysP 1970 1 1 = 0 := by rw [daysP_year (by omega) (by omega)]; rfl
    refine ev_eq (spec_ShowDate_l0 sec h.1 h.2 67 1970 (sec / 86400) (by omega) (by omega) (by omega) (by omega) (by omega)) ?_
    unfold dateL ymd
    rw [show (70 : Nat) = 67 + 3 from rfl, ydL_more 67 3 1970 (sec / 86400) (by omega) (by omega)]
  · rw [if_neg h]
    exact ev_if_neg (by simpa using h) (Ev.now _)

end Go.Proofs.YtjldfmkpdkhnnaaDoor.Pure

namespace Go.Proofs.YtjldfmkpdkhnnaaDoor.Pure
open Go.RowKit Go.Proofs.YtjldfmkpdkhnnaaDoor.QL Go.Proofs.YtjldfmkpdkhnnaaDoorW.PrintWords Go.Proofs.YtjldfmkpdkhnnaaDoorW.PrintLast Go.Proofs.YtjldfmkpdkhnnaaDoorW.PrintMore Go.Proofs.YtjldfmkpdkhnnaaDoor.Aux Go.Proofs.YtjldfmkpdkhnnaaDoor.Dom Go.Proofs.YtjldfmkpdkhnnaaDoor.Ext
theorem trimB_blank (s : ByteArray) : trimB (⟨#[32]⟩ ++ s) = trimB s := by
  unfold trimB trimC
  rw [bytesOf_append, dropWhile_ends, dropWhile_ends, show bytesOf (⟨#[32]⟩ : ByteArray) = [32] from rfl, List.singleton_append, List.dropWhile_cons_of_pos (by decide)]
def qsS : List Int → Bool → Bool → Bool × Bool
  | [], q, k => (q, k)
  | _ :: r, q, true => qsS r q false
  | c :: r, q, false => if c = 34 then qsS r (!q) false else if q = true ∧ c = 92 then qsS r q true else qsS r q false
def balB (v : ByteArray) : Prop := qsS (bytesOf v) false false = (false, false)
end Go.Proofs.YtjldfmkpdkhnnaaDoor.Pure

namespace Go.Proofs.YtjldfmkpdkhnnaaDoor.Pure
open Go.RowKit Go.Proofs.YtjldfmkpdkhnnaaDoor.QL Go.Proofs.YtjldfmkpdkhnnaaDoorW.PrintWords Go.Proofs.YtjldfmkpdkhnnaaDoorW.PrintLast Go.Proofs.YtjldfmkpdkhnnaaDoorW.PrintMore Go.Proofs.YtjldfmkpdkhnnaaDoor.Aux Go.Proofs.YtjldfmkpdkhnnaaDoor.Dom Go.Proofs.YtjldfmkpdkhnnaaDoor.Ext
theorem dateB_29 (x : Int) : (dateB x).size ≤ 29 := by
  unfold dateB
  split
  · rename_i hx
    rw [strOfNums_size, dateL_length hx.1 hx.2]
    exact Nat.le_refl _
  · exact Nat.zero_le _
def drB (v : ByteArray) : Bool := decide (v.size ≤ 60) && decide (qsS (bytesOf v) false false = (false, false))
def nmB (v : ByteArray) : Bool := decide (v.size ≤ 60) && decide (bytesOf v ≠ bytesOf nmCC)
def okF (a v : ByteArray) : Prop := a.size ≤ 60 ∧ v.size ≤ 60 ∧ (a = nmCC → balB v)
theorem okF_vals {a v : ByteArray} (ha : a.size ≤ 60) (hv : drB v = true) : okF a v := by
  unfold drB at hv
  rw [Bool.and_eq_true, decide_eq_true_eq, decide_eq_true_eq] at hv
  exact ⟨ha, hv.1, fun _ => hv.2⟩
theorem okF_names {a v : ByteArray} (ha : nmB a = true) (hv : v.size ≤ 60) : okF a v := by
  unfold nmB at ha
  rw [Bool.and_eq_true, decide_eq_true_eq, decide_eq_true_eq] at ha
  exact ⟨ha.1, hv, fun h => absurd (congrArg bytesOf h) ha.2⟩
theorem l1Pick_all (p : ByteArray → Bool) (b : List Int) (i h : Int) (l : List ByteArray) (hp : l.all p = true) (hl : 0 < l.length) (hb : b.length ≤ 1048576) (h0 : 0 ≤ i) : ∃ x i' h', spec_l1Pick.f b i h l = some (x, i', h') ∧ p x = true ∧ 0 ≤ i' := by
  obtain ⟨x, i1, g1, e1, a1, a3⟩ := l1Pick_ok b i h l hl hb h0
  exact ⟨x, i1, g1, e1, List.all_eq_true.1 hp x a1, a3⟩
def l3cc : List ByteArray := [⟨#[109, 97, 120, 45, 97, 103, 101, 61, 49, 48]⟩, ⟨#[110, 111, 45, 115, 116, 111, 114, 101]⟩, ⟨#[110, 111, 45, 99, 97, 99, 104, 101]⟩, ⟨#[112, 114, 105, 118, 97, 116, 101]⟩, ⟨#[112, 117, 98, 108, 105, 99, 44, 32, 109, 97, 120, 45, 97, 103, 101, 61, 51]⟩, ⟨#[115, 45, 109, 97, 120, 97, 103, 101, 61, 55, 44, 32, 109, 97, 120, 45, 97, 103, 101, 61, 49]⟩, ⟨#[109, 117, 115, 116, 45, 114, 101, 118, 97, 108, 105, 100, 97, 116, 101]⟩, ⟨#[109, 97, 120, 45, 115, 116, 97, 108, 101, 61, 53]⟩, ⟨#[109, 105, 110, 45, 102, 114, 101, 115, 104, 61, 50]⟩, ⟨#[111, 110, 108, 121, 45, 105, 102, 45, 99, 97, 99, 104, 101, 100]⟩, ⟨#[109, 97, 120, 45, 97, 103, 101, 61, 48]⟩, ⟨#[112, 117, 98, 108, 105, 99]⟩]
def l3vary : List ByteArray := [⟨#[97, 99, 99, 101, 112, 116]⟩, ⟨#[42]⟩, ⟨#[97, 99, 99, 101, 112, 116, 44, 32, 120, 45, 97]⟩, ⟨#[120, 45, 97]⟩]
def l3acc : List ByteArray := [⟨#[97]⟩, ⟨#[98]⟩, ⟨#[97, 44, 32, 98]⟩, ⟨#[]⟩]
def l3xa : List ByteArray := [⟨#[49]⟩, ⟨#[50]⟩]
def l3etag : List ByteArray := [⟨#[34, 118, 49, 34]⟩, ⟨#[34, 118, 50, 34]⟩, ⟨#[87, 47, 34, 118, 49, 34]⟩]
def l3val : List ByteArray := [⟨#[51]⟩, ⟨#[48]⟩, ⟨#[57, 57, 57, 57, 57, 57, 57, 57, 57, 57, 57]⟩, ⟨#[120]⟩]
def l3dat : List ByteArray := [⟨#[101, 120, 112, 105, 114, 101, 115]⟩, ⟨#[108, 97, 115, 116, 45, 109, 111, 100, 105, 102, 105, 101, 100]⟩]
def l3nam : List ByteArray := [⟨#[97, 103, 101]⟩, ⟨#[120, 45, 98]⟩, ⟨#[97, 117, 116, 104, 111, 114, 105, 122, 97, 116, 105, 111, 110]⟩]
theorem l3Field_j0 (b : List Int) (hb : b.length ≤ 1048576) (x i h : Int) (t : Bool) (h0 : 0 ≤ i) : ∃ a v i' h', Ev (fun k => spec_l3Field.j0 k x t b i h) (a, v, i', h') ∧ okF a v ∧ 0 ≤ i' := by
  by_cases ht : t = true
  · obtain ⟨y, i2, g2, e2, b1, b3⟩ := l1Pick_all drB b i h l3cc (by decide) (by decide) hb h0
    exact ⟨_, _, _, _, Ev.step (fun k => by simp only [spec_l3Field.j0]; rfl) (ev_if_pos ht (ev_bind (ev_k e2) (Ev.now _))), okF_vals (by decide) b1, b3⟩
  by_cases c3 : x = 3
  · obtain ⟨y, i2, g2, e2, b1, b3⟩ := l1Pick_all drB b i h l3vary (by decide) (by decide) hb h0
    exact ⟨_, _, _, _, Ev.step (fun k => by simp only [spec_l3Field.j0]; rfl) (ev_if_neg ht (ev_if_pos c3 (ev_bind (ev_k e2) (Ev.now _)))), okF_vals (by decide) b1, b3⟩
  by_cases c4 : x = 4
  · obtain ⟨y, i2, g2, e2, b1, b3⟩ := l1Pick_all drB b i h l3acc (by decide) (by decide) hb h0
    exact ⟨_, _, _, _, Ev.step (fun k => by simp only [spec_l3Field.j0]; rfl) (ev_if_neg ht (ev_if_neg c3 (ev_if_pos c4 (ev_bind (ev_k e2) (Ev.now _))))), okF_vals (by decide) b1, b3⟩
  by_cases c5 : x = 5
  · obtain ⟨y, i2, g2, e2, b1, b3⟩ := l1Pick_all drB b i h l3xa (by decide) (by decide) hb h0
    exact ⟨_, _, _, _, Ev.step (fun k => by simp only [spec_l3Field.j0]; rfl) (ev_if_neg ht (ev_if_neg c3 (ev_if_neg c4 (ev_if_pos c5 (ev_bind (ev_k e2) (Ev.now _)))))), okF_vals (by decide) b1, b3⟩
  by_cases c6 : x = 6
  · obtain ⟨y, i2, g2, e2, b1, b3⟩ := l1Pick_all drB b i h l3etag (by decide) (by decide) hb h0
    exact ⟨_, _, _, _, Ev.step (fun k => by simp only [spec_l3Field.j0]; rfl) (ev_if_neg ht (ev_if_neg c3 (ev_if_neg c4 (ev_if_neg c5 (ev_if_pos c6 (ev_bind (ev_k e2) (Ev.now _))))))), okF_vals (by decide) b1, b3⟩
  by_cases c7 : x = 7
  · obtain ⟨y, i2, g2, e2, b1, b2, b3⟩ := l1Below_ok b i h 60 hb h0
    have hd := dateB_29 y
    exact ⟨_, _, _, _, Ev.step (fun k => by simp only [spec_l3Field.j0]; rfl) (ev_if_neg ht (ev_if_neg c3 (ev_if_neg c4 (ev_if_neg c5 (ev_if_neg c6 (ev_if_pos c7 (ev_bind (ev_k e2) (ev_bind (spec_ShowDate_ev y (by omega) (by omega)) (Ev.now _))))))))), okF_names (a := ⟨#[100, 97, 116, 101]⟩) (v := dateB y) (by decide) (by omega), b3⟩
  by_cases c8 : x = 8
  · obtain ⟨z, i2, g2, e2, b1, b3⟩ := l1Pick_all nmB b i h l3dat (by decide) (by decide) hb h0
    obtain ⟨y, i3, g3, e3, d1, d2, d3⟩ := l1Below_ok b i2 g2 60 hb b3
    have hd := dateB_29 y
    exact ⟨_, _, _, _, Ev.step (fun k => by simp only [spec_l3Field.j0]; rfl) (ev_if_neg ht (ev_if_neg c3 (ev_if_neg c4 (ev_if_neg c5 (ev_if_neg c6 (ev_if_neg c7 (ev_if_pos c8 (ev_bind (ev_k e2) (ev_bind (ev_k e3) (ev_bind (spec_ShowDate_ev y (by omega) (by omega)) (Ev.now _))))))))))), okF_names (v := dateB y) b1 (by omega), d3⟩
  · obtain ⟨z, i2, g2, e2, b1, b3⟩ := l1Pick_all nmB b i h l3nam (by decide) (by decide) hb h0
    obtain ⟨y, i3, g3, e3, d1, d3⟩ := l1Pick_all drB b i2 g2 l3val (by decide) (by decide) hb b3
    have hd : y.size ≤ 60 := by
      unfold drB at d1
      rw [Bool.and_eq_true, decide_eq_true_eq] at d1
      exact d1.1
    exact ⟨_, _, _, _, Ev.step (fun k => by simp only [spec_l3Field.j0]; rfl) (ev_if_neg ht (ev_if_neg c3 (ev_if_neg c4 (ev_if_neg c5 (ev_if_neg c6 (ev_if_neg c7 (ev_if_neg c8 (ev_bind (ev_k e2) (ev_bind (ev_k e3) (Ev.now _)))))))))), okF_names b1 hd, d3⟩
theorem l3Field_ev (b : List Int) (i h : Int) (hb : b.length ≤ 1048576) (h0 : 0 ≤ i) : ∃ a v i' h', Ev (fun k => spec_l3Field.f k b i h) (a, v, i', h') ∧ okF a v ∧ 0 ≤ i' := by
  obtain ⟨x, i1, g1, e1, a1, a2, a3⟩ := l1Below_ok b i h 10 hb h0
  by_cases c0 : x = 0
  · obtain ⟨a, v, i', h', e, q, r⟩ := l3Field_j0 b hb x i1 g1 (x == 0) a3
    exact ⟨a, v, i', h', Ev.congr (fun k => by unfold spec_l3Field.f; rfl) (ev_bind (ev_k e1) (ev_if_pos c0 e)), q, r⟩
  by_cases c1 : x = 1
  · obtain ⟨a, v, i', h', e, q, r⟩ := l3Field_j0 b hb x i1 g1 (x == 1) a3
    exact ⟨a, v, i', h', Ev.congr (fun k => by unfold spec_l3Field.f; rfl) (ev_bind (ev_k e1) (ev_if_neg c0 (ev_if_pos c1 e))), q, r⟩
  · obtain ⟨a, v, i', h', e, q, r⟩ := l3Field_j0 b hb x i1 g1 (x == 2) a3
    exact ⟨a, v, i', h', Ev.congr (fun k => by unfold spec_l3Field.f; rfl) (ev_bind (ev_k e1) (ev_if_neg c0 (ev_if_neg c1 e))), q, r⟩
def okL (l : List S49) : Prop := ∀ x ∈ l, okF x.f0 x.f1
theorem okL_snoc {l : List S49} {a v : ByteArray} (h : okL l) (q : okF a v) : okL (l ++ [(⟨a, v⟩ : S49)]) := by
  intro x hx
  rcases List.mem_append.1 hx with hx | hx
  · exact h x hx
  · rw [List.mem_singleton.1 hx]
    exact q
theorem szL_small : ∀ (l : List (ByteArray × ByteArray)) (n : Int), (∀ p ∈ l, p.1.size ≤ 60 ∧ p.2.size ≤ 60) → 120 * (l.length : Int) ≤ n → ¬ szL n l < 0
  | [], n, _, hn => by
    simp only [szL, List.length_nil] at hn ⊢
    omega
  | p :: r, n, h, hn => by
    have hp := h p List.mem_cons_self
    rw [List.length_cons] at hn
    rw [szL, if_neg (by omega)]
    exact szL_small r _ (fun q hq => h q (List.mem_cons_of_mem _ hq)) (by omega)
theorem okL_size {l : List S49} (h : okL l) (hl : l.length ≤ 1000) : ¬ szF 1048576 (l.map fun x => (x.f0, x.f1)) < 0 := by
  unfold szF
  rw [List.length_map, if_neg (by omega)]
  refine szL_small _ _ (fun p hp => ?_) (by rw [List.length_map]; omega)
  obtain ⟨x, hx, rfl⟩ := List.mem_map.1 hp
  exact ⟨(h x hx).1, (h x hx).2.1⟩
end Go.Proofs.YtjldfmkpdkhnnaaDoor.Pure

namespace Go.Proofs.YtjldfmkpdkhnnaaDoor.Pure
open Go.RowKit Go.Proofs.YtjldfmkpdkhnnaaDoor.QL Go.Proofs.YtjldfmkpdkhnnaaDoorW.PrintWords Go.Proofs.YtjldfmkpdkhnnaaDoorW.PrintLast Go.Proofs.YtjldfmkpdkhnnaaDoorW.PrintMore Go.Proofs.YtjldfmkpdkhnnaaDoor.Aux Go.Proofs.YtjldfmkpdkhnnaaDoor.Dom Go.Proofs.YtjldfmkpdkhnnaaDoor.Ext
theorem spec_l3Fields_l0 (b : List Int) (hb : b.length ≤ 1048576) : ∀ (d : Nat) (acc : List S49) (i h : Int), 0 ≤ i → okL acc → acc.length + d ≤ 1000 → ∃ l i' h', Ev (fun k => spec_l3Fields.l0 k acc (d : Int) b i h) (l, i', h') ∧ okL l ∧ l.length = acc.length + d ∧ 0 ≤ i'
  | 0, acc, i, h, h0, ha, hd => ⟨acc, i, h, ev_last fun k => by simp only [spec_l3Fields.l0]; rw [if_neg (by omega)], ha, rfl, h0⟩
  | d + 1, acc, i, h, h0, ha, hd => by
    obtain ⟨a, v, i1, g1, e1, q1, r1⟩ := l3Field_ev b i h hb h0
    have hw : wrap64 (((d + 1 : Nat) : Int) - 1) = (d : Int) := by rw [wrap_id (by omega) (by omega)]; omega
    obtain ⟨l, i', h', e, q, ql, r⟩ := spec_l3Fields_l0 b hb d (acc ++ [(⟨a, v⟩ : S49)]) i1 g1 r1 (okL_snoc ha q1) (by rw [List.length_append, List.length_singleton]; omega)
    refine ⟨l, i', h', Ev.step (fun k => by simp only [spec_l3Fields.l0]; rw [if_pos (by omega), hw]) (ev_bind e1 (ev_if_pos (show acc.length < 4398046511104 by omega) e)), q, ?_, r⟩
    rw [ql, List.length_append, List.length_singleton]
    omega
theorem l3Fields_ev (b : List Int) (i h : Int) (hb : b.length ≤ 1048576) (h0 : 0 ≤ i) : ∃ l i' h', Ev (fun k => spec_l3Fields.f k b i h) (l, i', h') ∧ okL l ∧ l.length ≤ 5 ∧ 0 ≤ i' := by
  obtain ⟨x, i1, g1, e1, a1, a2, a3⟩ := l1Below_ok b i h 5 hb h0
  obtain ⟨n, rfl⟩ := Int.eq_ofNat_of_zero_le a1
  obtain ⟨l, i', h', e, q, ql, r⟩ := spec_l3Fields_l0 b hb n [] i1 g1 a3 (fun x hx => by cases hx) (by simp; omega)
  exact ⟨l, i', h', Ev.congr (fun k => by unfold spec_l3Fields.f; rfl) (ev_bind (ev_k e1) e), q, by rw [ql]; simp; omega, r⟩

end Go.Proofs.YtjldfmkpdkhnnaaDoor.Pure

namespace Go.Proofs.YtjldfmkpdkhnnaaDoor.Pure
open Go.RowKit Go.Proofs.YtjldfmkpdkhnnaaDoor.QL Go.Proofs.YtjldfmkpdkhnnaaDoorW.PrintWords Go.Proofs.YtjldfmkpdkhnnaaDoorW.PrintLast Go.Proofs.YtjldfmkpdkhnnaaDoorW.PrintMore Go.Proofs.YtjldfmkpdkhnnaaDoor.Aux Go.Proofs.YtjldfmkpdkhnnaaDoor.Dom Go.Proofs.YtjldfmkpdkhnnaaDoor.Ext
def l3odd : List ByteArray := [⟨#[]⟩, ⟨#[65]⟩, ⟨#[97, 32, 98]⟩, ⟨#[97, 98, 99, 100, 101, 102, 103, 104, 105, 106, 107, 108, 109, 110, 111, 112, 113, 114, 115, 116, 117, 118, 119, 120, 121]⟩]
def l3odv : List ByteArray := [⟨#[32, 120]⟩, ⟨#[97, 13, 10, 98]⟩, ⟨#[195, 169]⟩]
theorem spec_l3Any_l0 (b : List Int) (hb : b.length ≤ 1048576) : ∀ (d : Nat) (acc : List S49) (i h : Int), 0 ≤ i → okL acc → acc.length + d = 13 → ∃ l i' h', Ev (fun k => spec_l3Any.l0 k acc b i h) (l, i', h') ∧ okL l ∧ l.length ≤ 13 ∧ 0 ≤ i'
  | 0, acc, i, h, h0, ha, hd => by
    obtain ⟨x, i1, g1, e1, a1, a2, a3⟩ := l1Below_ok b i h 2 hb h0
    have hw : wrap64 (12 + x) = 12 + x := wrap_id (by omega) (by omega)
    exact ⟨acc, i1, g1, Ev.step (fun k => by simp only [spec_l3Any.l0]; rfl) (ev_bind (ev_k e1) (ev_if_neg (show ¬ ((acc.length : Int) < wrap64 (12 + x)) by rw [hw]; omega) (Ev.now _))), ha, by omega, a3⟩
  | d + 1, acc, i, h, h0, ha, hd => by
    obtain ⟨x, i1, g1, e1, a1, a2, a3⟩ := l1Below_ok b i h 2 hb h0
    have hw : wrap64 (12 + x) = 12 + x := wrap_id (by omega) (by omega)
    by_cases hc : (acc.length : Int) < 12 + x
    · obtain ⟨l, i', h', e, q, ql, r⟩ := spec_l3Any_l0 b hb d (acc ++ [(⟨⟨#[97]⟩, ⟨#[]⟩⟩ : S49)]) i1 g1 a3 (okL_snoc ha (okF_names (a := ⟨#[97]⟩) (v := ⟨#[]⟩) (by decide) (by decide))) (by rw [List.length_append, List.length_singleton]; omega)
      exact ⟨l, i', h', Ev.step (fun k => by simp only [spec_l3Any.l0]; rfl) (ev_bind (ev_k e1) (ev_if_pos (show (acc.length : Int) < wrap64 (12 + x) by rw [hw]; exact hc) (ev_if_pos (show acc.length < 4398046511104 by omega) e))), q, ql, r⟩
    · exact ⟨acc, i1, g1, Ev.step (fun k => by simp only [spec_l3Any.l0]; rfl) (ev_bind (ev_k e1) (ev_if_neg (show ¬ ((acc.length : Int) < wrap64 (12 + x)) by rw [hw]; exact hc) (Ev.now _))), ha, by omega, a3⟩
theorem l3Any_ev (b : List Int) (i h : Int) (hb : b.length ≤ 1048576) (h0 : 0 ≤ i) : ∃ l i' h', Ev (fun k => spec_l3Any.f k b i h) (l, i', h') ∧ okL l ∧ l.length ≤ 13 ∧ 0 ≤ i' := by
  obtain ⟨l, i1, g1, e1, q1, n1, a3⟩ := l3Fields_ev b i h hb h0
  obtain ⟨x, i2, g2, e2, b1, b2, b3⟩ := l1Below_ok b i1 g1 12 hb a3
  by_cases c0 : x = 0
  · obtain ⟨y, i3, g3, e3, d1, d3⟩ := l1Pick_all nmB b i2 g2 l3odd (by decide) (by decide) hb b3
    exact ⟨_, _, _, Ev.congr (fun k => by unfold spec_l3Any.f; rfl) (ev_bind e1 (ev_bind (ev_k e2) (ev_if_pos c0 (ev_bind (ev_k e3) (ev_if_pos (show l.length < 4398046511104 by omega) (Ev.now _)))))), okL_snoc q1 (okF_names (v := ⟨#[]⟩) d1 (by decide)), by rw [List.length_append, List.length_singleton]; omega, d3⟩
  by_cases c1 : x = 1
  · obtain ⟨y, i3, g3, e3, d1, d3⟩ := l1Pick_all (fun v => decide (v.size ≤ 60)) b i2 g2 l3odv (by decide) (by decide) hb b3
    exact ⟨_, _, _, Ev.congr (fun k => by unfold spec_l3Any.f; rfl) (ev_bind e1 (ev_bind (ev_k e2) (ev_if_neg c0 (ev_if_pos c1 (ev_bind (ev_k e3) (ev_if_pos (show l.length < 4398046511104 by omega) (Ev.now _))))))), okL_snoc q1 (okF_names (a := ⟨#[97]⟩) (v := y) (by decide) (of_decide_eq_true d1)), by rw [List.length_append, List.length_singleton]; omega, d3⟩
  by_cases c2 : x = 2
  · obtain ⟨l', i3, g3, e3, q3, n3, d3⟩ := spec_l3Any_l0 b hb (13 - l.length) l i2 g2 b3 q1 (by omega)
    exact ⟨_, _, _, Ev.congr (fun k => by unfold spec_l3Any.f; rfl) (ev_bind e1 (ev_bind (ev_k e2) (ev_if_neg c0 (ev_if_neg c1 (ev_if_pos c2 e3))))), q3, n3, d3⟩
  · exact ⟨_, _, _, Ev.congr (fun k => by unfold spec_l3Any.f; rfl) (ev_bind e1 (ev_bind (ev_k e2) (ev_if_neg c0 (ev_if_neg c1 (ev_if_neg c2 (Ev.now _)))))), q1, by omega, b3⟩
def l3names : List ByteArray := [⟨#[99, 97, 99, 104, 101, 45, 99, 111, 110, 116, 114, 111, 108]⟩, ⟨#[118, 97, 114, 121]⟩, ⟨#[97, 99, 99, 101, 112, 116]⟩, ⟨#[120, 45, 97]⟩, ⟨#[101, 116, 97, 103]⟩, ⟨#[110, 111, 110, 101]⟩]
theorem l3Name_ok (b : List Int) (i h : Int) (hb : b.length ≤ 1048576) (h0 : 0 ≤ i) : ∃ x i' h', spec_l3Name.f b i h = some (x, i', h') ∧ x.size ≤ 60 ∧ 0 ≤ i' := by
  obtain ⟨y, i3, g3, e3, d1, d3⟩ := l1Pick_all (fun v => decide (v.size ≤ 60)) b i h l3names (by decide) (by decide) hb h0
  refine ⟨y, i3, g3, ?_, of_decide_eq_true d1, d3⟩
  unfold spec_l3Name.f
  show (spec_l1Pick.f b i h l3names).bind _ = _
  rw [e3, Option.bind_some]

end Go.Proofs.YtjldfmkpdkhnnaaDoor.Pure

namespace Go.Proofs.YtjldfmkpdkhnnaaDoor.Pure
open Go.RowKit Go.Proofs.YtjldfmkpdkhnnaaDoor.QL Go.Proofs.YtjldfmkpdkhnnaaDoorW.PrintWords Go.Proofs.YtjldfmkpdkhnnaaDoorW.PrintLast Go.Proofs.YtjldfmkpdkhnnaaDoorW.PrintMore Go.Proofs.YtjldfmkpdkhnnaaDoor.Aux Go.Proofs.YtjldfmkpdkhnnaaDoor.Dom Go.Proofs.YtjldfmkpdkhnnaaDoor.Ext
def setVals : List ByteArray := [⟨#[110, 101, 119]⟩, ⟨#[]⟩, ⟨#[120, 44, 32, 121]⟩]
theorem spec_DrawFieldSet_ev (b : List Int) (hb : b.length ≤ 1048576) : ∃ l nm v, Ev (fun k => spec_DrawFieldSet.f k b) (l, nm, v) ∧ okL l ∧ l.length ≤ 13 ∧ nm.size ≤ 60 ∧ v.size ≤ 60 := by
  obtain ⟨h', e⟩ := spec_l1New_ev b hb
  obtain ⟨l, i1, g1, e1, q1, n1, a3⟩ := l3Any_ev b 0 h' hb (by omega)
  obtain ⟨nm, i2, g2, e2, b1, b3⟩ := l3Name_ok b i1 g1 hb a3
  obtain ⟨v, i3, g3, e3, d1, d3⟩ := l1Pick_all (fun v => decide (v.size ≤ 60)) b i2 g2 setVals (by decide) (by decide) hb b3
  exact ⟨_, _, _, Ev.congr (fun k => by unfold spec_DrawFieldSet.f; rfl) (ev_bind e (ev_bind e1 (ev_bind (ev_k e2) (ev_bind (ev_k e3) (Ev.now _))))), q1, n1, b1, of_decide_eq_true d1⟩

end Go.Proofs.YtjldfmkpdkhnnaaDoor.Pure

namespace Go.Proofs.YtjldfmkpdkhnnaaDoor.Pure
open Go.RowKit Go.Proofs.YtjldfmkpdkhnnaaDoor.QL Go.Proofs.YtjldfmkpdkhnnaaDoorW.PrintWords Go.Proofs.YtjldfmkpdkhnnaaDoorW.PrintLast Go.Proofs.YtjldfmkpdkhnnaaDoorW.PrintMore Go.Proofs.YtjldfmkpdkhnnaaDoor.Aux Go.Proofs.YtjldfmkpdkhnnaaDoor.Dom Go.Proofs.YtjldfmkpdkhnnaaDoor.Ext
theorem spec_DrawShowFields_ev (b : List Int) (hb : b.length ≤ 1048576) : ∃ l, Ev (fun k => spec_DrawShowFields.f k b) l ∧ okL l ∧ l.length ≤ 13 := by
  obtain ⟨h', e⟩ := spec_l1New_ev b hb
  obtain ⟨l, i1, g1, e1, q1, n1, a3⟩ := l3Any_ev b 0 h' hb (by omega)
  exact ⟨_, Ev.congr (fun k => by unfold spec_DrawShowFields.f; rfl) (ev_bind e (ev_bind e1 (Ev.now _))), q1, n1⟩

end Go.Proofs.YtjldfmkpdkhnnaaDoor.Pure

namespace Go.Proofs.YtjldfmkpdkhnnaaDoor.Pure
open Go.RowKit Go.Proofs.YtjldfmkpdkhnnaaDoor.QL Go.Proofs.YtjldfmkpdkhnnaaDoorW.PrintWords Go.Proofs.YtjldfmkpdkhnnaaDoorW.PrintLast Go.Proofs.YtjldfmkpdkhnnaaDoorW.PrintMore Go.Proofs.YtjldfmkpdkhnnaaDoor.Aux Go.Proofs.YtjldfmkpdkhnnaaDoor.Dom Go.Proofs.YtjldfmkpdkhnnaaDoor.Ext
theorem impl_FieldSet_l0 (l : List S49) (nm v : ByteArray) (hl : l.length ≤ 1048576) : ∀ (d : Nat) (acc : List S49) (b : Bool) (i : Int), 0 ≤ i → (l.length : Int) - i = d → (acc.length : Int) ≤ i →
    Ev (fun k => impl_FieldSet.l0 k nm v acc b l (l.length : Int) i) (acc ++ (setL nm v b ((l.drop i.toNat).map fun x => (x.f0, x.f1))).map fun p => (⟨p.1, p.2⟩ : S49))
  | 0, acc, b, i, h0, hd, ha => by
    refine ev_last fun k => ?_
    simp only [impl_FieldSet.l0]
    rw [if_neg (by omega), drop_nil (by omega)]
    cases b
    · rw [if_neg (by decide), if_pos (by omega)]; rfl
    · rw [if_pos rfl]; simp [setL]
  | d + 1, acc, b, i, h0, hd, ha => by
    have hlt : i < (l.length : Int) := by omega
    have hdrop : l.drop i.toNat = rd_T49 l i :: l.drop (i + 1).toNat := drop_rdOf (d := z49) h0 hlt
    rw [hdrop]
    simp only [List.map_cons, setL]
    by_cases h : (rd_T49 l i).f0 = nm
    · rw [if_pos h]
      cases b with
      | true =>
        refine Ev.step (f := fun k => impl_FieldSet.l0 k nm v acc true l (l.length : Int) (i + 1)) (fun k => ?_) (ev_eq (impl_FieldSet_l0 l nm v hl d acc true (i + 1) (by omega) (by omega) (by omega)) (by rw [if_pos rfl]))
        simp only [impl_FieldSet.l0]
        rw [if_pos hlt, if_pos h0, if_pos hlt, if_pos (by rw [h]), if_pos trivial, wrap_id (by omega) (by omega)]
      | false =>
        refine Ev.step (f := fun k => impl_FieldSet.l0 k nm v (acc ++ [(⟨nm, v⟩ : S49)]) true l (l.length : Int) (i + 1)) (fun k => ?_) (ev_eq (impl_FieldSet_l0 l nm v hl d _ true (i + 1) (by omega) (by omega) (by simp; omega)) (by rw [if_neg (by decide)]; simp))
        simp only [impl_FieldSet.l0]
        rw [if_pos hlt, if_pos h0, if_pos hlt, if_pos (by rw [h]), if_neg (by decide), if_pos (by omega), wrap_id (by omega) (by omega)]
    · rw [if_neg h]
      refine Ev.step (f := fun k => impl_FieldSet.l0 k nm v (acc ++ [rd_T49 l i]) b l (l.length : Int) (i + 1)) (fun k => ?_) (ev_eq (impl_FieldSet_l0 l nm v hl d _ b (i + 1) (by omega) (by omega) (by simp; omega)) (by simp))
      simp only [impl_FieldSet.l0]
      rw [if_pos hlt, if_pos h0, if_pos hlt, if_neg (by rw [toList_eq_iff]; exact h), if_pos (by omega), wrap_id (by omega) (by omega)]
theorem impl_FieldSet_ev (l : List S49) (nm v : ByteArray) (hl : l.length ≤ 1048576) : Ev (fun k => impl_FieldSet.f k l nm v) ((setL nm v false (l.map fun x => (x.f0, x.f1))).map fun p => (⟨p.1, p.2⟩ : S49)) := by
  have h := impl_FieldSet_l0 l nm v hl l.length [] false 0 (by omega) (by omega) (by simp)
  simpa [impl_FieldSet.f] using h

end Go.Proofs.YtjldfmkpdkhnnaaDoor.Pure

namespace Go.Proofs.YtjldfmkpdkhnnaaDoor.Pure
open Go.RowKit Go.Proofs.YtjldfmkpdkhnnaaDoor.QL Go.Proofs.YtjldfmkpdkhnnaaDoorW.PrintWords Go.Proofs.YtjldfmkpdkhnnaaDoorW.PrintLast Go.Proofs.YtjldfmkpdkhnnaaDoorW.PrintMore Go.Proofs.YtjldfmkpdkhnnaaDoor.Aux Go.Proofs.YtjldfmkpdkhnnaaDoor.Dom Go.Proofs.YtjldfmkpdkhnnaaDoor.Ext
theorem dropL_filter (nm : ByteArray) : ∀ l : List S49, (l.filter fun x => !decide (x.f0 = nm)) = (dropL nm (l.map fun x => (x.f0, x.f1))).map fun p => (⟨p.1, p.2⟩ : S49)
  | [] => rfl
  | x :: r => by
    rw [List.filter_cons, List.map_cons, dropL, dropL_filter nm r]
    by_cases h : x.f0 = nm
    · simp [h]
    · simp [h]
theorem impl_FieldDrop_eq (l : List S49) (nm : ByteArray) (hl : l.length ≤ 4194304) : impl_FieldDrop.f l nm = some ((dropL nm (l.map fun x => (x.f0, x.f1))).map fun p => (⟨p.1, p.2⟩ : S49)) := by
  unfold impl_FieldDrop.f
  rw [if_pos hl, dropL_filter]

end Go.Proofs.YtjldfmkpdkhnnaaDoor.Pure

namespace Go.Proofs.YtjldfmkpdkhnnaaDoor.Pure
open Go.RowKit Go.Proofs.YtjldfmkpdkhnnaaDoor.QL Go.Proofs.YtjldfmkpdkhnnaaDoorW.PrintWords Go.Proofs.YtjldfmkpdkhnnaaDoorW.PrintLast Go.Proofs.YtjldfmkpdkhnnaaDoorW.PrintMore Go.Proofs.YtjldfmkpdkhnnaaDoor.Aux Go.Proofs.YtjldfmkpdkhnnaaDoor.Dom Go.Proofs.YtjldfmkpdkhnnaaDoor.Ext
theorem impl_FieldGet_l0 (l : List S49) (nm : ByteArray) (hl : l.length ≤ 1048576) (V : List ByteArray) (hV : (V.map fun v => v.size + 2).sum ≤ 8388608) (hW : V.length ≤ 1048576) : ∀ (d : Nat) (acc : List ByteArray) (i : Int), 0 ≤ i → (l.length : Int) - i = d → acc ++ getL nm ((l.drop i.toNat).map fun x => (x.f0, x.f1)) = V →
    Ev (fun k => impl_FieldGet.l0 k nm acc l (l.length : Int) i) (joinB ⟨#[44, 32]⟩ V, !V.isEmpty)
  | 0, acc, i, h0, hd, ha => by
    refine ev_last fun k => ?_
    simp only [impl_FieldGet.l0]
    rw [drop_nil (by omega)] at ha
    simp only [List.map_nil, getL, List.append_nil] at ha
    subst ha
    have hs : (joinB ⟨#[44, 32]⟩ acc).size ≤ (acc.map fun v => v.size + 2).sum := joinB_size ⟨#[44, 32]⟩ acc
    rw [if_neg (by omega), strings_Join.f, if_pos ⟨by omega, by omega⟩, Option.bind_some]
    cases acc <;> simp
  | d + 1, acc, i, h0, hd, ha => by
    have hlt : i < (l.length : Int) := by omega
    have hdrop : l.drop i.toNat = rd_T49 l i :: l.drop (i + 1).toNat := drop_rdOf (d := z49) h0 hlt
    rw [hdrop] at ha
    simp only [List.map_cons, getL] at ha
    by_cases h : (rd_T49 l i).f0 = nm
    · rw [if_pos h] at ha
      have hlen : acc.length < 8796093022208 := by
        have := congrArg List.length ha
        simp at this
        omega
      refine Ev.step (f := fun k => impl_FieldGet.l0 k nm (acc ++ [(rd_T49 l i).f1]) l (l.length : Int) (i + 1)) (fun k => ?_) (impl_FieldGet_l0 l nm hl V hV hW d (acc ++ [(rd_T49 l i).f1]) (i + 1) (by omega) (by omega) (by rw [← ha]; simp))
      simp only [impl_FieldGet.l0]
      rw [if_pos hlt, if_pos h0, if_pos hlt, if_pos (by rw [h]), if_pos hlen, wrap_id (by omega) (by omega)]
    · rw [if_neg h] at ha
      refine Ev.step (f := fun k => impl_FieldGet.l0 k nm acc l (l.length : Int) (i + 1)) (fun k => ?_) (impl_FieldGet_l0 l nm hl V hV hW d acc (i + 1) (by omega) (by omega) ha)
      simp only [impl_FieldGet.l0]
      rw [if_pos hlt, if_pos h0, if_pos hlt, if_neg (by rw [toList_eq_iff]; exact h), wrap_id (by omega) (by omega)]
theorem impl_FieldGet_ev (l : List S49) (nm : ByteArray) (hl : l.length ≤ 1048576) (hV : ((getL nm (l.map fun x => (x.f0, x.f1))).map fun v => v.size + 2).sum ≤ 8388608) : Ev (fun k => impl_FieldGet.f k l nm) (joinB ⟨#[44, 32]⟩ (getL nm (l.map fun x => (x.f0, x.f1))), !(getL nm (l.map fun x => (x.f0, x.f1))).isEmpty) := by
  have hW := getL_length nm (l.map fun x => (x.f0, x.f1))
  rw [List.length_map] at hW
  have h := impl_FieldGet_l0 l nm hl _ hV (by omega) l.length [] 0 (by omega) (by omega) (by simp)
  simpa [impl_FieldGet.f] using h

end Go.Proofs.YtjldfmkpdkhnnaaDoor.Pure

namespace Go.Proofs.YtjldfmkpdkhnnaaDoor.Pure
open Go.RowKit Go.Proofs.YtjldfmkpdkhnnaaDoor.QL Go.Proofs.YtjldfmkpdkhnnaaDoorW.PrintWords Go.Proofs.YtjldfmkpdkhnnaaDoorW.PrintLast Go.Proofs.YtjldfmkpdkhnnaaDoorW.PrintMore Go.Proofs.YtjldfmkpdkhnnaaDoor.Aux Go.Proofs.YtjldfmkpdkhnnaaDoor.Dom Go.Proofs.YtjldfmkpdkhnnaaDoor.Ext
theorem spec_FieldDrop_l0 (l : List S49) (nm : ByteArray) (hl : l.length ≤ 4194304) : ∀ (d : Nat) (acc : List S49) (i : Int), 0 ≤ i → (l.length : Int) - i = d → (acc.length : Int) ≤ i →
    Ev (fun k => spec_FieldDrop.l0 k l nm acc i) (acc ++ (dropL nm ((l.drop i.toNat).map fun x => (x.f0, x.f1))).map fun p => (⟨p.1, p.2⟩ : S49))
  | 0, acc, i, h0, hd, ha => by
    refine ev_last fun k => ?_
    simp only [spec_FieldDrop.l0]
    rw [if_neg (by omega), drop_nil (by omega)]
    simp [dropL]
  | d + 1, acc, i, h0, hd, ha => by
    have hlt : i < (l.length : Int) := by omega
    have hdrop : l.drop i.toNat = rd_T49 l i :: l.drop (i + 1).toNat := drop_rdOf (d := z49) h0 hlt
    rw [hdrop]
    simp only [List.map_cons, dropL]
    by_cases h : (rd_T49 l i).f0 = nm
    · rw [if_pos h]
      refine Ev.step (f := fun k => spec_FieldDrop.l0 k l nm acc (i + 1)) (fun k => ?_) (spec_FieldDrop_l0 l nm hl d acc (i + 1) (by omega) (by omega) (by omega))
      simp only [spec_FieldDrop.l0]
      rw [if_pos hlt, if_pos h0, if_pos (by rw [h]), wrap_id (by omega) (by omega)]
    · rw [if_neg h]
      refine Ev.step (f := fun k => spec_FieldDrop.l0 k l nm (acc ++ [rd_T49 l i]) (i + 1)) (fun k => ?_) (ev_eq (spec_FieldDrop_l0 l nm hl d _ (i + 1) (by omega) (by omega) (by simp; omega)) (by simp))
      simp only [spec_FieldDrop.l0]
      rw [if_pos hlt, if_pos h0, if_neg (by rw [toList_eq_iff]; exact h), if_pos (by omega), wrap_id (by omega) (by omega)]
theorem spec_FieldDrop_ev (l : List S49) (nm : ByteArray) (hl : l.length ≤ 4194304) : Ev (fun k => spec_FieldDrop.f k l nm) ((dropL nm (l.map fun x => (x.f0, x.f1))).map fun p => (⟨p.1, p.2⟩ : S49)) := by
  have h := spec_FieldDrop_l0 l nm hl l.length [] 0 (by omega) (by omega) (by simp)
  simpa [spec_FieldDrop.f] using h

end Go.Proofs.YtjldfmkpdkhnnaaDoor.Pure

namespace Go.Proofs.YtjldfmkpdkhnnaaDoor.Pure
open Go.RowKit Go.Proofs.YtjldfmkpdkhnnaaDoor.QL Go.Proofs.YtjldfmkpdkhnnaaDoorW.PrintWords Go.Proofs.YtjldfmkpdkhnnaaDoorW.PrintLast Go.Proofs.YtjldfmkpdkhnnaaDoorW.PrintMore Go.Proofs.YtjldfmkpdkhnnaaDoor.Aux Go.Proofs.YtjldfmkpdkhnnaaDoor.Dom Go.Proofs.YtjldfmkpdkhnnaaDoor.Ext
theorem spec_SameFields_l0 (a b : List S49) (hl : a.length ≤ 9223372036854775806) (hab : a.length = b.length) : ∀ (d : Nat) (i : Int), 0 ≤ i → (a.length : Int) - i = d →
    Ev (fun k => spec_SameFields.l0 k a b i) (sameL ((a.drop i.toNat).map fun x => (x.f0, x.f1)) ((b.drop i.toNat).map fun x => (x.f0, x.f1)))
  | 0, i, h0, hd => by
    refine ev_last fun k => ?_
    simp only [spec_SameFields.l0]
    rw [if_neg (by omega), drop_nil (by omega), drop_nil (by omega)]
    rfl
  | d + 1, i, h0, hd => by
    have hlt : i < (a.length : Int) := by omega
    have ea : a.drop i.toNat = rd_T49 a i :: a.drop (i + 1).toNat := drop_rdOf (d := z49) h0 hlt
    have eb : b.drop i.toNat = rd_T49 b i :: b.drop (i + 1).toNat := drop_rdOf (d := z49) h0 (by omega)
    rw [ea, eb]
    simp only [List.map_cons, sameL]
    by_cases h : (rd_T49 a i).f0 = (rd_T49 b i).f0 ∧ (rd_T49 a i).f1 = (rd_T49 b i).f1
    · refine Ev.step (f := fun k => spec_SameFields.l0 k a b (i + 1)) (fun k => ?_) (ev_eq (spec_SameFields_l0 a b hl hab d (i + 1) (by omega) (by omega)) ?_)
      · simp only [spec_SameFields.l0]
        rw [if_pos hlt, if_pos h0, if_pos (by omega), if_neg (by simp [h.1, h.2]), wrap_id (by omega) (by omega)]
      · rw [if_pos h]
    · refine ev_last fun k => ?_
      simp only [spec_SameFields.l0]
      rw [if_pos hlt, if_pos h0, if_pos (by omega), if_pos (by simp only [Bool.or_eq_true, Bool.not_eq_true', beq_eq_false_iff_ne, ne_eq, toList_eq_iff]; exact Classical.not_and_iff_not_or_not.1 h), if_neg h]
theorem spec_SameFields_ev (a b : List S49) (hl : a.length ≤ 9223372036854775806) : Ev (fun k => spec_SameFields.f k a b) (sameF (a.map fun x => (x.f0, x.f1)) (b.map fun x => (x.f0, x.f1))) := by
  unfold sameF
  rw [List.length_map, List.length_map]
  by_cases h : a.length = b.length
  · rw [if_pos h]
    refine Ev.congr (fun k => by unfold spec_SameFields.f; rw [if_pos (by omega)]) ?_
    have e := spec_SameFields_l0 a b hl h a.length 0 (by omega) (by omega)
    simpa using e
  · rw [if_neg h]
    exact ev_some fun k => by unfold spec_SameFields.f; rw [if_neg (by omega)]

end Go.Proofs.YtjldfmkpdkhnnaaDoor.Pure

namespace Go.Proofs.YtjldfmkpdkhnnaaDoor.Pure
open Go.RowKit Go.Proofs.YtjldfmkpdkhnnaaDoor.QL Go.Proofs.YtjldfmkpdkhnnaaDoorW.PrintWords Go.Proofs.YtjldfmkpdkhnnaaDoorW.PrintLast Go.Proofs.YtjldfmkpdkhnnaaDoorW.PrintMore Go.Proofs.YtjldfmkpdkhnnaaDoor.Aux Go.Proofs.YtjldfmkpdkhnnaaDoor.Dom Go.Proofs.YtjldfmkpdkhnnaaDoor.Ext
theorem strings_IndexByte_eq (s : ByteArray) (c : Int) (h0 : 0 ≤ c) (h1 : c < 256) : strings_IndexByte.f s c = some (idxB (bytesOf s) c) := by unfold strings_IndexByte.f; rw [if_pos ⟨h0, h1⟩]

end Go.Proofs.YtjldfmkpdkhnnaaDoor.Pure

namespace Go.Proofs.YtjldfmkpdkhnnaaDoor.Pure
open Go.RowKit Go.Proofs.YtjldfmkpdkhnnaaDoor.QL Go.Proofs.YtjldfmkpdkhnnaaDoorW.PrintWords Go.Proofs.YtjldfmkpdkhnnaaDoorW.PrintLast Go.Proofs.YtjldfmkpdkhnnaaDoorW.PrintMore Go.Proofs.YtjldfmkpdkhnnaaDoor.Aux Go.Proofs.YtjldfmkpdkhnnaaDoor.Dom Go.Proofs.YtjldfmkpdkhnnaaDoor.Ext
def lodC (c : Int) : Bool := decide (97 ≤ c ∧ c ≤ 122) || decide (65 ≤ c ∧ c ≤ 90) || decide (48 ≤ c ∧ c ≤ 57)
theorem impl_isLetterOrDigit_eq {c : Int} (h0 : 0 ≤ c) (h1 : c < 256) : impl_isLetterOrDigit.f c = some (lodC c) :=
  byte_all (P := fun c => impl_isLetterOrDigit.f c = some (lodC c)) (by decide +kernel) h0 h1
theorem impl_tok {c : Int} (h0 : 0 ≤ c) (h1 : c < 256) : tokC c = (lodC c || !decide (idxB [33, 35, 36, 37, 38, 39, 42, 43, 45, 46, 94, 95, 124, 126, 96] c < 0)) :=
  byte_all (P := fun c => tokC c = (lodC c || !decide (idxB [33, 35, 36, 37, 38, 39, 42, 43, 45, 46, 94, 95, 124, 126, 96] c < 0))) (by decide +kernel) h0 h1
theorem impl_IsTokenText_l0 (s : ByteArray) (hs : s.size ≤ 8388608) : ∀ (d : Nat) (i : Int), 0 ≤ i → (s.size : Int) - i = d →
    Ev (fun k => impl_IsTokenText.l0 k s (s.size : Int) i) (((bytesOf s).drop i.toNat).all tokC && !(bytesOf s).isEmpty)
  | 0, i, h0, hd => by
    refine ev_last fun k => ?_
    simp only [impl_IsTokenText.l0]
    rw [if_neg (by omega), drop_end (by omega)]
    congr 1
    rw [Bool.eq_iff_iff]
    simp only [bne_iff_ne, ne_eq, List.all_nil, Bool.true_and, Bool.not_eq_true', List.isEmpty_eq_false_iff]
    constructor
    · intro h he
      apply h
      exact (toList_lit _ _).2 he
    · intro h he
      exact h ((toList_lit _ _).1 he)
  | d + 1, i, h0, hd => by
    have hb := bt_bound s i
    have hlt : i < (s.size : Int) := by omega
    have e := impl_isLetterOrDigit_eq hb.1 hb.2
    have et := impl_tok hb.1 hb.2
    rw [drop_bt h0 hlt, List.all_cons]
    have ei := strings_IndexByte_eq (⟨#[33, 35, 36, 37, 38, 39, 42, 43, 45, 46, 94, 95, 124, 126, 96]⟩ : ByteArray) (bt s i) hb.1 hb.2
    have eb : bytesOf (⟨#[33, 35, 36, 37, 38, 39, 42, 43, 45, 46, 94, 95, 124, 126, 96]⟩ : ByteArray) = [33, 35, 36, 37, 38, 39, 42, 43, 45, 46, 94, 95, 124, 126, 96] := by decide +kernel
    rw [eb] at ei
    cases hl : lodC (bt s i) with
    | true =>
      rw [hl, Bool.true_or] at et
      refine Ev.step (f := fun k => impl_IsTokenText.l0 k s (s.size : Int) (i + 1)) (fun k => ?_) (ev_eq (impl_IsTokenText_l0 s hs d (i + 1) (by omega) (by omega)) (by rw [et, Bool.true_and]))
      simp only [impl_IsTokenText.l0]
      rw [if_pos hlt, if_pos h0, if_pos hlt, e, hl, Option.bind_some, if_pos rfl, wrap_id (by omega) (by omega)]
    | false =>
      rw [hl, Bool.false_or] at et
      by_cases hx : idxB [33, 35, 36, 37, 38, 39, 42, 43, 45, 46, 94, 95, 124, 126, 96] (bt s i) < 0
      · refine ev_last fun k => ?_
        simp only [impl_IsTokenText.l0]
        rw [if_pos hlt, if_pos h0, if_pos hlt, e, hl, Option.bind_some, if_neg (by decide), ei, Option.bind_some, if_pos hx, et, decide_eq_true hx]
        rfl
      · refine Ev.step (f := fun k => impl_IsTokenText.l0 k s (s.size : Int) (i + 1)) (fun k => ?_) (ev_eq (impl_IsTokenText_l0 s hs d (i + 1) (by omega) (by omega)) (by rw [et, decide_eq_false hx]; rfl))
        simp only [impl_IsTokenText.l0]
        rw [if_pos hlt, if_pos h0, if_pos hlt, e, hl, Option.bind_some, if_neg (by decide), ei, Option.bind_some, if_neg hx, wrap_id (by omega) (by omega)]
theorem impl_IsTokenText_ev (s : ByteArray) (hs : s.size ≤ 8388608) : Ev (fun k => impl_IsTokenText.f k s) (tokB (bytesOf s)) := by
  have h := impl_IsTokenText_l0 s hs s.size 0 (by omega) (by omega)
  simpa [impl_IsTokenText.f, tokB] using h

end Go.Proofs.YtjldfmkpdkhnnaaDoor.Pure

namespace Go.Proofs.YtjldfmkpdkhnnaaDoor.Pure
open Go.RowKit Go.Proofs.YtjldfmkpdkhnnaaDoor.QL Go.Proofs.YtjldfmkpdkhnnaaDoorW.PrintWords Go.Proofs.YtjldfmkpdkhnnaaDoorW.PrintLast Go.Proofs.YtjldfmkpdkhnnaaDoorW.PrintMore Go.Proofs.YtjldfmkpdkhnnaaDoor.Aux Go.Proofs.YtjldfmkpdkhnnaaDoor.Dom Go.Proofs.YtjldfmkpdkhnnaaDoor.Ext
theorem impl_Trim_eq (s : ByteArray) (hs : s.size ≤ 8388608) : impl_Trim.f s = some (trimB s) := by
  unfold impl_Trim.f strings_Trim.f
  rw [if_pos ⟨hs, rfl⟩, Option.bind_some]

end Go.Proofs.YtjldfmkpdkhnnaaDoor.Pure

namespace Go.Proofs.YtjldfmkpdkhnnaaDoor.Pure
open Go.RowKit Go.Proofs.YtjldfmkpdkhnnaaDoor.QL Go.Proofs.YtjldfmkpdkhnnaaDoorW.PrintWords Go.Proofs.YtjldfmkpdkhnnaaDoorW.PrintLast Go.Proofs.YtjldfmkpdkhnnaaDoorW.PrintMore Go.Proofs.YtjldfmkpdkhnnaaDoor.Aux Go.Proofs.YtjldfmkpdkhnnaaDoor.Dom Go.Proofs.YtjldfmkpdkhnnaaDoor.Ext
theorem impl_IsValueText_l0 (s : ByteArray) (hs : s.size ≤ 8388608) : ∀ (d : Nat) (i : Int), 0 ≤ i → (s.size : Int) - i = d →
    Ev (fun k => impl_IsValueText.l0 k s (s.size : Int) i) (((bytesOf s).drop i.toNat).all valC && decide (trimB s = s))
  | 0, i, h0, hd => by
    refine ev_last fun k => ?_
    simp only [impl_IsValueText.l0]
    rw [if_neg (by omega), impl_Trim_eq s hs, Option.bind_some, drop_end (by omega), toList_beq]
    rfl
  | d + 1, i, h0, hd => by
    have hlt : i < (s.size : Int) := by omega
    have ih := impl_IsValueText_l0 s hs d (i + 1) (by omega) (by omega)
    rw [drop_bt h0 hlt, List.all_cons]
    by_cases h9 : bt s i = 9
    · refine Ev.step (f := fun k => impl_IsValueText.l0 k s (s.size : Int) (i + 1)) (fun k => ?_) (ev_eq ih (by rw [valC, h9]; rfl))
      simp only [impl_IsValueText.l0]
      rw [if_pos hlt, if_pos h0, if_pos hlt, if_pos (by omega), if_pos h9, if_neg (by omega), wrap_id (by omega) (by omega)]
    · by_cases h32 : bt s i < 32
      · refine ev_last fun k => ?_
        simp only [impl_IsValueText.l0]
        rw [if_pos hlt, if_pos h0, if_pos hlt, if_pos h32, if_neg h9, valC, decide_eq_false h9, decide_eq_false (by omega : ¬ 32 ≤ bt s i)]
        rfl
      · by_cases h7 : bt s i = 127
        · refine ev_last fun k => ?_
          simp only [impl_IsValueText.l0]
          rw [if_pos hlt, if_pos h0, if_pos hlt, if_neg h32, if_pos h7, valC, h7]
          rfl
        · refine Ev.step (f := fun k => impl_IsValueText.l0 k s (s.size : Int) (i + 1)) (fun k => ?_) (ev_eq ih (by rw [valC, decide_eq_true (by omega : 32 ≤ bt s i), decide_eq_true h7]; simp))
          simp only [impl_IsValueText.l0]
          rw [if_pos hlt, if_pos h0, if_pos hlt, if_neg h32, if_neg h7, wrap_id (by omega) (by omega)]
theorem impl_IsValueText_ev (s : ByteArray) (hs : s.size ≤ 8388608) : Ev (fun k => impl_IsValueText.f k s) (valB s) :=
  impl_IsValueText_l0 s hs s.size 0 (by omega) (by omega)

end Go.Proofs.YtjldfmkpdkhnnaaDoor.Pure

namespace Go.Proofs.YtjldfmkpdkhnnaaDoor.Pure
open Go.RowKit Go.Proofs.YtjldfmkpdkhnnaaDoor.QL Go.Proofs.YtjldfmkpdkhnnaaDoorW.PrintWords Go.Proofs.YtjldfmkpdkhnnaaDoorW.PrintLast Go.Proofs.YtjldfmkpdkhnnaaDoorW.PrintMore Go.Proofs.YtjldfmkpdkhnnaaDoor.Aux Go.Proofs.YtjldfmkpdkhnnaaDoor.Dom Go.Proofs.YtjldfmkpdkhnnaaDoor.Ext
theorem impl_Lower_eq (s : ByteArray) (hs : s.size ≤ 8388608) : impl_Lower.f s = some (strOfNums ((bytesOf s).map lowC)) := by unfold impl_Lower.f; rw [if_pos hs]

end Go.Proofs.YtjldfmkpdkhnnaaDoor.Pure

namespace Go.Proofs.YtjldfmkpdkhnnaaDoor.Pure
open Go.RowKit Go.Proofs.YtjldfmkpdkhnnaaDoor.QL Go.Proofs.YtjldfmkpdkhnnaaDoorW.PrintWords Go.Proofs.YtjldfmkpdkhnnaaDoorW.PrintLast Go.Proofs.YtjldfmkpdkhnnaaDoorW.PrintMore Go.Proofs.YtjldfmkpdkhnnaaDoor.Aux Go.Proofs.YtjldfmkpdkhnnaaDoor.Dom Go.Proofs.YtjldfmkpdkhnnaaDoor.Ext
theorem impl_fieldOk_ev (nm v : ByteArray) (hn : nm.size ≤ 8388608) (hv : v.size ≤ 8388608) : Ev (fun k => impl_fieldOk.f k nm v) (fieldB (nm, v)) := by
  refine Ev.congr (fun k => by unfold impl_fieldOk.f; rfl) ?_
  refine ev_bind (impl_IsTokenText_ev nm hn) ?_
  by_cases a : tokB (bytesOf nm) = true
  · refine ev_if_pos a ?_
    by_cases c : nm.size ≤ 24
    · refine ev_if_pos (by omega) (ev_bind (ev_some fun _ => impl_Lower_eq nm hn) ?_)
      by_cases b : lowB nm = nm
      · refine ev_if_pos (by rw [toList_eq_iff]; exact b) (ev_bind (impl_IsValueText_ev v hv) ?_)
        by_cases d : valB v = true
        · refine ev_if_pos d (ev_some fun _ => ?_)
          congr 1
          have e : decide ((v.size : Int) ≤ 60) = decide (v.size ≤ 60) := by rw [decide_eq_decide]; omega
          rw [e]
          simp [fieldB, a, b, c, d]
        · exact ev_if_neg d (ev_eq (Ev.now _) (by simp [fieldB, d]))
      · exact ev_if_neg (by rw [toList_eq_iff]; exact b) (ev_eq (Ev.now _) (by simp [fieldB, b]))
    · exact ev_if_neg (by omega) (ev_eq (Ev.now _) (by simp [fieldB, c]))
  · exact ev_if_neg a (ev_eq (Ev.now _) (by simp [fieldB, a]))

end Go.Proofs.YtjldfmkpdkhnnaaDoor.Pure

namespace Go.Proofs.YtjldfmkpdkhnnaaDoor.Pure
open Go.RowKit Go.Proofs.YtjldfmkpdkhnnaaDoor.QL Go.Proofs.YtjldfmkpdkhnnaaDoorW.PrintWords Go.Proofs.YtjldfmkpdkhnnaaDoorW.PrintLast Go.Proofs.YtjldfmkpdkhnnaaDoorW.PrintMore Go.Proofs.YtjldfmkpdkhnnaaDoor.Aux Go.Proofs.YtjldfmkpdkhnnaaDoor.Dom Go.Proofs.YtjldfmkpdkhnnaaDoor.Ext
theorem impl_FieldsOk_each_ev : ∀ (l : List S49), (∀ x ∈ l, x.f0.size ≤ 8388608 ∧ x.f1.size ≤ 8388608) → Ev (fun k => impl_FieldsOk.each k l) (l.map fun x => !fieldB (x.f0, x.f1))
  | [], _ => ev_some fun _ => rfl
  | x :: r, hm => by
    have hs := hm x List.mem_cons_self
    have ih := impl_FieldsOk_each_ev r fun y hy => hm y (List.mem_cons_of_mem _ hy)
    have h1 : Ev (fun k => impl_FieldsOk_1.f k x.f0 x.f1) (!fieldB (x.f0, x.f1)) := Ev.congr (fun k => by unfold impl_FieldsOk_1.f; rfl) (ev_bind (impl_fieldOk_ev _ _ hs.1 hs.2) (Ev.now _))
    refine Ev.congr (fun k => by rw [impl_FieldsOk.each]) (ev_bind h1 (ev_bind ih (Ev.now _)))
theorem impl_FieldsOk_ev (l : List S49) (hm : ∀ x ∈ l, x.f0.size ≤ 8388608 ∧ x.f1.size ≤ 8388608) : Ev (fun k => impl_FieldsOk.f k l) (fieldsB (l.map fun x => (x.f0, x.f1))) := by
  refine Ev.congr (fun k => by unfold impl_FieldsOk.f; rfl) ?_
  by_cases h : (l.length : Int) ≤ 12
  · refine ev_if_pos h (ev_bind (impl_FieldsOk_each_ev l hm) (ev_some fun _ => ?_))
    congr 1
    have e : decide (l.length ≤ 12) = true := by rw [decide_eq_true_eq]; omega
    simp only [fieldsB, List.length_map, e, Bool.and_true, List.any_map, List.all_map]
    rw [List.not_any_eq_all_not]
    congr 1
    funext x
    simp
  · exact ev_if_neg h (ev_eq (Ev.now _) (by simp [fieldsB]; intro _; omega))

end Go.Proofs.YtjldfmkpdkhnnaaDoor.Pure

