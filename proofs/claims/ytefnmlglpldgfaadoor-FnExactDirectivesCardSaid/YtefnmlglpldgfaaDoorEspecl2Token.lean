/- A contract of our own for the function spec_l2Token of the program or the library. -/
import Derived.Test.YtefnmlglpldgfaaDoorProg
import Derived.Below
import Derived.Deep.Draws
import Derived.Deep.AppendLies
import Derived.Maps.AppendAt
import Derived.OwnWalk
import Derived.Laws.BytesArg
import Derived.Laws.MakeOwn
import Derived.Laws.OwnMore
import Derived.Deep.OwnRows
import Derived.Tactics
import Derived.Lib.ConvBytes
import Derived.Laws.Slices
import Derived.WalkKit
import Derived.KernelRfl
import Derived.RowKit3
import Derived.Deep.LoopGhost
import Derived.Deep.QuietTactic
import Derived.BigQuiet
import Derived.WideLaws
import Derived.Deep.DeepCutAuto
import Derived.Deep.CutBlock
import Derived.Deep.RegionHeld3
import Derived.Laws.Rows
import Derived.Lib.AppendStr
import Derived.ArgAppend
import Derived.Laws.IdiomCopy
import Derived.OrdersHeld
import Derived.Laws.BitsLemmas
import Derived.RowKit
import Derived.Test.YtefnmlglpldgfaaDoorBas
import Derived.Test.YtefnmlglpldgfaaDoorSq
import Derived.Test.YtefnmlglpldgfaaDoorExt
import Derived.Test.YtefnmlglpldgfaaDoorWWords
import Derived.Test.YtefnmlglpldgfaaDoorWLast
import Derived.Test.YtefnmlglpldgfaaDoorWTab
import Derived.Test.YtefnmlglpldgfaaDoorWFour
import Derived.Test.YtefnmlglpldgfaaDoorWQPut
import Derived.Test.YtefnmlglpldgfaaDoorWApart
import Derived.Test.YtefnmlglpldgfaaDoorWArr
import Derived.Test.YtefnmlglpldgfaaDoorWZeros
import Derived.Test.YtefnmlglpldgfaaDoorWFoot
import Derived.Test.YtefnmlglpldgfaaDoorWKept
import Derived.Test.YtefnmlglpldgfaaDoorWShare
import Derived.Test.YtefnmlglpldgfaaDoorWN
import Derived.Test.YtefnmlglpldgfaaDoorWFootNe
import Derived.Test.YtefnmlglpldgfaaDoorWAt
import Derived.Test.YtefnmlglpldgfaaDoorWEqStruct
import Derived.Test.YtefnmlglpldgfaaDoorWRepsOne
import Derived.Test.YtefnmlglpldgfaaDoorWInv
import Derived.Test.YtefnmlglpldgfaaDoorWInvWords
import Derived.Test.YtefnmlglpldgfaaDoorWGuard
import Derived.Test.YtefnmlglpldgfaaDoorWNEv
import Derived.Test.YtefnmlglpldgfaaDoorWMore
namespace Go.Proofs.YtefnmlglpldgfaaDoor.Ext
open Go.RowKit Go.Proofs.YtefnmlglpldgfaaDoorW.PrintWords Go.Proofs.YtefnmlglpldgfaaDoorW.PrintLast Go.Proofs.YtefnmlglpldgfaaDoorW.PrintMore Go.Proofs.YtefnmlglpldgfaaDoor.Aux Go.Proofs.YtefnmlglpldgfaaDoor.Dom Go.Proofs.YtefnmlglpldgfaaDoor.Glob
attribute [local go_sem] max2_int min2_int max_two min_two max_three min_three max_four min_four
set_option linter.unusedVariables false
set_option linter.unusedSimpArgs false
def spec_l2Token.f (a0 : Int) : Option Bool := if 0 ≤ a0 ∧ a0 < 256 then some (tokC a0) else none
theorem step_val {P : Program} {ops : Array Oper} {Q : Exit → Act → World → Prop} {rest : List Oper} {o : Oper} {a : Act} {w : World} {d : Nat} (v : Value) (hd : o.dst = some d) (hrun : (execOp a.eval o).run P w = .ok (.value v) w) (hw : Region.wanted o (yielded ops a.tmps) = true)
    (h : wpList P ops Q rest ⟨a.tmps.setIfInBounds d v, a.defers⟩ w) : wpList P ops Q (o :: rest) a w := by
  refine wpList_step fun K hK => ?_
  rw [if_pos hw]
  unfold Oper.wp
  rw [hrun, Oper.upon_value]
  refine hK _ _ ?_
  have e : a.put o.dst v = ⟨a.tmps.setIfInBounds d v, a.defers⟩ := by rw [hd]; rfl
  rw [e]; exact h
theorem step_skip {P : Program} {ops : Array Oper} {Q : Exit → Act → World → Prop} {rest : List Oper} {o : Oper} {a : Act} {w : World} {d : Nat} (hd : o.dst = some d) (hw : Region.wanted o (yielded ops a.tmps) = false)
    (h : wpList P ops Q rest ⟨a.tmps.setIfInBounds d undef, a.defers⟩ w) : wpList P ops Q (o :: rest) a w := by
  refine wpList_step fun K hK => ?_
  rw [if_neg (by rw [hw]; decide)]
  refine hK _ _ ?_
  have e : a.put o.dst undef = ⟨a.tmps.setIfInBounds d undef, a.defers⟩ := by rw [hd]; rfl
  rw [e]; exact h
theorem get_set_same (T : Array Value) (d : Nat) (v : Value) (h : d < T.size) : (T.setIfInBounds d v)[d]? = some v := by simp [h]
theorem get_set_other (T : Array Value) (d e : Nat) (v x : Value) (h : T[e]? = some x) (hne : e ≠ d) : (T.setIfInBounds d v)[e]? = some x := by
  rw [Array.getElem?_setIfInBounds_ne (fun hh => hne hh.symm)]; exact h
theorem eval_tmp {T : Array Value} {D : List Deferred} {t : Nat} {v : Value} (h : T[t]? = some v) : Act.eval ⟨T, D⟩ (.tmp t) = v := by
  simp [Act.eval, Array.getD_eq_getD_getElem?, h]
theorem run_move {P : Program} {T : Array Value} {D : List Deferred} {w : World} {o : Oper} {t : Nat} {v : Value} (ho : o.op = .move (.tmp t)) (h : T[t]? = some v) : (execOp (Act.eval ⟨T, D⟩) o).run P w = .ok (.value v) w := by
  have e := eval_tmp (D := D) h
  unfold execOp
  rw [ho]
  simp [e]
theorem run_assign {P : Program} {T : Array Value} {D : List Deferred} {w : World} {o : Oper} {t : Nat} {v : Value} (ho : o.op = .assign (.tmp t)) (h : T[t]? = some v) : (execOp (Act.eval ⟨T, D⟩) o).run P w = .ok (.value v) w := by
  have e := eval_tmp (D := D) h
  unfold execOp
  rw [ho]
  simp [e]
theorem run_pick {P : Program} {T : Array Value} {D : List Deferred} {w : World} {o : Oper} {x : Operand} {y z : Operand} {b : Bool} (ho : o.op = .pick x y z) (h : Act.eval ⟨T, D⟩ x = .bool b) : (execOp (Act.eval ⟨T, D⟩) o).run P w = .ok (.value (if b then Act.eval ⟨T, D⟩ y else Act.eval ⟨T, D⟩ z)) w := by
  unfold execOp
  rw [ho]
  cases b <;> simp [h] <;> rfl
theorem run_eql {T : Array Value} {D : List Deferred} {w : World} {o : Oper} {t : Nat} {c n : Int} (ho : o.op = .binOp .eql 5 (.tmp t) (.const (.int .u8 n)) 5) (h : T[t]? = some (.int .u8 c)) : (execOp (Act.eval ⟨T, D⟩) o).run Tryd.prog w = .ok (.value (.bool (c == n))) w := by
  have e := eval_tmp (D := D) h
  unfold execOp
  rw [ho]
  go_simp
theorem run_geq {T : Array Value} {D : List Deferred} {w : World} {o : Oper} {t : Nat} {c n : Int} (ho : o.op = .binOp .geq 5 (.tmp t) (.const (.int .u8 n)) 5) (h : T[t]? = some (.int .u8 c)) : (execOp (Act.eval ⟨T, D⟩) o).run Tryd.prog w = .ok (.value (.bool (decide (n ≤ c)))) w := by
  have e := eval_tmp (D := D) h
  unfold execOp
  rw [ho]
  go_simp
theorem run_leq {T : Array Value} {D : List Deferred} {w : World} {o : Oper} {t : Nat} {c n : Int} (ho : o.op = .binOp .leq 5 (.tmp t) (.const (.int .u8 n)) 5) (h : T[t]? = some (.int .u8 c)) : (execOp (Act.eval ⟨T, D⟩) o).run Tryd.prog w = .ok (.value (.bool (decide (c ≤ n)))) w := by
  have e := eval_tmp (D := D) h
  unfold execOp
  rw [ho]
  go_simp
theorem yield_of {ops : Array Oper} {T : Array Value} {j s : Nat} {b : Bool} (hj : (ops[j]?).bind (·.dst) = some s) (h : T[s]? = some (.bool b)) : yielded ops T j = some b := by
  simp only [yielded, hj, Option.bind_some, h]
theorem yield_undef {ops : Array Oper} {T : Array Value} {j s : Nat} (hj : (ops[j]?).bind (·.dst) = some s) (h : T[s]? = some undef) : yielded ops T j = none := by
  simp only [yielded, hj, Option.bind_some, h, undef]
theorem want_none {o : Oper} {f : Nat → Option Bool} (h : o.guard = none) : Region.wanted o f = true := by simp only [Region.wanted, h]
theorem want_some {o : Oper} {f : Nat → Option Bool} {j : Nat} {b c : Bool} (h : o.guard = some (j, b)) (hf : f j = some c) : Region.wanted o f = (c == b) := by
  simp only [Region.wanted, h, hf]
  cases b <;> cases c <;> rfl
theorem want_undef {o : Oper} {f : Nat → Option Bool} {j : Nat} {b : Bool} (h : o.guard = some (j, b)) (hf : f j = none) : Region.wanted o f = false := by
  simp only [Region.wanted, h, hf]
  cases b <;> rfl
/-- 'B || c == n', as the region has it. -/
theorem orBlock {ops : Array Oper} {Q : Exit → Act → World → Prop} {rest : List Oper} {T : Array Value} {D : List Deferred} {w : World} {o1 o2 o3 o4 : Oper} (s j : Nat) (n c : Int) (B : Bool)
    (d1 : o1.dst = some (s + 1)) (g1 : o1.guard = none) (p1 : o1.op = .move (.tmp s))
    (d2 : o2.dst = some (s + 2)) (g2 : o2.guard = some (j, false)) (p2 : o2.op = .move (.tmp 0))
    (d3 : o3.dst = some (s + 3)) (g3 : o3.guard = some (j, false)) (p3 : o3.op = .binOp .eql 5 (.tmp (s + 2)) (.const (.int .u8 n)) 5)
    (d4 : o4.dst = some (s + 4)) (g4 : o4.guard = none) (p4 : o4.op = .pick (.tmp (s + 1)) (.const (.bool true)) (.tmp (s + 3)))
    (hj : (ops[j]?).bind (·.dst) = some (s + 1)) (hN : T.size = 85) (hs : s + 4 < 85) (h0 : T[0]? = some (.int .u8 c)) (hB : T[s]? = some (.bool B)) (hs0 : 0 < s)
    (k : ∀ T' : Array Value, T'.size = 85 → T'[0]? = some (.int .u8 c) → T'[s + 4]? = some (.bool (B || c == n)) → wpList Tryd.prog ops Q rest ⟨T', D⟩ w) :
    wpList Tryd.prog ops Q (o1 :: o2 :: o3 :: o4 :: rest) ⟨T, D⟩ w := by
  refine step_val (.bool B) d1 (run_move p1 hB) (want_none g1) ?_
  have hN1 : (T.setIfInBounds (s + 1) (.bool B)).size = 85 := by simpa using hN
  have z1 := get_set_other T (s + 1) 0 (.bool B) _ h0 (by omega)
  have y1 := get_set_same T (s + 1) (.bool B) (by omega)
  have w1 : yielded ops (T.setIfInBounds (s + 1) (.bool B)) j = some B := yield_of hj y1
  generalize T.setIfInBounds (s + 1) (.bool B) = T1 at hN1 z1 y1 w1
  cases B with
  | true =>
    refine step_skip d2 (by rw [want_some g2 w1]; rfl) ?_
    have hN2 : (T1.setIfInBounds (s + 2) undef).size = 85 := by simpa using hN1
    have z2 := get_set_other T1 (s + 2) 0 undef _ z1 (by omega)
    have y2 := get_set_other T1 (s + 2) (s + 1) undef _ y1 (by omega)
    generalize T1.setIfInBounds (s + 2) undef = T2 at hN2 z2 y2
    refine step_skip d3 (by rw [want_some g3 (yield_of hj y2)]; rfl) ?_
    have hN3 : (T2.setIfInBounds (s + 3) undef).size = 85 := by simpa using hN2
    have z3 := get_set_other T2 (s + 3) 0 undef _ z2 (by omega)
    have y3 := get_set_other T2 (s + 3) (s + 1) undef _ y2 (by omega)
    generalize T2.setIfInBounds (s + 3) undef = T3 at hN3 z3 y3
    refine step_val (.bool true) d4 (run_pick p4 (eval_tmp y3)) (want_none g4) ?_
    exact k _ (by simpa using hN3) (get_set_other _ _ _ _ _ z3 (by omega)) ((get_set_same T3 _ _ (by omega)).trans rfl)
  | false =>
    refine step_val (.int .u8 c) d2 (run_move p2 z1) (by rw [want_some g2 w1]; rfl) ?_
    have hN2 : (T1.setIfInBounds (s + 2) (.int .u8 c)).size = 85 := by simpa using hN1
    have z2 := get_set_other T1 (s + 2) 0 (.int .u8 c) _ z1 (by omega)
    have y2 := get_set_other T1 (s + 2) (s + 1) (.int .u8 c) _ y1 (by omega)
    have x2 := get_set_same T1 (s + 2) (.int .u8 c) (by omega)
    generalize T1.setIfInBounds (s + 2) (.int .u8 c) = T2 at hN2 z2 y2 x2
    refine step_val (.bool (c == n)) d3 (run_eql p3 x2) (by rw [want_some g3 (yield_of hj y2)]; rfl) ?_
    have hN3 : (T2.setIfInBounds (s + 3) (.bool (c == n))).size = 85 := by simpa using hN2
    have z3 := get_set_other T2 (s + 3) 0 (.bool (c == n)) _ z2 (by omega)
    have y3 := get_set_other T2 (s + 3) (s + 1) (.bool (c == n)) _ y2 (by omega)
    have x3 := get_set_same T2 (s + 3) (.bool (c == n)) (by omega)
    generalize T2.setIfInBounds (s + 3) (.bool (c == n)) = T3 at hN3 z3 y3 x3
    have hp := run_pick (P := Tryd.prog) (D := D) (w := w) p4 (eval_tmp y3)
    rw [if_neg (by decide), eval_tmp x3] at hp
    refine step_val (.bool (c == n)) d4 hp (want_none g4) ?_
    exact k _ (by simpa using hN3) (get_set_other _ _ _ _ _ z3 (by omega)) ((get_set_same T3 _ _ (by omega)).trans rfl)
/-- 'lo <= c && c <= hi', as the region has it, where nothing stands ahead of it. -/
theorem andBlock {ops : Array Oper} {Q : Exit → Act → World → Prop} {rest : List Oper} {T : Array Value} {D : List Deferred} {w : World} {o1 o2 o3 o4 o5 o6 : Oper} (s j : Nat) (lo hi c : Int)
    (d1 : o1.dst = some (s + 1)) (g1 : o1.guard = none) (p1 : o1.op = .move (.tmp 0))
    (d2 : o2.dst = some (s + 2)) (g2 : o2.guard = none) (p2 : o2.op = .binOp .geq 5 (.tmp (s + 1)) (.const (.int .u8 lo)) 5)
    (d3 : o3.dst = some (s + 3)) (g3 : o3.guard = none) (p3 : o3.op = .move (.tmp (s + 2)))
    (d4 : o4.dst = some (s + 4)) (g4 : o4.guard = some (j, true)) (p4 : o4.op = .move (.tmp 0))
    (d5 : o5.dst = some (s + 5)) (g5 : o5.guard = some (j, true)) (p5 : o5.op = .binOp .leq 5 (.tmp (s + 4)) (.const (.int .u8 hi)) 5)
    (d6 : o6.dst = some (s + 6)) (g6 : o6.guard = none) (p6 : o6.op = .pick (.tmp (s + 3)) (.tmp (s + 5)) (.const (.bool false)))
    (hj : (ops[j]?).bind (·.dst) = some (s + 3)) (hN : T.size = 85) (hs : s + 6 < 85) (h0 : T[0]? = some (.int .u8 c))
    (k : ∀ T' : Array Value, T'.size = 85 → T'[0]? = some (.int .u8 c) → T'[s + 6]? = some (.bool (decide (lo ≤ c) && decide (c ≤ hi))) → wpList Tryd.prog ops Q rest ⟨T', D⟩ w) :
    wpList Tryd.prog ops Q (o1 :: o2 :: o3 :: o4 :: o5 :: o6 :: rest) ⟨T, D⟩ w := by
  refine step_val (.int .u8 c) d1 (run_move p1 h0) (want_none g1) ?_
  have hN1 : (T.setIfInBounds (s + 1) (.int .u8 c)).size = 85 := by simpa using hN
  have z1 := get_set_other T (s + 1) 0 (.int .u8 c) _ h0 (by omega)
  have y1 := get_set_same T (s + 1) (.int .u8 c) (by omega)
  generalize T.setIfInBounds (s + 1) (.int .u8 c) = T1 at hN1 z1 y1
  refine step_val (.bool (decide (lo ≤ c))) d2 (run_geq p2 y1) (want_none g2) ?_
  have hN2 : (T1.setIfInBounds (s + 2) (.bool (decide (lo ≤ c)))).size = 85 := by simpa using hN1
  have z2 := get_set_other T1 (s + 2) 0 (.bool (decide (lo ≤ c))) _ z1 (by omega)
  have y2 := get_set_same T1 (s + 2) (.bool (decide (lo ≤ c))) (by omega)
  generalize T1.setIfInBounds (s + 2) (.bool (decide (lo ≤ c))) = T2 at hN2 z2 y2
  refine step_val (.bool (decide (lo ≤ c))) d3 (run_move p3 y2) (want_none g3) ?_
  have hN3 : (T2.setIfInBounds (s + 3) (.bool (decide (lo ≤ c)))).size = 85 := by simpa using hN2
  have z3 := get_set_other T2 (s + 3) 0 (.bool (decide (lo ≤ c))) _ z2 (by omega)
  have y3 := get_set_same T2 (s + 3) (.bool (decide (lo ≤ c))) (by omega)
  generalize T2.setIfInBounds (s + 3) (.bool (decide (lo ≤ c))) = T3 at hN3 z3 y3
  cases hb : decide (lo ≤ c) with
  | false =>
    rw [hb] at y3
    refine step_skip d4 (by rw [want_some g4 (yield_of hj y3)]; rfl) ?_
    have hN4 : (T3.setIfInBounds (s + 4) undef).size = 85 := by simpa using hN3
    have z4 := get_set_other T3 (s + 4) 0 undef _ z3 (by omega)
    have y4 := get_set_other T3 (s + 4) (s + 3) undef _ y3 (by omega)
    generalize T3.setIfInBounds (s + 4) undef = T4 at hN4 z4 y4
    refine step_skip d5 (by rw [want_some g5 (yield_of hj y4)]; rfl) ?_
    have hN5 : (T4.setIfInBounds (s + 5) undef).size = 85 := by simpa using hN4
    have z5 := get_set_other T4 (s + 5) 0 undef _ z4 (by omega)
    have y5 := get_set_other T4 (s + 5) (s + 3) undef _ y4 (by omega)
    generalize T4.setIfInBounds (s + 5) undef = T5 at hN5 z5 y5
    refine step_val (.bool false) d6 (run_pick p6 (eval_tmp y5)) (want_none g6) ?_
    exact k _ (by simpa using hN5) (get_set_other _ _ _ _ _ z5 (by omega)) ((get_set_same T5 _ _ (by omega)).trans (by rw [hb]; rfl))
  | true =>
    rw [hb] at y3
    refine step_val (.int .u8 c) d4 (run_move p4 z3) (by rw [want_some g4 (yield_of hj y3)]; rfl) ?_
    have hN4 : (T3.setIfInBounds (s + 4) (.int .u8 c)).size = 85 := by simpa using hN3
    have z4 := get_set_other T3 (s + 4) 0 (.int .u8 c) _ z3 (by omega)
    have y4 := get_set_other T3 (s + 4) (s + 3) (.int .u8 c) _ y3 (by omega)
    have x4 := get_set_same T3 (s + 4) (.int .u8 c) (by omega)
    generalize T3.setIfInBounds (s + 4) (.int .u8 c) = T4 at hN4 z4 y4 x4
    refine step_val (.bool (decide (c ≤ hi))) d5 (run_leq p5 x4) (by rw [want_some g5 (yield_of hj y4)]; rfl) ?_
    have hN5 : (T4.setIfInBounds (s + 5) (.bool (decide (c ≤ hi)))).size = 85 := by simpa using hN4
    have z5 := get_set_other T4 (s + 5) 0 (.bool (decide (c ≤ hi))) _ z4 (by omega)
    have y5 := get_set_other T4 (s + 5) (s + 3) (.bool (decide (c ≤ hi))) _ y4 (by omega)
    have x5 := get_set_same T4 (s + 5) (.bool (decide (c ≤ hi))) (by omega)
    generalize T4.setIfInBounds (s + 5) (.bool (decide (c ≤ hi))) = T5 at hN5 z5 y5 x5
    have hp := run_pick (P := Tryd.prog) (D := D) (w := w) p6 (eval_tmp y5)
    rw [if_pos rfl, eval_tmp x5] at hp
    refine step_val (.bool (decide (c ≤ hi))) d6 hp (want_none g6) ?_
    exact k _ (by simpa using hN5) (get_set_other _ _ _ _ _ z5 (by omega)) ((get_set_same T5 _ _ (by omega)).trans (by rw [hb]; rfl))
/-- 'B || lo <= c && c <= hi', as the region has it. -/
theorem orAndBlock {ops : Array Oper} {Q : Exit → Act → World → Prop} {rest : List Oper} {T : Array Value} {D : List Deferred} {w : World} {o1 o2 o3 o4 o5 o6 o7 o8 : Oper} (s j j2 : Nat) (lo hi c : Int) (B : Bool)
    (d1 : o1.dst = some (s + 1)) (g1 : o1.guard = none) (p1 : o1.op = .move (.tmp s))
    (d2 : o2.dst = some (s + 2)) (g2 : o2.guard = some (j, false)) (p2 : o2.op = .move (.tmp 0))
    (d3 : o3.dst = some (s + 3)) (g3 : o3.guard = some (j, false)) (p3 : o3.op = .binOp .geq 5 (.tmp (s + 2)) (.const (.int .u8 lo)) 5)
    (d4 : o4.dst = some (s + 4)) (g4 : o4.guard = some (j, false)) (p4 : o4.op = .move (.tmp (s + 3)))
    (d5 : o5.dst = some (s + 5)) (g5 : o5.guard = some (j2, true)) (p5 : o5.op = .move (.tmp 0))
    (d6 : o6.dst = some (s + 6)) (g6 : o6.guard = some (j2, true)) (p6 : o6.op = .binOp .leq 5 (.tmp (s + 5)) (.const (.int .u8 hi)) 5)
    (d7 : o7.dst = some (s + 7)) (g7 : o7.guard = some (j, false)) (p7 : o7.op = .pick (.tmp (s + 4)) (.tmp (s + 6)) (.const (.bool false)))
    (d8 : o8.dst = some (s + 8)) (g8 : o8.guard = none) (p8 : o8.op = .pick (.tmp (s + 1)) (.const (.bool true)) (.tmp (s + 7)))
    (hj : (ops[j]?).bind (·.dst) = some (s + 1)) (hj2 : (ops[j2]?).bind (·.dst) = some (s + 4)) (hN : T.size = 85) (hs : s + 8 < 85) (h0 : T[0]? = some (.int .u8 c)) (hB : T[s]? = some (.bool B)) (hs0 : 0 < s)
    (k : ∀ T' : Array Value, T'.size = 85 → T'[0]? = some (.int .u8 c) → T'[s + 8]? = some (.bool (B || (decide (lo ≤ c) && decide (c ≤ hi)))) → wpList Tryd.prog ops Q rest ⟨T', D⟩ w) :
    wpList Tryd.prog ops Q (o1 :: o2 :: o3 :: o4 :: o5 :: o6 :: o7 :: o8 :: rest) ⟨T, D⟩ w := by
  refine step_val (.bool B) d1 (run_move p1 hB) (want_none g1) ?_
  have hN1 : (T.setIfInBounds (s + 1) (.bool B)).size = 85 := by simpa using hN
  have z1 := get_set_other T (s + 1) 0 (.bool B) _ h0 (by omega)
  have y1 := get_set_same T (s + 1) (.bool B) (by omega)
  generalize T.setIfInBounds (s + 1) (.bool B) = T1 at hN1 z1 y1
  cases B with
  | true =>
    refine step_skip d2 (by rw [want_some g2 (yield_of hj y1)]; rfl) ?_
    have hN2 : (T1.setIfInBounds (s + 2) undef).size = 85 := by simpa using hN1
    have z2 := get_set_other T1 (s + 2) 0 undef _ z1 (by omega)
    have y2 := get_set_other T1 (s + 2) (s + 1) undef _ y1 (by omega)
    generalize T1.setIfInBounds (s + 2) undef = T2 at hN2 z2 y2
    refine step_skip d3 (by rw [want_some g3 (yield_of hj y2)]; rfl) ?_
    have hN3 : (T2.setIfInBounds (s + 3) undef).size = 85 := by simpa using hN2
    have z3 := get_set_other T2 (s + 3) 0 undef _ z2 (by omega)
    have y3 := get_set_other T2 (s + 3) (s + 1) undef _ y2 (by omega)
    generalize T2.setIfInBounds (s + 3) undef = T3 at hN3 z3 y3
    refine step_skip d4 (by rw [want_some g4 (yield_of hj y3)]; rfl) ?_
    have hN4 : (T3.setIfInBounds (s + 4) undef).size = 85 := by simpa using hN3
    have z4 := get_set_other T3 (s + 4) 0 undef _ z3 (by omega)
    have y4 := get_set_other T3 (s + 4) (s + 1) undef _ y3 (by omega)
    have x4 := get_set_same T3 (s + 4) undef (by omega)
    generalize T3.setIfInBounds (s + 4) undef = T4 at hN4 z4 y4 x4
    refine step_skip d5 (want_undef g5 (yield_undef hj2 x4)) ?_
    have hN5 : (T4.setIfInBounds (s + 5) undef).size = 85 := by simpa using hN4
    have z5 := get_set_other T4 (s + 5) 0 undef _ z4 (by omega)
    have y5 := get_set_other T4 (s + 5) (s + 1) undef _ y4 (by omega)
    have x5 := get_set_other T4 (s + 5) (s + 4) undef _ x4 (by omega)
    generalize T4.setIfInBounds (s + 5) undef = T5 at hN5 z5 y5 x5
    refine step_skip d6 (want_undef g6 (yield_undef hj2 x5)) ?_
    have hN6 : (T5.setIfInBounds (s + 6) undef).size = 85 := by simpa using hN5
    have z6 := get_set_other T5 (s + 6) 0 undef _ z5 (by omega)
    have y6 := get_set_other T5 (s + 6) (s + 1) undef _ y5 (by omega)
    generalize T5.setIfInBounds (s + 6) undef = T6 at hN6 z6 y6
    refine step_skip d7 (by rw [want_some g7 (yield_of hj y6)]; rfl) ?_
    have hN7 : (T6.setIfInBounds (s + 7) undef).size = 85 := by simpa using hN6
    have z7 := get_set_other T6 (s + 7) 0 undef _ z6 (by omega)
    have y7 := get_set_other T6 (s + 7) (s + 1) undef _ y6 (by omega)
    generalize T6.setIfInBounds (s + 7) undef = T7 at hN7 z7 y7
    refine step_val (.bool true) d8 (run_pick p8 (eval_tmp y7)) (want_none g8) ?_
    exact k _ (by simpa using hN7) (get_set_other _ _ _ _ _ z7 (by omega)) ((get_set_same T7 _ _ (by omega)).trans rfl)
  | false =>
    refine step_val (.int .u8 c) d2 (run_move p2 z1) (by rw [want_some g2 (yield_of hj y1)]; rfl) ?_
    have hN2 : (T1.setIfInBounds (s + 2) (.int .u8 c)).size = 85 := by simpa using hN1
    have z2 := get_set_other T1 (s + 2) 0 (.int .u8 c) _ z1 (by omega)
    have y2 := get_set_other T1 (s + 2) (s + 1) (.int .u8 c) _ y1 (by omega)
    have x2 := get_set_same T1 (s + 2) (.int .u8 c) (by omega)
    generalize T1.setIfInBounds (s + 2) (.int .u8 c) = T2 at hN2 z2 y2 x2
    refine step_val (.bool (decide (lo ≤ c))) d3 (run_geq p3 x2) (by rw [want_some g3 (yield_of hj y2)]; rfl) ?_
    have hN3 : (T2.setIfInBounds (s + 3) (.bool (decide (lo ≤ c)))).size = 85 := by simpa using hN2
    have z3 := get_set_other T2 (s + 3) 0 (.bool (decide (lo ≤ c))) _ z2 (by omega)
    have y3 := get_set_other T2 (s + 3) (s + 1) (.bool (decide (lo ≤ c))) _ y2 (by omega)
    have x3 := get_set_same T2 (s + 3) (.bool (decide (lo ≤ c))) (by omega)
    generalize T2.setIfInBounds (s + 3) (.bool (decide (lo ≤ c))) = T3 at hN3 z3 y3 x3
    refine step_val (.bool (decide (lo ≤ c))) d4 (run_move p4 x3) (by rw [want_some g4 (yield_of hj y3)]; rfl) ?_
    have hN4 : (T3.setIfInBounds (s + 4) (.bool (decide (lo ≤ c)))).size = 85 := by simpa using hN3
    have z4 := get_set_other T3 (s + 4) 0 (.bool (decide (lo ≤ c))) _ z3 (by omega)
    have y4 := get_set_other T3 (s + 4) (s + 1) (.bool (decide (lo ≤ c))) _ y3 (by omega)
    have x4 := get_set_same T3 (s + 4) (.bool (decide (lo ≤ c))) (by omega)
    generalize T3.setIfInBounds (s + 4) (.bool (decide (lo ≤ c))) = T4 at hN4 z4 y4 x4
    cases hb : decide (lo ≤ c) with
    | false =>
      rw [hb] at x4
      refine step_skip d5 (by rw [want_some g5 (yield_of hj2 x4)]; rfl) ?_
      have hN5 : (T4.setIfInBounds (s + 5) undef).size = 85 := by simpa using hN4
      have z5 := get_set_other T4 (s + 5) 0 undef _ z4 (by omega)
      have y5 := get_set_other T4 (s + 5) (s + 1) undef _ y4 (by omega)
      have x5 := get_set_other T4 (s + 5) (s + 4) undef _ x4 (by omega)
      generalize T4.setIfInBounds (s + 5) undef = T5 at hN5 z5 y5 x5
      refine step_skip d6 (by rw [want_some g6 (yield_of hj2 x5)]; rfl) ?_
      have hN6 : (T5.setIfInBounds (s + 6) undef).size = 85 := by simpa using hN5
      have z6 := get_set_other T5 (s + 6) 0 undef _ z5 (by omega)
      have y6 := get_set_other T5 (s + 6) (s + 1) undef _ y5 (by omega)
      have x6 := get_set_other T5 (s + 6) (s + 4) undef _ x5 (by omega)
      generalize T5.setIfInBounds (s + 6) undef = T6 at hN6 z6 y6 x6
      refine step_val (.bool false) d7 (run_pick p7 (eval_tmp x6)) (by rw [want_some g7 (yield_of hj y6)]; rfl) ?_
      have hN7 : (T6.setIfInBounds (s + 7) (.bool false)).size = 85 := by simpa using hN6
      have z7 := get_set_other T6 (s + 7) 0 (.bool false) _ z6 (by omega)
      have y7 := get_set_other T6 (s + 7) (s + 1) (.bool false) _ y6 (by omega)
      have x7 := get_set_same T6 (s + 7) (.bool false) (by omega)
      generalize T6.setIfInBounds (s + 7) (.bool false) = T7 at hN7 z7 y7 x7
      have hp := run_pick (P := Tryd.prog) (D := D) (w := w) p8 (eval_tmp y7)
      rw [if_neg (by decide), eval_tmp x7] at hp
      refine step_val (.bool false) d8 hp (want_none g8) ?_
      exact k _ (by simpa using hN7) (get_set_other _ _ _ _ _ z7 (by omega)) ((get_set_same T7 _ _ (by omega)).trans (by rw [hb]; rfl))
    | true =>
      rw [hb] at x4
      refine step_val (.int .u8 c) d5 (run_move p5 z4) (by rw [want_some g5 (yield_of hj2 x4)]; rfl) ?_
      have hN5 : (T4.setIfInBounds (s + 5) (.int .u8 c)).size = 85 := by simpa using hN4
      have z5 := get_set_other T4 (s + 5) 0 (.int .u8 c) _ z4 (by omega)
      have y5 := get_set_other T4 (s + 5) (s + 1) (.int .u8 c) _ y4 (by omega)
      have x5 := get_set_other T4 (s + 5) (s + 4) (.int .u8 c) _ x4 (by omega)
      have v5 := get_set_same T4 (s + 5) (.int .u8 c) (by omega)
      generalize T4.setIfInBounds (s + 5) (.int .u8 c) = T5 at hN5 z5 y5 x5 v5
      refine step_val (.bool (decide (c ≤ hi))) d6 (run_leq p6 v5) (by rw [want_some g6 (yield_of hj2 x5)]; rfl) ?_
      have hN6 : (T5.setIfInBounds (s + 6) (.bool (decide (c ≤ hi)))).size = 85 := by simpa using hN5
      have z6 := get_set_other T5 (s + 6) 0 (.bool (decide (c ≤ hi))) _ z5 (by omega)
      have y6 := get_set_other T5 (s + 6) (s + 1) (.bool (decide (c ≤ hi))) _ y5 (by omega)
      have x6 := get_set_other T5 (s + 6) (s + 4) (.bool (decide (c ≤ hi))) _ x5 (by omega)
      have v6 := get_set_same T5 (s + 6) (.bool (decide (c ≤ hi))) (by omega)
      generalize T5.setIfInBounds (s + 6) (.bool (decide (c ≤ hi))) = T6 at hN6 z6 y6 x6 v6
      have hq := run_pick (P := Tryd.prog) (D := D) (w := w) p7 (eval_tmp x6)
      rw [if_pos rfl, eval_tmp v6] at hq
      refine step_val (.bool (decide (c ≤ hi))) d7 hq (by rw [want_some g7 (yield_of hj y6)]; rfl) ?_
      have hN7 : (T6.setIfInBounds (s + 7) (.bool (decide (c ≤ hi)))).size = 85 := by simpa using hN6
      have z7 := get_set_other T6 (s + 7) 0 (.bool (decide (c ≤ hi))) _ z6 (by omega)
      have y7 := get_set_other T6 (s + 7) (s + 1) (.bool (decide (c ≤ hi))) _ y6 (by omega)
      have x7 := get_set_same T6 (s + 7) (.bool (decide (c ≤ hi))) (by omega)
      generalize T6.setIfInBounds (s + 7) (.bool (decide (c ≤ hi))) = T7 at hN7 z7 y7 x7
      have hp := run_pick (P := Tryd.prog) (D := D) (w := w) p8 (eval_tmp y7)
      rw [if_neg (by decide), eval_tmp x7] at hp
      refine step_val (.bool (decide (c ≤ hi))) d8 hp (want_none g8) ?_
      exact k _ (by simpa using hN7) (get_set_other _ _ _ _ _ z7 (by omega)) ((get_set_same T7 _ _ (by omega)).trans (by rw [hb]; rfl))

theorem tok_all : ∀ n : Nat, n < 256 → (fun c : Int => (((((((((((((((((decide (97 ≤ c) && decide (c ≤ 122)) || (decide (65 ≤ c) && decide (c ≤ 90))) || (decide (48 ≤ c) && decide (c ≤ 57))) || c == 33) || c == 35) || c == 36) || c == 37) || c == 38) || c == 39) || c == 42) || c == 43) || c == 45) || c == 46) || c == 94) || c == 95) || c == 96) || c == 124) || c == 126) (n : Int) = tokC n := by decide +kernel
set_option maxRecDepth 100000 in
theorem spec_l2Token.calls (a0 : Int) (r : Bool) (w : World) (h : spec_l2Token.f a0 = some r) :
    Calls Tryd.prog 112 #[.int .u8 a0] w fun e w' => e = .returned (.bool r) ∧ Drawn0 w w' := by
  have hr : 0 ≤ a0 ∧ a0 < 256 := by
    unfold spec_l2Token.f at h
    split at h
    · assumption
    · cases h
  unfold spec_l2Token.f at h
  rw [if_pos hr] at h
  obtain rfl := Option.some.inj h
  clear h
  have ht : ((((((((((((((((((decide (97 ≤ a0) && decide (a0 ≤ 122)) || (decide (65 ≤ a0) && decide (a0 ≤ 90))) || (decide (48 ≤ a0) && decide (a0 ≤ 57))) || a0 == 33) || a0 == 35) || a0 == 36) || a0 == 37) || a0 == 38) || a0 == 39) || a0 == 42) || a0 == 43) || a0 == 45) || a0 == 46) || a0 == 94) || a0 == 95) || a0 == 96) || a0 == 124) || a0 == 126) = tokC a0 := byte_all (P := fun c => ((((((((((((((((((decide (97 ≤ c) && decide (c ≤ 122)) || (decide (65 ≤ c) && decide (c ≤ 90))) || (decide (48 ≤ c) && decide (c ≤ 57))) || c == 33) || c == 35) || c == 36) || c == 37) || c == 38) || c == 39) || c == 42) || c == 43) || c == 45) || c == 46) || c == 94) || c == 95) || c == 96) || c == 124) || c == 126) = tokC c) tok_all hr.1 hr.2
  rw [← ht]
  clear ht hr
  go_enter Tryd.func112, Tryd.ntmps112
  refine wp_seq (wp_region_list (step_val (.bool false) rfl rfl rfl ?_))
  refine wp_seq (wp_region_list ?_)
  refine andBlock 2 2 97 122 a0 rfl rfl rfl rfl rfl rfl rfl rfl rfl rfl rfl rfl rfl rfl rfl rfl rfl rfl rfl rfl (by decide) rfl ?_
  intro T1 n1 z1 b1
  refine orAndBlock 8 6 9 65 90 a0 _ rfl rfl rfl rfl rfl rfl rfl rfl rfl rfl rfl rfl rfl rfl rfl rfl rfl rfl rfl rfl rfl rfl rfl rfl rfl rfl n1 (by decide) z1 b1 (by decide) ?_
  intro T2 n2 z2 b2
  refine orAndBlock 16 14 17 48 57 a0 _ rfl rfl rfl rfl rfl rfl rfl rfl rfl rfl rfl rfl rfl rfl rfl rfl rfl rfl rfl rfl rfl rfl rfl rfl rfl rfl n2 (by decide) z2 b2 (by decide) ?_
  intro T3 n3 z3 b3
  refine orBlock 24 22 33 a0 _ rfl rfl rfl rfl rfl rfl rfl rfl rfl rfl rfl rfl rfl n3 (by decide) z3 b3 (by decide) ?_
  intro T4 n4 z4 b4
  refine orBlock 28 26 35 a0 _ rfl rfl rfl rfl rfl rfl rfl rfl rfl rfl rfl rfl rfl n4 (by decide) z4 b4 (by decide) ?_
  intro T5 n5 z5 b5
  refine orBlock 32 30 36 a0 _ rfl rfl rfl rfl rfl rfl rfl rfl rfl rfl rfl rfl rfl n5 (by decide) z5 b5 (by decide) ?_
  intro T6 n6 z6 b6
  refine orBlock 36 34 37 a0 _ rfl rfl rfl rfl rfl rfl rfl rfl rfl rfl rfl rfl rfl n6 (by decide) z6 b6 (by decide) ?_
  intro T7 n7 z7 b7
  refine orBlock 40 38 38 a0 _ rfl rfl rfl rfl rfl rfl rfl rfl rfl rfl rfl rfl rfl n7 (by decide) z7 b7 (by decide) ?_
  intro T8 n8 z8 b8
  refine orBlock 44 42 39 a0 _ rfl rfl rfl rfl rfl rfl rfl rfl rfl rfl rfl rfl rfl n8 (by decide) z8 b8 (by decide) ?_
  intro T9 n9 z9 b9
  refine orBlock 48 46 42 a0 _ rfl rfl rfl rfl rfl rfl rfl rfl rfl rfl rfl rfl rfl n9 (by decide) z9 b9 (by decide) ?_
  intro T10 n10 z10 b10
  refine orBlock 52 50 43 a0 _ rfl rfl rfl rfl rfl rfl rfl rfl rfl rfl rfl rfl rfl n10 (by decide) z10 b10 (by decide) ?_
  intro T11 n11 z11 b11
  refine orBlock 56 54 45 a0 _ rfl rfl rfl rfl rfl rfl rfl rfl rfl rfl rfl rfl rfl n11 (by decide) z11 b11 (by decide) ?_
  intro T12 n12 z12 b12
  refine orBlock 60 58 46 a0 _ rfl rfl rfl rfl rfl rfl rfl rfl rfl rfl rfl rfl rfl n12 (by decide) z12 b12 (by decide) ?_
  intro T13 n13 z13 b13
  refine orBlock 64 62 94 a0 _ rfl rfl rfl rfl rfl rfl rfl rfl rfl rfl rfl rfl rfl n13 (by decide) z13 b13 (by decide) ?_
  intro T14 n14 z14 b14
  refine orBlock 68 66 95 a0 _ rfl rfl rfl rfl rfl rfl rfl rfl rfl rfl rfl rfl rfl n14 (by decide) z14 b14 (by decide) ?_
  intro T15 n15 z15 b15
  refine orBlock 72 70 96 a0 _ rfl rfl rfl rfl rfl rfl rfl rfl rfl rfl rfl rfl rfl n15 (by decide) z15 b15 (by decide) ?_
  intro T16 n16 z16 b16
  refine orBlock 76 74 124 a0 _ rfl rfl rfl rfl rfl rfl rfl rfl rfl rfl rfl rfl rfl n16 (by decide) z16 b16 (by decide) ?_
  intro T17 n17 z17 b17
  refine orBlock 80 78 126 a0 _ rfl rfl rfl rfl rfl rfl rfl rfl rfl rfl rfl rfl rfl n17 (by decide) z17 b17 (by decide) ?_
  intro T18 n18 z18 b18
  generalize hE : ((((((((((((((((((decide (97 ≤ a0) && decide (a0 ≤ 122)) || (decide (65 ≤ a0) && decide (a0 ≤ 90))) || (decide (48 ≤ a0) && decide (a0 ≤ 57))) || a0 == 33) || a0 == 35) || a0 == 36) || a0 == 37) || a0 == 38) || a0 == 39) || a0 == 42) || a0 == 43) || a0 == 45) || a0 == 46) || a0 == 94) || a0 == 95) || a0 == 96) || a0 == 124) || a0 == 126) = BB at b18 ⊢
  refine step_val (.bool BB) rfl (run_assign rfl b18) rfl ?_
  refine wp_ret (bodyPost_ret (v := .bool BB) ((results_tmp rfl _ _ _).trans ?_) rfl ⟨rfl, Drawn0.refl _⟩)
  exact congrArg (fun v => Result.ok v w) (eval_tmp (D := []) (get_set_same T18 2 (.bool BB) (by omega)))

end Go.Proofs.YtefnmlglpldgfaaDoor.Ext
