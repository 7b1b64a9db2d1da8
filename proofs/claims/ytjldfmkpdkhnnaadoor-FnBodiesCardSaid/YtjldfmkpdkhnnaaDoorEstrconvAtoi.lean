/- A contract of our own for the function strconv_Atoi of the program or the library. -/
import Derived.Test.YtjldfmkpdkhnnaaDoorProg
import Derived.Below
import Derived.Deep.Draws
import Derived.Deep.AppendLies
import Derived.Maps.AppendAt
import Derived.OwnWalk
import Derived.Laws.BytesArg
import Derived.Laws.MakeOwn
import Derived.Laws.OwnMore
import Derived.Deep.OwnRows
import Derived.Tactics
import Derived.Lib.ConvBytes
import Derived.Laws.Slices
import Derived.WalkKit
import Derived.KernelRfl
import Derived.RowKit3
import Derived.Deep.LoopGhost
import Derived.Deep.QuietTactic
import Derived.BigQuiet
import Derived.WideLaws
import Derived.Deep.DeepCutAuto
import Derived.Deep.CutBlock
import Derived.Deep.RegionHeld3
import Derived.Laws.Rows
import Derived.Lib.AppendStr
import Derived.ArgAppend
import Derived.Laws.IdiomCopy
import Derived.OrdersHeld
import Derived.Laws.BitsLemmas
import Derived.RowKit
import Derived.Test.YtjldfmkpdkhnnaaDoorBas
import Derived.Test.YtjldfmkpdkhnnaaDoorSq
import Derived.Test.YtjldfmkpdkhnnaaDoorExt
import Derived.Test.YtjldfmkpdkhnnaaDoorWWords
import Derived.Test.YtjldfmkpdkhnnaaDoorWLast
import Derived.Test.YtjldfmkpdkhnnaaDoorWTab
import Derived.Test.YtjldfmkpdkhnnaaDoorWFour
import Derived.Test.YtjldfmkpdkhnnaaDoorWQPut
import Derived.Test.YtjldfmkpdkhnnaaDoorWApart
import Derived.Test.YtjldfmkpdkhnnaaDoorWArr
import Derived.Test.YtjldfmkpdkhnnaaDoorWZeros
import Derived.Test.YtjldfmkpdkhnnaaDoorWFoot
import Derived.Test.YtjldfmkpdkhnnaaDoorWKept
import Derived.Test.YtjldfmkpdkhnnaaDoorWShare
import Derived.Test.YtjldfmkpdkhnnaaDoorWN
import Derived.Test.YtjldfmkpdkhnnaaDoorWFootNe
import Derived.Test.YtjldfmkpdkhnnaaDoorWAt
import Derived.Test.YtjldfmkpdkhnnaaDoorWEqStruct
import Derived.Test.YtjldfmkpdkhnnaaDoorWRepsOne
import Derived.Test.YtjldfmkpdkhnnaaDoorWInv
import Derived.Test.YtjldfmkpdkhnnaaDoorWInvWords
import Derived.Test.YtjldfmkpdkhnnaaDoorWGuard
import Derived.Test.YtjldfmkpdkhnnaaDoorWNEv
import Derived.Test.YtjldfmkpdkhnnaaDoorWMore
import Derived.Test.YtjldfmkpdkhnnaaDoorShelfN
import Derived.Test.YtjldfmkpdkhnnaaDoorGlob
import Derived.Shelf.Strconv.ErrVarAll
namespace Go.Proofs.YtjldfmkpdkhnnaaDoor.Ext
open Go.RowKit Go.Proofs.YtjldfmkpdkhnnaaDoorW.PrintWords Go.Proofs.YtjldfmkpdkhnnaaDoorW.PrintLast Go.Proofs.YtjldfmkpdkhnnaaDoorW.PrintMore Go.Proofs.YtjldfmkpdkhnnaaDoor.Aux Go.Proofs.YtjldfmkpdkhnnaaDoor.Dom Go.Proofs.YtjldfmkpdkhnnaaDoor.Glob
attribute [local go_sem] max2_int min2_int max_two min_two max_three min_three max_four min_four
set_option linter.unusedVariables false
set_option linter.unusedSimpArgs false
/-- The number that a text tells, and whether there is an error (some 0) or none. -/
def strconv_Atoi.f (a0 : ByteArray) : Option (Int × Option Int) :=
  if a0.size ≤ 8388608 then (match Lib.atoiAll a0.data.toList with
    | .ok v => some (v, none)
    | .range => some (Lib.atoiSat a0.data.toList, some 0)
    | _ => some (0, some 0)) else none
theorem strconv_Atoi.calls (a0 : ByteArray) (r1 : Int) (r2 : Option Int) (w : World) (hGErr : GErr w) (h : strconv_Atoi.f a0 = some (r1, r2)) :
    Calls Tryd.prog 61 #[.string a0] w fun e w' => ∃ ev : Value, e = .returned (.tuple #[.int .i64 r1, ev]) ∧ (r2 = none → ev = .nilIface) ∧ (∀ c, r2 = some c → ∃ t p, ev = .iface t p) ∧ Below w.heap.size w w' := by
  have hs : a0.size ≤ 8388608 := by
    unfold strconv_Atoi.f at h
    split at h
    · assumption
    · cases h
  unfold strconv_Atoi.f at h
  rw [if_pos hs] at h
  obtain ⟨⟨t1, p1, h1⟩, t2, p2, h2⟩ := hGErr
  cases hc : Lib.atoiAll a0.data.toList with
  | ok v =>
    rw [hc] at h
    simp only [Option.some.injEq, Prod.mk.injEq] at h
    obtain ⟨rfl, rfl⟩ := h
    refine (Any.strconv_Atoi_ok Tryd.laysC172 a0 (by omega) v hc w).mono ?_
    rintro e w' ⟨rfl, hw⟩
    refine ⟨_, rfl, fun _ => rfl, fun c hh => (by cases hh), ?_⟩
    rcases hw with rfl | ⟨t, rfl⟩
    · exact Below.refl _ _
    · exact bytes_below (Below.refl _ _) (Nat.le_refl _) _ _
  | range =>
    rw [hc] at h
    simp only [Option.some.injEq, Prod.mk.injEq] at h
    obtain ⟨rfl, rfl⟩ := h
    refine (Any.strconv_Atoi_range_var Tryd.laysC172 a0 (by omega) hc t2 p2 w h2).mono ?_
    rintro e w' ⟨N, rfl, _, _, hb⟩
    exact ⟨_, rfl, fun hh => (by cases hh), fun c _ => ⟨_, _, rfl⟩, hb⟩
  | _ =>
    rw [hc] at h
    simp only [Option.some.injEq, Prod.mk.injEq] at h
    obtain ⟨rfl, rfl⟩ := h
    refine (Any.strconv_Atoi_syntax_var Tryd.laysC172 a0 (by omega) hc t1 p1 w h1).mono ?_
    rintro e w' ⟨N, rfl, _, _, hb⟩
    exact ⟨_, rfl, fun hh => (by cases hh), fun c _ => ⟨_, _, rfl⟩, hb⟩

end Go.Proofs.YtjldfmkpdkhnnaaDoor.Ext
