/- A contract of our own for the function strings_Join of the program or the library. -/
import Derived.Test.YtjldfmkpdkhnnaaDoorProg
import Derived.Below
import Derived.Deep.Draws
import Derived.Deep.AppendLies
import Derived.Maps.AppendAt
import Derived.OwnWalk
import Derived.Laws.BytesArg
import Derived.Laws.MakeOwn
import Derived.Laws.OwnMore
import Derived.Deep.OwnRows
import Derived.Tactics
import Derived.Lib.ConvBytes
import Derived.Laws.Slices
import Derived.WalkKit
import Derived.KernelRfl
import Derived.RowKit3
import Derived.Deep.LoopGhost
import Derived.Deep.QuietTactic
import Derived.BigQuiet
import Derived.WideLaws
import Derived.Deep.DeepCutAuto
import Derived.Deep.CutBlock
import Derived.Deep.RegionHeld3
import Derived.Laws.Rows
import Derived.Lib.AppendStr
import Derived.ArgAppend
import Derived.Laws.IdiomCopy
import Derived.OrdersHeld
import Derived.Laws.BitsLemmas
import Derived.RowKit
import Derived.Test.YtjldfmkpdkhnnaaDoorBas
import Derived.Test.YtjldfmkpdkhnnaaDoorSq
import Derived.Test.YtjldfmkpdkhnnaaDoorExt
import Derived.Test.YtjldfmkpdkhnnaaDoorWWords
import Derived.Test.YtjldfmkpdkhnnaaDoorWLast
import Derived.Test.YtjldfmkpdkhnnaaDoorWTab
import Derived.Test.YtjldfmkpdkhnnaaDoorWFour
import Derived.Test.YtjldfmkpdkhnnaaDoorWQPut
import Derived.Test.YtjldfmkpdkhnnaaDoorWApart
import Derived.Test.YtjldfmkpdkhnnaaDoorWArr
import Derived.Test.YtjldfmkpdkhnnaaDoorWZeros
import Derived.Test.YtjldfmkpdkhnnaaDoorWFoot
import Derived.Test.YtjldfmkpdkhnnaaDoorWKept
import Derived.Test.YtjldfmkpdkhnnaaDoorWShare
import Derived.Test.YtjldfmkpdkhnnaaDoorWN
import Derived.Test.YtjldfmkpdkhnnaaDoorWFootNe
import Derived.Test.YtjldfmkpdkhnnaaDoorWAt
import Derived.Test.YtjldfmkpdkhnnaaDoorWEqStruct
import Derived.Test.YtjldfmkpdkhnnaaDoorWRepsOne
import Derived.Test.YtjldfmkpdkhnnaaDoorWInv
import Derived.Test.YtjldfmkpdkhnnaaDoorWInvWords
import Derived.Test.YtjldfmkpdkhnnaaDoorWGuard
import Derived.Test.YtjldfmkpdkhnnaaDoorWNEv
import Derived.Test.YtjldfmkpdkhnnaaDoorWMore
import Derived.Test.YtjldfmkpdkhnnaaDoorShelf
import Derived.Lib.Strings
namespace Go.Proofs.YtjldfmkpdkhnnaaDoor.Ext
open Go.RowKit Go.Proofs.YtjldfmkpdkhnnaaDoorW.PrintWords Go.Proofs.YtjldfmkpdkhnnaaDoorW.PrintLast Go.Proofs.YtjldfmkpdkhnnaaDoorW.PrintMore Go.Proofs.YtjldfmkpdkhnnaaDoor.Aux Go.Proofs.YtjldfmkpdkhnnaaDoor.Dom Go.Proofs.YtjldfmkpdkhnnaaDoor.Glob
attribute [local go_sem] max2_int min2_int max_two min_two max_three min_three max_four min_four
set_option linter.unusedVariables false
set_option linter.unusedSimpArgs false
def strings_Join.f (a0 : List ByteArray) (a1 : ByteArray) : Option (ByteArray) := if a0.length ≤ 8796093022208 ∧ (joinB a1 a0).size ≤ 8796093022208 then some (joinB a1 a0) else none
theorem strings_Join.calls (A0 : Option Addr) (c0 : Nat) (a0 : List ByteArray) (a1 : ByteArray) (r : ByteArray) (w : World) (hC : Kd.string.C w A0 a0.length a0) (hc : a0.length ≤ c0) (h : strings_Join.f a0 a1 = some r) :
    Calls Tryd.prog 73 #[.slice A0 a0.length c0, .string a1] w fun e w' => e = .returned (.string r) ∧ Below w.heap.size w w' := by
  have hs : a0.length ≤ 8796093022208 ∧ (joinB a1 a0).size ≤ 8796093022208 := by
    unfold strings_Join.f at h
    split at h
    · assumption
    · cases h
  unfold strings_Join.f at h
  rw [if_pos hs] at h
  have h := Option.some.inj h
  subst h
  cases a0 with
  | nil =>
    refine (Tryd.strings_Join_none A0 c0 a1 w).mono ?_
    rintro e w' ⟨rfl, rfl⟩
    exact ⟨rfl, Below.refl _ _⟩
  | cons x r =>
    obtain ⟨g, o, rfl, hsz, hcell⟩ := row_form hC
    have hlen : (Lib.join ((x :: r).map (·.data.toList)) a1.data.toList).length ≤ 140737488355328 := by
      have e := joinB_lib a1 (x :: r)
      have e2 : (joinB a1 (x :: r)).size = (Lib.join ((x :: r).map (·.data.toList)) a1.data.toList).length := by rw [← e]; simp [ByteArray.size]
      omega
    refine (Tryd.strings_Join g o c0 (x :: r) a1 w hcell hsz (by omega) hc hlen).mono ?_
    rintro e w' ⟨rfl, hb⟩
    exact ⟨by rw [joinB_lib], hb⟩

end Go.Proofs.YtjldfmkpdkhnnaaDoor.Ext
