/- A contract of our own for the function strings_Split of the program or the library. -/
import Derived.Test.YtjldfmkpdkhnnaaDoorProg
import Derived.Below
import Derived.Deep.Draws
import Derived.Deep.AppendLies
import Derived.Maps.AppendAt
import Derived.OwnWalk
import Derived.Laws.BytesArg
import Derived.Laws.MakeOwn
import Derived.Laws.OwnMore
import Derived.Deep.OwnRows
import Derived.Tactics
import Derived.Lib.ConvBytes
import Derived.Laws.Slices
import Derived.WalkKit
import Derived.KernelRfl
import Derived.RowKit3
import Derived.Deep.LoopGhost
import Derived.Deep.QuietTactic
import Derived.BigQuiet
import Derived.WideLaws
import Derived.Deep.DeepCutAuto
import Derived.Deep.CutBlock
import Derived.Deep.RegionHeld3
import Derived.Laws.Rows
import Derived.Lib.AppendStr
import Derived.ArgAppend
import Derived.Laws.IdiomCopy
import Derived.OrdersHeld
import Derived.Laws.BitsLemmas
import Derived.RowKit
import Derived.Test.YtjldfmkpdkhnnaaDoorBas
import Derived.Test.YtjldfmkpdkhnnaaDoorSq
import Derived.Test.YtjldfmkpdkhnnaaDoorExt
import Derived.Test.YtjldfmkpdkhnnaaDoorWWords
import Derived.Test.YtjldfmkpdkhnnaaDoorWLast
import Derived.Test.YtjldfmkpdkhnnaaDoorWTab
import Derived.Test.YtjldfmkpdkhnnaaDoorWFour
import Derived.Test.YtjldfmkpdkhnnaaDoorWQPut
import Derived.Test.YtjldfmkpdkhnnaaDoorWApart
import Derived.Test.YtjldfmkpdkhnnaaDoorWArr
import Derived.Test.YtjldfmkpdkhnnaaDoorWZeros
import Derived.Test.YtjldfmkpdkhnnaaDoorWFoot
import Derived.Test.YtjldfmkpdkhnnaaDoorWKept
import Derived.Test.YtjldfmkpdkhnnaaDoorWShare
import Derived.Test.YtjldfmkpdkhnnaaDoorWN
import Derived.Test.YtjldfmkpdkhnnaaDoorWFootNe
import Derived.Test.YtjldfmkpdkhnnaaDoorWAt
import Derived.Test.YtjldfmkpdkhnnaaDoorWEqStruct
import Derived.Test.YtjldfmkpdkhnnaaDoorWRepsOne
import Derived.Test.YtjldfmkpdkhnnaaDoorWInv
import Derived.Test.YtjldfmkpdkhnnaaDoorWInvWords
import Derived.Test.YtjldfmkpdkhnnaaDoorWGuard
import Derived.Test.YtjldfmkpdkhnnaaDoorWNEv
import Derived.Test.YtjldfmkpdkhnnaaDoorWMore
import Derived.Test.YtjldfmkpdkhnnaaDoorShelf
import Derived.Test.YtjldfmkpdkhnnaaDoorGlob
import Derived.Lib.Strings
namespace Go.Proofs.YtjldfmkpdkhnnaaDoor.Ext
open Go.RowKit Go.Proofs.YtjldfmkpdkhnnaaDoorW.PrintWords Go.Proofs.YtjldfmkpdkhnnaaDoorW.PrintLast Go.Proofs.YtjldfmkpdkhnnaaDoorW.PrintMore Go.Proofs.YtjldfmkpdkhnnaaDoor.Aux Go.Proofs.YtjldfmkpdkhnnaaDoor.Dom Go.Proofs.YtjldfmkpdkhnnaaDoor.Glob
attribute [local go_sem] max2_int min2_int max_two min_two max_three min_three max_four min_four
set_option linter.unusedVariables false
set_option linter.unusedSimpArgs false
def strings_Split.f (a0 : ByteArray) (a1 : ByteArray) : Option (List ByteArray) := if a0.size ≤ 8388608 ∧ a1 = ⟨#[32]⟩ then some ((splC 32 (bytesOf a0)).map strOfNums) else none
theorem strings_Split.calls (a0 : ByteArray) (a1 : ByteArray) (r : List ByteArray) (w : World) (hGMax : GMax w) (h : strings_Split.f a0 a1 = some r) :
    Calls Tryd.prog 85 #[.string a0, .string a1] w fun e w' => ∃ v0_ : Value, e = .returned (v0_) ∧ Kd.R Kd.string 9 w' w.heap.size (fun _ => True) v0_ r ∧ Below w.heap.size w w' := by
  have hs : a0.size ≤ 8388608 ∧ a1 = ⟨#[32]⟩ := by
    unfold strings_Split.f at h
    split at h
    · assumption
    · cases h
  unfold strings_Split.f at h
  rw [if_pos hs] at h
  have h := Option.some.inj h
  subst h
  obtain ⟨h1, rfl⟩ := hs
  obtain ⟨m, hm⟩ := hGMax
  have hl := splC_length (bytesOf a0) 32
  rw [bytesOf_length] at hl
  refine (Tryd.strings_Split a0 ⟨#[32]⟩ m w (by omega) hm (by decide)).mono ?_
  rintro e w' ⟨rfl, rfl⟩
  have e1 := splC_lib a0
  have e2 : Lib.countB a0 ⟨#[32]⟩ + 1 = ((splC 32 (bytesOf a0)).map strOfNums).length := by rw [← e1]; exact (Lib.splitB_all ⟨#[32]⟩ (by decide) 0 _ a0 rfl).symm
  rw [e1, e2]
  exact ⟨_, rfl, Kd.R_of_own (own_lit_of (enc := Value.string) w w.heap.size 9 ((splC 32 (bytesOf a0)).map strOfNums) (Nat.le_refl _) (by rw [List.length_map]; omega)) (fun _ _ => trivial), below_alloc (Below.refl _ _) _⟩

end Go.Proofs.YtjldfmkpdkhnnaaDoor.Ext
