/- A contract of our own for the function impl_Lower of the program or the library. -/
import Derived.Test.YtjldfmkpdkhnnaaDoorProg
import Derived.Below
import Derived.Deep.Draws
import Derived.Deep.AppendLies
import Derived.Maps.AppendAt
import Derived.OwnWalk
import Derived.Laws.BytesArg
import Derived.Laws.MakeOwn
import Derived.Laws.OwnMore
import Derived.Deep.OwnRows
import Derived.Tactics
import Derived.Lib.ConvBytes
import Derived.Laws.Slices
import Derived.WalkKit
import Derived.KernelRfl
import Derived.RowKit3
import Derived.Deep.LoopGhost
import Derived.Deep.QuietTactic
import Derived.BigQuiet
import Derived.WideLaws
import Derived.Deep.DeepCutAuto
import Derived.Deep.CutBlock
import Derived.Deep.RegionHeld3
import Derived.Laws.Rows
import Derived.Lib.AppendStr
import Derived.ArgAppend
import Derived.Laws.IdiomCopy
import Derived.OrdersHeld
import Derived.Laws.BitsLemmas
import Derived.RowKit
import Derived.Test.YtjldfmkpdkhnnaaDoorBas
import Derived.Test.YtjldfmkpdkhnnaaDoorSq
import Derived.Test.YtjldfmkpdkhnnaaDoorExt
import Derived.Test.YtjldfmkpdkhnnaaDoorWWords
import Derived.Test.YtjldfmkpdkhnnaaDoorWLast
import Derived.Test.YtjldfmkpdkhnnaaDoorWTab
import Derived.Test.YtjldfmkpdkhnnaaDoorWFour
import Derived.Test.YtjldfmkpdkhnnaaDoorWQPut
import Derived.Test.YtjldfmkpdkhnnaaDoorWApart
import Derived.Test.YtjldfmkpdkhnnaaDoorWArr
import Derived.Test.YtjldfmkpdkhnnaaDoorWZeros
import Derived.Test.YtjldfmkpdkhnnaaDoorWFoot
import Derived.Test.YtjldfmkpdkhnnaaDoorWKept
import Derived.Test.YtjldfmkpdkhnnaaDoorWShare
import Derived.Test.YtjldfmkpdkhnnaaDoorWN
import Derived.Test.YtjldfmkpdkhnnaaDoorWFootNe
import Derived.Test.YtjldfmkpdkhnnaaDoorWAt
import Derived.Test.YtjldfmkpdkhnnaaDoorWEqStruct
import Derived.Test.YtjldfmkpdkhnnaaDoorWRepsOne
import Derived.Test.YtjldfmkpdkhnnaaDoorWInv
import Derived.Test.YtjldfmkpdkhnnaaDoorWInvWords
import Derived.Test.YtjldfmkpdkhnnaaDoorWGuard
import Derived.Test.YtjldfmkpdkhnnaaDoorWNEv
import Derived.Test.YtjldfmkpdkhnnaaDoorWMore
namespace Go.Proofs.YtjldfmkpdkhnnaaDoor.Ext
open Go.RowKit Go.Proofs.YtjldfmkpdkhnnaaDoorW.PrintWords Go.Proofs.YtjldfmkpdkhnnaaDoorW.PrintLast Go.Proofs.YtjldfmkpdkhnnaaDoorW.PrintMore Go.Proofs.YtjldfmkpdkhnnaaDoor.Aux Go.Proofs.YtjldfmkpdkhnnaaDoor.Dom Go.Proofs.YtjldfmkpdkhnnaaDoor.Glob
attribute [local go_sem] max2_int min2_int max_two min_two max_three min_three max_four min_four
set_option linter.unusedVariables false
set_option linter.unusedSimpArgs false
def impl_Lower.f (a0 : ByteArray) : Option ByteArray := if a0.size ≤ 8388608 then some (strOfNums ((bytesOf a0).map lowC)) else none
set_option maxHeartbeats 4000000 in
set_option maxRecDepth 100000 in
theorem impl_Lower.calls (a0 : ByteArray) (r : ByteArray) (w : World) (h : impl_Lower.f a0 = some r) :
    Calls Tryd.prog 76 #[.string a0] w fun e w' => e = .returned (.string r) ∧ Below w.heap.size w w' := by
  have hs : a0.size ≤ 8388608 := by
    unfold impl_Lower.f at h
    split at h
    · assumption
    · cases h
  have hr : strOfNums ((bytesOf a0).map lowC) = r := by
    unfold impl_Lower.f at h
    rw [if_pos hs] at h
    exact Option.some.inj h
  clear h
  have kb := fun W => print_bytes (P := Tryd.prog) 9 30 5 Tryd.underlying9 Tryd.underlying30 Tryd.underlying5 a0 W
  generalize grownCap w a0.size 0 5 = cp at kb
  have hbelow : Below w.heap.size w (Lib.bytesWorld w 5 a0) := bytes_below (Below.refl _ _) (Nat.le_refl _) _ _
  have hcell0 : ∀ j : Nat, j < a0.size → (Lib.bytesWorld w 5 a0).cell? ⟨w.heap.size, j, none⟩ = some (.int .u8 (lowAt a0 0 j)) ∧ (Lib.bytesWorld w 5 a0).frozen? ⟨w.heap.size, j, none⟩ = false := by
    intro j hj
    refine ⟨?_, bytes_frozen w _ a0 j hj⟩
    rw [Lib.bytesWorld_cell w _ a0 j hj]
    simp only [lowAt, Nat.not_lt_zero, if_false]
    rw [bt_get a0 j (by rw [bytesOf_length]; exact hj)]
    simp [bytesOf, List.getD_eq_getElem?_getD, hj]
  go_enter Tryd.func76, Tryd.ntmps76
  go_wp2
  generalize grownCap w a0.size 0 5 = cp at kb ⊢
  clear kb
  go_loopw [10] (fun v10 wr => ∃ k : Nat, k ≤ a0.size ∧ v10 = .int .i64 k ∧ (∀ j : Nat, j < a0.size → wr.cell? ⟨w.heap.size, j, none⟩ = some (.int .u8 (lowAt a0 k j)) ∧ wr.frozen? ⟨w.heap.size, j, none⟩ = false) ∧ Below w.heap.size w wr ∧ w.heap.size < wr.heap.size) (fun v10 _ => a0.size - (intOf v10).toNat)
  case atStart => exact ⟨0, Nat.zero_le _, rfl, hcell0, hbelow, by rw [Lib.bytesWorld_size]; omega⟩
  case round =>
    obtain ⟨k, hk, rfl, hc, hb, hsz⟩ := hrel
    by_cases hlt : k < a0.size
    · obtain ⟨hck, hfk⟩ := hc k hlt
      have hHc := Aside0.mk hc
      have hHb := Aside0.mk hb
      clear hc hb hcell0 hbelow
      have hbd := bt_bound a0 k
      have hck' : wr.cell? ⟨w.heap.size, k, none⟩ = some (.int .u8 (bt a0 k)) := by rw [hck]; simp [lowAt]
      clear hck
      generalize hbt : bt a0 (k : Int) = c at hck' hbd
      by_cases h1 : 65 ≤ c
      · by_cases h2 : c ≤ 90
        · have d1 : decide (65 ≤ c) = true := decide_eq_true h1
          have d2 : decide (c ≤ 90) = true := decide_eq_true h2
          go_wp2
          go_roundw
          case measure => simp [intOf]; omega
          case rel => exact ⟨k + 1, hlt, rfl, row_step hHc.out hlt (by rw [lowAt, if_pos (by omega), hbt, lowC, if_pos ⟨h1, h2⟩]; omega) (fun j hj => by simp only [lowAt]; by_cases hjk : j < k; rw [if_pos (by omega), if_pos hjk]; rw [if_neg (by omega), if_neg hjk]), hHb.out.setCell (Nat.le_refl _) _, by simpa [World.setCell] using hsz⟩
        · have d1 : decide (65 ≤ c) = true := decide_eq_true h1
          have d2 : decide (c ≤ 90) = false := decide_eq_false h2
          go_wp2
          go_roundw
          case measure => simp [intOf]; omega
          case rel => exact ⟨k + 1, hlt, rfl, fun j hj => by rw [show lowAt a0 (k + 1) j = lowAt a0 k j from by simp only [lowAt]; by_cases hjk : j < k; rw [if_pos (by omega), if_pos hjk]; by_cases hje : j = k; subst hje; rw [if_pos (by omega), if_neg hjk, hbt, lowC, if_neg (fun hh => h2 hh.2)]; rw [if_neg (by omega), if_neg hjk]]; exact hHc.out j hj, hHb.out, hsz⟩
      · have d1 : decide (65 ≤ c) = false := decide_eq_false h1
        go_wp2
        go_roundw
        case measure => simp [intOf]; omega
        case rel => exact ⟨k + 1, hlt, rfl, fun j hj => by rw [show lowAt a0 (k + 1) j = lowAt a0 k j from by simp only [lowAt]; by_cases hjk : j < k; rw [if_pos (by omega), if_pos hjk]; by_cases hje : j = k; subst hje; rw [if_pos (by omega), if_neg hjk, hbt, lowC, if_neg (fun hh => h1 hh.1)]; rw [if_neg (by omega), if_neg hjk]]; exact hHc.out j hj, hHb.out, hsz⟩
    · obtain rfl : k = a0.size := by omega
      have kc : (convert 30 9 (.slice (some ⟨w.heap.size, 0, none⟩) a0.size cp)).run Tryd.prog wr = .ok (.string r) wr := by
        rw [← hr]
        refine run_convert_bytes_arg wr 30 5 Tryd.underlying30 Tryd.underlying5 w.heap.size 0 a0.size cp _ (by rw [List.length_map, bytesOf_length]) (fun i hi => ?_) 9 Tryd.underlying9
        rw [Nat.zero_add, (hc i hi).1, lowAt, if_pos hi]
        rw [bt_get a0 i (by rw [bytesOf_length]; exact hi)]
        simp [List.getD_eq_getElem?_getD, bytesOf_length, hi]
      have hHb := Aside0.mk hb
      clear hc hb hcell0 hbelow
      go_wp2
      go_ret
      exact ⟨rfl, hHb.out⟩

end Go.Proofs.YtjldfmkpdkhnnaaDoor.Ext
