/- What the program's functions ask of package-level variables, and that nothing that a call makes turns it. -/
import Derived.Test.YthloaefcmjpfaaaDoorProg
import Derived.Shelf.Vars
import Derived.Lib.LaidTab
import Derived.Lib.Itoa
import Derived.Lib.ItoaNum
import Derived.Below
import Derived.KernelRfl
import Derived.MakeChecks
import Derived.Stop.LaidErr
namespace Go.Proofs.YthloaefcmjpfaaaDoor.Glob
set_option linter.unusedVariables false
set_option linter.unusedSimpArgs false
open Go Go.RowKit

theorem var_below {P : Program} {w w' : World} {n : String} {cs : Array Value} (h : w.var? P n = some cs) (b : Below w.heap.size w w') : w'.var? P n = some cs := by
  unfold World.var? at h ⊢
  cases hg : P.globalNamed n with
  | none => rw [hg] at h; cases h
  | some g =>
    rw [hg] at h
    simp only [Option.bind_some] at h ⊢
    have hlt : g < w.heap.size := by
      rcases Nat.lt_or_ge g w.heap.size with h1 | h1
      · exact h1
      · rw [Array.getElem?_eq_none h1] at h; cases h
    rw [b.block g hlt]
    exact h
/-- bytealg.MaxLen holds some number. -/
def GMax (w : World) : Prop := ∃ m : Int, w.cell? ⟨2, 0, none⟩ = some (.int .i64 m)
theorem GMax.of_below {w w' : World} (h : GMax w) (b : Below w.heap.size w w') : GMax w' := by
  obtain ⟨m, hm⟩ := h
  exact ⟨m, (b.cell (World.block_lt_of_cell? w _ hm)).trans hm⟩
theorem GMax.of_shape {w : World} (h : w.ShapedOpen Tryd.prog) : GMax w :=
  Go.Proofs.cell_of_shapedOpen_int (zero := #[.int .i64 0]) (t := 3) h (of_decide_eq_true (by kernel_rfl)) (by kernel_rfl) rfl (by kernel_rfl) (by kernel_rfl) Tryd.underlying3
/-- The table of the powers of ten. -/
def GPow (w : World) : Prop := Lib.TabIs Tryd.prog w "internal/strconv.uint64pow10" .u64 Lib.pow10Tab
theorem GPow.of_laid {W : World} {rest : List (String × DataW Unit)} (h : laidMet Tryd.prog (("internal/strconv.uint64pow10", Lib.tabData .u64 Lib.pow10Tab) :: rest) W) : GPow W :=
  Lib.tabIs_of_head (g := 3) (t := 146) (e := 130) (n := 20) (by kernel_rfl) (by kernel_rfl) Tryd.underlying146 Tryd.underlying130 (by kernel_rfl) (by kernel_rfl) h
theorem GPow.of_below {w w' : World} (h : GPow w) (b : Below w.heap.size w w') : GPow w' := var_below h b
end Go.Proofs.YthloaefcmjpfaaaDoor.Glob
