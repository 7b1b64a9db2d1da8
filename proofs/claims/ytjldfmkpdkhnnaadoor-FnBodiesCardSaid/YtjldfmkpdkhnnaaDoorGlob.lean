/- What the program's functions ask of package-level variables, and that nothing that a call makes turns it. -/
import Derived.Test.YtjldfmkpdkhnnaaDoorProg
import Derived.Shelf.Vars
import Derived.Lib.LaidTab
import Derived.Lib.Itoa
import Derived.Lib.ItoaNum
import Derived.Below
import Derived.KernelRfl
import Derived.MakeChecks
import Derived.Stop.LaidErr
namespace Go.Proofs.YtjldfmkpdkhnnaaDoor.Glob
set_option linter.unusedVariables false
set_option linter.unusedSimpArgs false
open Go Go.RowKit

theorem var_below {P : Program} {w w' : World} {n : String} {cs : Array Value} (h : w.var? P n = some cs) (b : Below w.heap.size w w') : w'.var? P n = some cs := by
  unfold World.var? at h ⊢
  cases hg : P.globalNamed n with
  | none => rw [hg] at h; cases h
  | some g =>
    rw [hg] at h
    simp only [Option.bind_some] at h ⊢
    have hlt : g < w.heap.size := by
      rcases Nat.lt_or_ge g w.heap.size with h1 | h1
      · exact h1
      · rw [Array.getElem?_eq_none h1] at h; cases h
    rw [b.block g hlt]
    exact h
/-- bytealg.MaxLen holds some number. -/
def GMax (w : World) : Prop := ∃ m : Int, w.cell? ⟨2, 0, none⟩ = some (.int .i64 m)
theorem GMax.of_below {w w' : World} (h : GMax w) (b : Below w.heap.size w w') : GMax w' := by
  obtain ⟨m, hm⟩ := h
  exact ⟨m, (b.cell (World.block_lt_of_cell? w _ hm)).trans hm⟩
theorem GMax.of_shape {w : World} (h : w.ShapedOpen Tryd.prog) : GMax w :=
  Go.Proofs.cell_of_shapedOpen_int (zero := #[.int .i64 0]) (t := 3) h (of_decide_eq_true (by kernel_rfl)) (by kernel_rfl) rfl (by kernel_rfl) (by kernel_rfl) Tryd.underlying3
/-- The table of the powers of ten. -/
def GPow (w : World) : Prop := Lib.TabIs Tryd.prog w "internal/strconv.uint64pow10" .u64 Lib.pow10Tab
theorem GPow.of_laid {W : World} {rest : List (String × DataW Unit)} (h : laidMet Tryd.prog (("internal/strconv.uint64pow10", Lib.tabData .u64 Lib.pow10Tab) :: rest) W) : GPow W :=
  Lib.tabIs_of_head (g := 3) (t := 159) (e := 142) (n := 20) (by kernel_rfl) (by kernel_rfl) Tryd.underlying159 Tryd.underlying142 (by kernel_rfl) (by kernel_rfl) h
theorem GPow.of_below {w w' : World} (h : GPow w) (b : Below w.heap.size w w') : GPow w' := var_below h b
/-- The table of trailing zeros. -/
def tz64 : List Int := [0, 1, 56, 2, 57, 49, 28, 3, 61, 58, 42, 50, 38, 29, 17, 4, 62, 47, 59, 36, 45, 43, 51, 22, 53, 39, 33, 30, 24, 18, 12, 5, 63, 55, 48, 27, 60, 41, 37, 16, 46, 35, 44, 21, 52, 32, 23, 11, 54, 26, 40, 15, 34, 20, 31, 10, 25, 14, 19, 9, 13, 8, 7, 6]
def GTz (w : World) : Prop := Lib.TabIs Tryd.prog w "math/bits.deBruijn64tab" .u8 tz64
theorem GTz.of_laid {W : World} {rest : List (String × DataW Unit)} (h : laidMet Tryd.prog (("math/bits.deBruijn64tab", Lib.tabData .u8 tz64) :: rest) W) : GTz W :=
  Lib.tabIs_of_head (g := 7) (t := 177) (e := 5) (n := 64) (by kernel_rfl) (by kernel_rfl) Tryd.underlying177 Tryd.underlying5 (by kernel_rfl) (by kernel_rfl) h
theorem GTz.of_below {w w' : World} (h : GTz w) (b : Below w.heap.size w w') : GTz w' := var_below h b
theorem GTz.at16 {w : World} (h : GTz w) : w.cell? ⟨7, 15, none⟩ = some (.int .u8 4) := h.cell (by kernel_rfl) 15 (by decide)
/-- The two errors of strconv hold errors. -/
def GErr (w : World) : Prop := (∃ tp p, w.var? Tryd.prog "strconv.ErrSyntax" = some #[.iface tp p]) ∧ ∃ tp p, w.var? Tryd.prog "strconv.ErrRange" = some #[.iface tp p]
theorem GErr.of_below {w w' : World} (h : GErr w) (b : Below w.heap.size w w') : GErr w' := by
  obtain ⟨⟨t1, p1, h1⟩, t2, p2, h2⟩ := h
  exact ⟨⟨t1, p1, var_below h1 b⟩, t2, p2, var_below h2 b⟩
theorem err_star : "*" ++ "errors.errorString" = "*errors.errorString" := by decide
theorem err_row (u : TypeId) (h : Tryd.prog.typeName? 3 u = some "*errors.errorString") : u = 165 :=
  typeName_ptr_named (nm := "errors.errorString") (by rw [err_star]; kernel_rfl) (by kernel_rfl) (by decide) u (by rw [err_star]; exact h)
theorem err_of_laid {n : String} {g : Nat} {text : List UInt8} {rest : List (String × DataW Unit)} {W : World} (hg : Tryd.prog.globalNamed n = some g) (ht : (Tryd.prog.globals[g]?).map (·.type) = some 79)
    (h : laidMet Tryd.prog ((n, .iface "*errors.errorString" (.ptr (.agg [.lit (.string text)]))) :: rest) W) : ∃ tp p, W.var? Tryd.prog n = some #[.iface tp p] := by
  obtain ⟨a, s, hv, _⟩ := laid_sentinel h hg ht Tryd.underlying79 err_row Tryd.underlying165 Tryd.underlying167 rfl rfl Tryd.underlying9 (by kernel_rfl) (by kernel_rfl)
  exact ⟨_, _, hv⟩
end Go.Proofs.YtjldfmkpdkhnnaaDoor.Glob
