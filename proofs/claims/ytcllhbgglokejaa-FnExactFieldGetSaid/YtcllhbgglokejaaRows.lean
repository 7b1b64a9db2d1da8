/-
  No cell of these rows narrows 'for every input' (looked for: loops, veiled, ifaces, maps, wideKeys, modest, calm, conditions, laid).
  DERIVED. THE GIVEN ROWS OF THIS SEAT. 9 by the template 'for every input the law returns true; each argument reads behind the call as it read before'; 0 by the template 'total and deterministic' (their statements: YtcllhbgglokejaaTotals.lean).
  GIVEN WITH THE SEED: the statements are not yours to turn. If you find one false, say at which input.
  Laid BY PROGRAM, IN A SANDBOX (cutbox-rows.mjs): the forced cells as the released guide's own fill.sh prints them over the translation 6421d90bfe8ce73e… (all of the seat's roots in one cut). By AI agents, Wed Nov 11 2026. No macro, syntax, notation, axiom, sorry.
-/
import Derived.Test.YtcllhbgglokejaaChecked
import GoSem.Claim
import GoSem.ClaimJoined
import GoSem.ClaimMapViews
import Derived.JoinedTies
import Derived.KernelRfl
namespace Go.Proofs.Ytcllhbgglokejaa
/- THE CELL 'sum', in the pinned program and in every row, IS THE sha256 OF THE DUMP (.gsa) THAT YtcllhbgglokejaaProg.lean LOADS. Nothing in Lean hashes anything: it is a label: what it is worth is what the hold of that sum in a sandbox is worth. -/
noncomputable def Try.pinned : Pinned := { name := "ytcllhbgglokejaa", sum := "6421d90bfe8ce73e7bb618444ccb8c129fd3bb34219cff3fb276a7490ff65d5b", checked := Try.checked }
namespace Rows
def none {H : Type} : Left H := { results := [], args := [] }

/-- 'laws.FnExactUnhex': WHATEVER THE INPUT: true; the input reads as it did. -/
def fnExactUnhexSpec : ChangeSpec := { name := "fnExactUnhex", fn := fun _ => fun
  | [d] => { results := [.lit (.bool true)], args := [d] }
  | _ => none }
def fnExactUnhexRow : OpenClaim := { program := "ytcllhbgglokejaa", sum := "6421d90bfe8ce73e7bb618444ccb8c129fd3bb34219cff3fb276a7490ff65d5b", func := "loop.example/g01402/laws.FnExactUnhex", spec := "fnExactUnhex", inPlace := ["internal/bytealg.IndexByteString"], apart := false }
def FnExactUnhexSaid : Prop := fnExactUnhexRow.holds Try.pinned (OpenSpec.ofChange fnExactUnhexSpec)

/-- ITS FALSE NEIGHBOUR: 'it returns false'. Refute it at one input. -/
def fnExactUnhexWrong : ChangeSpec := { name := "fnExactUnhex", fn := fun _ => fun
  | [d] => { results := [.lit (.bool false)], args := [d] }
  | _ => none }
def FnExactUnhexWrongFalsely : Prop := fnExactUnhexRow.holds Try.pinned (OpenSpec.ofChange fnExactUnhexWrong)

/-- 'laws.FnExactReadHexNum': WHATEVER THE INPUT: true; the input reads as it did. -/
def fnExactReadHexNumSpec : ChangeSpec := { name := "fnExactReadHexNum", fn := fun _ => fun
  | [d] => { results := [.lit (.bool true)], args := [d] }
  | _ => none }
def fnExactReadHexNumRow : OpenClaim := { program := "ytcllhbgglokejaa", sum := "6421d90bfe8ce73e7bb618444ccb8c129fd3bb34219cff3fb276a7490ff65d5b", func := "loop.example/g01402/laws.FnExactReadHexNum", spec := "fnExactReadHexNum", inPlace := ["internal/bytealg.IndexByteString"], apart := false }
def FnExactReadHexNumSaid : Prop := fnExactReadHexNumRow.holds Try.pinned (OpenSpec.ofChange fnExactReadHexNumSpec)

/-- ITS FALSE NEIGHBOUR: 'it returns false'. Refute it at one input. -/
def fnExactReadHexNumWrong : ChangeSpec := { name := "fnExactReadHexNum", fn := fun _ => fun
  | [d] => { results := [.lit (.bool false)], args := [d] }
  | _ => none }
def FnExactReadHexNumWrongFalsely : Prop := fnExactReadHexNumRow.holds Try.pinned (OpenSpec.ofChange fnExactReadHexNumWrong)

/-- 'laws.FnExactDaysOf': WHATEVER THE INPUT: true; the input reads as it did. -/
def fnExactDaysOfSpec : ChangeSpec := { name := "fnExactDaysOf", fn := fun _ => fun
  | [d1, d2, d3] => { results := [.lit (.bool true)], args := [d1, d2, d3] }
  | _ => none }
def fnExactDaysOfRow : OpenClaim := { program := "ytcllhbgglokejaa", sum := "6421d90bfe8ce73e7bb618444ccb8c129fd3bb34219cff3fb276a7490ff65d5b", func := "loop.example/g01402/laws.FnExactDaysOf", spec := "fnExactDaysOf", apart := false }
def FnExactDaysOfSaid : Prop := fnExactDaysOfRow.holds Try.pinned (OpenSpec.ofChange fnExactDaysOfSpec)

/-- ITS FALSE NEIGHBOUR: 'it returns false'. Refute it at one input. -/
def fnExactDaysOfWrong : ChangeSpec := { name := "fnExactDaysOf", fn := fun _ => fun
  | [d1, d2, d3] => { results := [.lit (.bool false)], args := [d1, d2, d3] }
  | _ => none }
def FnExactDaysOfWrongFalsely : Prop := fnExactDaysOfRow.holds Try.pinned (OpenSpec.ofChange fnExactDaysOfWrong)

/-- 'laws.FnExactSameFields': WHATEVER THE INPUT: true; the input reads as it did. -/
def fnExactSameFieldsSpec : ChangeSpec := { name := "fnExactSameFields", fn := fun _ => fun
  | [d1, d2] => { results := [.lit (.bool true)], args := [d1, d2] }
  | _ => none }
def fnExactSameFieldsRow : OpenClaim := { program := "ytcllhbgglokejaa", sum := "6421d90bfe8ce73e7bb618444ccb8c129fd3bb34219cff3fb276a7490ff65d5b", func := "loop.example/g01402/laws.FnExactSameFields", spec := "fnExactSameFields", apart := false }
def FnExactSameFieldsSaid : Prop := fnExactSameFieldsRow.holds Try.pinned (OpenSpec.ofChange fnExactSameFieldsSpec)

/-- ITS FALSE NEIGHBOUR: 'it returns false'. Refute it at one input. -/
def fnExactSameFieldsWrong : ChangeSpec := { name := "fnExactSameFields", fn := fun _ => fun
  | [d1, d2] => { results := [.lit (.bool false)], args := [d1, d2] }
  | _ => none }
def FnExactSameFieldsWrongFalsely : Prop := fnExactSameFieldsRow.holds Try.pinned (OpenSpec.ofChange fnExactSameFieldsWrong)

/-- 'laws.FnExactSameResponse': WHATEVER THE INPUT: true; the input reads as it did. -/
def fnExactSameResponseSpec : ChangeSpec := { name := "fnExactSameResponse", fn := fun _ => fun
  | [d1, d2] => { results := [.lit (.bool true)], args := [d1, d2] }
  | _ => none }
def fnExactSameResponseRow : OpenClaim := { program := "ytcllhbgglokejaa", sum := "6421d90bfe8ce73e7bb618444ccb8c129fd3bb34219cff3fb276a7490ff65d5b", func := "loop.example/g01402/laws.FnExactSameResponse", spec := "fnExactSameResponse", apart := false }
def FnExactSameResponseSaid : Prop := fnExactSameResponseRow.holds Try.pinned (OpenSpec.ofChange fnExactSameResponseSpec)

/-- ITS FALSE NEIGHBOUR: 'it returns false'. Refute it at one input. -/
def fnExactSameResponseWrong : ChangeSpec := { name := "fnExactSameResponse", fn := fun _ => fun
  | [d1, d2] => { results := [.lit (.bool false)], args := [d1, d2] }
  | _ => none }
def FnExactSameResponseWrongFalsely : Prop := fnExactSameResponseRow.holds Try.pinned (OpenSpec.ofChange fnExactSameResponseWrong)

/-- 'laws.FnExactFieldSet': WHATEVER THE INPUT: true; the input reads as it did. -/
def fnExactFieldSetSpec : ChangeSpec := { name := "fnExactFieldSet", fn := fun _ => fun
  | [d1, d2, d3] => { results := [.lit (.bool true)], args := [d1, d2, d3] }
  | _ => none }
def fnExactFieldSetRow : OpenClaim := { program := "ytcllhbgglokejaa", sum := "6421d90bfe8ce73e7bb618444ccb8c129fd3bb34219cff3fb276a7490ff65d5b", func := "loop.example/g01402/laws.FnExactFieldSet", spec := "fnExactFieldSet", apart := false }
def FnExactFieldSetSaid : Prop := fnExactFieldSetRow.holds Try.pinned (OpenSpec.ofChange fnExactFieldSetSpec)

/-- ITS FALSE NEIGHBOUR: 'it returns false'. Refute it at one input. -/
def fnExactFieldSetWrong : ChangeSpec := { name := "fnExactFieldSet", fn := fun _ => fun
  | [d1, d2, d3] => { results := [.lit (.bool false)], args := [d1, d2, d3] }
  | _ => none }
def FnExactFieldSetWrongFalsely : Prop := fnExactFieldSetRow.holds Try.pinned (OpenSpec.ofChange fnExactFieldSetWrong)

/-- 'laws.FnExactFieldDrop': WHATEVER THE INPUT: true; the input reads as it did. -/
def fnExactFieldDropSpec : ChangeSpec := { name := "fnExactFieldDrop", fn := fun _ => fun
  | [d1, d2] => { results := [.lit (.bool true)], args := [d1, d2] }
  | _ => none }
def fnExactFieldDropRow : OpenClaim := { program := "ytcllhbgglokejaa", sum := "6421d90bfe8ce73e7bb618444ccb8c129fd3bb34219cff3fb276a7490ff65d5b", func := "loop.example/g01402/laws.FnExactFieldDrop", spec := "fnExactFieldDrop", unfollowed := true, recurses := true, apart := false }
def FnExactFieldDropSaid : Prop := fnExactFieldDropRow.holds Try.pinned (OpenSpec.ofChange fnExactFieldDropSpec)

/-- ITS FALSE NEIGHBOUR: 'it returns false'. Refute it at one input. -/
def fnExactFieldDropWrong : ChangeSpec := { name := "fnExactFieldDrop", fn := fun _ => fun
  | [d1, d2] => { results := [.lit (.bool false)], args := [d1, d2] }
  | _ => none }
def FnExactFieldDropWrongFalsely : Prop := fnExactFieldDropRow.holds Try.pinned (OpenSpec.ofChange fnExactFieldDropWrong)

/-- 'laws.FnExactFieldGet': WHATEVER THE INPUT: true; the input reads as it did. -/
def fnExactFieldGetSpec : ChangeSpec := { name := "fnExactFieldGet", fn := fun _ => fun
  | [d1, d2] => { results := [.lit (.bool true)], args := [d1, d2] }
  | _ => none }
def fnExactFieldGetRow : OpenClaim := { program := "ytcllhbgglokejaa", sum := "6421d90bfe8ce73e7bb618444ccb8c129fd3bb34219cff3fb276a7490ff65d5b", func := "loop.example/g01402/laws.FnExactFieldGet", spec := "fnExactFieldGet", inPlace := ["internal/abi.NoEscape", "internal/bytealg.MakeNoZero"], apart := false }
def FnExactFieldGetSaid : Prop := fnExactFieldGetRow.holds Try.pinned (OpenSpec.ofChange fnExactFieldGetSpec)

/-- ITS FALSE NEIGHBOUR: 'it returns false'. Refute it at one input. -/
def fnExactFieldGetWrong : ChangeSpec := { name := "fnExactFieldGet", fn := fun _ => fun
  | [d1, d2] => { results := [.lit (.bool false)], args := [d1, d2] }
  | _ => none }
def FnExactFieldGetWrongFalsely : Prop := fnExactFieldGetRow.holds Try.pinned (OpenSpec.ofChange fnExactFieldGetWrong)

/-- 'laws.FnExactUnchunk': WHATEVER THE INPUT: true; the input reads as it did. -/
def fnExactUnchunkSpec : ChangeSpec := { name := "fnExactUnchunk", fn := fun _ => fun
  | [d] => { results := [.lit (.bool true)], args := [d] }
  | _ => none }
def fnExactUnchunkRow : OpenClaim := { program := "ytcllhbgglokejaa", sum := "6421d90bfe8ce73e7bb618444ccb8c129fd3bb34219cff3fb276a7490ff65d5b", func := "loop.example/g01402/laws.FnExactUnchunk", spec := "fnExactUnchunk", inPlace := ["internal/bytealg.IndexByteString", "internal/bytealg.IndexString"], named := ["internal/bytealg.MaxLen"], apart := false }
def FnExactUnchunkSaid : Prop := fnExactUnchunkRow.holds Try.pinned (OpenSpec.ofChange fnExactUnchunkSpec)

/-- ITS FALSE NEIGHBOUR: 'it returns false'. Refute it at one input. -/
def fnExactUnchunkWrong : ChangeSpec := { name := "fnExactUnchunk", fn := fun _ => fun
  | [d] => { results := [.lit (.bool false)], args := [d] }
  | _ => none }
def FnExactUnchunkWrongFalsely : Prop := fnExactUnchunkRow.holds Try.pinned (OpenSpec.ofChange fnExactUnchunkWrong)

/- THE SECOND FORM. 'bulk': how many values and letters a reading holds, each counted each time it is reached (what is shared counts as often as it is met; a slice's spare places count too). A statement '..UptoSaid' is the law's where the arguments, and the package variables that the reading takes, are together of bulk at most 1048576: NARROWER than '..Said'. Prove '..Said' where nothing that the law and all that it calls make is longer than what came in: it says more and counts as full. Else prove '..UptoSaid'. A law counts once. -/
mutual
def uptoBulk {H : Type} : DataW H → Nat
  | .lit (.string bytes) => bytes.length + 1
  | .lit _ => 1
  | .nil => 1
  | .ptr d => uptoBulk d + 1
  | .slice elems spare => uptoBulkAll elems + uptoBulkAll spare + 1
  | .agg parts => uptoBulkAll parts + 1
  | .iface _ d => uptoBulk d + 1
  | .map entries => uptoBulkEntries entries + 1
  | .held _ => 1
def uptoBulkAll {H : Type} : List (DataW H) → Nat
  | [] => 0
  | d :: r => uptoBulk d + uptoBulkAll r
def uptoBulkEntries {H : Type} : List (Lit × DataW H) → Nat
  | [] => 0
  | x :: r => uptoBulkEntry x + uptoBulkEntries r
def uptoBulkEntry {H : Type} : Lit × DataW H → Nat
  | (.string bytes, d) => bytes.length + uptoBulk d + 1
  | (_, d) => uptoBulk d + 1
 end
def uptoSmall : (H : Type) → List (DataW H) → Bool := fun _ ds => decide (uptoBulkAll ds ≤ 1048576)
def OpenSpec.upto (s : _root_.Go.ChangeSpec) : _root_.Go.OpenSpec := { _root_.Go.OpenSpec.ofChange s with cond := some uptoSmall }

/-- 'laws.FnExactUnhex', WHERE WHAT IT READS IS OF BULK AT MOST 1048576: true; the input reads as it did. -/
def fnExactUnhexUptoRow : OpenClaim := { program := "ytcllhbgglokejaa", sum := "6421d90bfe8ce73e7bb618444ccb8c129fd3bb34219cff3fb276a7490ff65d5b", func := "loop.example/g01402/laws.FnExactUnhex", spec := "fnExactUnhex", inPlace := ["internal/bytealg.IndexByteString"], apart := false, narrowed := true }
def FnExactUnhexUptoSaid : Prop := fnExactUnhexUptoRow.holds Try.pinned (OpenSpec.upto fnExactUnhexSpec)

/-- 'laws.FnExactReadHexNum', WHERE WHAT IT READS IS OF BULK AT MOST 1048576: true; the input reads as it did. -/
def fnExactReadHexNumUptoRow : OpenClaim := { program := "ytcllhbgglokejaa", sum := "6421d90bfe8ce73e7bb618444ccb8c129fd3bb34219cff3fb276a7490ff65d5b", func := "loop.example/g01402/laws.FnExactReadHexNum", spec := "fnExactReadHexNum", inPlace := ["internal/bytealg.IndexByteString"], apart := false, narrowed := true }
def FnExactReadHexNumUptoSaid : Prop := fnExactReadHexNumUptoRow.holds Try.pinned (OpenSpec.upto fnExactReadHexNumSpec)

/-- 'laws.FnExactDaysOf', WHERE WHAT IT READS IS OF BULK AT MOST 1048576: true; the input reads as it did. -/
def fnExactDaysOfUptoRow : OpenClaim := { program := "ytcllhbgglokejaa", sum := "6421d90bfe8ce73e7bb618444ccb8c129fd3bb34219cff3fb276a7490ff65d5b", func := "loop.example/g01402/laws.FnExactDaysOf", spec := "fnExactDaysOf", apart := false, narrowed := true }
def FnExactDaysOfUptoSaid : Prop := fnExactDaysOfUptoRow.holds Try.pinned (OpenSpec.upto fnExactDaysOfSpec)

/-- 'laws.FnExactSameFields', WHERE WHAT IT READS IS OF BULK AT MOST 1048576: true; the input reads as it did. -/
def fnExactSameFieldsUptoRow : OpenClaim := { program := "ytcllhbgglokejaa", sum := "6421d90bfe8ce73e7bb618444ccb8c129fd3bb34219cff3fb276a7490ff65d5b", func := "loop.example/g01402/laws.FnExactSameFields", spec := "fnExactSameFields", apart := false, narrowed := true }
def FnExactSameFieldsUptoSaid : Prop := fnExactSameFieldsUptoRow.holds Try.pinned (OpenSpec.upto fnExactSameFieldsSpec)

/-- 'laws.FnExactSameResponse', WHERE WHAT IT READS IS OF BULK AT MOST 1048576: true; the input reads as it did. -/
def fnExactSameResponseUptoRow : OpenClaim := { program := "ytcllhbgglokejaa", sum := "6421d90bfe8ce73e7bb618444ccb8c129fd3bb34219cff3fb276a7490ff65d5b", func := "loop.example/g01402/laws.FnExactSameResponse", spec := "fnExactSameResponse", apart := false, narrowed := true }
def FnExactSameResponseUptoSaid : Prop := fnExactSameResponseUptoRow.holds Try.pinned (OpenSpec.upto fnExactSameResponseSpec)

/-- 'laws.FnExactFieldSet', WHERE WHAT IT READS IS OF BULK AT MOST 1048576: true; the input reads as it did. -/
def fnExactFieldSetUptoRow : OpenClaim := { program := "ytcllhbgglokejaa", sum := "6421d90bfe8ce73e7bb618444ccb8c129fd3bb34219cff3fb276a7490ff65d5b", func := "loop.example/g01402/laws.FnExactFieldSet", spec := "fnExactFieldSet", apart := false, narrowed := true }
def FnExactFieldSetUptoSaid : Prop := fnExactFieldSetUptoRow.holds Try.pinned (OpenSpec.upto fnExactFieldSetSpec)

/-- 'laws.FnExactFieldDrop', WHERE WHAT IT READS IS OF BULK AT MOST 1048576: true; the input reads as it did. -/
def fnExactFieldDropUptoRow : OpenClaim := { program := "ytcllhbgglokejaa", sum := "6421d90bfe8ce73e7bb618444ccb8c129fd3bb34219cff3fb276a7490ff65d5b", func := "loop.example/g01402/laws.FnExactFieldDrop", spec := "fnExactFieldDrop", unfollowed := true, recurses := true, apart := false, narrowed := true }
def FnExactFieldDropUptoSaid : Prop := fnExactFieldDropUptoRow.holds Try.pinned (OpenSpec.upto fnExactFieldDropSpec)

/-- 'laws.FnExactFieldGet', WHERE WHAT IT READS IS OF BULK AT MOST 1048576: true; the input reads as it did. -/
def fnExactFieldGetUptoRow : OpenClaim := { program := "ytcllhbgglokejaa", sum := "6421d90bfe8ce73e7bb618444ccb8c129fd3bb34219cff3fb276a7490ff65d5b", func := "loop.example/g01402/laws.FnExactFieldGet", spec := "fnExactFieldGet", inPlace := ["internal/abi.NoEscape", "internal/bytealg.MakeNoZero"], apart := false, narrowed := true }
def FnExactFieldGetUptoSaid : Prop := fnExactFieldGetUptoRow.holds Try.pinned (OpenSpec.upto fnExactFieldGetSpec)

/-- 'laws.FnExactUnchunk', WHERE WHAT IT READS IS OF BULK AT MOST 1048576: true; the input reads as it did. -/
def fnExactUnchunkUptoRow : OpenClaim := { program := "ytcllhbgglokejaa", sum := "6421d90bfe8ce73e7bb618444ccb8c129fd3bb34219cff3fb276a7490ff65d5b", func := "loop.example/g01402/laws.FnExactUnchunk", spec := "fnExactUnchunk", inPlace := ["internal/bytealg.IndexByteString", "internal/bytealg.IndexString"], named := ["internal/bytealg.MaxLen"], apart := false, narrowed := true }
def FnExactUnchunkUptoSaid : Prop := fnExactUnchunkUptoRow.holds Try.pinned (OpenSpec.upto fnExactUnchunkSpec)

end Rows
end Go.Proofs.Ytcllhbgglokejaa
