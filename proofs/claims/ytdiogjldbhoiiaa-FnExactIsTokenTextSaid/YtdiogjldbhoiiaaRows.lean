/-
  No cell of these rows narrows 'for every input' (looked for: loops, veiled, ifaces, maps, wideKeys, modest, calm, conditions, laid).
  DERIVED. THE GIVEN ROWS OF THIS SEAT. 12 by the template 'for every input the law returns true; each argument reads behind the call as it read before'; 0 by the template 'total and deterministic' (their statements: YtdiogjldbhoiiaaTotals.lean).
  GIVEN WITH THE SEED: the statements are not yours to turn. If you find one false, say at which input.
  Laid BY PROGRAM, IN A SANDBOX (cutbox-rows.mjs): the forced cells as the released guide's own fill.sh prints them over the translation 9c0ca23f3b886cbc… (all of the seat's roots in one cut). By AI agents, Wed Nov 11 2026. No macro, syntax, notation, axiom, sorry.
-/
import Derived.Test.YtdiogjldbhoiiaaChecked
import GoSem.Claim
import GoSem.ClaimJoined
import GoSem.ClaimMapViews
import Derived.JoinedTies
import Derived.KernelRfl
namespace Go.Proofs.Ytdiogjldbhoiiaa
/- THE CELL 'sum', in the pinned program and in every row, IS THE sha256 OF THE DUMP (.gsa) THAT YtdiogjldbhoiiaaProg.lean LOADS. Nothing in Lean hashes anything: it is a label: what it is worth is what the hold of that sum in a sandbox is worth. -/
noncomputable def Try.pinned : Pinned := { name := "ytdiogjldbhoiiaa", sum := "9c0ca23f3b886cbcce349dbdafc30dfa9250465c9457eca1d2841bfd9235312e", checked := Try.checked }
namespace Rows
def none {H : Type} : Left H := { results := [], args := [] }

/-- 'laws.FnExactConstants': WHATEVER THE INPUT: true; the input reads as it did. -/
def fnExactConstantsSpec : ChangeSpec := { name := "fnExactConstants", fn := fun _ => fun
  | [] => { results := [.lit (.bool true)], args := [] }
  | _ => none }
def fnExactConstantsRow : OpenClaim := { program := "ytdiogjldbhoiiaa", sum := "9c0ca23f3b886cbcce349dbdafc30dfa9250465c9457eca1d2841bfd9235312e", func := "loop.example/g01402/laws.FnExactConstants", spec := "fnExactConstants", apart := false }
def FnExactConstantsSaid : Prop := fnExactConstantsRow.holds Try.pinned (OpenSpec.ofChange fnExactConstantsSpec)

/-- ITS FALSE NEIGHBOUR: 'it returns false'. Refute it at one input. -/
def fnExactConstantsWrong : ChangeSpec := { name := "fnExactConstants", fn := fun _ => fun
  | [] => { results := [.lit (.bool false)], args := [] }
  | _ => none }
def FnExactConstantsWrongFalsely : Prop := fnExactConstantsRow.holds Try.pinned (OpenSpec.ofChange fnExactConstantsWrong)

/-- 'laws.FnExactIsLeap': WHATEVER THE INPUT: true; the input reads as it did. -/
def fnExactIsLeapSpec : ChangeSpec := { name := "fnExactIsLeap", fn := fun _ => fun
  | [d] => { results := [.lit (.bool true)], args := [d] }
  | _ => none }
def fnExactIsLeapRow : OpenClaim := { program := "ytdiogjldbhoiiaa", sum := "9c0ca23f3b886cbcce349dbdafc30dfa9250465c9457eca1d2841bfd9235312e", func := "loop.example/g01402/laws.FnExactIsLeap", spec := "fnExactIsLeap", apart := false }
def FnExactIsLeapSaid : Prop := fnExactIsLeapRow.holds Try.pinned (OpenSpec.ofChange fnExactIsLeapSpec)

/-- ITS FALSE NEIGHBOUR: 'it returns false'. Refute it at one input. -/
def fnExactIsLeapWrong : ChangeSpec := { name := "fnExactIsLeap", fn := fun _ => fun
  | [d] => { results := [.lit (.bool false)], args := [d] }
  | _ => none }
def FnExactIsLeapWrongFalsely : Prop := fnExactIsLeapRow.holds Try.pinned (OpenSpec.ofChange fnExactIsLeapWrong)

/-- 'laws.FnExactSatAdd': WHATEVER THE INPUT: true; the input reads as it did. -/
def fnExactSatAddSpec : ChangeSpec := { name := "fnExactSatAdd", fn := fun _ => fun
  | [d1, d2] => { results := [.lit (.bool true)], args := [d1, d2] }
  | _ => none }
def fnExactSatAddRow : OpenClaim := { program := "ytdiogjldbhoiiaa", sum := "9c0ca23f3b886cbcce349dbdafc30dfa9250465c9457eca1d2841bfd9235312e", func := "loop.example/g01402/laws.FnExactSatAdd", spec := "fnExactSatAdd", apart := false }
def FnExactSatAddSaid : Prop := fnExactSatAddRow.holds Try.pinned (OpenSpec.ofChange fnExactSatAddSpec)

/-- ITS FALSE NEIGHBOUR: 'it returns false'. Refute it at one input. -/
def fnExactSatAddWrong : ChangeSpec := { name := "fnExactSatAdd", fn := fun _ => fun
  | [d1, d2] => { results := [.lit (.bool false)], args := [d1, d2] }
  | _ => none }
def FnExactSatAddWrongFalsely : Prop := fnExactSatAddRow.holds Try.pinned (OpenSpec.ofChange fnExactSatAddWrong)

/-- 'laws.FnExactHex': WHATEVER THE INPUT: true; the input reads as it did. -/
def fnExactHexSpec : ChangeSpec := { name := "fnExactHex", fn := fun _ => fun
  | [d] => { results := [.lit (.bool true)], args := [d] }
  | _ => none }
def fnExactHexRow : OpenClaim := { program := "ytdiogjldbhoiiaa", sum := "9c0ca23f3b886cbcce349dbdafc30dfa9250465c9457eca1d2841bfd9235312e", func := "loop.example/g01402/laws.FnExactHex", spec := "fnExactHex", apart := false }
def FnExactHexSaid : Prop := fnExactHexRow.holds Try.pinned (OpenSpec.ofChange fnExactHexSpec)

/-- ITS FALSE NEIGHBOUR: 'it returns false'. Refute it at one input. -/
def fnExactHexWrong : ChangeSpec := { name := "fnExactHex", fn := fun _ => fun
  | [d] => { results := [.lit (.bool false)], args := [d] }
  | _ => none }
def FnExactHexWrongFalsely : Prop := fnExactHexRow.holds Try.pinned (OpenSpec.ofChange fnExactHexWrong)

/-- 'laws.FnExactLower': WHATEVER THE INPUT: true; the input reads as it did. -/
def fnExactLowerSpec : ChangeSpec := { name := "fnExactLower", fn := fun _ => fun
  | [d] => { results := [.lit (.bool true)], args := [d] }
  | _ => none }
def fnExactLowerRow : OpenClaim := { program := "ytdiogjldbhoiiaa", sum := "9c0ca23f3b886cbcce349dbdafc30dfa9250465c9457eca1d2841bfd9235312e", func := "loop.example/g01402/laws.FnExactLower", spec := "fnExactLower", apart := false }
def FnExactLowerSaid : Prop := fnExactLowerRow.holds Try.pinned (OpenSpec.ofChange fnExactLowerSpec)

/-- ITS FALSE NEIGHBOUR: 'it returns false'. Refute it at one input. -/
def fnExactLowerWrong : ChangeSpec := { name := "fnExactLower", fn := fun _ => fun
  | [d] => { results := [.lit (.bool false)], args := [d] }
  | _ => none }
def FnExactLowerWrongFalsely : Prop := fnExactLowerRow.holds Try.pinned (OpenSpec.ofChange fnExactLowerWrong)

/-- 'laws.FnExactUriOk': WHATEVER THE INPUT: true; the input reads as it did. -/
def fnExactUriOkSpec : ChangeSpec := { name := "fnExactUriOk", fn := fun _ => fun
  | [d] => { results := [.lit (.bool true)], args := [d] }
  | _ => none }
def fnExactUriOkRow : OpenClaim := { program := "ytdiogjldbhoiiaa", sum := "9c0ca23f3b886cbcce349dbdafc30dfa9250465c9457eca1d2841bfd9235312e", func := "loop.example/g01402/laws.FnExactUriOk", spec := "fnExactUriOk", apart := false }
def FnExactUriOkSaid : Prop := fnExactUriOkRow.holds Try.pinned (OpenSpec.ofChange fnExactUriOkSpec)

/-- ITS FALSE NEIGHBOUR: 'it returns false'. Refute it at one input. -/
def fnExactUriOkWrong : ChangeSpec := { name := "fnExactUriOk", fn := fun _ => fun
  | [d] => { results := [.lit (.bool false)], args := [d] }
  | _ => none }
def FnExactUriOkWrongFalsely : Prop := fnExactUriOkRow.holds Try.pinned (OpenSpec.ofChange fnExactUriOkWrong)

/-- 'laws.FnExactReadFixed': WHATEVER THE INPUT: true; the input reads as it did. -/
def fnExactReadFixedSpec : ChangeSpec := { name := "fnExactReadFixed", fn := fun _ => fun
  | [d1, d2] => { results := [.lit (.bool true)], args := [d1, d2] }
  | _ => none }
def fnExactReadFixedRow : OpenClaim := { program := "ytdiogjldbhoiiaa", sum := "9c0ca23f3b886cbcce349dbdafc30dfa9250465c9457eca1d2841bfd9235312e", func := "loop.example/g01402/laws.FnExactReadFixed", spec := "fnExactReadFixed", apart := false }
def FnExactReadFixedSaid : Prop := fnExactReadFixedRow.holds Try.pinned (OpenSpec.ofChange fnExactReadFixedSpec)

/-- ITS FALSE NEIGHBOUR: 'it returns false'. Refute it at one input. -/
def fnExactReadFixedWrong : ChangeSpec := { name := "fnExactReadFixed", fn := fun _ => fun
  | [d1, d2] => { results := [.lit (.bool false)], args := [d1, d2] }
  | _ => none }
def FnExactReadFixedWrongFalsely : Prop := fnExactReadFixedRow.holds Try.pinned (OpenSpec.ofChange fnExactReadFixedWrong)

/-- 'laws.FnExactVar': WHATEVER THE INPUT: true; the input reads as it did. -/
def fnExactVarSpec : ChangeSpec := { name := "fnExactVar", fn := fun _ => fun
  | [d] => { results := [.lit (.bool true)], args := [d] }
  | _ => none }
def fnExactVarRow : OpenClaim := { program := "ytdiogjldbhoiiaa", sum := "9c0ca23f3b886cbcce349dbdafc30dfa9250465c9457eca1d2841bfd9235312e", func := "loop.example/g01402/laws.FnExactVar", spec := "fnExactVar", apart := false }
def FnExactVarSaid : Prop := fnExactVarRow.holds Try.pinned (OpenSpec.ofChange fnExactVarSpec)

/-- ITS FALSE NEIGHBOUR: 'it returns false'. Refute it at one input. -/
def fnExactVarWrong : ChangeSpec := { name := "fnExactVar", fn := fun _ => fun
  | [d] => { results := [.lit (.bool false)], args := [d] }
  | _ => none }
def FnExactVarWrongFalsely : Prop := fnExactVarRow.holds Try.pinned (OpenSpec.ofChange fnExactVarWrong)

/-- 'laws.FnExactFixed': WHATEVER THE INPUT: true; the input reads as it did. -/
def fnExactFixedSpec : ChangeSpec := { name := "fnExactFixed", fn := fun _ => fun
  | [d1, d2] => { results := [.lit (.bool true)], args := [d1, d2] }
  | _ => none }
def fnExactFixedRow : OpenClaim := { program := "ytdiogjldbhoiiaa", sum := "9c0ca23f3b886cbcce349dbdafc30dfa9250465c9457eca1d2841bfd9235312e", func := "loop.example/g01402/laws.FnExactFixed", spec := "fnExactFixed", apart := false }
def FnExactFixedSaid : Prop := fnExactFixedRow.holds Try.pinned (OpenSpec.ofChange fnExactFixedSpec)

/-- ITS FALSE NEIGHBOUR: 'it returns false'. Refute it at one input. -/
def fnExactFixedWrong : ChangeSpec := { name := "fnExactFixed", fn := fun _ => fun
  | [d1, d2] => { results := [.lit (.bool false)], args := [d1, d2] }
  | _ => none }
def FnExactFixedWrongFalsely : Prop := fnExactFixedRow.holds Try.pinned (OpenSpec.ofChange fnExactFixedWrong)

/-- 'laws.FnExactIsTokenText': WHATEVER THE INPUT: true; the input reads as it did. -/
def fnExactIsTokenTextSpec : ChangeSpec := { name := "fnExactIsTokenText", fn := fun _ => fun
  | [d] => { results := [.lit (.bool true)], args := [d] }
  | _ => none }
def fnExactIsTokenTextRow : OpenClaim := { program := "ytdiogjldbhoiiaa", sum := "9c0ca23f3b886cbcce349dbdafc30dfa9250465c9457eca1d2841bfd9235312e", func := "loop.example/g01402/laws.FnExactIsTokenText", spec := "fnExactIsTokenText", inPlace := ["internal/bytealg.IndexByteString"], apart := false }
def FnExactIsTokenTextSaid : Prop := fnExactIsTokenTextRow.holds Try.pinned (OpenSpec.ofChange fnExactIsTokenTextSpec)

/-- ITS FALSE NEIGHBOUR: 'it returns false'. Refute it at one input. -/
def fnExactIsTokenTextWrong : ChangeSpec := { name := "fnExactIsTokenText", fn := fun _ => fun
  | [d] => { results := [.lit (.bool false)], args := [d] }
  | _ => none }
def FnExactIsTokenTextWrongFalsely : Prop := fnExactIsTokenTextRow.holds Try.pinned (OpenSpec.ofChange fnExactIsTokenTextWrong)

/-- 'laws.FnExactReason': WHATEVER THE INPUT: true; the input reads as it did. -/
def fnExactReasonSpec : ChangeSpec := { name := "fnExactReason", fn := fun _ => fun
  | [d] => { results := [.lit (.bool true)], args := [d] }
  | _ => none }
def fnExactReasonRow : OpenClaim := { program := "ytdiogjldbhoiiaa", sum := "9c0ca23f3b886cbcce349dbdafc30dfa9250465c9457eca1d2841bfd9235312e", func := "loop.example/g01402/laws.FnExactReason", spec := "fnExactReason", apart := false }
def FnExactReasonSaid : Prop := fnExactReasonRow.holds Try.pinned (OpenSpec.ofChange fnExactReasonSpec)

/-- ITS FALSE NEIGHBOUR: 'it returns false'. Refute it at one input. -/
def fnExactReasonWrong : ChangeSpec := { name := "fnExactReason", fn := fun _ => fun
  | [d] => { results := [.lit (.bool false)], args := [d] }
  | _ => none }
def FnExactReasonWrongFalsely : Prop := fnExactReasonRow.holds Try.pinned (OpenSpec.ofChange fnExactReasonWrong)

/-- 'laws.FnExactReadVar': WHATEVER THE INPUT: true; the input reads as it did. -/
def fnExactReadVarSpec : ChangeSpec := { name := "fnExactReadVar", fn := fun _ => fun
  | [d] => { results := [.lit (.bool true)], args := [d] }
  | _ => none }
def fnExactReadVarRow : OpenClaim := { program := "ytdiogjldbhoiiaa", sum := "9c0ca23f3b886cbcce349dbdafc30dfa9250465c9457eca1d2841bfd9235312e", func := "loop.example/g01402/laws.FnExactReadVar", spec := "fnExactReadVar", apart := false }
def FnExactReadVarSaid : Prop := fnExactReadVarRow.holds Try.pinned (OpenSpec.ofChange fnExactReadVarSpec)

/-- ITS FALSE NEIGHBOUR: 'it returns false'. Refute it at one input. -/
def fnExactReadVarWrong : ChangeSpec := { name := "fnExactReadVar", fn := fun _ => fun
  | [d] => { results := [.lit (.bool false)], args := [d] }
  | _ => none }
def FnExactReadVarWrongFalsely : Prop := fnExactReadVarRow.holds Try.pinned (OpenSpec.ofChange fnExactReadVarWrong)

/- THE SECOND FORM. 'bulk': how many values and letters a reading holds, each counted each time it is reached (what is shared counts as often as it is met; a slice's spare places count too). A statement '..UptoSaid' is the law's where the arguments, and the package variables that the reading takes, are together of bulk at most 1048576: NARROWER than '..Said'. Prove '..Said' where nothing that the law and all that it calls make is longer than what came in: it says more and counts as full. Else prove '..UptoSaid'. A law counts once. -/
mutual
def uptoBulk {H : Type} : DataW H → Nat
  | .lit (.string bytes) => bytes.length + 1
  | .lit _ => 1
  | .nil => 1
  | .ptr d => uptoBulk d + 1
  | .slice elems spare => uptoBulkAll elems + uptoBulkAll spare + 1
  | .agg parts => uptoBulkAll parts + 1
  | .iface _ d => uptoBulk d + 1
  | .map entries => uptoBulkEntries entries + 1
  | .held _ => 1
def uptoBulkAll {H : Type} : List (DataW H) → Nat
  | [] => 0
  | d :: r => uptoBulk d + uptoBulkAll r
def uptoBulkEntries {H : Type} : List (Lit × DataW H) → Nat
  | [] => 0
  | x :: r => uptoBulkEntry x + uptoBulkEntries r
def uptoBulkEntry {H : Type} : Lit × DataW H → Nat
  | (.string bytes, d) => bytes.length + uptoBulk d + 1
  | (_, d) => uptoBulk d + 1
 end
def uptoSmall : (H : Type) → List (DataW H) → Bool := fun _ ds => decide (uptoBulkAll ds ≤ 1048576)
def OpenSpec.upto (s : _root_.Go.ChangeSpec) : _root_.Go.OpenSpec := { _root_.Go.OpenSpec.ofChange s with cond := some uptoSmall }

/-- 'laws.FnExactConstants', WHERE WHAT IT READS IS OF BULK AT MOST 1048576: true; the input reads as it did. -/
def fnExactConstantsUptoRow : OpenClaim := { program := "ytdiogjldbhoiiaa", sum := "9c0ca23f3b886cbcce349dbdafc30dfa9250465c9457eca1d2841bfd9235312e", func := "loop.example/g01402/laws.FnExactConstants", spec := "fnExactConstants", apart := false, narrowed := true }
def FnExactConstantsUptoSaid : Prop := fnExactConstantsUptoRow.holds Try.pinned (OpenSpec.upto fnExactConstantsSpec)

/-- 'laws.FnExactIsLeap', WHERE WHAT IT READS IS OF BULK AT MOST 1048576: true; the input reads as it did. -/
def fnExactIsLeapUptoRow : OpenClaim := { program := "ytdiogjldbhoiiaa", sum := "9c0ca23f3b886cbcce349dbdafc30dfa9250465c9457eca1d2841bfd9235312e", func := "loop.example/g01402/laws.FnExactIsLeap", spec := "fnExactIsLeap", apart := false, narrowed := true }
def FnExactIsLeapUptoSaid : Prop := fnExactIsLeapUptoRow.holds Try.pinned (OpenSpec.upto fnExactIsLeapSpec)

/-- 'laws.FnExactSatAdd', WHERE WHAT IT READS IS OF BULK AT MOST 1048576: true; the input reads as it did. -/
def fnExactSatAddUptoRow : OpenClaim := { program := "ytdiogjldbhoiiaa", sum := "9c0ca23f3b886cbcce349dbdafc30dfa9250465c9457eca1d2841bfd9235312e", func := "loop.example/g01402/laws.FnExactSatAdd", spec := "fnExactSatAdd", apart := false, narrowed := true }
def FnExactSatAddUptoSaid : Prop := fnExactSatAddUptoRow.holds Try.pinned (OpenSpec.upto fnExactSatAddSpec)

/-- 'laws.FnExactHex', WHERE WHAT IT READS IS OF BULK AT MOST 1048576: true; the input reads as it did. -/
def fnExactHexUptoRow : OpenClaim := { program := "ytdiogjldbhoiiaa", sum := "9c0ca23f3b886cbcce349dbdafc30dfa9250465c9457eca1d2841bfd9235312e", func := "loop.example/g01402/laws.FnExactHex", spec := "fnExactHex", apart := false, narrowed := true }
def FnExactHexUptoSaid : Prop := fnExactHexUptoRow.holds Try.pinned (OpenSpec.upto fnExactHexSpec)

/-- 'laws.FnExactLower', WHERE WHAT IT READS IS OF BULK AT MOST 1048576: true; the input reads as it did. -/
def fnExactLowerUptoRow : OpenClaim := { program := "ytdiogjldbhoiiaa", sum := "9c0ca23f3b886cbcce349dbdafc30dfa9250465c9457eca1d2841bfd9235312e", func := "loop.example/g01402/laws.FnExactLower", spec := "fnExactLower", apart := false, narrowed := true }
def FnExactLowerUptoSaid : Prop := fnExactLowerUptoRow.holds Try.pinned (OpenSpec.upto fnExactLowerSpec)

/-- 'laws.FnExactUriOk', WHERE WHAT IT READS IS OF BULK AT MOST 1048576: true; the input reads as it did. -/
def fnExactUriOkUptoRow : OpenClaim := { program := "ytdiogjldbhoiiaa", sum := "9c0ca23f3b886cbcce349dbdafc30dfa9250465c9457eca1d2841bfd9235312e", func := "loop.example/g01402/laws.FnExactUriOk", spec := "fnExactUriOk", apart := false, narrowed := true }
def FnExactUriOkUptoSaid : Prop := fnExactUriOkUptoRow.holds Try.pinned (OpenSpec.upto fnExactUriOkSpec)

/-- 'laws.FnExactReadFixed', WHERE WHAT IT READS IS OF BULK AT MOST 1048576: true; the input reads as it did. -/
def fnExactReadFixedUptoRow : OpenClaim := { program := "ytdiogjldbhoiiaa", sum := "9c0ca23f3b886cbcce349dbdafc30dfa9250465c9457eca1d2841bfd9235312e", func := "loop.example/g01402/laws.FnExactReadFixed", spec := "fnExactReadFixed", apart := false, narrowed := true }
def FnExactReadFixedUptoSaid : Prop := fnExactReadFixedUptoRow.holds Try.pinned (OpenSpec.upto fnExactReadFixedSpec)

/-- 'laws.FnExactVar', WHERE WHAT IT READS IS OF BULK AT MOST 1048576: true; the input reads as it did. -/
def fnExactVarUptoRow : OpenClaim := { program := "ytdiogjldbhoiiaa", sum := "9c0ca23f3b886cbcce349dbdafc30dfa9250465c9457eca1d2841bfd9235312e", func := "loop.example/g01402/laws.FnExactVar", spec := "fnExactVar", apart := false, narrowed := true }
def FnExactVarUptoSaid : Prop := fnExactVarUptoRow.holds Try.pinned (OpenSpec.upto fnExactVarSpec)

/-- 'laws.FnExactFixed', WHERE WHAT IT READS IS OF BULK AT MOST 1048576: true; the input reads as it did. -/
def fnExactFixedUptoRow : OpenClaim := { program := "ytdiogjldbhoiiaa", sum := "9c0ca23f3b886cbcce349dbdafc30dfa9250465c9457eca1d2841bfd9235312e", func := "loop.example/g01402/laws.FnExactFixed", spec := "fnExactFixed", apart := false, narrowed := true }
def FnExactFixedUptoSaid : Prop := fnExactFixedUptoRow.holds Try.pinned (OpenSpec.upto fnExactFixedSpec)

/-- 'laws.FnExactIsTokenText', WHERE WHAT IT READS IS OF BULK AT MOST 1048576: true; the input reads as it did. -/
def fnExactIsTokenTextUptoRow : OpenClaim := { program := "ytdiogjldbhoiiaa", sum := "9c0ca23f3b886cbcce349dbdafc30dfa9250465c9457eca1d2841bfd9235312e", func := "loop.example/g01402/laws.FnExactIsTokenText", spec := "fnExactIsTokenText", inPlace := ["internal/bytealg.IndexByteString"], apart := false, narrowed := true }
def FnExactIsTokenTextUptoSaid : Prop := fnExactIsTokenTextUptoRow.holds Try.pinned (OpenSpec.upto fnExactIsTokenTextSpec)

/-- 'laws.FnExactReason', WHERE WHAT IT READS IS OF BULK AT MOST 1048576: true; the input reads as it did. -/
def fnExactReasonUptoRow : OpenClaim := { program := "ytdiogjldbhoiiaa", sum := "9c0ca23f3b886cbcce349dbdafc30dfa9250465c9457eca1d2841bfd9235312e", func := "loop.example/g01402/laws.FnExactReason", spec := "fnExactReason", apart := false, narrowed := true }
def FnExactReasonUptoSaid : Prop := fnExactReasonUptoRow.holds Try.pinned (OpenSpec.upto fnExactReasonSpec)

/-- 'laws.FnExactReadVar', WHERE WHAT IT READS IS OF BULK AT MOST 1048576: true; the input reads as it did. -/
def fnExactReadVarUptoRow : OpenClaim := { program := "ytdiogjldbhoiiaa", sum := "9c0ca23f3b886cbcce349dbdafc30dfa9250465c9457eca1d2841bfd9235312e", func := "loop.example/g01402/laws.FnExactReadVar", spec := "fnExactReadVar", apart := false, narrowed := true }
def FnExactReadVarUptoSaid : Prop := fnExactReadVarUptoRow.holds Try.pinned (OpenSpec.upto fnExactReadVarSpec)

end Rows
end Go.Proofs.Ytdiogjldbhoiiaa
