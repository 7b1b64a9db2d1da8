/-
  DERIVED. GIVEN WITH THE SEED: THE CARDS: each row of YthloaefcmjpfaaaDoorRows.lean that lists a variable, with what it lists TIED to the program's text (the seventh form; the later family's looks); each row that meets fmt, with fmt's text TOLD by the authors' own Lean function (tested against real Go, not proved from fmt's source: count such statements apart). THE CARD IS WHAT COUNTS. Prove the row's statement (the work); the ties are given (YthloaefcmjpfaaaDoorTie.lean); close each card by the builder's one call (the guide's Derived/Test/ToyasCard.lean, 'card_holds'). Laid BY PROGRAM, IN A SANDBOX (cutbox-door.mjs). By AI agents, Wed Nov 11 2026. No macro, syntax, notation, axiom, sorry.
-/
import Derived.Test.YthloaefcmjpfaaaDoorRows
import GoSem.ClaimSeven
namespace Go.Proofs.YthloaefcmjpfaaaDoor
namespace Rows

/-- THE TIED CARD OF 'laws.FnExactIsValueText'. -/
def fnExactIsValueTextCard : Claim7 := { stood := { row := fnExactIsValueTextRow, standIns := [], harness := (true, "6b7ae02341cb0fc7b154c2999d62c0becfe666552979f8135c02e4b9edc9996c"), looks := true }, kinds := [], alts := [], laidByText := true, laidKinds := [.data, .pinned], laidTests := true, laidLooks := .later }
def FnExactIsValueTextCardSaid : Prop := Claim7.holds Tryd.pinned (.plain (OpenSpec.ofChange fnExactIsValueTextSpec)) fnExactIsValueTextCard

/-- THE TIED CARD OF 'laws.FnExactShowDate'. -/
def fnExactShowDateCard : Claim7 := { stood := { row := fnExactShowDateRow, standIns := [], harness := (true, "6b7ae02341cb0fc7b154c2999d62c0becfe666552979f8135c02e4b9edc9996c"), looks := true }, kinds := [], alts := [], laidByText := true, laidKinds := [.data, .data, .data], laidTests := true, laidLooks := .later }
def FnExactShowDateCardSaid : Prop := Claim7.holds Tryd.pinned (.plain (OpenSpec.ofChange fnExactShowDateSpec)) fnExactShowDateCard

/-- THE TIED CARD OF 'laws.FnExactChunk'. -/
def fnExactChunkCard : Claim7 := { stood := { row := fnExactChunkRow, standIns := [], harness := (true, "6b7ae02341cb0fc7b154c2999d62c0becfe666552979f8135c02e4b9edc9996c"), looks := true }, kinds := [], alts := [], laidByText := true, laidKinds := [.data, .data, .data], laidTests := true, laidLooks := .later }
def FnExactChunkCardSaid : Prop := Claim7.holds Tryd.pinned (.plain (OpenSpec.ofChange fnExactChunkSpec)) fnExactChunkCard

/-- THE TIED CARD OF 'laws.FnExactSplitList'. -/
def fnExactSplitListCard : Claim7 := { stood := { row := fnExactSplitListRow, standIns := [], harness := (true, "6b7ae02341cb0fc7b154c2999d62c0becfe666552979f8135c02e4b9edc9996c"), looks := true }, kinds := [], alts := [], laidByText := true, laidKinds := [.data, .pinned], laidTests := true, laidLooks := .later }
def FnExactSplitListCardSaid : Prop := Claim7.holds Tryd.pinned (.plain (OpenSpec.ofChange fnExactSplitListSpec)) fnExactSplitListCard

/-- THE TIED CARD OF 'laws.FnExactFieldsOk'. -/
def fnExactFieldsOkCard : Claim7 := { stood := { row := fnExactFieldsOkRow, standIns := [], harness := (true, "6b7ae02341cb0fc7b154c2999d62c0becfe666552979f8135c02e4b9edc9996c"), looks := true }, kinds := [], alts := [], laidByText := true, laidKinds := [.data, .pinned], laidTests := true, laidLooks := .later }
def FnExactFieldsOkCardSaid : Prop := Claim7.holds Tryd.pinned (.plain (OpenSpec.ofChange fnExactFieldsOkSpec)) fnExactFieldsOkCard

/-- THE TIED CARD OF 'laws.FnExactShowFields'. -/
def fnExactShowFieldsCard : Claim7 := { stood := { row := fnExactShowFieldsRow, standIns := [], harness := (true, "6b7ae02341cb0fc7b154c2999d62c0becfe666552979f8135c02e4b9edc9996c"), looks := true }, kinds := [], alts := [], laidByText := true, laidKinds := [.data, .pinned], laidTests := true, laidLooks := .later }
def FnExactShowFieldsCardSaid : Prop := Claim7.holds Tryd.pinned (.plain (OpenSpec.ofChange fnExactShowFieldsSpec)) fnExactShowFieldsCard

/-- THE TIED CARD OF 'laws.FnExactReadDec'. -/
def fnExactReadDecCard : Claim7 := { stood := { row := fnExactReadDecRow, standIns := [], harness := (true, "6b7ae02341cb0fc7b154c2999d62c0becfe666552979f8135c02e4b9edc9996c"), looks := true }, kinds := [], alts := [], laidByText := true, laidKinds := [.data, .data, .data, .sentinel, .sentinel], laidTests := true, laidLooks := .later }
def FnExactReadDecCardSaid : Prop := Claim7.holds Tryd.pinned (.plain (OpenSpec.ofChange fnExactReadDecSpec)) fnExactReadDecCard

/-- THE TIED CARD OF 'laws.FnExactReadFields'. -/
def fnExactReadFieldsCard : Claim7 := { stood := { row := fnExactReadFieldsRow, standIns := [], harness := (true, "6b7ae02341cb0fc7b154c2999d62c0becfe666552979f8135c02e4b9edc9996c"), looks := true }, kinds := [], alts := [], laidByText := true, laidKinds := [.data, .pinned], laidTests := true, laidLooks := .later }
def FnExactReadFieldsCardSaid : Prop := Claim7.holds Tryd.pinned (.plain (OpenSpec.ofChange fnExactReadFieldsSpec)) fnExactReadFieldsCard

/-- THE TIED CARD OF 'laws.FnExactResponseOk'. -/
def fnExactResponseOkCard : Claim7 := { stood := { row := fnExactResponseOkRow, standIns := [], harness := (true, "6b7ae02341cb0fc7b154c2999d62c0becfe666552979f8135c02e4b9edc9996c"), looks := true }, kinds := [], alts := [], laidByText := true, laidKinds := [.data, .pinned], laidTests := true, laidLooks := .later }
def FnExactResponseOkCardSaid : Prop := Claim7.holds Tryd.pinned (.plain (OpenSpec.ofChange fnExactResponseOkSpec)) fnExactResponseOkCard

/-- THE TIED CARD OF 'laws.FnExactRequestOk'. -/
def fnExactRequestOkCard : Claim7 := { stood := { row := fnExactRequestOkRow, standIns := [], harness := (true, "6b7ae02341cb0fc7b154c2999d62c0becfe666552979f8135c02e4b9edc9996c"), looks := true }, kinds := [], alts := [], laidByText := true, laidKinds := [.data, .pinned], laidTests := true, laidLooks := .later }
def FnExactRequestOkCardSaid : Prop := Claim7.holds Tryd.pinned (.plain (OpenSpec.ofChange fnExactRequestOkSpec)) fnExactRequestOkCard

/-- THE TIED CARD OF 'laws.FnExactCcHas'. -/
def fnExactCcHasCard : Claim7 := { stood := { row := fnExactCcHasRow, standIns := [], harness := (true, "6b7ae02341cb0fc7b154c2999d62c0becfe666552979f8135c02e4b9edc9996c"), looks := true }, kinds := [], alts := [], laidByText := true, laidKinds := [.data, .pinned], laidTests := true, laidLooks := .later }
def FnExactCcHasCardSaid : Prop := Claim7.holds Tryd.pinned (.plain (OpenSpec.ofChange fnExactCcHasSpec)) fnExactCcHasCard

/-- THE TIED CARD OF 'laws.FnExactSeconds'. -/
def fnExactSecondsCard : Claim7 := { stood := { row := fnExactSecondsRow, standIns := [], harness := (true, "6b7ae02341cb0fc7b154c2999d62c0becfe666552979f8135c02e4b9edc9996c"), looks := true }, kinds := [], alts := [], laidByText := true, laidKinds := [.data, .data, .data, .data, .sentinel, .sentinel, .pinned], laidTests := true, laidLooks := .later }
def FnExactSecondsCardSaid : Prop := Claim7.holds Tryd.pinned (.plain (OpenSpec.ofChange fnExactSecondsSpec)) fnExactSecondsCard

/-- THE SECOND FORM's CARD OF 'laws.FnExactIsValueText'. -/
def fnExactIsValueTextUptoCard : Claim7 := { stood := { row := fnExactIsValueTextUptoRow, standIns := [], harness := (true, "6b7ae02341cb0fc7b154c2999d62c0becfe666552979f8135c02e4b9edc9996c"), looks := true }, kinds := [], alts := [], laidByText := true, laidKinds := [.data, .pinned], laidTests := true, laidLooks := .later }
def FnExactIsValueTextUptoCardSaid : Prop := Claim7.holds Tryd.pinned (.plain (OpenSpec.upto fnExactIsValueTextSpec)) fnExactIsValueTextUptoCard

/-- THE SECOND FORM's CARD OF 'laws.FnExactShowDate'. -/
def fnExactShowDateUptoCard : Claim7 := { stood := { row := fnExactShowDateUptoRow, standIns := [], harness := (true, "6b7ae02341cb0fc7b154c2999d62c0becfe666552979f8135c02e4b9edc9996c"), looks := true }, kinds := [], alts := [], laidByText := true, laidKinds := [.data, .data, .data], laidTests := true, laidLooks := .later }
def FnExactShowDateUptoCardSaid : Prop := Claim7.holds Tryd.pinned (.plain (OpenSpec.upto fnExactShowDateSpec)) fnExactShowDateUptoCard

/-- THE SECOND FORM's CARD OF 'laws.FnExactChunk'. -/
def fnExactChunkUptoCard : Claim7 := { stood := { row := fnExactChunkUptoRow, standIns := [], harness := (true, "6b7ae02341cb0fc7b154c2999d62c0becfe666552979f8135c02e4b9edc9996c"), looks := true }, kinds := [], alts := [], laidByText := true, laidKinds := [.data, .data, .data], laidTests := true, laidLooks := .later }
def FnExactChunkUptoCardSaid : Prop := Claim7.holds Tryd.pinned (.plain (OpenSpec.upto fnExactChunkSpec)) fnExactChunkUptoCard

/-- THE SECOND FORM's CARD OF 'laws.FnExactSplitList'. -/
def fnExactSplitListUptoCard : Claim7 := { stood := { row := fnExactSplitListUptoRow, standIns := [], harness := (true, "6b7ae02341cb0fc7b154c2999d62c0becfe666552979f8135c02e4b9edc9996c"), looks := true }, kinds := [], alts := [], laidByText := true, laidKinds := [.data, .pinned], laidTests := true, laidLooks := .later }
def FnExactSplitListUptoCardSaid : Prop := Claim7.holds Tryd.pinned (.plain (OpenSpec.upto fnExactSplitListSpec)) fnExactSplitListUptoCard

/-- THE SECOND FORM's CARD OF 'laws.FnExactFieldsOk'. -/
def fnExactFieldsOkUptoCard : Claim7 := { stood := { row := fnExactFieldsOkUptoRow, standIns := [], harness := (true, "6b7ae02341cb0fc7b154c2999d62c0becfe666552979f8135c02e4b9edc9996c"), looks := true }, kinds := [], alts := [], laidByText := true, laidKinds := [.data, .pinned], laidTests := true, laidLooks := .later }
def FnExactFieldsOkUptoCardSaid : Prop := Claim7.holds Tryd.pinned (.plain (OpenSpec.upto fnExactFieldsOkSpec)) fnExactFieldsOkUptoCard

/-- THE SECOND FORM's CARD OF 'laws.FnExactShowFields'. -/
def fnExactShowFieldsUptoCard : Claim7 := { stood := { row := fnExactShowFieldsUptoRow, standIns := [], harness := (true, "6b7ae02341cb0fc7b154c2999d62c0becfe666552979f8135c02e4b9edc9996c"), looks := true }, kinds := [], alts := [], laidByText := true, laidKinds := [.data, .pinned], laidTests := true, laidLooks := .later }
def FnExactShowFieldsUptoCardSaid : Prop := Claim7.holds Tryd.pinned (.plain (OpenSpec.upto fnExactShowFieldsSpec)) fnExactShowFieldsUptoCard

/-- THE SECOND FORM's CARD OF 'laws.FnExactReadDec'. -/
def fnExactReadDecUptoCard : Claim7 := { stood := { row := fnExactReadDecUptoRow, standIns := [], harness := (true, "6b7ae02341cb0fc7b154c2999d62c0becfe666552979f8135c02e4b9edc9996c"), looks := true }, kinds := [], alts := [], laidByText := true, laidKinds := [.data, .data, .data, .sentinel, .sentinel], laidTests := true, laidLooks := .later }
def FnExactReadDecUptoCardSaid : Prop := Claim7.holds Tryd.pinned (.plain (OpenSpec.upto fnExactReadDecSpec)) fnExactReadDecUptoCard

/-- THE SECOND FORM's CARD OF 'laws.FnExactReadFields'. -/
def fnExactReadFieldsUptoCard : Claim7 := { stood := { row := fnExactReadFieldsUptoRow, standIns := [], harness := (true, "6b7ae02341cb0fc7b154c2999d62c0becfe666552979f8135c02e4b9edc9996c"), looks := true }, kinds := [], alts := [], laidByText := true, laidKinds := [.data, .pinned], laidTests := true, laidLooks := .later }
def FnExactReadFieldsUptoCardSaid : Prop := Claim7.holds Tryd.pinned (.plain (OpenSpec.upto fnExactReadFieldsSpec)) fnExactReadFieldsUptoCard

/-- THE SECOND FORM's CARD OF 'laws.FnExactResponseOk'. -/
def fnExactResponseOkUptoCard : Claim7 := { stood := { row := fnExactResponseOkUptoRow, standIns := [], harness := (true, "6b7ae02341cb0fc7b154c2999d62c0becfe666552979f8135c02e4b9edc9996c"), looks := true }, kinds := [], alts := [], laidByText := true, laidKinds := [.data, .pinned], laidTests := true, laidLooks := .later }
def FnExactResponseOkUptoCardSaid : Prop := Claim7.holds Tryd.pinned (.plain (OpenSpec.upto fnExactResponseOkSpec)) fnExactResponseOkUptoCard

/-- THE SECOND FORM's CARD OF 'laws.FnExactRequestOk'. -/
def fnExactRequestOkUptoCard : Claim7 := { stood := { row := fnExactRequestOkUptoRow, standIns := [], harness := (true, "6b7ae02341cb0fc7b154c2999d62c0becfe666552979f8135c02e4b9edc9996c"), looks := true }, kinds := [], alts := [], laidByText := true, laidKinds := [.data, .pinned], laidTests := true, laidLooks := .later }
def FnExactRequestOkUptoCardSaid : Prop := Claim7.holds Tryd.pinned (.plain (OpenSpec.upto fnExactRequestOkSpec)) fnExactRequestOkUptoCard

/-- THE SECOND FORM's CARD OF 'laws.FnExactCcHas'. -/
def fnExactCcHasUptoCard : Claim7 := { stood := { row := fnExactCcHasUptoRow, standIns := [], harness := (true, "6b7ae02341cb0fc7b154c2999d62c0becfe666552979f8135c02e4b9edc9996c"), looks := true }, kinds := [], alts := [], laidByText := true, laidKinds := [.data, .pinned], laidTests := true, laidLooks := .later }
def FnExactCcHasUptoCardSaid : Prop := Claim7.holds Tryd.pinned (.plain (OpenSpec.upto fnExactCcHasSpec)) fnExactCcHasUptoCard

/-- THE SECOND FORM's CARD OF 'laws.FnExactSeconds'. -/
def fnExactSecondsUptoCard : Claim7 := { stood := { row := fnExactSecondsUptoRow, standIns := [], harness := (true, "6b7ae02341cb0fc7b154c2999d62c0becfe666552979f8135c02e4b9edc9996c"), looks := true }, kinds := [], alts := [], laidByText := true, laidKinds := [.data, .data, .data, .data, .sentinel, .sentinel, .pinned], laidTests := true, laidLooks := .later }
def FnExactSecondsUptoCardSaid : Prop := Claim7.holds Tryd.pinned (.plain (OpenSpec.upto fnExactSecondsSpec)) fnExactSecondsUptoCard
end Rows
end Go.Proofs.YthloaefcmjpfaaaDoor
