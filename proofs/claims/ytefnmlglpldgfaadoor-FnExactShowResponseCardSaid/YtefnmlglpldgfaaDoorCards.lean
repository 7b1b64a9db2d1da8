/-
  DERIVED. GIVEN WITH THE SEED: THE CARDS: each row of YtefnmlglpldgfaaDoorRows.lean that lists a variable, with what it lists TIED to the program's text (the seventh form; the later family's looks); each row that meets fmt, with fmt's text TOLD by the authors' own Lean function (tested against real Go, not proved from fmt's source: count such statements apart). THE CARD IS WHAT COUNTS. Prove the row's statement (the work); the ties are given (YtefnmlglpldgfaaDoorTie.lean); close each card by the builder's one call (the guide's Derived/Test/ToyasCard.lean, 'card_holds'). Laid BY PROGRAM, IN A SANDBOX (cutbox-door.mjs). By AI agents, Wed Nov 11 2026. No macro, syntax, notation, axiom, sorry.
-/
import Derived.Test.YtefnmlglpldgfaaDoorRows
import GoSem.ClaimSeven
namespace Go.Proofs.YtefnmlglpldgfaaDoor
namespace Rows

/-- THE TIED CARD OF 'laws.FnExactHexNum'. -/
def fnExactHexNumCard : Claim7 := { stood := { row := fnExactHexNumRow, standIns := [], harness := (true, "bef291284c7eaaaad499bf54f7f457f5cd6796b547dfc9a8ef09e751db7f211b"), looks := true }, kinds := [], alts := [], laidByText := true, laidKinds := [.data, .data, .data], laidTests := true, laidLooks := .later }
def FnExactHexNumCardSaid : Prop := Claim7.holds Tryd.pinned (.plain (OpenSpec.ofChange fnExactHexNumSpec)) fnExactHexNumCard

/-- THE TIED CARD OF 'laws.FnExactShowDate'. -/
def fnExactShowDateCard : Claim7 := { stood := { row := fnExactShowDateRow, standIns := [], harness := (true, "bef291284c7eaaaad499bf54f7f457f5cd6796b547dfc9a8ef09e751db7f211b"), looks := true }, kinds := [], alts := [], laidByText := true, laidKinds := [.data, .data, .data], laidTests := true, laidLooks := .later }
def FnExactShowDateCardSaid : Prop := Claim7.holds Tryd.pinned (.plain (OpenSpec.ofChange fnExactShowDateSpec)) fnExactShowDateCard

/-- THE TIED CARD OF 'laws.FnExactChunk'. -/
def fnExactChunkCard : Claim7 := { stood := { row := fnExactChunkRow, standIns := [], harness := (true, "bef291284c7eaaaad499bf54f7f457f5cd6796b547dfc9a8ef09e751db7f211b"), looks := true }, kinds := [], alts := [], laidByText := true, laidKinds := [.data, .data, .data], laidTests := true, laidLooks := .later }
def FnExactChunkCardSaid : Prop := Claim7.holds Tryd.pinned (.plain (OpenSpec.ofChange fnExactChunkSpec)) fnExactChunkCard

/-- THE TIED CARD OF 'laws.FnExactReadDec'. -/
def fnExactReadDecCard : Claim7 := { stood := { row := fnExactReadDecRow, standIns := [], harness := (true, "bef291284c7eaaaad499bf54f7f457f5cd6796b547dfc9a8ef09e751db7f211b"), looks := true }, kinds := [], alts := [], laidByText := true, laidKinds := [.data, .data, .data, .sentinel, .sentinel], laidTests := true, laidLooks := .later }
def FnExactReadDecCardSaid : Prop := Claim7.holds Tryd.pinned (.plain (OpenSpec.ofChange fnExactReadDecSpec)) fnExactReadDecCard

/-- THE TIED CARD OF 'laws.FnExactCcHas'. -/
def fnExactCcHasCard : Claim7 := { stood := { row := fnExactCcHasRow, standIns := [], harness := (true, "bef291284c7eaaaad499bf54f7f457f5cd6796b547dfc9a8ef09e751db7f211b"), looks := true }, kinds := [], alts := [], laidByText := true, laidKinds := [.data, .pinned], laidTests := true, laidLooks := .later }
def FnExactCcHasCardSaid : Prop := Claim7.holds Tryd.pinned (.plain (OpenSpec.ofChange fnExactCcHasSpec)) fnExactCcHasCard

/-- THE TIED CARD OF 'laws.FnExactDirectives'. -/
def fnExactDirectivesCard : Claim7 := { stood := { row := fnExactDirectivesRow, standIns := [], harness := (true, "bef291284c7eaaaad499bf54f7f457f5cd6796b547dfc9a8ef09e751db7f211b"), looks := true }, kinds := [], alts := [], laidByText := true, laidKinds := [.data, .pinned], laidTests := true, laidLooks := .later }
def FnExactDirectivesCardSaid : Prop := Claim7.holds Tryd.pinned (.plain (OpenSpec.ofChange fnExactDirectivesSpec)) fnExactDirectivesCard

/-- THE TIED CARD OF 'laws.FnExactReadDate'. -/
def fnExactReadDateCard : Claim7 := { stood := { row := fnExactReadDateRow, standIns := [], harness := (true, "bef291284c7eaaaad499bf54f7f457f5cd6796b547dfc9a8ef09e751db7f211b"), looks := true }, kinds := [], alts := [], laidByText := true, laidKinds := [.data, .data, .data, .data, .sentinel, .sentinel, .pinned], laidTests := true, laidLooks := .later }
def FnExactReadDateCardSaid : Prop := Claim7.holds Tryd.pinned (.plain (OpenSpec.ofChange fnExactReadDateSpec)) fnExactReadDateCard

/-- THE TIED CARD OF 'laws.FnExactShowRequest'. -/
def fnExactShowRequestCard : Claim7 := { stood := { row := fnExactShowRequestRow, standIns := [], harness := (true, "bef291284c7eaaaad499bf54f7f457f5cd6796b547dfc9a8ef09e751db7f211b"), looks := true }, kinds := [], alts := [], laidByText := true, laidKinds := [.data, .data, .data, .data, .pinned], laidTests := true, laidLooks := .later }
def FnExactShowRequestCardSaid : Prop := Claim7.holds Tryd.pinned (.plain (OpenSpec.ofChange fnExactShowRequestSpec)) fnExactShowRequestCard

/-- THE TIED CARD OF 'laws.FnExactShowResponse'. -/
def fnExactShowResponseCard : Claim7 := { stood := { row := fnExactShowResponseRow, standIns := [], harness := (true, "bef291284c7eaaaad499bf54f7f457f5cd6796b547dfc9a8ef09e751db7f211b"), looks := true }, kinds := [], alts := [], laidByText := true, laidKinds := [.data, .data, .data, .data, .pinned], laidTests := true, laidLooks := .later }
def FnExactShowResponseCardSaid : Prop := Claim7.holds Tryd.pinned (.plain (OpenSpec.ofChange fnExactShowResponseSpec)) fnExactShowResponseCard

/-- THE TIED CARD OF 'laws.FnExactDateOf'. -/
def fnExactDateOfCard : Claim7 := { stood := { row := fnExactDateOfRow, standIns := [], harness := (true, "bef291284c7eaaaad499bf54f7f457f5cd6796b547dfc9a8ef09e751db7f211b"), looks := true }, kinds := [], alts := [], laidByText := true, laidKinds := [.data, .data, .data, .data, .sentinel, .sentinel, .pinned], laidTests := true, laidLooks := .later }
def FnExactDateOfCardSaid : Prop := Claim7.holds Tryd.pinned (.plain (OpenSpec.ofChange fnExactDateOfSpec)) fnExactDateOfCard

/-- THE TIED CARD OF 'laws.FnExactBodyOf'. -/
def fnExactBodyOfCard : Claim7 := { stood := { row := fnExactBodyOfRow, standIns := [], harness := (true, "bef291284c7eaaaad499bf54f7f457f5cd6796b547dfc9a8ef09e751db7f211b"), looks := true }, kinds := [], alts := [], laidByText := true, laidKinds := [.data, .data, .data, .data, .sentinel, .sentinel, .pinned], laidTests := true, laidLooks := .later }
def FnExactBodyOfCardSaid : Prop := Claim7.holds Tryd.pinned (.plain (OpenSpec.ofChange fnExactBodyOfSpec)) fnExactBodyOfCard

/-- THE SECOND FORM's CARD OF 'laws.FnExactHexNum'. -/
def fnExactHexNumUptoCard : Claim7 := { stood := { row := fnExactHexNumUptoRow, standIns := [], harness := (true, "bef291284c7eaaaad499bf54f7f457f5cd6796b547dfc9a8ef09e751db7f211b"), looks := true }, kinds := [], alts := [], laidByText := true, laidKinds := [.data, .data, .data], laidTests := true, laidLooks := .later }
def FnExactHexNumUptoCardSaid : Prop := Claim7.holds Tryd.pinned (.plain (OpenSpec.upto fnExactHexNumSpec)) fnExactHexNumUptoCard

/-- THE SECOND FORM's CARD OF 'laws.FnExactShowDate'. -/
def fnExactShowDateUptoCard : Claim7 := { stood := { row := fnExactShowDateUptoRow, standIns := [], harness := (true, "bef291284c7eaaaad499bf54f7f457f5cd6796b547dfc9a8ef09e751db7f211b"), looks := true }, kinds := [], alts := [], laidByText := true, laidKinds := [.data, .data, .data], laidTests := true, laidLooks := .later }
def FnExactShowDateUptoCardSaid : Prop := Claim7.holds Tryd.pinned (.plain (OpenSpec.upto fnExactShowDateSpec)) fnExactShowDateUptoCard

/-- THE SECOND FORM's CARD OF 'laws.FnExactChunk'. -/
def fnExactChunkUptoCard : Claim7 := { stood := { row := fnExactChunkUptoRow, standIns := [], harness := (true, "bef291284c7eaaaad499bf54f7f457f5cd6796b547dfc9a8ef09e751db7f211b"), looks := true }, kinds := [], alts := [], laidByText := true, laidKinds := [.data, .data, .data], laidTests := true, laidLooks := .later }
def FnExactChunkUptoCardSaid : Prop := Claim7.holds Tryd.pinned (.plain (OpenSpec.upto fnExactChunkSpec)) fnExactChunkUptoCard

/-- THE SECOND FORM's CARD OF 'laws.FnExactReadDec'. -/
def fnExactReadDecUptoCard : Claim7 := { stood := { row := fnExactReadDecUptoRow, standIns := [], harness := (true, "bef291284c7eaaaad499bf54f7f457f5cd6796b547dfc9a8ef09e751db7f211b"), looks := true }, kinds := [], alts := [], laidByText := true, laidKinds := [.data, .data, .data, .sentinel, .sentinel], laidTests := true, laidLooks := .later }
def FnExactReadDecUptoCardSaid : Prop := Claim7.holds Tryd.pinned (.plain (OpenSpec.upto fnExactReadDecSpec)) fnExactReadDecUptoCard

/-- THE SECOND FORM's CARD OF 'laws.FnExactCcHas'. -/
def fnExactCcHasUptoCard : Claim7 := { stood := { row := fnExactCcHasUptoRow, standIns := [], harness := (true, "bef291284c7eaaaad499bf54f7f457f5cd6796b547dfc9a8ef09e751db7f211b"), looks := true }, kinds := [], alts := [], laidByText := true, laidKinds := [.data, .pinned], laidTests := true, laidLooks := .later }
def FnExactCcHasUptoCardSaid : Prop := Claim7.holds Tryd.pinned (.plain (OpenSpec.upto fnExactCcHasSpec)) fnExactCcHasUptoCard

/-- THE SECOND FORM's CARD OF 'laws.FnExactDirectives'. -/
def fnExactDirectivesUptoCard : Claim7 := { stood := { row := fnExactDirectivesUptoRow, standIns := [], harness := (true, "bef291284c7eaaaad499bf54f7f457f5cd6796b547dfc9a8ef09e751db7f211b"), looks := true }, kinds := [], alts := [], laidByText := true, laidKinds := [.data, .pinned], laidTests := true, laidLooks := .later }
def FnExactDirectivesUptoCardSaid : Prop := Claim7.holds Tryd.pinned (.plain (OpenSpec.upto fnExactDirectivesSpec)) fnExactDirectivesUptoCard

/-- THE SECOND FORM's CARD OF 'laws.FnExactReadDate'. -/
def fnExactReadDateUptoCard : Claim7 := { stood := { row := fnExactReadDateUptoRow, standIns := [], harness := (true, "bef291284c7eaaaad499bf54f7f457f5cd6796b547dfc9a8ef09e751db7f211b"), looks := true }, kinds := [], alts := [], laidByText := true, laidKinds := [.data, .data, .data, .data, .sentinel, .sentinel, .pinned], laidTests := true, laidLooks := .later }
def FnExactReadDateUptoCardSaid : Prop := Claim7.holds Tryd.pinned (.plain (OpenSpec.upto fnExactReadDateSpec)) fnExactReadDateUptoCard

/-- THE SECOND FORM's CARD OF 'laws.FnExactShowRequest'. -/
def fnExactShowRequestUptoCard : Claim7 := { stood := { row := fnExactShowRequestUptoRow, standIns := [], harness := (true, "bef291284c7eaaaad499bf54f7f457f5cd6796b547dfc9a8ef09e751db7f211b"), looks := true }, kinds := [], alts := [], laidByText := true, laidKinds := [.data, .data, .data, .data, .pinned], laidTests := true, laidLooks := .later }
def FnExactShowRequestUptoCardSaid : Prop := Claim7.holds Tryd.pinned (.plain (OpenSpec.upto fnExactShowRequestSpec)) fnExactShowRequestUptoCard

/-- THE SECOND FORM's CARD OF 'laws.FnExactShowResponse'. -/
def fnExactShowResponseUptoCard : Claim7 := { stood := { row := fnExactShowResponseUptoRow, standIns := [], harness := (true, "bef291284c7eaaaad499bf54f7f457f5cd6796b547dfc9a8ef09e751db7f211b"), looks := true }, kinds := [], alts := [], laidByText := true, laidKinds := [.data, .data, .data, .data, .pinned], laidTests := true, laidLooks := .later }
def FnExactShowResponseUptoCardSaid : Prop := Claim7.holds Tryd.pinned (.plain (OpenSpec.upto fnExactShowResponseSpec)) fnExactShowResponseUptoCard

/-- THE SECOND FORM's CARD OF 'laws.FnExactDateOf'. -/
def fnExactDateOfUptoCard : Claim7 := { stood := { row := fnExactDateOfUptoRow, standIns := [], harness := (true, "bef291284c7eaaaad499bf54f7f457f5cd6796b547dfc9a8ef09e751db7f211b"), looks := true }, kinds := [], alts := [], laidByText := true, laidKinds := [.data, .data, .data, .data, .sentinel, .sentinel, .pinned], laidTests := true, laidLooks := .later }
def FnExactDateOfUptoCardSaid : Prop := Claim7.holds Tryd.pinned (.plain (OpenSpec.upto fnExactDateOfSpec)) fnExactDateOfUptoCard

/-- THE SECOND FORM's CARD OF 'laws.FnExactBodyOf'. -/
def fnExactBodyOfUptoCard : Claim7 := { stood := { row := fnExactBodyOfUptoRow, standIns := [], harness := (true, "bef291284c7eaaaad499bf54f7f457f5cd6796b547dfc9a8ef09e751db7f211b"), looks := true }, kinds := [], alts := [], laidByText := true, laidKinds := [.data, .data, .data, .data, .sentinel, .sentinel, .pinned], laidTests := true, laidLooks := .later }
def FnExactBodyOfUptoCardSaid : Prop := Claim7.holds Tryd.pinned (.plain (OpenSpec.upto fnExactBodyOfSpec)) fnExactBodyOfUptoCard
end Rows
end Go.Proofs.YtefnmlglpldgfaaDoor
