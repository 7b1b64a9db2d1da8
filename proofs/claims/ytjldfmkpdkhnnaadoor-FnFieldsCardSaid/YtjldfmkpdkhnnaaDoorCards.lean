/-
  DERIVED. GIVEN WITH THE SEED: THE CARDS: each row of YtjldfmkpdkhnnaaDoorRows.lean that lists a variable, with what it lists TIED to the program's text (the seventh form; the later family's looks); each row that meets fmt, with fmt's text TOLD by the authors' own Lean function (tested against real Go, not proved from fmt's source: count such statements apart). THE CARD IS WHAT COUNTS. Prove the row's statement (the work); the ties are given (YtjldfmkpdkhnnaaDoorTie.lean); close each card by the builder's one call (the guide's Derived/Test/ToyasCard.lean, 'card_holds'). Laid BY PROGRAM, IN A SANDBOX (cutbox-door.mjs). By AI agents, Wed Nov 11 2026. No macro, syntax, notation, axiom, sorry.
-/
import Derived.Test.YtjldfmkpdkhnnaaDoorRows
import GoSem.ClaimSeven
namespace Go.Proofs.YtjldfmkpdkhnnaaDoor
namespace Rows

/-- THE TIED CARD OF 'laws.FnExactCcSeconds'. -/
def fnExactCcSecondsCard : Claim7 := { stood := { row := fnExactCcSecondsRow, standIns := [], harness := (true, "5c28cef913f8efee3354e75ee969ebbc1eb5e9615f215be8a081b3d233c39807"), looks := true }, kinds := [], alts := [], laidByText := true, laidKinds := [.data, .data, .data, .data, .sentinel, .sentinel, .pinned], laidTests := true, laidLooks := .later }
def FnExactCcSecondsCardSaid : Prop := Claim7.holds Tryd.pinned (.plain (OpenSpec.ofChange fnExactCcSecondsSpec)) fnExactCcSecondsCard

/-- THE TIED CARD OF 'laws.FnNumbers'. -/
def fnNumbersCard : Claim7 := { stood := { row := fnNumbersRow, standIns := [], harness := (true, "5c28cef913f8efee3354e75ee969ebbc1eb5e9615f215be8a081b3d233c39807"), looks := true }, kinds := [], alts := [], laidByText := true, laidKinds := [.data, .data, .data, .sentinel, .sentinel], laidTests := true, laidLooks := .later }
def FnNumbersCardSaid : Prop := Claim7.holds Tryd.pinned (.plain (OpenSpec.ofChange fnNumbersSpec)) fnNumbersCard

/-- THE TIED CARD OF 'laws.FnFields'. -/
def fnFieldsCard : Claim7 := { stood := { row := fnFieldsRow, standIns := [], harness := (true, "5c28cef913f8efee3354e75ee969ebbc1eb5e9615f215be8a081b3d233c39807"), looks := true }, kinds := [], alts := [], laidByText := true, laidKinds := [.data, .pinned], laidTests := true, laidLooks := .later }
def FnFieldsCardSaid : Prop := Claim7.holds Tryd.pinned (.plain (OpenSpec.ofChange fnFieldsSpec)) fnFieldsCard

/-- THE TIED CARD OF 'laws.FnDates'. -/
def fnDatesCard : Claim7 := { stood := { row := fnDatesRow, standIns := [], harness := (true, "5c28cef913f8efee3354e75ee969ebbc1eb5e9615f215be8a081b3d233c39807"), looks := true }, kinds := [], alts := [], laidByText := true, laidKinds := [.data, .data, .data, .data, .sentinel, .sentinel, .pinned], laidTests := true, laidLooks := .later }
def FnDatesCardSaid : Prop := Claim7.holds Tryd.pinned (.plain (OpenSpec.ofChange fnDatesSpec)) fnDatesCard

/-- THE TIED CARD OF 'laws.FnBodies'. -/
def fnBodiesCard : Claim7 := { stood := { row := fnBodiesRow, standIns := [], harness := (true, "5c28cef913f8efee3354e75ee969ebbc1eb5e9615f215be8a081b3d233c39807"), looks := true }, kinds := [], alts := [], laidByText := true, laidKinds := [.data, .data, .data, .data, .sentinel, .sentinel, .pinned], laidTests := true, laidLooks := .later }
def FnBodiesCardSaid : Prop := Claim7.holds Tryd.pinned (.plain (OpenSpec.ofChange fnBodiesSpec)) fnBodiesCard

/-- THE SECOND FORM's CARD OF 'laws.FnExactCcSeconds'. -/
def fnExactCcSecondsUptoCard : Claim7 := { stood := { row := fnExactCcSecondsUptoRow, standIns := [], harness := (true, "5c28cef913f8efee3354e75ee969ebbc1eb5e9615f215be8a081b3d233c39807"), looks := true }, kinds := [], alts := [], laidByText := true, laidKinds := [.data, .data, .data, .data, .sentinel, .sentinel, .pinned], laidTests := true, laidLooks := .later }
def FnExactCcSecondsUptoCardSaid : Prop := Claim7.holds Tryd.pinned (.plain (OpenSpec.upto fnExactCcSecondsSpec)) fnExactCcSecondsUptoCard

/-- THE SECOND FORM's CARD OF 'laws.FnNumbers'. -/
def fnNumbersUptoCard : Claim7 := { stood := { row := fnNumbersUptoRow, standIns := [], harness := (true, "5c28cef913f8efee3354e75ee969ebbc1eb5e9615f215be8a081b3d233c39807"), looks := true }, kinds := [], alts := [], laidByText := true, laidKinds := [.data, .data, .data, .sentinel, .sentinel], laidTests := true, laidLooks := .later }
def FnNumbersUptoCardSaid : Prop := Claim7.holds Tryd.pinned (.plain (OpenSpec.upto fnNumbersSpec)) fnNumbersUptoCard

/-- THE SECOND FORM's CARD OF 'laws.FnFields'. -/
def fnFieldsUptoCard : Claim7 := { stood := { row := fnFieldsUptoRow, standIns := [], harness := (true, "5c28cef913f8efee3354e75ee969ebbc1eb5e9615f215be8a081b3d233c39807"), looks := true }, kinds := [], alts := [], laidByText := true, laidKinds := [.data, .pinned], laidTests := true, laidLooks := .later }
def FnFieldsUptoCardSaid : Prop := Claim7.holds Tryd.pinned (.plain (OpenSpec.upto fnFieldsSpec)) fnFieldsUptoCard

/-- THE SECOND FORM's CARD OF 'laws.FnDates'. -/
def fnDatesUptoCard : Claim7 := { stood := { row := fnDatesUptoRow, standIns := [], harness := (true, "5c28cef913f8efee3354e75ee969ebbc1eb5e9615f215be8a081b3d233c39807"), looks := true }, kinds := [], alts := [], laidByText := true, laidKinds := [.data, .data, .data, .data, .sentinel, .sentinel, .pinned], laidTests := true, laidLooks := .later }
def FnDatesUptoCardSaid : Prop := Claim7.holds Tryd.pinned (.plain (OpenSpec.upto fnDatesSpec)) fnDatesUptoCard

/-- THE SECOND FORM's CARD OF 'laws.FnBodies'. -/
def fnBodiesUptoCard : Claim7 := { stood := { row := fnBodiesUptoRow, standIns := [], harness := (true, "5c28cef913f8efee3354e75ee969ebbc1eb5e9615f215be8a081b3d233c39807"), looks := true }, kinds := [], alts := [], laidByText := true, laidKinds := [.data, .data, .data, .data, .sentinel, .sentinel, .pinned], laidTests := true, laidLooks := .later }
def FnBodiesUptoCardSaid : Prop := Claim7.holds Tryd.pinned (.plain (OpenSpec.upto fnBodiesSpec)) fnBodiesUptoCard
end Rows
end Go.Proofs.YtjldfmkpdkhnnaaDoor
