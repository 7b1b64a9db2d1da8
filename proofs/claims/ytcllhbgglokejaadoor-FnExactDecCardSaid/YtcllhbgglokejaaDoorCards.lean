/-
  DERIVED. GIVEN WITH THE SEED: THE CARDS: each row of YtcllhbgglokejaaDoorRows.lean that lists a variable, with what it lists TIED to the program's text (the seventh form; the later family's looks); each row that meets fmt, with fmt's text TOLD by the authors' own Lean function (tested against real Go, not proved from fmt's source: count such statements apart). THE CARD IS WHAT COUNTS. Prove the row's statement (the work); the ties are given (YtcllhbgglokejaaDoorTie.lean); close each card by the builder's one call (the guide's Derived/Test/ToyasCard.lean, 'card_holds'). Laid BY PROGRAM, IN A SANDBOX (cutbox-door.mjs). By AI agents, Wed Nov 11 2026. No macro, syntax, notation, axiom, sorry.
-/
import Derived.Test.YtcllhbgglokejaaDoorRows
import GoSem.ClaimSeven
namespace Go.Proofs.YtcllhbgglokejaaDoor
namespace Rows

/-- THE TIED CARD OF 'laws.FnExactHexNum'. -/
def fnExactHexNumCard : Claim7 := { stood := { row := fnExactHexNumRow, standIns := [], harness := (true, "4bd526a26e53da66e386f3a4cabde5e11b1e365e52dca60e025ad3fb26af5a62"), looks := false }, kinds := [], alts := [], laidByText := true, laidKinds := [.data, .data, .data], laidTests := true, laidLooks := .later }
def FnExactHexNumCardSaid : Prop := Claim7.holds Tryd.pinned (.plain (OpenSpec.ofChange fnExactHexNumSpec)) fnExactHexNumCard

/-- THE TIED CARD OF 'laws.FnExactDec'. -/
def fnExactDecCard : Claim7 := { stood := { row := fnExactDecRow, standIns := [], harness := (true, "4bd526a26e53da66e386f3a4cabde5e11b1e365e52dca60e025ad3fb26af5a62"), looks := false }, kinds := [], alts := [], laidByText := true, laidKinds := [.data, .data, .data], laidTests := true, laidLooks := .later }
def FnExactDecCardSaid : Prop := Claim7.holds Tryd.pinned (.plain (OpenSpec.ofChange fnExactDecSpec)) fnExactDecCard

/-- THE TIED CARD OF 'laws.FnExactTrim'. -/
def fnExactTrimCard : Claim7 := { stood := { row := fnExactTrimRow, standIns := [], harness := (true, "4bd526a26e53da66e386f3a4cabde5e11b1e365e52dca60e025ad3fb26af5a62"), looks := false }, kinds := [], alts := [], laidByText := true, laidKinds := [.data, .pinned], laidTests := true, laidLooks := .later }
def FnExactTrimCardSaid : Prop := Claim7.holds Tryd.pinned (.plain (OpenSpec.ofChange fnExactTrimSpec)) fnExactTrimCard

/-- THE SECOND FORM's CARD OF 'laws.FnExactHexNum'. -/
def fnExactHexNumUptoCard : Claim7 := { stood := { row := fnExactHexNumUptoRow, standIns := [], harness := (true, "4bd526a26e53da66e386f3a4cabde5e11b1e365e52dca60e025ad3fb26af5a62"), looks := false }, kinds := [], alts := [], laidByText := true, laidKinds := [.data, .data, .data], laidTests := true, laidLooks := .later }
def FnExactHexNumUptoCardSaid : Prop := Claim7.holds Tryd.pinned (.plain (OpenSpec.upto fnExactHexNumSpec)) fnExactHexNumUptoCard

/-- THE SECOND FORM's CARD OF 'laws.FnExactDec'. -/
def fnExactDecUptoCard : Claim7 := { stood := { row := fnExactDecUptoRow, standIns := [], harness := (true, "4bd526a26e53da66e386f3a4cabde5e11b1e365e52dca60e025ad3fb26af5a62"), looks := false }, kinds := [], alts := [], laidByText := true, laidKinds := [.data, .data, .data], laidTests := true, laidLooks := .later }
def FnExactDecUptoCardSaid : Prop := Claim7.holds Tryd.pinned (.plain (OpenSpec.upto fnExactDecSpec)) fnExactDecUptoCard

/-- THE SECOND FORM's CARD OF 'laws.FnExactTrim'. -/
def fnExactTrimUptoCard : Claim7 := { stood := { row := fnExactTrimUptoRow, standIns := [], harness := (true, "4bd526a26e53da66e386f3a4cabde5e11b1e365e52dca60e025ad3fb26af5a62"), looks := false }, kinds := [], alts := [], laidByText := true, laidKinds := [.data, .pinned], laidTests := true, laidLooks := .later }
def FnExactTrimUptoCardSaid : Prop := Claim7.holds Tryd.pinned (.plain (OpenSpec.upto fnExactTrimSpec)) fnExactTrimUptoCard
end Rows
end Go.Proofs.YtcllhbgglokejaaDoor
