/-
  DERIVED. GIVEN WITH THE SEED: THE CARDS: each row of YtjldfmkpdkhnnaaGreatDoorRows.lean that lists a variable, with what it lists TIED to the program's text (the seventh form; the later family's looks); each row that meets fmt, with fmt's text TOLD by the authors' own Lean function (tested against real Go, not proved from fmt's source: count such statements apart). THE CARD IS WHAT COUNTS. Prove the row's statement (the work); the ties are given (YtjldfmkpdkhnnaaGreatDoorTie.lean); close each card by the builder's one call (the guide's Derived/Test/ToyasCard.lean, 'card_holds'). Laid BY PROGRAM, IN A SANDBOX (cutbox-door.mjs). By AI agents, Wed Nov 11 2026. No macro, syntax, notation, axiom, sorry.
-/
import Derived.Test.YtjldfmkpdkhnnaaGreatDoorRows
import GoSem.ClaimSeven
namespace Go.Proofs.YtjldfmkpdkhnnaaGreatDoor
namespace Rows

/-- THE TIED CARD OF 'laws.FnExactFirstAge'. -/
def fnExactFirstAgeCard : Claim7 := { stood := { row := fnExactFirstAgeRow, standIns := [], harness := (true, "b3d96fbd9a6154cceb22861c13226905c67d1e47e28d59f8eb3d3f51912a070c"), looks := true }, kinds := [], alts := [], laidByText := true, laidKinds := [.data, .data, .data, .data, .sentinel, .sentinel, .pinned], laidTests := true, laidLooks := .later }
def FnExactFirstAgeCardSaid : Prop := Claim7.holds Tryz.pinned (.plain (OpenSpec.ofChange fnExactFirstAgeSpec)) fnExactFirstAgeCard

/-- THE TIED CARD OF 'laws.FnExactAgeAt'. -/
def fnExactAgeAtCard : Claim7 := { stood := { row := fnExactAgeAtRow, standIns := [], harness := (true, "b3d96fbd9a6154cceb22861c13226905c67d1e47e28d59f8eb3d3f51912a070c"), looks := true }, kinds := [], alts := [], laidByText := true, laidKinds := [.data, .data, .data, .data, .sentinel, .sentinel, .pinned], laidTests := true, laidLooks := .later }
def FnExactAgeAtCardSaid : Prop := Claim7.holds Tryz.pinned (.plain (OpenSpec.ofChange fnExactAgeAtSpec)) fnExactAgeAtCard

/-- THE TIED CARD OF 'laws.FnExactLifetime'. -/
def fnExactLifetimeCard : Claim7 := { stood := { row := fnExactLifetimeRow, standIns := [], harness := (true, "b3d96fbd9a6154cceb22861c13226905c67d1e47e28d59f8eb3d3f51912a070c"), looks := true }, kinds := [], alts := [], laidByText := true, laidKinds := [.data, .data, .data, .data, .sentinel, .sentinel, .pinned], laidTests := true, laidLooks := .later }
def FnExactLifetimeCardSaid : Prop := Claim7.holds Tryz.pinned (.plain (OpenSpec.ofChange fnExactLifetimeSpec)) fnExactLifetimeCard

/-- THE TIED CARD OF 'laws.FnDirectives'. -/
def fnDirectivesCard : Claim7 := { stood := { row := fnDirectivesRow, standIns := [], harness := (true, "b3d96fbd9a6154cceb22861c13226905c67d1e47e28d59f8eb3d3f51912a070c"), looks := true }, kinds := [], alts := [], laidByText := true, laidKinds := [.data, .data, .data, .data, .sentinel, .sentinel, .pinned], laidTests := true, laidLooks := .later }
def FnDirectivesCardSaid : Prop := Claim7.holds Tryz.pinned (.plain (OpenSpec.ofChange fnDirectivesSpec)) fnDirectivesCard

/-- THE TIED CARD OF 'laws.FnAges'. -/
def fnAgesCard : Claim7 := { stood := { row := fnAgesRow, standIns := [], harness := (true, "b3d96fbd9a6154cceb22861c13226905c67d1e47e28d59f8eb3d3f51912a070c"), looks := true }, kinds := [], alts := [], laidByText := true, laidKinds := [.data, .data, .data, .data, .sentinel, .sentinel, .pinned], laidTests := true, laidLooks := .later }
def FnAgesCardSaid : Prop := Claim7.holds Tryz.pinned (.plain (OpenSpec.ofChange fnAgesSpec)) fnAgesCard

/-- THE TIED CARD OF 'laws.FnMessages'. -/
def fnMessagesCard : Claim7 := { stood := { row := fnMessagesRow, standIns := [], harness := (true, "b3d96fbd9a6154cceb22861c13226905c67d1e47e28d59f8eb3d3f51912a070c"), looks := true }, kinds := [], alts := [], laidByText := true, laidKinds := [.data, .data, .data, .data, .sentinel, .sentinel, .pinned], laidTests := true, laidLooks := .later }
def FnMessagesCardSaid : Prop := Claim7.holds Tryz.pinned (.plain (OpenSpec.ofChange fnMessagesSpec)) fnMessagesCard

/-- THE SECOND FORM's CARD OF 'laws.FnExactFirstAge'. -/
def fnExactFirstAgeUptoCard : Claim7 := { stood := { row := fnExactFirstAgeUptoRow, standIns := [], harness := (true, "b3d96fbd9a6154cceb22861c13226905c67d1e47e28d59f8eb3d3f51912a070c"), looks := true }, kinds := [], alts := [], laidByText := true, laidKinds := [.data, .data, .data, .data, .sentinel, .sentinel, .pinned], laidTests := true, laidLooks := .later }
def FnExactFirstAgeUptoCardSaid : Prop := Claim7.holds Tryz.pinned (.plain (OpenSpec.upto fnExactFirstAgeSpec)) fnExactFirstAgeUptoCard

/-- THE SECOND FORM's CARD OF 'laws.FnExactAgeAt'. -/
def fnExactAgeAtUptoCard : Claim7 := { stood := { row := fnExactAgeAtUptoRow, standIns := [], harness := (true, "b3d96fbd9a6154cceb22861c13226905c67d1e47e28d59f8eb3d3f51912a070c"), looks := true }, kinds := [], alts := [], laidByText := true, laidKinds := [.data, .data, .data, .data, .sentinel, .sentinel, .pinned], laidTests := true, laidLooks := .later }
def FnExactAgeAtUptoCardSaid : Prop := Claim7.holds Tryz.pinned (.plain (OpenSpec.upto fnExactAgeAtSpec)) fnExactAgeAtUptoCard

/-- THE SECOND FORM's CARD OF 'laws.FnExactLifetime'. -/
def fnExactLifetimeUptoCard : Claim7 := { stood := { row := fnExactLifetimeUptoRow, standIns := [], harness := (true, "b3d96fbd9a6154cceb22861c13226905c67d1e47e28d59f8eb3d3f51912a070c"), looks := true }, kinds := [], alts := [], laidByText := true, laidKinds := [.data, .data, .data, .data, .sentinel, .sentinel, .pinned], laidTests := true, laidLooks := .later }
def FnExactLifetimeUptoCardSaid : Prop := Claim7.holds Tryz.pinned (.plain (OpenSpec.upto fnExactLifetimeSpec)) fnExactLifetimeUptoCard

/-- THE SECOND FORM's CARD OF 'laws.FnDirectives'. -/
def fnDirectivesUptoCard : Claim7 := { stood := { row := fnDirectivesUptoRow, standIns := [], harness := (true, "b3d96fbd9a6154cceb22861c13226905c67d1e47e28d59f8eb3d3f51912a070c"), looks := true }, kinds := [], alts := [], laidByText := true, laidKinds := [.data, .data, .data, .data, .sentinel, .sentinel, .pinned], laidTests := true, laidLooks := .later }
def FnDirectivesUptoCardSaid : Prop := Claim7.holds Tryz.pinned (.plain (OpenSpec.upto fnDirectivesSpec)) fnDirectivesUptoCard

/-- THE SECOND FORM's CARD OF 'laws.FnAges'. -/
def fnAgesUptoCard : Claim7 := { stood := { row := fnAgesUptoRow, standIns := [], harness := (true, "b3d96fbd9a6154cceb22861c13226905c67d1e47e28d59f8eb3d3f51912a070c"), looks := true }, kinds := [], alts := [], laidByText := true, laidKinds := [.data, .data, .data, .data, .sentinel, .sentinel, .pinned], laidTests := true, laidLooks := .later }
def FnAgesUptoCardSaid : Prop := Claim7.holds Tryz.pinned (.plain (OpenSpec.upto fnAgesSpec)) fnAgesUptoCard

/-- THE SECOND FORM's CARD OF 'laws.FnMessages'. -/
def fnMessagesUptoCard : Claim7 := { stood := { row := fnMessagesUptoRow, standIns := [], harness := (true, "b3d96fbd9a6154cceb22861c13226905c67d1e47e28d59f8eb3d3f51912a070c"), looks := true }, kinds := [], alts := [], laidByText := true, laidKinds := [.data, .data, .data, .data, .sentinel, .sentinel, .pinned], laidTests := true, laidLooks := .later }
def FnMessagesUptoCardSaid : Prop := Claim7.holds Tryz.pinned (.plain (OpenSpec.upto fnMessagesSpec)) fnMessagesUptoCard
end Rows
end Go.Proofs.YtjldfmkpdkhnnaaGreatDoor
