/-
  DERIVED. GIVEN WITH THE SEED: THE CARDS: each row of YtnhlmgeopkdiaaaDoorRows.lean that lists a variable, with what it lists TIED to the program's text (the seventh form; the later family's looks); each row that meets fmt, with fmt's text TOLD by the authors' own Lean function (tested against real Go, not proved from fmt's source: count such statements apart). THE CARD IS WHAT COUNTS. Prove the row's statement (the work); the ties are given (YtnhlmgeopkdiaaaDoorTie.lean); close each card by the builder's one call (the guide's Derived/Test/ToyasCard.lean, 'card_holds'). Laid BY PROGRAM, IN A SANDBOX (cutbox-door.mjs). By AI agents, Wed Nov 11 2026. No macro, syntax, notation, axiom, sorry.
-/
import Derived.Test.YtnhlmgeopkdiaaaDoorRows
import GoSem.ClaimSeven
namespace Go.Proofs.YtnhlmgeopkdiaaaDoor
namespace Rows

/-- THE TIED CARD OF 'cameolaw01.UnitsPoints'. -/
def unitsPointsCard : Claim7 := { stood := { row := unitsPointsRow, standIns := [], harness := (true, "bd8b21e73a072591ce9856d2d683550c9f80bb0af9ca586640551330494eec19"), looks := false }, kinds := [], alts := [], laidByText := true, laidKinds := [.data, .pinned], laidTests := true, laidLooks := .later }
def UnitsPointsCardSaid : Prop := Claim7.holds Tryd.pinned (.plain (OpenSpec.ofChange unitsPointsSpec)) unitsPointsCard

/-- THE SECOND FORM's CARD OF 'cameolaw01.UnitsPoints'. -/
def unitsPointsUptoCard : Claim7 := { stood := { row := unitsPointsUptoRow, standIns := [], harness := (true, "bd8b21e73a072591ce9856d2d683550c9f80bb0af9ca586640551330494eec19"), looks := false }, kinds := [], alts := [], laidByText := true, laidKinds := [.data, .pinned], laidTests := true, laidLooks := .later }
def UnitsPointsUptoCardSaid : Prop := Claim7.holds Tryd.pinned (.plain (OpenSpec.upto unitsPointsSpec)) unitsPointsUptoCard
end Rows
end Go.Proofs.YtnhlmgeopkdiaaaDoor
