/-
  DERIVED. GIVEN WITH THE SEED: THE CARDS: each row of YtnknfffldgkgcaaGreatDoorRows.lean that lists a variable, with what it lists TIED to the program's text (the seventh form; the later family's looks); each row that meets fmt, with fmt's text TOLD by the authors' own Lean function (tested against real Go, not proved from fmt's source: count such statements apart). THE CARD IS WHAT COUNTS. Prove the row's statement (the work); the ties are given (YtnknfffldgkgcaaGreatDoorTie.lean); close each card by the builder's one call (the guide's Derived/Test/ToyasCard.lean, 'card_holds'). Laid BY PROGRAM, IN A SANDBOX (cutbox-door.mjs). By AI agents, Wed Nov 11 2026. No macro, syntax, notation, axiom, sorry.
-/
import Derived.Test.YtnknfffldgkgcaaGreatDoorRows
import GoSem.ClaimSeven
namespace Go.Proofs.YtnknfffldgkgcaaGreatDoor
namespace Rows

/-- THE TIED CARD OF 'cameolaw08.SymbolExact'. -/
def symbolExactCard : Claim7 := { stood := { row := symbolExactRow, standIns := [], harness := (true, "d6b4fbf9dc25f0e8af3a34b983b4209ea180531f90eae6a960b26f7e79b95eb9"), looks := true }, kinds := [], alts := [], laidByText := true, laidKinds := [.data, .data, .pinned], laidTests := true, laidLooks := .later }
def SymbolExactCardSaid : Prop := Claim7.holds Tryz.pinned (.plain (OpenSpec.ofChange symbolExactSpec)) symbolExactCard

/-- THE SECOND FORM's CARD OF 'cameolaw08.SymbolExact'. -/
def symbolExactUptoCard : Claim7 := { stood := { row := symbolExactUptoRow, standIns := [], harness := (true, "d6b4fbf9dc25f0e8af3a34b983b4209ea180531f90eae6a960b26f7e79b95eb9"), looks := true }, kinds := [], alts := [], laidByText := true, laidKinds := [.data, .data, .pinned], laidTests := true, laidLooks := .later }
def SymbolExactUptoCardSaid : Prop := Claim7.holds Tryz.pinned (.plain (OpenSpec.upto symbolExactSpec)) symbolExactUptoCard
end Rows
end Go.Proofs.YtnknfffldgkgcaaGreatDoor
