/-
  DERIVED. GIVEN WITH THE SEED: THE CARDS: each row of YtgnifckehopjhaaDoorRows.lean that lists a variable, with what it lists TIED to the program's text (the seventh form; the later family's looks); each row that meets fmt, with fmt's text TOLD by the authors' own Lean function (tested against real Go, not proved from fmt's source: count such statements apart). THE CARD IS WHAT COUNTS. Prove the row's statement (the work); the ties are given (YtgnifckehopjhaaDoorTie.lean); close each card by the builder's one call (the guide's Derived/Test/ToyasCard.lean, 'card_holds'). Laid BY PROGRAM, IN A SANDBOX (cutbox-door.mjs). By AI agents, Wed Nov 11 2026. No macro, syntax, notation, axiom, sorry.
-/
import Derived.Test.YtgnifckehopjhaaDoorRows
import GoSem.ClaimSeven
namespace Go.Proofs.YtgnifckehopjhaaDoor
namespace Rows

/-- THE TIED CARD OF 'cameolaw08.SymbolNames'. -/
def symbolNamesCard : Claim7 := { stood := { row := symbolNamesRow, standIns := [], harness := (true, "17cded5a1bcf795a20dbd10222812ca27d8f2ff87cfcde67a881524641beb6ca"), looks := false }, kinds := [], alts := [], laidByText := true, laidKinds := [.data, .data, .pinned], laidTests := true, laidLooks := .later }
def SymbolNamesCardSaid : Prop := Claim7.holds Tryd.pinned (.plain (OpenSpec.ofChange symbolNamesSpec)) symbolNamesCard

/-- THE TIED CARD OF 'cameolaw08.SymbolKnown'. -/
def symbolKnownCard : Claim7 := { stood := { row := symbolKnownRow, standIns := [], harness := (true, "17cded5a1bcf795a20dbd10222812ca27d8f2ff87cfcde67a881524641beb6ca"), looks := false }, kinds := [], alts := [], laidByText := true, laidKinds := [.data, .pinned], laidTests := true, laidLooks := .later }
def SymbolKnownCardSaid : Prop := Claim7.holds Tryd.pinned (.plain (OpenSpec.ofChange symbolKnownSpec)) symbolKnownCard

/-- THE SECOND FORM's CARD OF 'cameolaw08.SymbolNames'. -/
def symbolNamesUptoCard : Claim7 := { stood := { row := symbolNamesUptoRow, standIns := [], harness := (true, "17cded5a1bcf795a20dbd10222812ca27d8f2ff87cfcde67a881524641beb6ca"), looks := false }, kinds := [], alts := [], laidByText := true, laidKinds := [.data, .data, .pinned], laidTests := true, laidLooks := .later }
def SymbolNamesUptoCardSaid : Prop := Claim7.holds Tryd.pinned (.plain (OpenSpec.upto symbolNamesSpec)) symbolNamesUptoCard

/-- THE SECOND FORM's CARD OF 'cameolaw08.SymbolKnown'. -/
def symbolKnownUptoCard : Claim7 := { stood := { row := symbolKnownUptoRow, standIns := [], harness := (true, "17cded5a1bcf795a20dbd10222812ca27d8f2ff87cfcde67a881524641beb6ca"), looks := false }, kinds := [], alts := [], laidByText := true, laidKinds := [.data, .pinned], laidTests := true, laidLooks := .later }
def SymbolKnownUptoCardSaid : Prop := Claim7.holds Tryd.pinned (.plain (OpenSpec.upto symbolKnownSpec)) symbolKnownUptoCard
end Rows
end Go.Proofs.YtgnifckehopjhaaDoor
