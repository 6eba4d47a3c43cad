/-
  DERIVED. GIVEN WITH THE SEED: THE CARDS: each row of YtinaibebdacnmaaDoorRows.lean that lists a variable, with what it lists TIED to the program's text (the seventh form; the later family's looks); each row that meets fmt, with fmt's text TOLD by the authors' own Lean function (tested against real Go, not proved from fmt's source: count such statements apart). THE CARD IS WHAT COUNTS. Prove the row's statement (the work); the ties are given (YtinaibebdacnmaaDoorTie.lean); close each card by the builder's one call (the guide's Derived/Test/ToyasCard.lean, 'card_holds'). Laid BY PROGRAM, IN A SANDBOX (cutbox-door.mjs). By AI agents, Wed Nov 11 2026. No macro, syntax, notation, axiom, sorry.
-/
import Derived.Test.YtinaibebdacnmaaDoorRows
import GoSem.ClaimSeven
namespace Go.Proofs.YtinaibebdacnmaaDoor
namespace Rows

/-- THE TIED CARD OF 'cameolaw08.SymbolNew'. -/
def symbolNewCard : Claim7 := { stood := { row := symbolNewRow, standIns := [], harness := (true, "befd4769ea704038966de46f2a25e82197e076e49bb93381cc5aef831c4d16f8"), looks := true }, kinds := [], alts := [], laidByText := true, laidKinds := [.data, .pinned], laidTests := true, laidLooks := .later }
def SymbolNewCardSaid : Prop := Claim7.holds Tryd.pinned (.plain (OpenSpec.ofChange symbolNewSpec)) symbolNewCard

/-- THE TIED CARD OF 'cameolaw11.CallSounds'. -/
def callSoundsCard : Claim7 := { stood := { row := callSoundsRow, standIns := [], harness := (true, "befd4769ea704038966de46f2a25e82197e076e49bb93381cc5aef831c4d16f8"), looks := true }, kinds := [], alts := [], laidByText := true, laidKinds := [.data, .pinned], laidTests := true, laidLooks := .later }
def CallSoundsCardSaid : Prop := Claim7.holds Tryd.pinned (.plain (OpenSpec.ofChange callSoundsSpec)) callSoundsCard

/-- THE TIED CARD OF 'cameolaw02.NumberRadix'. -/
def numberRadixCard : Claim7 := { stood := { row := numberRadixRow, standIns := [], harness := (true, "befd4769ea704038966de46f2a25e82197e076e49bb93381cc5aef831c4d16f8"), looks := true }, kinds := [], alts := [], laidByText := true, laidKinds := [.data, .data, .data], laidTests := true, laidLooks := .later }
def NumberRadixCardSaid : Prop := Claim7.holds Tryd.pinned (.plain (OpenSpec.ofChange numberRadixSpec)) numberRadixCard

/-- THE TIED CARD OF 'cameolaw03.ValueMust'. -/
def valueMustCard : Claim7 := { stood := { row := valueMustRow, standIns := [], harness := (true, "befd4769ea704038966de46f2a25e82197e076e49bb93381cc5aef831c4d16f8"), looks := true }, kinds := [], alts := [], laidByText := true, laidKinds := [.data, .handle, .pinned], laidTests := true, laidLooks := .later }
def ValueMustCardSaid : Prop := Claim7.holds Tryd.pinned (.plain (OpenSpec.ofChange valueMustSpec)) valueMustCard

/-- THE SECOND FORM's CARD OF 'cameolaw08.SymbolNew'. -/
def symbolNewUptoCard : Claim7 := { stood := { row := symbolNewUptoRow, standIns := [], harness := (true, "befd4769ea704038966de46f2a25e82197e076e49bb93381cc5aef831c4d16f8"), looks := true }, kinds := [], alts := [], laidByText := true, laidKinds := [.data, .pinned], laidTests := true, laidLooks := .later }
def SymbolNewUptoCardSaid : Prop := Claim7.holds Tryd.pinned (.plain (OpenSpec.upto symbolNewSpec)) symbolNewUptoCard

/-- THE SECOND FORM's CARD OF 'cameolaw11.CallSounds'. -/
def callSoundsUptoCard : Claim7 := { stood := { row := callSoundsUptoRow, standIns := [], harness := (true, "befd4769ea704038966de46f2a25e82197e076e49bb93381cc5aef831c4d16f8"), looks := true }, kinds := [], alts := [], laidByText := true, laidKinds := [.data, .pinned], laidTests := true, laidLooks := .later }
def CallSoundsUptoCardSaid : Prop := Claim7.holds Tryd.pinned (.plain (OpenSpec.upto callSoundsSpec)) callSoundsUptoCard

/-- THE SECOND FORM's CARD OF 'cameolaw02.NumberRadix'. -/
def numberRadixUptoCard : Claim7 := { stood := { row := numberRadixUptoRow, standIns := [], harness := (true, "befd4769ea704038966de46f2a25e82197e076e49bb93381cc5aef831c4d16f8"), looks := true }, kinds := [], alts := [], laidByText := true, laidKinds := [.data, .data, .data], laidTests := true, laidLooks := .later }
def NumberRadixUptoCardSaid : Prop := Claim7.holds Tryd.pinned (.plain (OpenSpec.upto numberRadixSpec)) numberRadixUptoCard

/-- THE SECOND FORM's CARD OF 'cameolaw03.ValueMust'. -/
def valueMustUptoCard : Claim7 := { stood := { row := valueMustUptoRow, standIns := [], harness := (true, "befd4769ea704038966de46f2a25e82197e076e49bb93381cc5aef831c4d16f8"), looks := true }, kinds := [], alts := [], laidByText := true, laidKinds := [.data, .handle, .pinned], laidTests := true, laidLooks := .later }
def ValueMustUptoCardSaid : Prop := Claim7.holds Tryd.pinned (.plain (OpenSpec.upto valueMustSpec)) valueMustUptoCard
end Rows
end Go.Proofs.YtinaibebdacnmaaDoor
