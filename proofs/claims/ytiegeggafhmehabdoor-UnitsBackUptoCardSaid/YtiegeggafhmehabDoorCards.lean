/-
  DERIVED. GIVEN WITH THE SEED: THE CARDS: each row of YtiegeggafhmehabDoorRows.lean that lists a variable, with what it lists TIED to the program's text (the seventh form; the later family's looks); each row that meets fmt, with fmt's text TOLD by the authors' own Lean function (tested against real Go, not proved from fmt's source: count such statements apart). THE CARD IS WHAT COUNTS. Prove the row's statement (the work); the ties are given (YtiegeggafhmehabDoorTie.lean); close each card by the builder's one call (the guide's Derived/Test/ToyasCard.lean, 'card_holds'). Laid BY PROGRAM, IN A SANDBOX (cutbox-door.mjs). By AI agents, Wed Nov 11 2026. No macro, syntax, notation, axiom, sorry.
-/
import Derived.Test.YtiegeggafhmehabDoorRows
import GoSem.ClaimSeven
namespace Go.Proofs.YtiegeggafhmehabDoor
namespace Rows

/-- THE TIED CARD OF 'cameolaw01.UnitsBytes'. -/
def unitsBytesCard : Claim7 := { stood := { row := unitsBytesRow, standIns := [], harness := (true, "8b1e0eb7470d10754d40dfdde11b9756fa424353a932be39b96b864f771f8731"), looks := true }, kinds := [], alts := [], laidByText := true, laidKinds := [.data, .pinned], laidTests := true, laidLooks := .later }
def UnitsBytesCardSaid : Prop := Claim7.holds Tryd.pinned (.plain (OpenSpec.ofChange unitsBytesSpec)) unitsBytesCard

/-- THE TIED CARD OF 'cameolaw02.NumberRadix'. -/
def numberRadixCard : Claim7 := { stood := { row := numberRadixRow, standIns := [], harness := (true, "8b1e0eb7470d10754d40dfdde11b9756fa424353a932be39b96b864f771f8731"), looks := true }, kinds := [], alts := [], laidByText := true, laidKinds := [.data, .data, .data], laidTests := true, laidLooks := .later }
def NumberRadixCardSaid : Prop := Claim7.holds Tryd.pinned (.plain (OpenSpec.ofChange numberRadixSpec)) numberRadixCard

/-- THE TIED CARD OF 'cameolaw01.UnitsBack'. -/
def unitsBackCard : Claim7 := { stood := { row := unitsBackRow, standIns := [], harness := (true, "8b1e0eb7470d10754d40dfdde11b9756fa424353a932be39b96b864f771f8731"), looks := true }, kinds := [], alts := [], laidByText := true, laidKinds := [.data, .pinned], laidTests := true, laidLooks := .later }
def UnitsBackCardSaid : Prop := Claim7.holds Tryd.pinned (.plain (OpenSpec.ofChange unitsBackSpec)) unitsBackCard

/-- THE TIED CARD OF 'cameolaw03.ValueMust'. -/
def valueMustCard : Claim7 := { stood := { row := valueMustRow, standIns := [], harness := (true, "8b1e0eb7470d10754d40dfdde11b9756fa424353a932be39b96b864f771f8731"), looks := true }, kinds := [], alts := [], laidByText := true, laidKinds := [.data, .handle, .pinned], laidTests := true, laidLooks := .later }
def ValueMustCardSaid : Prop := Claim7.holds Tryd.pinned (.plain (OpenSpec.ofChange valueMustSpec)) valueMustCard

/-- THE TIED CARD OF 'cameolaw11.CallCaught'. -/
def callCaughtCard : Claim7 := { stood := { row := callCaughtRow, standIns := [], harness := (true, "8b1e0eb7470d10754d40dfdde11b9756fa424353a932be39b96b864f771f8731"), looks := true }, kinds := [], alts := [], laidByText := true, laidKinds := [.data, .handle, .pinned], laidTests := true, laidLooks := .later }
def CallCaughtCardSaid : Prop := Claim7.holds Tryd.pinned (.plain (OpenSpec.ofChange callCaughtSpec)) callCaughtCard

/-- THE TIED CARD OF 'cameolaw04.KeyOrders'. -/
def keyOrdersCard : Claim7 := { stood := { row := keyOrdersRow, standIns := [], harness := (true, "8b1e0eb7470d10754d40dfdde11b9756fa424353a932be39b96b864f771f8731"), looks := true }, kinds := [], alts := [], laidByText := true, laidKinds := [.data, .pinned], laidTests := true, laidLooks := .later }
def KeyOrdersCardSaid : Prop := Claim7.holds Tryd.pinned (.plain (OpenSpec.ofChange keyOrdersSpec)) keyOrdersCard

/-- THE TIED CARD OF 'cameolaw08.SymbolNames'. -/
def symbolNamesCard : Claim7 := { stood := { row := symbolNamesRow, standIns := [], harness := (true, "8b1e0eb7470d10754d40dfdde11b9756fa424353a932be39b96b864f771f8731"), looks := true }, kinds := [], alts := [], laidByText := true, laidKinds := [.data, .data, .pinned], laidTests := true, laidLooks := .later }
def SymbolNamesCardSaid : Prop := Claim7.holds Tryd.pinned (.plain (OpenSpec.ofChange symbolNamesSpec)) symbolNamesCard

/-- THE TIED CARD OF 'cameolaw03.ValueSorts'. -/
def valueSortsCard : Claim7 := { stood := { row := valueSortsRow, standIns := [], harness := (true, "8b1e0eb7470d10754d40dfdde11b9756fa424353a932be39b96b864f771f8731"), looks := true }, kinds := [], alts := [], laidByText := true, laidKinds := [.data, .pinned], laidTests := true, laidLooks := .later }
def ValueSortsCardSaid : Prop := Claim7.holds Tryd.pinned (.plain (OpenSpec.ofChange valueSortsSpec)) valueSortsCard

/-- THE TIED CARD OF 'cameolaw08.SymbolKnown'. -/
def symbolKnownCard : Claim7 := { stood := { row := symbolKnownRow, standIns := [], harness := (true, "8b1e0eb7470d10754d40dfdde11b9756fa424353a932be39b96b864f771f8731"), looks := true }, kinds := [], alts := [], laidByText := true, laidKinds := [.data, .pinned], laidTests := true, laidLooks := .later }
def SymbolKnownCardSaid : Prop := Claim7.holds Tryd.pinned (.plain (OpenSpec.ofChange symbolKnownSpec)) symbolKnownCard

/-- THE SECOND FORM's CARD OF 'cameolaw01.UnitsBytes'. -/
def unitsBytesUptoCard : Claim7 := { stood := { row := unitsBytesUptoRow, standIns := [], harness := (true, "8b1e0eb7470d10754d40dfdde11b9756fa424353a932be39b96b864f771f8731"), looks := true }, kinds := [], alts := [], laidByText := true, laidKinds := [.data, .pinned], laidTests := true, laidLooks := .later }
def UnitsBytesUptoCardSaid : Prop := Claim7.holds Tryd.pinned (.plain (OpenSpec.upto unitsBytesSpec)) unitsBytesUptoCard

/-- THE SECOND FORM's CARD OF 'cameolaw02.NumberRadix'. -/
def numberRadixUptoCard : Claim7 := { stood := { row := numberRadixUptoRow, standIns := [], harness := (true, "8b1e0eb7470d10754d40dfdde11b9756fa424353a932be39b96b864f771f8731"), looks := true }, kinds := [], alts := [], laidByText := true, laidKinds := [.data, .data, .data], laidTests := true, laidLooks := .later }
def NumberRadixUptoCardSaid : Prop := Claim7.holds Tryd.pinned (.plain (OpenSpec.upto numberRadixSpec)) numberRadixUptoCard

/-- THE SECOND FORM's CARD OF 'cameolaw01.UnitsBack'. -/
def unitsBackUptoCard : Claim7 := { stood := { row := unitsBackUptoRow, standIns := [], harness := (true, "8b1e0eb7470d10754d40dfdde11b9756fa424353a932be39b96b864f771f8731"), looks := true }, kinds := [], alts := [], laidByText := true, laidKinds := [.data, .pinned], laidTests := true, laidLooks := .later }
def UnitsBackUptoCardSaid : Prop := Claim7.holds Tryd.pinned (.plain (OpenSpec.upto unitsBackSpec)) unitsBackUptoCard

/-- THE SECOND FORM's CARD OF 'cameolaw03.ValueMust'. -/
def valueMustUptoCard : Claim7 := { stood := { row := valueMustUptoRow, standIns := [], harness := (true, "8b1e0eb7470d10754d40dfdde11b9756fa424353a932be39b96b864f771f8731"), looks := true }, kinds := [], alts := [], laidByText := true, laidKinds := [.data, .handle, .pinned], laidTests := true, laidLooks := .later }
def ValueMustUptoCardSaid : Prop := Claim7.holds Tryd.pinned (.plain (OpenSpec.upto valueMustSpec)) valueMustUptoCard

/-- THE SECOND FORM's CARD OF 'cameolaw11.CallCaught'. -/
def callCaughtUptoCard : Claim7 := { stood := { row := callCaughtUptoRow, standIns := [], harness := (true, "8b1e0eb7470d10754d40dfdde11b9756fa424353a932be39b96b864f771f8731"), looks := true }, kinds := [], alts := [], laidByText := true, laidKinds := [.data, .handle, .pinned], laidTests := true, laidLooks := .later }
def CallCaughtUptoCardSaid : Prop := Claim7.holds Tryd.pinned (.plain (OpenSpec.upto callCaughtSpec)) callCaughtUptoCard

/-- THE SECOND FORM's CARD OF 'cameolaw04.KeyOrders'. -/
def keyOrdersUptoCard : Claim7 := { stood := { row := keyOrdersUptoRow, standIns := [], harness := (true, "8b1e0eb7470d10754d40dfdde11b9756fa424353a932be39b96b864f771f8731"), looks := true }, kinds := [], alts := [], laidByText := true, laidKinds := [.data, .pinned], laidTests := true, laidLooks := .later }
def KeyOrdersUptoCardSaid : Prop := Claim7.holds Tryd.pinned (.plain (OpenSpec.upto keyOrdersSpec)) keyOrdersUptoCard

/-- THE SECOND FORM's CARD OF 'cameolaw08.SymbolNames'. -/
def symbolNamesUptoCard : Claim7 := { stood := { row := symbolNamesUptoRow, standIns := [], harness := (true, "8b1e0eb7470d10754d40dfdde11b9756fa424353a932be39b96b864f771f8731"), looks := true }, kinds := [], alts := [], laidByText := true, laidKinds := [.data, .data, .pinned], laidTests := true, laidLooks := .later }
def SymbolNamesUptoCardSaid : Prop := Claim7.holds Tryd.pinned (.plain (OpenSpec.upto symbolNamesSpec)) symbolNamesUptoCard

/-- THE SECOND FORM's CARD OF 'cameolaw03.ValueSorts'. -/
def valueSortsUptoCard : Claim7 := { stood := { row := valueSortsUptoRow, standIns := [], harness := (true, "8b1e0eb7470d10754d40dfdde11b9756fa424353a932be39b96b864f771f8731"), looks := true }, kinds := [], alts := [], laidByText := true, laidKinds := [.data, .pinned], laidTests := true, laidLooks := .later }
def ValueSortsUptoCardSaid : Prop := Claim7.holds Tryd.pinned (.plain (OpenSpec.upto valueSortsSpec)) valueSortsUptoCard

/-- THE SECOND FORM's CARD OF 'cameolaw08.SymbolKnown'. -/
def symbolKnownUptoCard : Claim7 := { stood := { row := symbolKnownUptoRow, standIns := [], harness := (true, "8b1e0eb7470d10754d40dfdde11b9756fa424353a932be39b96b864f771f8731"), looks := true }, kinds := [], alts := [], laidByText := true, laidKinds := [.data, .pinned], laidTests := true, laidLooks := .later }
def SymbolKnownUptoCardSaid : Prop := Claim7.holds Tryd.pinned (.plain (OpenSpec.upto symbolKnownSpec)) symbolKnownUptoCard
end Rows
end Go.Proofs.YtiegeggafhmehabDoor
