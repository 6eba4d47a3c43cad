/-
  DERIVED. GIVEN WITH THE SEED: THE CARDS: each row of YtmcibofnanbhpaaDoorRows.lean that lists a variable, with what it lists TIED to the program's text (the seventh form; the later family's looks); each row that meets fmt, with fmt's text TOLD by the authors' own Lean function (tested against real Go, not proved from fmt's source: count such statements apart). THE CARD IS WHAT COUNTS. Prove the row's statement (the work); the ties are given (YtmcibofnanbhpaaDoorTie.lean); close each card by the builder's one call (the guide's Derived/Test/ToyasCard.lean, 'card_holds'). Laid BY PROGRAM, IN A SANDBOX (cutbox-door.mjs). By AI agents, Wed Nov 11 2026. No macro, syntax, notation, axiom, sorry.
-/
import Derived.Test.YtmcibofnanbhpaaDoorRows
import GoSem.ClaimSeven
namespace Go.Proofs.YtmcibofnanbhpaaDoor
namespace Rows

/-- THE TIED CARD OF 'cameolaw01.UnitsPoints'. -/
def unitsPointsCard : Claim7 := { stood := { row := unitsPointsRow, standIns := [], harness := (true, "a2d571b5d6e55fd039d0150f0da1d1e189b1695f0eea2bdb5eb4ece00273d73f"), looks := true }, kinds := [], alts := [], laidByText := true, laidKinds := [.data, .pinned], laidTests := true, laidLooks := .later }
def UnitsPointsCardSaid : Prop := Claim7.holds Tryd.pinned (.plain (OpenSpec.ofChange unitsPointsSpec)) unitsPointsCard

/-- THE TIED CARD OF 'cameolaw08.SymbolNew'. -/
def symbolNewCard : Claim7 := { stood := { row := symbolNewRow, standIns := [], harness := (true, "a2d571b5d6e55fd039d0150f0da1d1e189b1695f0eea2bdb5eb4ece00273d73f"), looks := true }, kinds := [], alts := [], laidByText := true, laidKinds := [.data, .pinned], laidTests := true, laidLooks := .later }
def SymbolNewCardSaid : Prop := Claim7.holds Tryd.pinned (.plain (OpenSpec.ofChange symbolNewSpec)) symbolNewCard

/-- THE TIED CARD OF 'cameolaw11.CallSounds'. -/
def callSoundsCard : Claim7 := { stood := { row := callSoundsRow, standIns := [], harness := (true, "a2d571b5d6e55fd039d0150f0da1d1e189b1695f0eea2bdb5eb4ece00273d73f"), looks := true }, kinds := [], alts := [], laidByText := true, laidKinds := [.data, .pinned], laidTests := true, laidLooks := .later }
def CallSoundsCardSaid : Prop := Claim7.holds Tryd.pinned (.plain (OpenSpec.ofChange callSoundsSpec)) callSoundsCard

/-- THE TIED CARD OF 'cameolaw02.NumberRadix'. -/
def numberRadixCard : Claim7 := { stood := { row := numberRadixRow, standIns := [], harness := (true, "a2d571b5d6e55fd039d0150f0da1d1e189b1695f0eea2bdb5eb4ece00273d73f"), looks := true }, kinds := [], alts := [], laidByText := true, laidKinds := [.data, .data, .data], laidTests := true, laidLooks := .later }
def NumberRadixCardSaid : Prop := Claim7.holds Tryd.pinned (.plain (OpenSpec.ofChange numberRadixSpec)) numberRadixCard

/-- THE TIED CARD OF 'cameolaw03.ValueMust'. -/
def valueMustCard : Claim7 := { stood := { row := valueMustRow, standIns := [], harness := (true, "a2d571b5d6e55fd039d0150f0da1d1e189b1695f0eea2bdb5eb4ece00273d73f"), looks := true }, kinds := [], alts := [], laidByText := true, laidKinds := [.data, .handle, .pinned], laidTests := true, laidLooks := .later }
def ValueMustCardSaid : Prop := Claim7.holds Tryd.pinned (.plain (OpenSpec.ofChange valueMustSpec)) valueMustCard

/-- THE TIED CARD OF 'cameolaw11.CallCaught'. -/
def callCaughtCard : Claim7 := { stood := { row := callCaughtRow, standIns := [], harness := (true, "a2d571b5d6e55fd039d0150f0da1d1e189b1695f0eea2bdb5eb4ece00273d73f"), looks := true }, kinds := [], alts := [], laidByText := true, laidKinds := [.data, .handle, .pinned], laidTests := true, laidLooks := .later }
def CallCaughtCardSaid : Prop := Claim7.holds Tryd.pinned (.plain (OpenSpec.ofChange callCaughtSpec)) callCaughtCard

/-- THE TIED CARD OF 'cameolaw04.KeyOrders'. -/
def keyOrdersCard : Claim7 := { stood := { row := keyOrdersRow, standIns := [], harness := (true, "a2d571b5d6e55fd039d0150f0da1d1e189b1695f0eea2bdb5eb4ece00273d73f"), looks := true }, kinds := [], alts := [], laidByText := true, laidKinds := [.data, .pinned], laidTests := true, laidLooks := .later }
def KeyOrdersCardSaid : Prop := Claim7.holds Tryd.pinned (.plain (OpenSpec.ofChange keyOrdersSpec)) keyOrdersCard

/-- THE TIED CARD OF 'cameolaw08.SymbolNames'. -/
def symbolNamesCard : Claim7 := { stood := { row := symbolNamesRow, standIns := [], harness := (true, "a2d571b5d6e55fd039d0150f0da1d1e189b1695f0eea2bdb5eb4ece00273d73f"), looks := true }, kinds := [], alts := [], laidByText := true, laidKinds := [.data, .data, .pinned], laidTests := true, laidLooks := .later }
def SymbolNamesCardSaid : Prop := Claim7.holds Tryd.pinned (.plain (OpenSpec.ofChange symbolNamesSpec)) symbolNamesCard

/-- THE TIED CARD OF 'cameolaw03.ValueSorts'. -/
def valueSortsCard : Claim7 := { stood := { row := valueSortsRow, standIns := [], harness := (true, "a2d571b5d6e55fd039d0150f0da1d1e189b1695f0eea2bdb5eb4ece00273d73f"), looks := true }, kinds := [], alts := [], laidByText := true, laidKinds := [.data, .pinned], laidTests := true, laidLooks := .later }
def ValueSortsCardSaid : Prop := Claim7.holds Tryd.pinned (.plain (OpenSpec.ofChange valueSortsSpec)) valueSortsCard

/-- THE TIED CARD OF 'cameolaw08.SymbolKnown'. -/
def symbolKnownCard : Claim7 := { stood := { row := symbolKnownRow, standIns := [], harness := (true, "a2d571b5d6e55fd039d0150f0da1d1e189b1695f0eea2bdb5eb4ece00273d73f"), looks := true }, kinds := [], alts := [], laidByText := true, laidKinds := [.data, .pinned], laidTests := true, laidLooks := .later }
def SymbolKnownCardSaid : Prop := Claim7.holds Tryd.pinned (.plain (OpenSpec.ofChange symbolKnownSpec)) symbolKnownCard

/-- THE SECOND FORM's CARD OF 'cameolaw01.UnitsPoints'. -/
def unitsPointsUptoCard : Claim7 := { stood := { row := unitsPointsUptoRow, standIns := [], harness := (true, "a2d571b5d6e55fd039d0150f0da1d1e189b1695f0eea2bdb5eb4ece00273d73f"), looks := true }, kinds := [], alts := [], laidByText := true, laidKinds := [.data, .pinned], laidTests := true, laidLooks := .later }
def UnitsPointsUptoCardSaid : Prop := Claim7.holds Tryd.pinned (.plain (OpenSpec.upto unitsPointsSpec)) unitsPointsUptoCard

/-- THE SECOND FORM's CARD OF 'cameolaw08.SymbolNew'. -/
def symbolNewUptoCard : Claim7 := { stood := { row := symbolNewUptoRow, standIns := [], harness := (true, "a2d571b5d6e55fd039d0150f0da1d1e189b1695f0eea2bdb5eb4ece00273d73f"), looks := true }, kinds := [], alts := [], laidByText := true, laidKinds := [.data, .pinned], laidTests := true, laidLooks := .later }
def SymbolNewUptoCardSaid : Prop := Claim7.holds Tryd.pinned (.plain (OpenSpec.upto symbolNewSpec)) symbolNewUptoCard

/-- THE SECOND FORM's CARD OF 'cameolaw11.CallSounds'. -/
def callSoundsUptoCard : Claim7 := { stood := { row := callSoundsUptoRow, standIns := [], harness := (true, "a2d571b5d6e55fd039d0150f0da1d1e189b1695f0eea2bdb5eb4ece00273d73f"), looks := true }, kinds := [], alts := [], laidByText := true, laidKinds := [.data, .pinned], laidTests := true, laidLooks := .later }
def CallSoundsUptoCardSaid : Prop := Claim7.holds Tryd.pinned (.plain (OpenSpec.upto callSoundsSpec)) callSoundsUptoCard

/-- THE SECOND FORM's CARD OF 'cameolaw02.NumberRadix'. -/
def numberRadixUptoCard : Claim7 := { stood := { row := numberRadixUptoRow, standIns := [], harness := (true, "a2d571b5d6e55fd039d0150f0da1d1e189b1695f0eea2bdb5eb4ece00273d73f"), looks := true }, kinds := [], alts := [], laidByText := true, laidKinds := [.data, .data, .data], laidTests := true, laidLooks := .later }
def NumberRadixUptoCardSaid : Prop := Claim7.holds Tryd.pinned (.plain (OpenSpec.upto numberRadixSpec)) numberRadixUptoCard

/-- THE SECOND FORM's CARD OF 'cameolaw03.ValueMust'. -/
def valueMustUptoCard : Claim7 := { stood := { row := valueMustUptoRow, standIns := [], harness := (true, "a2d571b5d6e55fd039d0150f0da1d1e189b1695f0eea2bdb5eb4ece00273d73f"), looks := true }, kinds := [], alts := [], laidByText := true, laidKinds := [.data, .handle, .pinned], laidTests := true, laidLooks := .later }
def ValueMustUptoCardSaid : Prop := Claim7.holds Tryd.pinned (.plain (OpenSpec.upto valueMustSpec)) valueMustUptoCard

/-- THE SECOND FORM's CARD OF 'cameolaw11.CallCaught'. -/
def callCaughtUptoCard : Claim7 := { stood := { row := callCaughtUptoRow, standIns := [], harness := (true, "a2d571b5d6e55fd039d0150f0da1d1e189b1695f0eea2bdb5eb4ece00273d73f"), looks := true }, kinds := [], alts := [], laidByText := true, laidKinds := [.data, .handle, .pinned], laidTests := true, laidLooks := .later }
def CallCaughtUptoCardSaid : Prop := Claim7.holds Tryd.pinned (.plain (OpenSpec.upto callCaughtSpec)) callCaughtUptoCard

/-- THE SECOND FORM's CARD OF 'cameolaw04.KeyOrders'. -/
def keyOrdersUptoCard : Claim7 := { stood := { row := keyOrdersUptoRow, standIns := [], harness := (true, "a2d571b5d6e55fd039d0150f0da1d1e189b1695f0eea2bdb5eb4ece00273d73f"), looks := true }, kinds := [], alts := [], laidByText := true, laidKinds := [.data, .pinned], laidTests := true, laidLooks := .later }
def KeyOrdersUptoCardSaid : Prop := Claim7.holds Tryd.pinned (.plain (OpenSpec.upto keyOrdersSpec)) keyOrdersUptoCard

/-- THE SECOND FORM's CARD OF 'cameolaw08.SymbolNames'. -/
def symbolNamesUptoCard : Claim7 := { stood := { row := symbolNamesUptoRow, standIns := [], harness := (true, "a2d571b5d6e55fd039d0150f0da1d1e189b1695f0eea2bdb5eb4ece00273d73f"), looks := true }, kinds := [], alts := [], laidByText := true, laidKinds := [.data, .data, .pinned], laidTests := true, laidLooks := .later }
def SymbolNamesUptoCardSaid : Prop := Claim7.holds Tryd.pinned (.plain (OpenSpec.upto symbolNamesSpec)) symbolNamesUptoCard

/-- THE SECOND FORM's CARD OF 'cameolaw03.ValueSorts'. -/
def valueSortsUptoCard : Claim7 := { stood := { row := valueSortsUptoRow, standIns := [], harness := (true, "a2d571b5d6e55fd039d0150f0da1d1e189b1695f0eea2bdb5eb4ece00273d73f"), looks := true }, kinds := [], alts := [], laidByText := true, laidKinds := [.data, .pinned], laidTests := true, laidLooks := .later }
def ValueSortsUptoCardSaid : Prop := Claim7.holds Tryd.pinned (.plain (OpenSpec.upto valueSortsSpec)) valueSortsUptoCard

/-- THE SECOND FORM's CARD OF 'cameolaw08.SymbolKnown'. -/
def symbolKnownUptoCard : Claim7 := { stood := { row := symbolKnownUptoRow, standIns := [], harness := (true, "a2d571b5d6e55fd039d0150f0da1d1e189b1695f0eea2bdb5eb4ece00273d73f"), looks := true }, kinds := [], alts := [], laidByText := true, laidKinds := [.data, .pinned], laidTests := true, laidLooks := .later }
def SymbolKnownUptoCardSaid : Prop := Claim7.holds Tryd.pinned (.plain (OpenSpec.upto symbolKnownSpec)) symbolKnownUptoCard
end Rows
end Go.Proofs.YtmcibofnanbhpaaDoor
