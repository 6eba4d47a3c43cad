/-
  DERIVED. GIVEN WITH THE SEED: THE CARDS: each row of YtiegeggafhmehaaDoorRows.lean that lists a variable, with what it lists TIED to the program's text (the seventh form; the later family's looks); each row that meets fmt, with fmt's text TOLD by the authors' own Lean function (tested against real Go, not proved from fmt's source: count such statements apart). THE CARD IS WHAT COUNTS. Prove the row's statement (the work); the ties are given (YtiegeggafhmehaaDoorTie.lean); close each card by the builder's one call (the guide's Derived/Test/ToyasCard.lean, 'card_holds'). Laid BY PROGRAM, IN A SANDBOX (cutbox-door.mjs). By AI agents, Wed Nov 11 2026. No macro, syntax, notation, axiom, sorry.
-/
import Derived.Test.YtiegeggafhmehaaDoorRows
import GoSem.ClaimSeven
namespace Go.Proofs.YtiegeggafhmehaaDoor
namespace Rows

/-- THE TIED CARD OF 'cameolaw01.UnitsPoints'. -/
def unitsPointsCard : Claim7 := { stood := { row := unitsPointsRow, standIns := [], harness := (true, "be7873a800f455b2abe16599ad97254c4b300f261738c0feb65c2b51c9645b57"), looks := true }, kinds := [], alts := [], laidByText := true, laidKinds := [.data, .pinned], laidTests := true, laidLooks := .later }
def UnitsPointsCardSaid : Prop := Claim7.holds Tryd.pinned (.plain (OpenSpec.ofChange unitsPointsSpec)) unitsPointsCard

/-- THE TIED CARD OF 'cameolaw01.UnitsRows'. -/
def unitsRowsCard : Claim7 := { stood := { row := unitsRowsRow, standIns := [], harness := (true, "be7873a800f455b2abe16599ad97254c4b300f261738c0feb65c2b51c9645b57"), looks := true }, kinds := [], alts := [], laidByText := true, laidKinds := [.data, .pinned], laidTests := true, laidLooks := .later }
def UnitsRowsCardSaid : Prop := Claim7.holds Tryd.pinned (.plain (OpenSpec.ofChange unitsRowsSpec)) unitsRowsCard

/-- THE TIED CARD OF 'cameolaw03.ValueMakes'. -/
def valueMakesCard : Claim7 := { stood := { row := valueMakesRow, standIns := [], harness := (true, "be7873a800f455b2abe16599ad97254c4b300f261738c0feb65c2b51c9645b57"), looks := true }, kinds := [], alts := [], laidByText := true, laidKinds := [.data, .pinned], laidTests := true, laidLooks := .later }
def ValueMakesCardSaid : Prop := Claim7.holds Tryd.pinned (.plain (OpenSpec.ofChange valueMakesSpec)) valueMakesCard

/-- THE TIED CARD OF 'cameolaw01.UnitsPieces'. -/
def unitsPiecesCard : Claim7 := { stood := { row := unitsPiecesRow, standIns := [], harness := (true, "be7873a800f455b2abe16599ad97254c4b300f261738c0feb65c2b51c9645b57"), looks := true }, kinds := [], alts := [], laidByText := true, laidKinds := [.data, .pinned], laidTests := true, laidLooks := .later }
def UnitsPiecesCardSaid : Prop := Claim7.holds Tryd.pinned (.plain (OpenSpec.ofChange unitsPiecesSpec)) unitsPiecesCard

/-- THE TIED CARD OF 'cameolaw01.UnitsOrders'. -/
def unitsOrdersCard : Claim7 := { stood := { row := unitsOrdersRow, standIns := [], harness := (true, "be7873a800f455b2abe16599ad97254c4b300f261738c0feb65c2b51c9645b57"), looks := true }, kinds := [], alts := [], laidByText := true, laidKinds := [.data, .pinned], laidTests := true, laidLooks := .later }
def UnitsOrdersCardSaid : Prop := Claim7.holds Tryd.pinned (.plain (OpenSpec.ofChange unitsOrdersSpec)) unitsOrdersCard

/-- THE TIED CARD OF 'cameolaw03.ValueHolds'. -/
def valueHoldsCard : Claim7 := { stood := { row := valueHoldsRow, standIns := [], harness := (true, "be7873a800f455b2abe16599ad97254c4b300f261738c0feb65c2b51c9645b57"), looks := true }, kinds := [], alts := [], laidByText := true, laidKinds := [.data, .pinned], laidTests := true, laidLooks := .later }
def ValueHoldsCardSaid : Prop := Claim7.holds Tryd.pinned (.plain (OpenSpec.ofChange valueHoldsSpec)) valueHoldsCard

/-- THE TIED CARD OF 'cameolaw01.UnitsCuts'. -/
def unitsCutsCard : Claim7 := { stood := { row := unitsCutsRow, standIns := [], harness := (true, "be7873a800f455b2abe16599ad97254c4b300f261738c0feb65c2b51c9645b57"), looks := true }, kinds := [], alts := [], laidByText := true, laidKinds := [.data, .pinned], laidTests := true, laidLooks := .later }
def UnitsCutsCardSaid : Prop := Claim7.holds Tryd.pinned (.plain (OpenSpec.ofChange unitsCutsSpec)) unitsCutsCard

/-- THE TIED CARD OF 'cameolaw08.SymbolNew'. -/
def symbolNewCard : Claim7 := { stood := { row := symbolNewRow, standIns := [], harness := (true, "be7873a800f455b2abe16599ad97254c4b300f261738c0feb65c2b51c9645b57"), looks := true }, kinds := [], alts := [], laidByText := true, laidKinds := [.data, .pinned], laidTests := true, laidLooks := .later }
def SymbolNewCardSaid : Prop := Claim7.holds Tryd.pinned (.plain (OpenSpec.ofChange symbolNewSpec)) symbolNewCard

/-- THE TIED CARD OF 'cameolaw11.CallSounds'. -/
def callSoundsCard : Claim7 := { stood := { row := callSoundsRow, standIns := [], harness := (true, "be7873a800f455b2abe16599ad97254c4b300f261738c0feb65c2b51c9645b57"), looks := true }, kinds := [], alts := [], laidByText := true, laidKinds := [.data, .pinned], laidTests := true, laidLooks := .later }
def CallSoundsCardSaid : Prop := Claim7.holds Tryd.pinned (.plain (OpenSpec.ofChange callSoundsSpec)) callSoundsCard

/-- THE TIED CARD OF 'cameolaw01.UnitsTotal'. -/
def unitsTotalCard : Claim7 := { stood := { row := unitsTotalRow, standIns := [], harness := (true, "be7873a800f455b2abe16599ad97254c4b300f261738c0feb65c2b51c9645b57"), looks := true }, kinds := [], alts := [], laidByText := true, laidKinds := [.data, .pinned], laidTests := true, laidLooks := .later }
def UnitsTotalCardSaid : Prop := Claim7.holds Tryd.pinned (.plain (OpenSpec.ofChange unitsTotalSpec)) unitsTotalCard

/-- THE SECOND FORM's CARD OF 'cameolaw01.UnitsPoints'. -/
def unitsPointsUptoCard : Claim7 := { stood := { row := unitsPointsUptoRow, standIns := [], harness := (true, "be7873a800f455b2abe16599ad97254c4b300f261738c0feb65c2b51c9645b57"), looks := true }, kinds := [], alts := [], laidByText := true, laidKinds := [.data, .pinned], laidTests := true, laidLooks := .later }
def UnitsPointsUptoCardSaid : Prop := Claim7.holds Tryd.pinned (.plain (OpenSpec.upto unitsPointsSpec)) unitsPointsUptoCard

/-- THE SECOND FORM's CARD OF 'cameolaw01.UnitsRows'. -/
def unitsRowsUptoCard : Claim7 := { stood := { row := unitsRowsUptoRow, standIns := [], harness := (true, "be7873a800f455b2abe16599ad97254c4b300f261738c0feb65c2b51c9645b57"), looks := true }, kinds := [], alts := [], laidByText := true, laidKinds := [.data, .pinned], laidTests := true, laidLooks := .later }
def UnitsRowsUptoCardSaid : Prop := Claim7.holds Tryd.pinned (.plain (OpenSpec.upto unitsRowsSpec)) unitsRowsUptoCard

/-- THE SECOND FORM's CARD OF 'cameolaw03.ValueMakes'. -/
def valueMakesUptoCard : Claim7 := { stood := { row := valueMakesUptoRow, standIns := [], harness := (true, "be7873a800f455b2abe16599ad97254c4b300f261738c0feb65c2b51c9645b57"), looks := true }, kinds := [], alts := [], laidByText := true, laidKinds := [.data, .pinned], laidTests := true, laidLooks := .later }
def ValueMakesUptoCardSaid : Prop := Claim7.holds Tryd.pinned (.plain (OpenSpec.upto valueMakesSpec)) valueMakesUptoCard

/-- THE SECOND FORM's CARD OF 'cameolaw01.UnitsPieces'. -/
def unitsPiecesUptoCard : Claim7 := { stood := { row := unitsPiecesUptoRow, standIns := [], harness := (true, "be7873a800f455b2abe16599ad97254c4b300f261738c0feb65c2b51c9645b57"), looks := true }, kinds := [], alts := [], laidByText := true, laidKinds := [.data, .pinned], laidTests := true, laidLooks := .later }
def UnitsPiecesUptoCardSaid : Prop := Claim7.holds Tryd.pinned (.plain (OpenSpec.upto unitsPiecesSpec)) unitsPiecesUptoCard

/-- THE SECOND FORM's CARD OF 'cameolaw01.UnitsOrders'. -/
def unitsOrdersUptoCard : Claim7 := { stood := { row := unitsOrdersUptoRow, standIns := [], harness := (true, "be7873a800f455b2abe16599ad97254c4b300f261738c0feb65c2b51c9645b57"), looks := true }, kinds := [], alts := [], laidByText := true, laidKinds := [.data, .pinned], laidTests := true, laidLooks := .later }
def UnitsOrdersUptoCardSaid : Prop := Claim7.holds Tryd.pinned (.plain (OpenSpec.upto unitsOrdersSpec)) unitsOrdersUptoCard

/-- THE SECOND FORM's CARD OF 'cameolaw03.ValueHolds'. -/
def valueHoldsUptoCard : Claim7 := { stood := { row := valueHoldsUptoRow, standIns := [], harness := (true, "be7873a800f455b2abe16599ad97254c4b300f261738c0feb65c2b51c9645b57"), looks := true }, kinds := [], alts := [], laidByText := true, laidKinds := [.data, .pinned], laidTests := true, laidLooks := .later }
def ValueHoldsUptoCardSaid : Prop := Claim7.holds Tryd.pinned (.plain (OpenSpec.upto valueHoldsSpec)) valueHoldsUptoCard

/-- THE SECOND FORM's CARD OF 'cameolaw01.UnitsCuts'. -/
def unitsCutsUptoCard : Claim7 := { stood := { row := unitsCutsUptoRow, standIns := [], harness := (true, "be7873a800f455b2abe16599ad97254c4b300f261738c0feb65c2b51c9645b57"), looks := true }, kinds := [], alts := [], laidByText := true, laidKinds := [.data, .pinned], laidTests := true, laidLooks := .later }
def UnitsCutsUptoCardSaid : Prop := Claim7.holds Tryd.pinned (.plain (OpenSpec.upto unitsCutsSpec)) unitsCutsUptoCard

/-- THE SECOND FORM's CARD OF 'cameolaw08.SymbolNew'. -/
def symbolNewUptoCard : Claim7 := { stood := { row := symbolNewUptoRow, standIns := [], harness := (true, "be7873a800f455b2abe16599ad97254c4b300f261738c0feb65c2b51c9645b57"), looks := true }, kinds := [], alts := [], laidByText := true, laidKinds := [.data, .pinned], laidTests := true, laidLooks := .later }
def SymbolNewUptoCardSaid : Prop := Claim7.holds Tryd.pinned (.plain (OpenSpec.upto symbolNewSpec)) symbolNewUptoCard

/-- THE SECOND FORM's CARD OF 'cameolaw11.CallSounds'. -/
def callSoundsUptoCard : Claim7 := { stood := { row := callSoundsUptoRow, standIns := [], harness := (true, "be7873a800f455b2abe16599ad97254c4b300f261738c0feb65c2b51c9645b57"), looks := true }, kinds := [], alts := [], laidByText := true, laidKinds := [.data, .pinned], laidTests := true, laidLooks := .later }
def CallSoundsUptoCardSaid : Prop := Claim7.holds Tryd.pinned (.plain (OpenSpec.upto callSoundsSpec)) callSoundsUptoCard

/-- THE SECOND FORM's CARD OF 'cameolaw01.UnitsTotal'. -/
def unitsTotalUptoCard : Claim7 := { stood := { row := unitsTotalUptoRow, standIns := [], harness := (true, "be7873a800f455b2abe16599ad97254c4b300f261738c0feb65c2b51c9645b57"), looks := true }, kinds := [], alts := [], laidByText := true, laidKinds := [.data, .pinned], laidTests := true, laidLooks := .later }
def UnitsTotalUptoCardSaid : Prop := Claim7.holds Tryd.pinned (.plain (OpenSpec.upto unitsTotalSpec)) unitsTotalUptoCard
end Rows
end Go.Proofs.YtiegeggafhmehaaDoor
