/-
  NARROWER THAN 'FOR EVERY INPUT', by the rows' own cells (each row's printed sentence says how): UnitsPoints: laid · UnitsRows: laid · ValueMakes: laid · UnitsPieces: laid · UnitsOrders: laid · ValueHolds: laid · UnitsCuts: laid · SymbolNew: laid · CallSounds: laid · UnitsTotal: laid.
  DERIVED. THE GIVEN ROWS OF THIS SEAT. 10 by the template 'for every input the law returns true; each argument reads behind the call as it read before'; 0 by the template 'total and deterministic' (their statements: YtiegeggafhmehaaDoorTotals.lean).
  GIVEN WITH THE SEED: the statements are not yours to turn. If you find one false, say at which input.
  Laid BY PROGRAM, IN A SANDBOX (cutbox-rows.mjs): the forced cells as the released guide's own fill.sh prints them over the translation 0753d19bec230103… (all of the seat's roots in one cut). By AI agents, Wed Nov 11 2026. No macro, syntax, notation, axiom, sorry.
-/
import Derived.Test.YtiegeggafhmehaaDoorChecked
import GoSem.PinnedTables
import GoSem.Claim
import GoSem.ClaimJoined
import GoSem.ClaimMapViews
import Derived.JoinedTies
import Derived.KernelRfl
namespace Go.Proofs.YtiegeggafhmehaaDoor
/- THE CELL 'sum', in the pinned program and in every row, IS THE sha256 OF THE DUMP (.gsa) THAT YtiegeggafhmehaaDoorProg.lean LOADS. Nothing in Lean hashes anything: it is a label: what it is worth is what the hold of that sum in a sandbox is worth. -/
noncomputable def Tryd.pinned : Pinned := { name := "ytiegeggafhmehaadoor", sum := "0753d19bec230103d4cb4212c2ea84d92c1870ee8b8ceb93251ae7def3fa59d3", checked := Tryd.checked }
namespace Rows
def none {H : Type} : Left H := { results := [], args := [] }

/- WHAT THE LISTED PACKAGE-LEVEL VARIABLES READ AS WHEN THE CALL BEGINS. Each datum BY PROGRAM (the guide's laid-datum.mjs) off the statement by which the dump's own 'gosem.cut.vars' lays the variable. In a bare row this is a premise. The card (YtiegeggafhmehaaDoorCards.lean) ties it to the program's text. -/
def laid_unicode_utf8_acceptRanges {H : Type} : DataW H := .agg [.agg [.lit (.int .u8 128), .lit (.int .u8 191)], .agg [.lit (.int .u8 160), .lit (.int .u8 191)], .agg [.lit (.int .u8 128), .lit (.int .u8 159)], .agg [.lit (.int .u8 144), .lit (.int .u8 191)], .agg [.lit (.int .u8 128), .lit (.int .u8 143)], .agg [.lit (.int .u8 0), .lit (.int .u8 0)], .agg [.lit (.int .u8 0), .lit (.int .u8 0)], .agg [.lit (.int .u8 0), .lit (.int .u8 0)], .agg [.lit (.int .u8 0), .lit (.int .u8 0)], .agg [.lit (.int .u8 0), .lit (.int .u8 0)], .agg [.lit (.int .u8 0), .lit (.int .u8 0)], .agg [.lit (.int .u8 0), .lit (.int .u8 0)], .agg [.lit (.int .u8 0), .lit (.int .u8 0)], .agg [.lit (.int .u8 0), .lit (.int .u8 0)], .agg [.lit (.int .u8 0), .lit (.int .u8 0)], .agg [.lit (.int .u8 0), .lit (.int .u8 0)]]
/-- One of Go's own tables, pinned by name: the form's constant. -/
def laid_unicode_utf8_first : DataW Unit := Go.Pinned.utf8First

/-- 'cameolaw01.UnitsPoints': WHATEVER THE INPUT: true; the input reads as it did. -/
def unitsPointsSpec : ChangeSpec := { name := "unitsPoints", fn := fun _ => fun
  | [d1, d2, d3] => { results := [.lit (.bool true)], args := [d1, d2, d3] }
  | _ => none }
def unitsPointsRow : OpenClaim := { program := "ytiegeggafhmehaadoor", sum := "0753d19bec230103d4cb4212c2ea84d92c1870ee8b8ceb93251ae7def3fa59d3", func := "cameo/cameolaw01.UnitsPoints", spec := "unitsPoints", unfollowed := true, recurses := true, named := ["unicode/utf8.first", "unicode/utf8.acceptRanges"], apart := false, laid := [("unicode/utf8.acceptRanges", laid_unicode_utf8_acceptRanges), ("unicode/utf8.first", laid_unicode_utf8_first)] }
def UnitsPointsSaid : Prop := unitsPointsRow.holds Tryd.pinned (OpenSpec.ofChange unitsPointsSpec)

/-- ITS FALSE NEIGHBOUR: 'it returns false'. Refute it at one input. -/
def unitsPointsWrong : ChangeSpec := { name := "unitsPoints", fn := fun _ => fun
  | [d1, d2, d3] => { results := [.lit (.bool false)], args := [d1, d2, d3] }
  | _ => none }
def UnitsPointsWrongFalsely : Prop := unitsPointsRow.holds Tryd.pinned (OpenSpec.ofChange unitsPointsWrong)

/-- 'cameolaw01.UnitsRows': WHATEVER THE INPUT: true; the input reads as it did. -/
def unitsRowsSpec : ChangeSpec := { name := "unitsRows", fn := fun _ => fun
  | [d1, d2] => { results := [.lit (.bool true)], args := [d1, d2] }
  | _ => none }
def unitsRowsRow : OpenClaim := { program := "ytiegeggafhmehaadoor", sum := "0753d19bec230103d4cb4212c2ea84d92c1870ee8b8ceb93251ae7def3fa59d3", func := "cameo/cameolaw01.UnitsRows", spec := "unitsRows", unfollowed := true, recurses := true, named := ["unicode/utf8.first", "unicode/utf8.acceptRanges"], apart := false, laid := [("unicode/utf8.acceptRanges", laid_unicode_utf8_acceptRanges), ("unicode/utf8.first", laid_unicode_utf8_first)] }
def UnitsRowsSaid : Prop := unitsRowsRow.holds Tryd.pinned (OpenSpec.ofChange unitsRowsSpec)

/-- ITS FALSE NEIGHBOUR: 'it returns false'. Refute it at one input. -/
def unitsRowsWrong : ChangeSpec := { name := "unitsRows", fn := fun _ => fun
  | [d1, d2] => { results := [.lit (.bool false)], args := [d1, d2] }
  | _ => none }
def UnitsRowsWrongFalsely : Prop := unitsRowsRow.holds Tryd.pinned (OpenSpec.ofChange unitsRowsWrong)

/-- 'cameolaw03.ValueMakes': WHATEVER THE INPUT: true; the input reads as it did. -/
def valueMakesSpec : ChangeSpec := { name := "valueMakes", fn := fun _ => fun
  | [d1, d2, d3, d4, d5] => { results := [.lit (.bool true)], args := [d1, d2, d3, d4, d5] }
  | _ => none }
def valueMakesRow : OpenClaim := { program := "ytiegeggafhmehaadoor", sum := "0753d19bec230103d4cb4212c2ea84d92c1870ee8b8ceb93251ae7def3fa59d3", func := "cameo/cameolaw03.ValueMakes", spec := "valueMakes", inPlace := ["math.Float64bits"], unfollowed := true, recurses := true, named := ["unicode/utf8.first", "unicode/utf8.acceptRanges"], apart := false, laid := [("unicode/utf8.acceptRanges", laid_unicode_utf8_acceptRanges), ("unicode/utf8.first", laid_unicode_utf8_first)] }
def ValueMakesSaid : Prop := valueMakesRow.holds Tryd.pinned (OpenSpec.ofChange valueMakesSpec)

/-- ITS FALSE NEIGHBOUR: 'it returns false'. Refute it at one input. -/
def valueMakesWrong : ChangeSpec := { name := "valueMakes", fn := fun _ => fun
  | [d1, d2, d3, d4, d5] => { results := [.lit (.bool false)], args := [d1, d2, d3, d4, d5] }
  | _ => none }
def ValueMakesWrongFalsely : Prop := valueMakesRow.holds Tryd.pinned (OpenSpec.ofChange valueMakesWrong)

/-- 'cameolaw01.UnitsPieces': WHATEVER THE INPUT: true; the input reads as it did. -/
def unitsPiecesSpec : ChangeSpec := { name := "unitsPieces", fn := fun _ => fun
  | [d1, d2, d3, d4] => { results := [.lit (.bool true)], args := [d1, d2, d3, d4] }
  | _ => none }
def unitsPiecesRow : OpenClaim := { program := "ytiegeggafhmehaadoor", sum := "0753d19bec230103d4cb4212c2ea84d92c1870ee8b8ceb93251ae7def3fa59d3", func := "cameo/cameolaw01.UnitsPieces", spec := "unitsPieces", unfollowed := true, recurses := true, named := ["unicode/utf8.first", "unicode/utf8.acceptRanges"], apart := false, laid := [("unicode/utf8.acceptRanges", laid_unicode_utf8_acceptRanges), ("unicode/utf8.first", laid_unicode_utf8_first)] }
def UnitsPiecesSaid : Prop := unitsPiecesRow.holds Tryd.pinned (OpenSpec.ofChange unitsPiecesSpec)

/-- ITS FALSE NEIGHBOUR: 'it returns false'. Refute it at one input. -/
def unitsPiecesWrong : ChangeSpec := { name := "unitsPieces", fn := fun _ => fun
  | [d1, d2, d3, d4] => { results := [.lit (.bool false)], args := [d1, d2, d3, d4] }
  | _ => none }
def UnitsPiecesWrongFalsely : Prop := unitsPiecesRow.holds Tryd.pinned (OpenSpec.ofChange unitsPiecesWrong)

/-- 'cameolaw01.UnitsOrders': WHATEVER THE INPUT: true; the input reads as it did. -/
def unitsOrdersSpec : ChangeSpec := { name := "unitsOrders", fn := fun _ => fun
  | [d1, d2, d3] => { results := [.lit (.bool true)], args := [d1, d2, d3] }
  | _ => none }
def unitsOrdersRow : OpenClaim := { program := "ytiegeggafhmehaadoor", sum := "0753d19bec230103d4cb4212c2ea84d92c1870ee8b8ceb93251ae7def3fa59d3", func := "cameo/cameolaw01.UnitsOrders", spec := "unitsOrders", unfollowed := true, recurses := true, named := ["unicode/utf8.first", "unicode/utf8.acceptRanges"], apart := false, laid := [("unicode/utf8.acceptRanges", laid_unicode_utf8_acceptRanges), ("unicode/utf8.first", laid_unicode_utf8_first)] }
def UnitsOrdersSaid : Prop := unitsOrdersRow.holds Tryd.pinned (OpenSpec.ofChange unitsOrdersSpec)

/-- ITS FALSE NEIGHBOUR: 'it returns false'. Refute it at one input. -/
def unitsOrdersWrong : ChangeSpec := { name := "unitsOrders", fn := fun _ => fun
  | [d1, d2, d3] => { results := [.lit (.bool false)], args := [d1, d2, d3] }
  | _ => none }
def UnitsOrdersWrongFalsely : Prop := unitsOrdersRow.holds Tryd.pinned (OpenSpec.ofChange unitsOrdersWrong)

/-- 'cameolaw03.ValueHolds': WHATEVER THE INPUT: true; the input reads as it did. -/
def valueHoldsSpec : ChangeSpec := { name := "valueHolds", fn := fun _ => fun
  | [d1, d2] => { results := [.lit (.bool true)], args := [d1, d2] }
  | _ => none }
def valueHoldsRow : OpenClaim := { program := "ytiegeggafhmehaadoor", sum := "0753d19bec230103d4cb4212c2ea84d92c1870ee8b8ceb93251ae7def3fa59d3", func := "cameo/cameolaw03.ValueHolds", spec := "valueHolds", inPlace := ["math.Float64bits"], unfollowed := true, recurses := true, named := ["unicode/utf8.first", "unicode/utf8.acceptRanges"], apart := false, laid := [("unicode/utf8.acceptRanges", laid_unicode_utf8_acceptRanges), ("unicode/utf8.first", laid_unicode_utf8_first)] }
def ValueHoldsSaid : Prop := valueHoldsRow.holds Tryd.pinned (OpenSpec.ofChange valueHoldsSpec)

/-- ITS FALSE NEIGHBOUR: 'it returns false'. Refute it at one input. -/
def valueHoldsWrong : ChangeSpec := { name := "valueHolds", fn := fun _ => fun
  | [d1, d2] => { results := [.lit (.bool false)], args := [d1, d2] }
  | _ => none }
def ValueHoldsWrongFalsely : Prop := valueHoldsRow.holds Tryd.pinned (OpenSpec.ofChange valueHoldsWrong)

/-- 'cameolaw01.UnitsCuts': WHATEVER THE INPUT: true; the input reads as it did. -/
def unitsCutsSpec : ChangeSpec := { name := "unitsCuts", fn := fun _ => fun
  | [d1, d2] => { results := [.lit (.bool true)], args := [d1, d2] }
  | _ => none }
def unitsCutsRow : OpenClaim := { program := "ytiegeggafhmehaadoor", sum := "0753d19bec230103d4cb4212c2ea84d92c1870ee8b8ceb93251ae7def3fa59d3", func := "cameo/cameolaw01.UnitsCuts", spec := "unitsCuts", unfollowed := true, recurses := true, named := ["unicode/utf8.first", "unicode/utf8.acceptRanges"], apart := false, laid := [("unicode/utf8.acceptRanges", laid_unicode_utf8_acceptRanges), ("unicode/utf8.first", laid_unicode_utf8_first)] }
def UnitsCutsSaid : Prop := unitsCutsRow.holds Tryd.pinned (OpenSpec.ofChange unitsCutsSpec)

/-- ITS FALSE NEIGHBOUR: 'it returns false'. Refute it at one input. -/
def unitsCutsWrong : ChangeSpec := { name := "unitsCuts", fn := fun _ => fun
  | [d1, d2] => { results := [.lit (.bool false)], args := [d1, d2] }
  | _ => none }
def UnitsCutsWrongFalsely : Prop := unitsCutsRow.holds Tryd.pinned (OpenSpec.ofChange unitsCutsWrong)

/-- 'cameolaw08.SymbolNew': WHATEVER THE INPUT: true; the input reads as it did. -/
def symbolNewSpec : ChangeSpec := { name := "symbolNew", fn := fun _ => fun
  | [d] => { results := [.lit (.bool true)], args := [d] }
  | _ => none }
def symbolNewRow : OpenClaim := { program := "ytiegeggafhmehaadoor", sum := "0753d19bec230103d4cb4212c2ea84d92c1870ee8b8ceb93251ae7def3fa59d3", func := "cameo/cameolaw08.SymbolNew", spec := "symbolNew", inPlace := ["math.Float64bits"], unfollowed := true, recurses := true, named := ["unicode/utf8.first", "unicode/utf8.acceptRanges"], apart := false, laid := [("unicode/utf8.acceptRanges", laid_unicode_utf8_acceptRanges), ("unicode/utf8.first", laid_unicode_utf8_first)] }
def SymbolNewSaid : Prop := symbolNewRow.holds Tryd.pinned (OpenSpec.ofChange symbolNewSpec)

/-- ITS FALSE NEIGHBOUR: 'it returns false'. Refute it at one input. -/
def symbolNewWrong : ChangeSpec := { name := "symbolNew", fn := fun _ => fun
  | [d] => { results := [.lit (.bool false)], args := [d] }
  | _ => none }
def SymbolNewWrongFalsely : Prop := symbolNewRow.holds Tryd.pinned (OpenSpec.ofChange symbolNewWrong)

/-- 'cameolaw11.CallSounds': WHATEVER THE INPUT: true; the input reads as it did. -/
def callSoundsSpec : ChangeSpec := { name := "callSounds", fn := fun _ => fun
  | [d] => { results := [.lit (.bool true)], args := [d] }
  | _ => none }
def callSoundsRow : OpenClaim := { program := "ytiegeggafhmehaadoor", sum := "0753d19bec230103d4cb4212c2ea84d92c1870ee8b8ceb93251ae7def3fa59d3", func := "cameo/cameolaw11.CallSounds", spec := "callSounds", inPlace := ["math.Float64bits"], unfollowed := true, recurses := true, named := ["unicode/utf8.first", "unicode/utf8.acceptRanges"], apart := false, laid := [("unicode/utf8.acceptRanges", laid_unicode_utf8_acceptRanges), ("unicode/utf8.first", laid_unicode_utf8_first)] }
def CallSoundsSaid : Prop := callSoundsRow.holds Tryd.pinned (OpenSpec.ofChange callSoundsSpec)

/-- ITS FALSE NEIGHBOUR: 'it returns false'. Refute it at one input. -/
def callSoundsWrong : ChangeSpec := { name := "callSounds", fn := fun _ => fun
  | [d] => { results := [.lit (.bool false)], args := [d] }
  | _ => none }
def CallSoundsWrongFalsely : Prop := callSoundsRow.holds Tryd.pinned (OpenSpec.ofChange callSoundsWrong)

/-- 'cameolaw01.UnitsTotal': WHATEVER THE INPUT: true; the input reads as it did. -/
def unitsTotalSpec : ChangeSpec := { name := "unitsTotal", fn := fun _ => fun
  | [d1, d2, d3] => { results := [.lit (.bool true)], args := [d1, d2, d3] }
  | _ => none }
def unitsTotalRow : OpenClaim := { program := "ytiegeggafhmehaadoor", sum := "0753d19bec230103d4cb4212c2ea84d92c1870ee8b8ceb93251ae7def3fa59d3", func := "cameo/cameolaw01.UnitsTotal", spec := "unitsTotal", unfollowed := true, recurses := true, named := ["unicode/utf8.first", "unicode/utf8.acceptRanges"], apart := false, laid := [("unicode/utf8.acceptRanges", laid_unicode_utf8_acceptRanges), ("unicode/utf8.first", laid_unicode_utf8_first)] }
def UnitsTotalSaid : Prop := unitsTotalRow.holds Tryd.pinned (OpenSpec.ofChange unitsTotalSpec)

/-- ITS FALSE NEIGHBOUR: 'it returns false'. Refute it at one input. -/
def unitsTotalWrong : ChangeSpec := { name := "unitsTotal", fn := fun _ => fun
  | [d1, d2, d3] => { results := [.lit (.bool false)], args := [d1, d2, d3] }
  | _ => none }
def UnitsTotalWrongFalsely : Prop := unitsTotalRow.holds Tryd.pinned (OpenSpec.ofChange unitsTotalWrong)

/- THE SECOND FORM. 'bulk': how many values and letters a reading holds, each counted each time it is reached (what is shared counts as often as it is met; a slice's spare places count too). A statement '..UptoSaid' is the law's where the arguments, and the package variables that the reading takes, are together of bulk at most 1048576: NARROWER than '..Said'. Prove '..Said' where nothing that the law and all that it calls make is longer than what came in: it says more and counts as full. Else prove '..UptoSaid'. A law counts once. -/
mutual
def uptoBulk {H : Type} : DataW H → Nat
  | .lit (.string bytes) => bytes.length + 1
  | .lit _ => 1
  | .nil => 1
  | .ptr d => uptoBulk d + 1
  | .slice elems spare => uptoBulkAll elems + uptoBulkAll spare + 1
  | .agg parts => uptoBulkAll parts + 1
  | .iface _ d => uptoBulk d + 1
  | .map entries => uptoBulkEntries entries + 1
  | .held _ => 1
def uptoBulkAll {H : Type} : List (DataW H) → Nat
  | [] => 0
  | d :: r => uptoBulk d + uptoBulkAll r
def uptoBulkEntries {H : Type} : List (Lit × DataW H) → Nat
  | [] => 0
  | x :: r => uptoBulkEntry x + uptoBulkEntries r
def uptoBulkEntry {H : Type} : Lit × DataW H → Nat
  | (.string bytes, d) => bytes.length + uptoBulk d + 1
  | (_, d) => uptoBulk d + 1
 end
def uptoSmall : (H : Type) → List (DataW H) → Bool := fun _ ds => decide (uptoBulkAll ds ≤ 1048576)
def OpenSpec.upto (s : _root_.Go.ChangeSpec) : _root_.Go.OpenSpec := { _root_.Go.OpenSpec.ofChange s with cond := some uptoSmall }

/-- 'cameolaw01.UnitsPoints', WHERE WHAT IT READS IS OF BULK AT MOST 1048576: true; the input reads as it did. -/
def unitsPointsUptoRow : OpenClaim := { program := "ytiegeggafhmehaadoor", sum := "0753d19bec230103d4cb4212c2ea84d92c1870ee8b8ceb93251ae7def3fa59d3", func := "cameo/cameolaw01.UnitsPoints", spec := "unitsPoints", unfollowed := true, recurses := true, named := ["unicode/utf8.first", "unicode/utf8.acceptRanges"], apart := false, laid := [("unicode/utf8.acceptRanges", laid_unicode_utf8_acceptRanges), ("unicode/utf8.first", laid_unicode_utf8_first)], narrowed := true }
def UnitsPointsUptoSaid : Prop := unitsPointsUptoRow.holds Tryd.pinned (OpenSpec.upto unitsPointsSpec)

/-- 'cameolaw01.UnitsRows', WHERE WHAT IT READS IS OF BULK AT MOST 1048576: true; the input reads as it did. -/
def unitsRowsUptoRow : OpenClaim := { program := "ytiegeggafhmehaadoor", sum := "0753d19bec230103d4cb4212c2ea84d92c1870ee8b8ceb93251ae7def3fa59d3", func := "cameo/cameolaw01.UnitsRows", spec := "unitsRows", unfollowed := true, recurses := true, named := ["unicode/utf8.first", "unicode/utf8.acceptRanges"], apart := false, laid := [("unicode/utf8.acceptRanges", laid_unicode_utf8_acceptRanges), ("unicode/utf8.first", laid_unicode_utf8_first)], narrowed := true }
def UnitsRowsUptoSaid : Prop := unitsRowsUptoRow.holds Tryd.pinned (OpenSpec.upto unitsRowsSpec)

/-- 'cameolaw03.ValueMakes', WHERE WHAT IT READS IS OF BULK AT MOST 1048576: true; the input reads as it did. -/
def valueMakesUptoRow : OpenClaim := { program := "ytiegeggafhmehaadoor", sum := "0753d19bec230103d4cb4212c2ea84d92c1870ee8b8ceb93251ae7def3fa59d3", func := "cameo/cameolaw03.ValueMakes", spec := "valueMakes", inPlace := ["math.Float64bits"], unfollowed := true, recurses := true, named := ["unicode/utf8.first", "unicode/utf8.acceptRanges"], apart := false, laid := [("unicode/utf8.acceptRanges", laid_unicode_utf8_acceptRanges), ("unicode/utf8.first", laid_unicode_utf8_first)], narrowed := true }
def ValueMakesUptoSaid : Prop := valueMakesUptoRow.holds Tryd.pinned (OpenSpec.upto valueMakesSpec)

/-- 'cameolaw01.UnitsPieces', WHERE WHAT IT READS IS OF BULK AT MOST 1048576: true; the input reads as it did. -/
def unitsPiecesUptoRow : OpenClaim := { program := "ytiegeggafhmehaadoor", sum := "0753d19bec230103d4cb4212c2ea84d92c1870ee8b8ceb93251ae7def3fa59d3", func := "cameo/cameolaw01.UnitsPieces", spec := "unitsPieces", unfollowed := true, recurses := true, named := ["unicode/utf8.first", "unicode/utf8.acceptRanges"], apart := false, laid := [("unicode/utf8.acceptRanges", laid_unicode_utf8_acceptRanges), ("unicode/utf8.first", laid_unicode_utf8_first)], narrowed := true }
def UnitsPiecesUptoSaid : Prop := unitsPiecesUptoRow.holds Tryd.pinned (OpenSpec.upto unitsPiecesSpec)

/-- 'cameolaw01.UnitsOrders', WHERE WHAT IT READS IS OF BULK AT MOST 1048576: true; the input reads as it did. -/
def unitsOrdersUptoRow : OpenClaim := { program := "ytiegeggafhmehaadoor", sum := "0753d19bec230103d4cb4212c2ea84d92c1870ee8b8ceb93251ae7def3fa59d3", func := "cameo/cameolaw01.UnitsOrders", spec := "unitsOrders", unfollowed := true, recurses := true, named := ["unicode/utf8.first", "unicode/utf8.acceptRanges"], apart := false, laid := [("unicode/utf8.acceptRanges", laid_unicode_utf8_acceptRanges), ("unicode/utf8.first", laid_unicode_utf8_first)], narrowed := true }
def UnitsOrdersUptoSaid : Prop := unitsOrdersUptoRow.holds Tryd.pinned (OpenSpec.upto unitsOrdersSpec)

/-- 'cameolaw03.ValueHolds', WHERE WHAT IT READS IS OF BULK AT MOST 1048576: true; the input reads as it did. -/
def valueHoldsUptoRow : OpenClaim := { program := "ytiegeggafhmehaadoor", sum := "0753d19bec230103d4cb4212c2ea84d92c1870ee8b8ceb93251ae7def3fa59d3", func := "cameo/cameolaw03.ValueHolds", spec := "valueHolds", inPlace := ["math.Float64bits"], unfollowed := true, recurses := true, named := ["unicode/utf8.first", "unicode/utf8.acceptRanges"], apart := false, laid := [("unicode/utf8.acceptRanges", laid_unicode_utf8_acceptRanges), ("unicode/utf8.first", laid_unicode_utf8_first)], narrowed := true }
def ValueHoldsUptoSaid : Prop := valueHoldsUptoRow.holds Tryd.pinned (OpenSpec.upto valueHoldsSpec)

/-- 'cameolaw01.UnitsCuts', WHERE WHAT IT READS IS OF BULK AT MOST 1048576: true; the input reads as it did. -/
def unitsCutsUptoRow : OpenClaim := { program := "ytiegeggafhmehaadoor", sum := "0753d19bec230103d4cb4212c2ea84d92c1870ee8b8ceb93251ae7def3fa59d3", func := "cameo/cameolaw01.UnitsCuts", spec := "unitsCuts", unfollowed := true, recurses := true, named := ["unicode/utf8.first", "unicode/utf8.acceptRanges"], apart := false, laid := [("unicode/utf8.acceptRanges", laid_unicode_utf8_acceptRanges), ("unicode/utf8.first", laid_unicode_utf8_first)], narrowed := true }
def UnitsCutsUptoSaid : Prop := unitsCutsUptoRow.holds Tryd.pinned (OpenSpec.upto unitsCutsSpec)

/-- 'cameolaw08.SymbolNew', WHERE WHAT IT READS IS OF BULK AT MOST 1048576: true; the input reads as it did. -/
def symbolNewUptoRow : OpenClaim := { program := "ytiegeggafhmehaadoor", sum := "0753d19bec230103d4cb4212c2ea84d92c1870ee8b8ceb93251ae7def3fa59d3", func := "cameo/cameolaw08.SymbolNew", spec := "symbolNew", inPlace := ["math.Float64bits"], unfollowed := true, recurses := true, named := ["unicode/utf8.first", "unicode/utf8.acceptRanges"], apart := false, laid := [("unicode/utf8.acceptRanges", laid_unicode_utf8_acceptRanges), ("unicode/utf8.first", laid_unicode_utf8_first)], narrowed := true }
def SymbolNewUptoSaid : Prop := symbolNewUptoRow.holds Tryd.pinned (OpenSpec.upto symbolNewSpec)

/-- 'cameolaw11.CallSounds', WHERE WHAT IT READS IS OF BULK AT MOST 1048576: true; the input reads as it did. -/
def callSoundsUptoRow : OpenClaim := { program := "ytiegeggafhmehaadoor", sum := "0753d19bec230103d4cb4212c2ea84d92c1870ee8b8ceb93251ae7def3fa59d3", func := "cameo/cameolaw11.CallSounds", spec := "callSounds", inPlace := ["math.Float64bits"], unfollowed := true, recurses := true, named := ["unicode/utf8.first", "unicode/utf8.acceptRanges"], apart := false, laid := [("unicode/utf8.acceptRanges", laid_unicode_utf8_acceptRanges), ("unicode/utf8.first", laid_unicode_utf8_first)], narrowed := true }
def CallSoundsUptoSaid : Prop := callSoundsUptoRow.holds Tryd.pinned (OpenSpec.upto callSoundsSpec)

/-- 'cameolaw01.UnitsTotal', WHERE WHAT IT READS IS OF BULK AT MOST 1048576: true; the input reads as it did. -/
def unitsTotalUptoRow : OpenClaim := { program := "ytiegeggafhmehaadoor", sum := "0753d19bec230103d4cb4212c2ea84d92c1870ee8b8ceb93251ae7def3fa59d3", func := "cameo/cameolaw01.UnitsTotal", spec := "unitsTotal", unfollowed := true, recurses := true, named := ["unicode/utf8.first", "unicode/utf8.acceptRanges"], apart := false, laid := [("unicode/utf8.acceptRanges", laid_unicode_utf8_acceptRanges), ("unicode/utf8.first", laid_unicode_utf8_first)], narrowed := true }
def UnitsTotalUptoSaid : Prop := unitsTotalUptoRow.holds Tryd.pinned (OpenSpec.upto unitsTotalSpec)

end Rows
end Go.Proofs.YtiegeggafhmehaaDoor
