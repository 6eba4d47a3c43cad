/-
  NARROWER THAN 'FOR EVERY INPUT', by the rows' own cells (each row's printed sentence says how): SymbolExact: laid.
  DERIVED. THE GIVEN ROWS OF THIS SEAT. 1 by the template 'for every input the law returns true; each argument reads behind the call as it read before'; 0 by the template 'total and deterministic' (their statements: YtnknfffldgkgcaaGreatDoorTotals.lean).
  GIVEN WITH THE SEED: the statements are not yours to turn. If you find one false, say at which input.
  Laid BY PROGRAM, IN A SANDBOX (cutbox-rows.mjs): the forced cells as the released guide's own fill.sh prints them over the translation beb18ca7bcae7150… (all of the seat's roots in one cut). By AI agents, Wed Nov 11 2026. No macro, syntax, notation, axiom, sorry.
-/
import Derived.Test.YtnknfffldgkgcaaGreatDoorChecked
import GoSem.PinnedTables
import GoSem.Claim
import GoSem.ClaimJoined
import GoSem.ClaimMapViews
import Derived.JoinedTies
import Derived.KernelRfl
namespace Go.Proofs.YtnknfffldgkgcaaGreatDoor
/- THE CELL 'sum', in the pinned program and in every row, IS THE sha256 OF THE DUMP (.gsa) THAT YtnknfffldgkgcaaGreatDoorProg.lean LOADS. Nothing in Lean hashes anything: it is a label: what it is worth is what the hold of that sum in a sandbox is worth. -/
noncomputable def Tryz.pinned : Pinned := { name := "ytnknfffldgkgcaagreatdoor", sum := "beb18ca7bcae7150942759768e8cec783007b7e341697c5dbf8449da91a919ed", checked := Tryz.checked }
namespace Rows
def none {H : Type} : Left H := { results := [], args := [] }

/- WHAT THE LISTED PACKAGE-LEVEL VARIABLES READ AS WHEN THE CALL BEGINS. Each datum BY PROGRAM (the guide's laid-datum.mjs) off the statement by which the dump's own 'gosem.cut.vars' lays the variable. In a bare row this is a premise. The card (YtnknfffldgkgcaaGreatDoorCards.lean) ties it to the program's text. -/
def laid_unicode_utf8_acceptRanges {H : Type} : DataW H := .agg [.agg [.lit (.int .u8 128), .lit (.int .u8 191)], .agg [.lit (.int .u8 160), .lit (.int .u8 191)], .agg [.lit (.int .u8 128), .lit (.int .u8 159)], .agg [.lit (.int .u8 144), .lit (.int .u8 191)], .agg [.lit (.int .u8 128), .lit (.int .u8 143)], .agg [.lit (.int .u8 0), .lit (.int .u8 0)], .agg [.lit (.int .u8 0), .lit (.int .u8 0)], .agg [.lit (.int .u8 0), .lit (.int .u8 0)], .agg [.lit (.int .u8 0), .lit (.int .u8 0)], .agg [.lit (.int .u8 0), .lit (.int .u8 0)], .agg [.lit (.int .u8 0), .lit (.int .u8 0)], .agg [.lit (.int .u8 0), .lit (.int .u8 0)], .agg [.lit (.int .u8 0), .lit (.int .u8 0)], .agg [.lit (.int .u8 0), .lit (.int .u8 0)], .agg [.lit (.int .u8 0), .lit (.int .u8 0)], .agg [.lit (.int .u8 0), .lit (.int .u8 0)]]
def laid_cameo_cameoref08_Names {H : Type} : DataW H := .agg [.lit (.string [97, 115, 121, 110, 99, 73, 116, 101, 114, 97, 116, 111, 114]), .lit (.string [104, 97, 115, 73, 110, 115, 116, 97, 110, 99, 101]), .lit (.string [105, 115, 67, 111, 110, 99, 97, 116, 83, 112, 114, 101, 97, 100, 97, 98, 108, 101]), .lit (.string [105, 116, 101, 114, 97, 116, 111, 114]), .lit (.string [109, 97, 116, 99, 104]), .lit (.string [109, 97, 116, 99, 104, 65, 108, 108]), .lit (.string [114, 101, 112, 108, 97, 99, 101]), .lit (.string [115, 101, 97, 114, 99, 104]), .lit (.string [115, 112, 101, 99, 105, 101, 115]), .lit (.string [115, 112, 108, 105, 116]), .lit (.string [116, 111, 80, 114, 105, 109, 105, 116, 105, 118, 101]), .lit (.string [116, 111, 83, 116, 114, 105, 110, 103, 84, 97, 103]), .lit (.string [117, 110, 115, 99, 111, 112, 97, 98, 108, 101, 115])]
/-- One of Go's own tables, pinned by name: the form's constant. -/
def laid_unicode_utf8_first : DataW Unit := Go.Pinned.utf8First

/-- 'cameolaw08.SymbolExact': WHATEVER THE INPUT: true; the input reads as it did. -/
def symbolExactSpec : ChangeSpec := { name := "symbolExact", fn := fun _ => fun
  | [d] => { results := [.lit (.bool true)], args := [d] }
  | _ => none }
def symbolExactRow : OpenClaim := { program := "ytnknfffldgkgcaagreatdoor", sum := "beb18ca7bcae7150942759768e8cec783007b7e341697c5dbf8449da91a919ed", func := "cameo/cameolaw08.SymbolExact", spec := "symbolExact", inPlace := ["math.Float64bits", "maps.clone"], unfollowed := true, recurses := true, named := ["unicode/utf8.first", "unicode/utf8.acceptRanges", "cameo/cameoref08.Names"], apart := false, laid := [("unicode/utf8.acceptRanges", laid_unicode_utf8_acceptRanges), ("cameo/cameoref08.Names", laid_cameo_cameoref08_Names), ("unicode/utf8.first", laid_unicode_utf8_first)] }
def SymbolExactSaid : Prop := symbolExactRow.holds Tryz.pinned (OpenSpec.ofChange symbolExactSpec)

/-- ITS FALSE NEIGHBOUR: 'it returns false'. Refute it at one input. -/
def symbolExactWrong : ChangeSpec := { name := "symbolExact", fn := fun _ => fun
  | [d] => { results := [.lit (.bool false)], args := [d] }
  | _ => none }
def SymbolExactWrongFalsely : Prop := symbolExactRow.holds Tryz.pinned (OpenSpec.ofChange symbolExactWrong)

/- THE SECOND FORM. 'bulk': how many values and letters a reading holds, each counted each time it is reached (what is shared counts as often as it is met; a slice's spare places count too). A statement '..UptoSaid' is the law's where the arguments, and the package variables that the reading takes, are together of bulk at most 1048576: NARROWER than '..Said'. Prove '..Said' where nothing that the law and all that it calls make is longer than what came in: it says more and counts as full. Else prove '..UptoSaid'. A law counts once. -/
mutual
def uptoBulk {H : Type} : DataW H → Nat
  | .lit (.string bytes) => bytes.length + 1
  | .lit _ => 1
  | .nil => 1
  | .ptr d => uptoBulk d + 1
  | .slice elems spare => uptoBulkAll elems + uptoBulkAll spare + 1
  | .agg parts => uptoBulkAll parts + 1
  | .iface _ d => uptoBulk d + 1
  | .map entries => uptoBulkEntries entries + 1
  | .held _ => 1
def uptoBulkAll {H : Type} : List (DataW H) → Nat
  | [] => 0
  | d :: r => uptoBulk d + uptoBulkAll r
def uptoBulkEntries {H : Type} : List (Lit × DataW H) → Nat
  | [] => 0
  | x :: r => uptoBulkEntry x + uptoBulkEntries r
def uptoBulkEntry {H : Type} : Lit × DataW H → Nat
  | (.string bytes, d) => bytes.length + uptoBulk d + 1
  | (_, d) => uptoBulk d + 1
 end
def uptoSmall : (H : Type) → List (DataW H) → Bool := fun _ ds => decide (uptoBulkAll ds ≤ 1048576)
def OpenSpec.upto (s : _root_.Go.ChangeSpec) : _root_.Go.OpenSpec := { _root_.Go.OpenSpec.ofChange s with cond := some uptoSmall }

/-- 'cameolaw08.SymbolExact', WHERE WHAT IT READS IS OF BULK AT MOST 1048576: true; the input reads as it did. -/
def symbolExactUptoRow : OpenClaim := { program := "ytnknfffldgkgcaagreatdoor", sum := "beb18ca7bcae7150942759768e8cec783007b7e341697c5dbf8449da91a919ed", func := "cameo/cameolaw08.SymbolExact", spec := "symbolExact", inPlace := ["math.Float64bits", "maps.clone"], unfollowed := true, recurses := true, named := ["unicode/utf8.first", "unicode/utf8.acceptRanges", "cameo/cameoref08.Names"], apart := false, laid := [("unicode/utf8.acceptRanges", laid_unicode_utf8_acceptRanges), ("cameo/cameoref08.Names", laid_cameo_cameoref08_Names), ("unicode/utf8.first", laid_unicode_utf8_first)], narrowed := true }
def SymbolExactUptoSaid : Prop := symbolExactUptoRow.holds Tryz.pinned (OpenSpec.upto symbolExactSpec)

end Rows
end Go.Proofs.YtnknfffldgkgcaaGreatDoor
