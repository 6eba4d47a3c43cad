/-
  NARROWER THAN 'FOR EVERY INPUT', by the rows' own cells (each row's printed sentence says how): SymbolNames: laid · SymbolKnown: laid.
  DERIVED. THE GIVEN ROWS OF THIS SEAT. 2 by the template 'for every input the law returns true; each argument reads behind the call as it read before'; 0 by the template 'total and deterministic' (their statements: YtgnifckehopjhaaDoorTotals.lean).
  GIVEN WITH THE SEED: the statements are not yours to turn. If you find one false, say at which input.
  Laid BY PROGRAM, IN A SANDBOX (cutbox-rows.mjs): the forced cells as the released guide's own fill.sh prints them over the translation f522b92f8ea03f96… (all of the seat's roots in one cut). By AI agents, Wed Nov 11 2026. No macro, syntax, notation, axiom, sorry.
-/
import Derived.Test.YtgnifckehopjhaaDoorChecked
import GoSem.PinnedTables
import GoSem.Claim
import GoSem.ClaimJoined
import GoSem.ClaimMapViews
import Derived.JoinedTies
import Derived.KernelRfl
namespace Go.Proofs.YtgnifckehopjhaaDoor
/- THE CELL 'sum', in the pinned program and in every row, IS THE sha256 OF THE DUMP (.gsa) THAT YtgnifckehopjhaaDoorProg.lean LOADS. Nothing in Lean hashes anything: it is a label: what it is worth is what the hold of that sum in a sandbox is worth. -/
noncomputable def Tryd.pinned : Pinned := { name := "ytgnifckehopjhaadoor", sum := "f522b92f8ea03f96da95bf35de4f17e0a71f81730eef53e8d6959cfc1e555bd7", checked := Tryd.checked }
namespace Rows
def none {H : Type} : Left H := { results := [], args := [] }

/- WHAT THE LISTED PACKAGE-LEVEL VARIABLES READ AS WHEN THE CALL BEGINS. Each datum BY PROGRAM (the guide's laid-datum.mjs) off the statement by which the dump's own 'gosem.cut.vars' lays the variable. In a bare row this is a premise. The card (YtgnifckehopjhaaDoorCards.lean) ties it to the program's text. -/
def laid_unicode_utf8_acceptRanges {H : Type} : DataW H := .agg [.agg [.lit (.int .u8 128), .lit (.int .u8 191)], .agg [.lit (.int .u8 160), .lit (.int .u8 191)], .agg [.lit (.int .u8 128), .lit (.int .u8 159)], .agg [.lit (.int .u8 144), .lit (.int .u8 191)], .agg [.lit (.int .u8 128), .lit (.int .u8 143)], .agg [.lit (.int .u8 0), .lit (.int .u8 0)], .agg [.lit (.int .u8 0), .lit (.int .u8 0)], .agg [.lit (.int .u8 0), .lit (.int .u8 0)], .agg [.lit (.int .u8 0), .lit (.int .u8 0)], .agg [.lit (.int .u8 0), .lit (.int .u8 0)], .agg [.lit (.int .u8 0), .lit (.int .u8 0)], .agg [.lit (.int .u8 0), .lit (.int .u8 0)], .agg [.lit (.int .u8 0), .lit (.int .u8 0)], .agg [.lit (.int .u8 0), .lit (.int .u8 0)], .agg [.lit (.int .u8 0), .lit (.int .u8 0)], .agg [.lit (.int .u8 0), .lit (.int .u8 0)]]
def laid_cameo_cameoref08_Names {H : Type} : DataW H := .agg [.lit (.string [97, 115, 121, 110, 99, 73, 116, 101, 114, 97, 116, 111, 114]), .lit (.string [104, 97, 115, 73, 110, 115, 116, 97, 110, 99, 101]), .lit (.string [105, 115, 67, 111, 110, 99, 97, 116, 83, 112, 114, 101, 97, 100, 97, 98, 108, 101]), .lit (.string [105, 116, 101, 114, 97, 116, 111, 114]), .lit (.string [109, 97, 116, 99, 104]), .lit (.string [109, 97, 116, 99, 104, 65, 108, 108]), .lit (.string [114, 101, 112, 108, 97, 99, 101]), .lit (.string [115, 101, 97, 114, 99, 104]), .lit (.string [115, 112, 101, 99, 105, 101, 115]), .lit (.string [115, 112, 108, 105, 116]), .lit (.string [116, 111, 80, 114, 105, 109, 105, 116, 105, 118, 101]), .lit (.string [116, 111, 83, 116, 114, 105, 110, 103, 84, 97, 103]), .lit (.string [117, 110, 115, 99, 111, 112, 97, 98, 108, 101, 115])]
/-- One of Go's own tables, pinned by name: the form's constant. -/
def laid_unicode_utf8_first : DataW Unit := Go.Pinned.utf8First

/-- 'cameolaw08.SymbolNames': WHATEVER THE INPUT: true; the input reads as it did. -/
def symbolNamesSpec : ChangeSpec := { name := "symbolNames", fn := fun _ => fun
  | [d] => { results := [.lit (.bool true)], args := [d] }
  | _ => none }
def symbolNamesRow : OpenClaim := { program := "ytgnifckehopjhaadoor", sum := "f522b92f8ea03f96da95bf35de4f17e0a71f81730eef53e8d6959cfc1e555bd7", func := "cameo/cameolaw08.SymbolNames", spec := "symbolNames", inPlace := ["math.Float64bits"], unfollowed := true, recurses := true, named := ["cameo/cameoref08.Names", "unicode/utf8.first", "unicode/utf8.acceptRanges"], apart := false, laid := [("unicode/utf8.acceptRanges", laid_unicode_utf8_acceptRanges), ("cameo/cameoref08.Names", laid_cameo_cameoref08_Names), ("unicode/utf8.first", laid_unicode_utf8_first)] }
def SymbolNamesSaid : Prop := symbolNamesRow.holds Tryd.pinned (OpenSpec.ofChange symbolNamesSpec)

/-- ITS FALSE NEIGHBOUR: 'it returns false'. Refute it at one input. -/
def symbolNamesWrong : ChangeSpec := { name := "symbolNames", fn := fun _ => fun
  | [d] => { results := [.lit (.bool false)], args := [d] }
  | _ => none }
def SymbolNamesWrongFalsely : Prop := symbolNamesRow.holds Tryd.pinned (OpenSpec.ofChange symbolNamesWrong)

/-- 'cameolaw08.SymbolKnown': WHATEVER THE INPUT: true; the input reads as it did. -/
def symbolKnownSpec : ChangeSpec := { name := "symbolKnown", fn := fun _ => fun
  | [d1, d2] => { results := [.lit (.bool true)], args := [d1, d2] }
  | _ => none }
def symbolKnownRow : OpenClaim := { program := "ytgnifckehopjhaadoor", sum := "f522b92f8ea03f96da95bf35de4f17e0a71f81730eef53e8d6959cfc1e555bd7", func := "cameo/cameolaw08.SymbolKnown", spec := "symbolKnown", inPlace := ["math.Float64bits"], unfollowed := true, recurses := true, named := ["unicode/utf8.first", "unicode/utf8.acceptRanges"], apart := false, laid := [("unicode/utf8.acceptRanges", laid_unicode_utf8_acceptRanges), ("unicode/utf8.first", laid_unicode_utf8_first)] }
def SymbolKnownSaid : Prop := symbolKnownRow.holds Tryd.pinned (OpenSpec.ofChange symbolKnownSpec)

/-- ITS FALSE NEIGHBOUR: 'it returns false'. Refute it at one input. -/
def symbolKnownWrong : ChangeSpec := { name := "symbolKnown", fn := fun _ => fun
  | [d1, d2] => { results := [.lit (.bool false)], args := [d1, d2] }
  | _ => none }
def SymbolKnownWrongFalsely : Prop := symbolKnownRow.holds Tryd.pinned (OpenSpec.ofChange symbolKnownWrong)

/- THE SECOND FORM. 'bulk': how many values and letters a reading holds, each counted each time it is reached (what is shared counts as often as it is met; a slice's spare places count too). A statement '..UptoSaid' is the law's where the arguments, and the package variables that the reading takes, are together of bulk at most 1048576: NARROWER than '..Said'. Prove '..Said' where nothing that the law and all that it calls make is longer than what came in: it says more and counts as full. Else prove '..UptoSaid'. A law counts once. -/
mutual
def uptoBulk {H : Type} : DataW H → Nat
  | .lit (.string bytes) => bytes.length + 1
  | .lit _ => 1
  | .nil => 1
  | .ptr d => uptoBulk d + 1
  | .slice elems spare => uptoBulkAll elems + uptoBulkAll spare + 1
  | .agg parts => uptoBulkAll parts + 1
  | .iface _ d => uptoBulk d + 1
  | .map entries => uptoBulkEntries entries + 1
  | .held _ => 1
def uptoBulkAll {H : Type} : List (DataW H) → Nat
  | [] => 0
  | d :: r => uptoBulk d + uptoBulkAll r
def uptoBulkEntries {H : Type} : List (Lit × DataW H) → Nat
  | [] => 0
  | x :: r => uptoBulkEntry x + uptoBulkEntries r
def uptoBulkEntry {H : Type} : Lit × DataW H → Nat
  | (.string bytes, d) => bytes.length + uptoBulk d + 1
  | (_, d) => uptoBulk d + 1
 end
def uptoSmall : (H : Type) → List (DataW H) → Bool := fun _ ds => decide (uptoBulkAll ds ≤ 1048576)
def OpenSpec.upto (s : _root_.Go.ChangeSpec) : _root_.Go.OpenSpec := { _root_.Go.OpenSpec.ofChange s with cond := some uptoSmall }

/-- 'cameolaw08.SymbolNames', WHERE WHAT IT READS IS OF BULK AT MOST 1048576: true; the input reads as it did. -/
def symbolNamesUptoRow : OpenClaim := { program := "ytgnifckehopjhaadoor", sum := "f522b92f8ea03f96da95bf35de4f17e0a71f81730eef53e8d6959cfc1e555bd7", func := "cameo/cameolaw08.SymbolNames", spec := "symbolNames", inPlace := ["math.Float64bits"], unfollowed := true, recurses := true, named := ["cameo/cameoref08.Names", "unicode/utf8.first", "unicode/utf8.acceptRanges"], apart := false, laid := [("unicode/utf8.acceptRanges", laid_unicode_utf8_acceptRanges), ("cameo/cameoref08.Names", laid_cameo_cameoref08_Names), ("unicode/utf8.first", laid_unicode_utf8_first)], narrowed := true }
def SymbolNamesUptoSaid : Prop := symbolNamesUptoRow.holds Tryd.pinned (OpenSpec.upto symbolNamesSpec)

/-- 'cameolaw08.SymbolKnown', WHERE WHAT IT READS IS OF BULK AT MOST 1048576: true; the input reads as it did. -/
def symbolKnownUptoRow : OpenClaim := { program := "ytgnifckehopjhaadoor", sum := "f522b92f8ea03f96da95bf35de4f17e0a71f81730eef53e8d6959cfc1e555bd7", func := "cameo/cameolaw08.SymbolKnown", spec := "symbolKnown", inPlace := ["math.Float64bits"], unfollowed := true, recurses := true, named := ["unicode/utf8.first", "unicode/utf8.acceptRanges"], apart := false, laid := [("unicode/utf8.acceptRanges", laid_unicode_utf8_acceptRanges), ("unicode/utf8.first", laid_unicode_utf8_first)], narrowed := true }
def SymbolKnownUptoSaid : Prop := symbolKnownUptoRow.holds Tryd.pinned (OpenSpec.upto symbolKnownSpec)

end Rows
end Go.Proofs.YtgnifckehopjhaaDoor
