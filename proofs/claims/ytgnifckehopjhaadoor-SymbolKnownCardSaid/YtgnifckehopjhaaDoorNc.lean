import Derived.Test.YtgnifckehopjhaaDoorCards
import Derived.Test.YtgnifckehopjhaaDoorTie
import Derived.Test.YtgnifckehopjhaaDoorTabs
import Derived.Lib.LaidIn
import Derived.Lib.LaidU8
import Derived.Deep.DeepHandedRow
import Derived.Deep.DeepWitnessRowRef
import Derived.ProofKit
import Derived.SizedLaws
import Derived.Test.YtgnifckehopjhaaDoorValC
import Derived.OpenShut
import Derived.Test.YtgnifckehopjhaaDoorSymG
import Derived.Deep.Slices
import Derived.Test.YtgnifckehopjhaaDoorKnoFZz
set_option linter.all false
/- What the cards of this seat share: the world of the witness, the tables out of the row's list, the bound. -/
namespace Go.Proofs.YtgnifckehopjhaaDoor.CC
open Go.ChangeShapes Go.WideShapes Go.ChangeAt Go.RowKit Go.Lib

theorem own : ownKnob Tryd.prog.godebug = none := by kernel_rfl
def laidL : List (String × DataW Unit) := [("unicode/utf8.acceptRanges", Rows.laid_unicode_utf8_acceptRanges), ("unicode/utf8.first", Rows.laid_unicode_utf8_first)]

/-- The world of the witness: settled, the two variables holding what their initialisers lay. -/
noncomputable def laidWorld (os : Os) : World :=
  let w0 := World.holding Tryd.prog os ⟨#[], #[], []⟩
  let put (h : Array Obj) (g : Nat) (cs : Array Value) : Array Obj := h.modify g fun
    | .cells _ t frozen => .cells cs t frozen
    | o => o
  let h1 := put w0.heap 2 (Lib.firstTab.map fun z => Value.int .u8 z).toArray
  let h2 := put h1 3 ((List.range 16).flatMap fun i => [Value.int .u8 (Lib.accLo i), Value.int .u8 (Lib.accHi i)]).toArray
  { w0 with heap := h2 }
theorem laid_met (os : Os) (args : Array Value) : laidMet Tryd.prog laidL ((laidWorld os).forCall (fun _ _ => 0) ⟨#[], args, []⟩).memory :=
  (LaidIn.of_run (l := laidL) [3, 2] 8 (by kernel_rfl) (by kernel_rfl) (by kernel_rfl) (by kernel_rfl)).met

theorem first_eq : Rows.laid_unicode_utf8_first = Lib.firstData := by kernel_rfl
theorem accept_eq : (Rows.laid_unicode_utf8_acceptRanges : DataW Unit) = Lib.acceptData := by kernel_rfl

theorem tabs_of {W : World} (hL : laidMet Tryd.prog laidL W) : Tabs W := by
  have h4 := Lib.laidMet.reads hL (List.Mem.head _)
  have h3 := Lib.laidMet.reads hL (List.Mem.tail _ (List.Mem.head _))
  rw [first_eq] at h3
  rw [accept_eq] at h4
  have U := utf8Tabs_of_reads Tryd.lays260 ⟨by kernel_rfl, by kernel_rfl, by kernel_rfl, by kernel_rfl, by kernel_rfl, by kernel_rfl, by kernel_rfl⟩ h3 h4
  refine ⟨U, World.block_lt_of_cell? W ⟨2, 0, none⟩ (U.1 0 (by decide)), ?_⟩
  exact World.block_lt_of_cell? W ⟨3, 0, none⟩ (U.2 0 (by decide)).1

theorem small {H : Type} {l : List (DataW H)} (hk : Rows.uptoSmall H l = true) : Rows.uptoBulkAll l ≤ 1048576 := of_decide_eq_true hk
theorem bulk_str {H : Type} (b : List UInt8) (r : List (DataW H)) : Rows.uptoBulkAll (DataW.lit (.string b) :: r) = b.length + 1 + Rows.uptoBulkAll r := by
  simp only [Rows.uptoBulkAll, Rows.uptoBulk]
theorem bulk_int {H : Type} (k : IntKind) (z : Int) (r : List (DataW H)) : Rows.uptoBulkAll (DataW.lit (.int k z) :: r) = 1 + Rows.uptoBulkAll r := by
  simp only [Rows.uptoBulkAll, Rows.uptoBulk]
end Go.Proofs.YtgnifckehopjhaaDoor.CC

/- An argument that is a value of the language: what the reading gives. -/
namespace Go.Proofs.YtgnifckehopjhaaDoor.CC
open Go.ChangeShapes Go.WideShapes Go.ChangeAt Go.RowKit

theorem laidOut : laidOutB Tryd.prog = true := by kernel_rfl
theorem bulk_any {H : Type} (d : DataW H) (r : List (DataW H)) : Rows.uptoBulkAll (d :: r) = Rows.uptoBulk d + Rows.uptoBulkAll r := by
  simp only [Rows.uptoBulkAll]
theorem types_val : Tryd.prog.cellTypes Tryd.prog.depth 44 = some [3, 4, 42, 9, 3] := by kernel_rfl
theorem size_val : Tryd.prog.cellsOf 44 = 5 := by kernel_rfl
set_option maxRecDepth 100000 in
theorem cell_int {W : World} {base : Nat} {v : Value} (h : Cell.okWide Tryd.prog W .any base 3 v) : ∃ n, v = .int .i64 n := by
  simp only [Cell.okWide, Cell.ok, Tryd.underlying3] at h
  cases v <;> simp at h
  exact ⟨_, by rw [h.1]⟩
set_option maxRecDepth 100000 in
theorem cell_bool {W : World} {base : Nat} {v : Value} (h : Cell.okWide Tryd.prog W .any base 4 v) : ∃ b, v = .bool b := by
  simp only [Cell.okWide, Cell.ok, Tryd.underlying4] at h
  cases v <;> simp at h
  exact ⟨_, rfl⟩
set_option maxRecDepth 100000 in
theorem cell_string {W : World} {base : Nat} {v : Value} (h : Cell.okWide Tryd.prog W .any base 9 v) : ∃ s, v = .string s := by
  simp only [Cell.okWide, Cell.ok, Tryd.underlying9] at h
  cases v <;> simp at h
  exact ⟨_, rfl⟩
set_option maxRecDepth 100000 in
theorem cell_float {W : World} {base : Nat} {v : Value} (h : Cell.okWide Tryd.prog W .any base 42 v) : ∃ n, v = .float .f64 n ∧ n < 18446744073709551616 := by
  simp only [Cell.okWide, Cell.ok, Tryd.underlying42] at h
  cases v <;> simp at h
  obtain ⟨rfl, h2⟩ := h
  exact ⟨_, rfl, by simpa [FloatKind.has] using h2⟩
set_option maxRecDepth 100000 in
theorem open_f64 {W : World} {base : Nat} {v : Value} (h : Value.okWide Tryd.prog W .any base 42 v) : ∃ n, v = .float .f64 n ∧ n < 18446744073709551616 := by
  simp only [Value.okWide, Tryd.underlying42] at h
  exact cell_float h
set_option maxRecDepth 100000 in
theorem open_val {W : World} {base : Nat} {v : Value} (h : Value.okWide Tryd.prog W .any base 44 v) : ∃ (k : Int) (b : Bool) (n : Nat) (s : ByteArray) (i : Int), v = VV k b n s i ∧ n < 18446744073709551616 := by
  simp only [Value.okWide, Tryd.underlying44] at h
  obtain ⟨cs, rfl, hsz, ts, hts, _, hc⟩ := h
  rw [types_val] at hts
  obtain rfl := Option.some.inj hts.symm
  rw [size_val] at hsz
  obtain ⟨l, rfl⟩ : ∃ l : List Value, cs = l.toArray := ⟨cs.toList, by simp⟩
  simp only [List.size_toArray] at hsz
  match l, hsz with
  | [c0, c1, c2, c3, c4], _ =>
    obtain ⟨u0, e0, g0⟩ := hc 0 c0 rfl
    obtain ⟨u1, e1, g1⟩ := hc 1 c1 rfl
    obtain ⟨u2, e2, g2⟩ := hc 2 c2 rfl
    obtain ⟨u3, e3, g3⟩ := hc 3 c3 rfl
    obtain ⟨u4, e4, g4⟩ := hc 4 c4 rfl
    obtain rfl := Option.some.inj e0
    obtain rfl := Option.some.inj e1
    obtain rfl := Option.some.inj e2
    obtain rfl := Option.some.inj e3
    obtain rfl := Option.some.inj e4
    obtain ⟨k, rfl⟩ := cell_int g0
    obtain ⟨b, rfl⟩ := cell_bool g1
    obtain ⟨n, rfl, hn⟩ := cell_float g2
    obtain ⟨s, rfl⟩ := cell_string g3
    obtain ⟨i, rfl⟩ := cell_int g4
    exact ⟨k, b, n, s, i, rfl, hn⟩
end Go.Proofs.YtgnifckehopjhaaDoor.CC

/- An argument that is a row of values of the language: what the reading gives. -/
namespace Go.Proofs.YtgnifckehopjhaaDoor.CC
open Go.ChangeShapes Go.WideShapes Go.ChangeAt Go.RowKit

section
variable {H : Type} {enc : TypeId × Value → H} {W : World}
theorem trod_float {t : TypeId} {k : FloatKind} {n : Nat} {cs : List Value} {x : DataW H × List MemPlace} {sp : Nat → Bool} {held : Bool} (ht : Tryd.prog.underlying t = some (.float k)) (h : DataW.trod enc Tryd.prog W 0 sp held n t cs = some x) : ∃ b, cs = [.float k b] ∧ (Lit.float k b).wf = true := by
  cases n with
  | zero => simp [DataW.trod] at h
  | succ n =>
    unfold DataW.trod at h
    rw [ht] at h
    split at h <;> simp_all

theorem cells_val : Tryd.prog.cellsOf 44 = 5 ∧ Tryd.prog.cellsOf 3 = 1 ∧ Tryd.prog.cellsOf 4 = 1 ∧ Tryd.prog.cellsOf 42 = 1 ∧ Tryd.prog.cellsOf 9 = 1 := ⟨by kernel_rfl, by kernel_rfl, by kernel_rfl, by kernel_rfl, by kernel_rfl⟩

set_option maxRecDepth 100000 in
theorem elem_val {n : Nat} {cs : List Value} {x : DataW H × List MemPlace} {sp : Nat → Bool} {held : Bool} (h : DataW.trod enc Tryd.prog W 0 sp held n 44 cs = some x) :
    ∃ v : Vl, cs = [.int .i64 v.k, .bool v.b, .float .f64 v.n, .string v.s, .int .i64 v.i] ∧ v.n < 18446744073709551616 := by
  obtain ⟨z0, z1, z2, z3, z4⟩ := cells_val
  obtain ⟨xs, m, _, _, hl, hx, hf⟩ := DataW.trod_struct Tryd.underlying44 h
  rw [z0] at hl
  match cs, hl with
  | [c0, c1, c2, c3, c4], _ =>
    have hxl : xs.length = 5 := hx
    match xs, hxl with
    | [y0, y1, y2, y3, y4], _ =>
      have g0 := hf 0 _ rfl
      have g1 := hf 1 _ rfl
      have g2 := hf 2 _ rfl
      have g3 := hf 3 _ rfl
      have g4 := hf 4 _ rfl
      simp [z1, z2, z3, z4] at g0 g1 g2 g3 g4
      obtain ⟨k, e0, _⟩ := DataW.trod_int Tryd.underlying3 g0
      obtain ⟨b, e1, _⟩ := DataW.trod_bool Tryd.underlying4 g1
      obtain ⟨f, e2, w2⟩ := trod_float Tryd.underlying42 g2
      obtain ⟨s, e3, _⟩ := DataW.trod_string Tryd.underlying9 g3
      obtain ⟨i, e4, _⟩ := DataW.trod_int Tryd.underlying3 g4
      refine ⟨⟨k, b, f, s, i⟩, ?_, ?_⟩
      · simp only [List.cons.injEq, and_true] at e0 e1 e2 e3 e4
        rw [e0, e1, e2, e3, e4]
      · simpa [Lit.wf, FloatKind.has] using w2

theorem open_vals {a : Option Addr} {len cap : Nat} {d : DataW H} {p : List MemPlace} (h : DataW.Trod enc Tryd.prog W 0 (fun _ => true) true 34 (.slice a len cap) d p) :
    ∃ L : List Vl, len = L.length ∧ VRow W a L ∧ ∀ v ∈ L, v.n < 18446744073709551616 := by
  obtain ⟨fuel, hf⟩ := h
  rcases Deep.open_slice Tryd.underlying34 hf with ⟨hcs, hx⟩ | ⟨x, l, c, m, n, D, Pl, hcs, hb, hl, hm, hmm, hx, hcell⟩
  · simp [Value.cells] at hcs
    obtain ⟨rfl, rfl, rfl⟩ := hcs
    exact ⟨[], rfl, fun h => absurd h (by simp), by simp⟩
  · simp [Value.cells] at hcs
    obtain ⟨rfl, rfl, rfl⟩ := hcs
    simp only [if_true] at hmm
    have each : ∀ i, i < len → ∃ v : Vl, (W.cell? (x.add (i * 5)) = some (.int .i64 v.k) ∧ W.cell? (x.add (i * 5 + 1)) = some (.bool v.b) ∧ W.cell? (x.add (i * 5 + 2)) = some (.float .f64 v.n) ∧ W.cell? (x.add (i * 5 + 3)) = some (.string v.s) ∧ W.cell? (x.add (i * 5 + 4)) = some (.int .i64 v.i)) ∧ v.n < 18446744073709551616 := by
      intro i hi
      obtain ⟨cs', h1, h2⟩ := hcell i (by omega)
      rw [cells_val.1] at h1
      obtain ⟨v, rfl, hv⟩ := elem_val h2
      obtain ⟨_, _, hc⟩ := World.cells?_some h1
      have q0 := hc 0 (by omega)
      have q1 := hc 1 (by omega)
      have q2 := hc 2 (by omega)
      have q3 := hc 3 (by omega)
      have q4 := hc 4 (by omega)
      rw [Deep.add_add] at q0 q1 q2 q3 q4
      exact ⟨v, ⟨q0, q1, q2, q3, q4⟩, hv⟩
    have : Inhabited Vl := ⟨⟨0, false, 0, ⟨#[]⟩, 0⟩⟩
    obtain ⟨V, hV⟩ := Deep.choose_lt each
    refine ⟨(List.range len).map V, by simp, fun _ => ⟨x, rfl, fun j v hj => ?_⟩, fun v hv => ?_⟩
    · obtain ⟨hj1, hj2⟩ := List.getElem?_eq_some_iff.1 hj
      simp at hj1 hj2
      rw [← hj2]
      exact (hV j hj1).1
    · obtain ⟨j, hj, rfl⟩ := List.mem_map.1 hv
      exact (hV j (List.mem_range.1 hj)).2
end
end Go.Proofs.YtgnifckehopjhaaDoor.CC

/- An argument that is a row of strings: what the reading gives. -/
namespace Go.Proofs.YtgnifckehopjhaaDoor.CC
open Go.ChangeShapes Go.WideShapes Go.ChangeAt Go.RowKit

section
variable {H : Type} {enc : TypeId × Value → H} {W : World}
theorem open_strs {a : Option Addr} {len cap : Nat} {d : DataW H} {p : List MemPlace} (h : DataW.Trod enc Tryd.prog W 0 (fun _ => true) true 33 (.slice a len cap) d p) :
    ∃ L : List ByteArray, len = L.length ∧ SRow W a L := by
  obtain ⟨fuel, hf⟩ := h
  rcases Deep.open_slice Tryd.underlying33 hf with ⟨hcs, hx⟩ | ⟨x, l, c, m, n, D, Pl, hcs, hb, hl, hm, hmm, hx, hcell⟩
  · simp [Value.cells] at hcs
    obtain ⟨rfl, rfl, rfl⟩ := hcs
    exact ⟨[], rfl, fun h => absurd h (by simp)⟩
  · simp [Value.cells] at hcs
    obtain ⟨rfl, rfl, rfl⟩ := hcs
    simp only [if_true] at hmm
    have each : ∀ i, i < len → ∃ s : ByteArray, W.cell? (x.add i) = some (.string s) := by
      intro i hi
      obtain ⟨cs', h1, h2⟩ := hcell i (by omega)
      rw [cells_val.2.2.2.2] at h1
      obtain ⟨s, e, _⟩ := DataW.trod_string Tryd.underlying9 h2
      subst e
      obtain ⟨_, _, hc⟩ := World.cells?_some h1
      have q0 := hc 0 (by omega)
      rw [Deep.add_add] at q0
      simp only [Nat.mul_one, Nat.add_zero] at q0
      exact ⟨s, by simpa using q0⟩
    obtain ⟨V, hV⟩ := Deep.choose_lt each
    refine ⟨(List.range len).map V, by simp, fun _ => ⟨x, rfl, fun j v hj => ?_⟩⟩
    obtain ⟨hj1, hj2⟩ := List.getElem?_eq_some_iff.1 hj
    simp at hj1 hj2
    rw [← hj2]
    exact hV j hj1
end
end Go.Proofs.YtgnifckehopjhaaDoor.CC
