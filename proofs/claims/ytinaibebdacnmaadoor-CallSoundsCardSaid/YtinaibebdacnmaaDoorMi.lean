import Derived.Test.YtinaibebdacnmaaDoorCards
import Derived.Test.YtinaibebdacnmaaDoorTie
import Derived.Test.YtinaibebdacnmaaDoorTabs
import Derived.Lib.LaidIn
import Derived.Lib.LaidU8
import Derived.Deep.DeepHandedRow
import Derived.Deep.DeepWitnessRowRef
import Derived.ProofKit
import Derived.SizedLaws
import Derived.Test.YtinaibebdacnmaaDoorMb
import Derived.OpenShut
import Derived.Test.YtinaibebdacnmaaDoorMh
import Derived.Deep.Slices
set_option linter.all false
/- What the cards of this seat share: the world of the witness, the tables out of the row's list, the bound. -/
namespace Go.Proofs.YtinaibebdacnmaaDoor.CC
open Go.ChangeShapes Go.WideShapes Go.ChangeAt Go.RowKit Go.Lib

theorem own : ownKnob Tryd.prog.godebug = none := by kernel_rfl
def laidL : List (String × DataW Unit) := [("unicode/utf8.acceptRanges", Rows.laid_unicode_utf8_acceptRanges), ("unicode/utf8.first", Rows.laid_unicode_utf8_first)]

/-- The world of the witness: settled, the two variables holding what their initialisers lay. -/
noncomputable def laidWorld (os : Os) : World :=
  let w0 := World.holding Tryd.prog os ⟨#[], #[], []⟩
  let put (h : Array Obj) (g : Nat) (cs : Array Value) : Array Obj := h.modify g fun
    | .cells _ t frozen => .cells cs t frozen
    | o => o
  let h1 := put w0.heap 5 (Lib.firstTab.map fun z => Value.int .u8 z).toArray
  let h2 := put h1 6 ((List.range 16).flatMap fun i => [Value.int .u8 (Lib.accLo i), Value.int .u8 (Lib.accHi i)]).toArray
  { w0 with heap := h2 }
theorem laid_met (os : Os) (args : Array Value) : laidMet Tryd.prog laidL ((laidWorld os).forCall (fun _ _ => 0) ⟨#[], args, []⟩).memory :=
  (LaidIn.of_run (l := laidL) [6, 5] 8 (by kernel_rfl) (by kernel_rfl) (by kernel_rfl) (by kernel_rfl)).met

theorem first_eq : Rows.laid_unicode_utf8_first = Lib.firstData := by kernel_rfl
theorem accept_eq : (Rows.laid_unicode_utf8_acceptRanges : DataW Unit) = Lib.acceptData := by kernel_rfl

theorem tabs_of {W : World} (hL : laidMet Tryd.prog laidL W) : Tabs W := by
  have h4 := Lib.laidMet.reads hL (List.Mem.head _)
  have h3 := Lib.laidMet.reads hL (List.Mem.tail _ (List.Mem.head _))
  rw [first_eq] at h3
  rw [accept_eq] at h4
  have U := utf8Tabs_of_reads Tryd.lays260 ⟨by kernel_rfl, by kernel_rfl, by kernel_rfl, by kernel_rfl, by kernel_rfl, by kernel_rfl, by kernel_rfl⟩ h3 h4
  refine ⟨U, World.block_lt_of_cell? W ⟨5, 0, none⟩ (U.1 0 (by decide)), ?_⟩
  exact World.block_lt_of_cell? W ⟨6, 0, none⟩ (U.2 0 (by decide)).1

theorem small {H : Type} {l : List (DataW H)} (hk : Rows.uptoSmall H l = true) : Rows.uptoBulkAll l ≤ 1048576 := of_decide_eq_true hk
theorem bulk_str {H : Type} (b : List UInt8) (r : List (DataW H)) : Rows.uptoBulkAll (DataW.lit (.string b) :: r) = b.length + 1 + Rows.uptoBulkAll r := by
  simp only [Rows.uptoBulkAll, Rows.uptoBulk]
theorem bulk_int {H : Type} (k : IntKind) (z : Int) (r : List (DataW H)) : Rows.uptoBulkAll (DataW.lit (.int k z) :: r) = 1 + Rows.uptoBulkAll r := by
  simp only [Rows.uptoBulkAll, Rows.uptoBulk]
end Go.Proofs.YtinaibebdacnmaaDoor.CC

/- An argument that is a value of the language: what the reading gives. -/
namespace Go.Proofs.YtinaibebdacnmaaDoor.CC
open Go.ChangeShapes Go.WideShapes Go.ChangeAt Go.RowKit

theorem laidOut : laidOutB Tryd.prog = true := by kernel_rfl
theorem bulk_any {H : Type} (d : DataW H) (r : List (DataW H)) : Rows.uptoBulkAll (d :: r) = Rows.uptoBulk d + Rows.uptoBulkAll r := by
  simp only [Rows.uptoBulkAll]
theorem types_val : Tryd.prog.cellTypes Tryd.prog.depth 32 = some [3, 4, 30, 9, 3] := by kernel_rfl
theorem size_val : Tryd.prog.cellsOf 32 = 5 := by kernel_rfl
set_option maxRecDepth 100000 in
theorem cell_int {W : World} {base : Nat} {v : Value} (h : Cell.okWide Tryd.prog W .any base 3 v) : ∃ n, v = .int .i64 n := by
  simp only [Cell.okWide, Cell.ok, Tryd.underlying3] at h
  cases v <;> simp at h
  exact ⟨_, by rw [h.1]⟩
set_option maxRecDepth 100000 in
theorem cell_bool {W : World} {base : Nat} {v : Value} (h : Cell.okWide Tryd.prog W .any base 4 v) : ∃ b, v = .bool b := by
  simp only [Cell.okWide, Cell.ok, Tryd.underlying4] at h
  cases v <;> simp at h
  exact ⟨_, rfl⟩
set_option maxRecDepth 100000 in
theorem cell_string {W : World} {base : Nat} {v : Value} (h : Cell.okWide Tryd.prog W .any base 9 v) : ∃ s, v = .string s := by
  simp only [Cell.okWide, Cell.ok, Tryd.underlying9] at h
  cases v <;> simp at h
  exact ⟨_, rfl⟩
set_option maxRecDepth 100000 in
theorem cell_float {W : World} {base : Nat} {v : Value} (h : Cell.okWide Tryd.prog W .any base 30 v) : ∃ n, v = .float .f64 n ∧ n < 18446744073709551616 := by
  simp only [Cell.okWide, Cell.ok, Tryd.underlying30] at h
  cases v <;> simp at h
  obtain ⟨rfl, h2⟩ := h
  exact ⟨_, rfl, by simpa [FloatKind.has] using h2⟩
set_option maxRecDepth 100000 in
theorem open_f64 {W : World} {base : Nat} {v : Value} (h : Value.okWide Tryd.prog W .any base 30 v) : ∃ n, v = .float .f64 n ∧ n < 18446744073709551616 := by
  simp only [Value.okWide, Tryd.underlying30] at h
  exact cell_float h
set_option maxRecDepth 100000 in
theorem open_val {W : World} {base : Nat} {v : Value} (h : Value.okWide Tryd.prog W .any base 32 v) : ∃ (k : Int) (b : Bool) (n : Nat) (s : ByteArray) (i : Int), v = VV k b n s i ∧ n < 18446744073709551616 := by
  simp only [Value.okWide, Tryd.underlying32] at h
  obtain ⟨cs, rfl, hsz, ts, hts, _, hc⟩ := h
  rw [types_val] at hts
  obtain rfl := Option.some.inj hts.symm
  rw [size_val] at hsz
  obtain ⟨l, rfl⟩ : ∃ l : List Value, cs = l.toArray := ⟨cs.toList, by simp⟩
  simp only [List.size_toArray] at hsz
  match l, hsz with
  | [c0, c1, c2, c3, c4], _ =>
    obtain ⟨u0, e0, g0⟩ := hc 0 c0 rfl
    obtain ⟨u1, e1, g1⟩ := hc 1 c1 rfl
    obtain ⟨u2, e2, g2⟩ := hc 2 c2 rfl
    obtain ⟨u3, e3, g3⟩ := hc 3 c3 rfl
    obtain ⟨u4, e4, g4⟩ := hc 4 c4 rfl
    obtain rfl := Option.some.inj e0
    obtain rfl := Option.some.inj e1
    obtain rfl := Option.some.inj e2
    obtain rfl := Option.some.inj e3
    obtain rfl := Option.some.inj e4
    obtain ⟨k, rfl⟩ := cell_int g0
    obtain ⟨b, rfl⟩ := cell_bool g1
    obtain ⟨n, rfl, hn⟩ := cell_float g2
    obtain ⟨s, rfl⟩ := cell_string g3
    obtain ⟨i, rfl⟩ := cell_int g4
    exact ⟨k, b, n, s, i, rfl, hn⟩
end Go.Proofs.YtinaibebdacnmaaDoor.CC

/- An argument that is a row of operations: what the reading gives. -/
namespace Go.Proofs.YtinaibebdacnmaaDoor.CC
open Go.ChangeShapes Go.WideShapes Go.ChangeAt Go.RowKit

section
variable {H : Type} {enc : TypeId × Value → H} {W : World}
theorem trod_float {t : TypeId} {k : FloatKind} {n : Nat} {cs : List Value} {x : DataW H × List MemPlace} {sp : Nat → Bool} {held : Bool} (ht : Tryd.prog.underlying t = some (.float k)) (h : DataW.trod enc Tryd.prog W 0 sp held n t cs = some x) : ∃ b, cs = [.float k b] ∧ (Lit.float k b).wf = true := by
  cases n with
  | zero => simp [DataW.trod] at h
  | succ n =>
    unfold DataW.trod at h
    rw [ht] at h
    split at h <;> simp_all

theorem cells_op : Tryd.prog.cellsOf 49 = 32 ∧ Tryd.prog.cellsOf 32 = 5 ∧ Tryd.prog.cellsOf 3 = 1 ∧ Tryd.prog.cellsOf 4 = 1 ∧ Tryd.prog.cellsOf 30 = 1 ∧ Tryd.prog.cellsOf 9 = 1 ∧ Tryd.prog.cellsOf 47 = 18 ∧ Tryd.prog.cellsOf 44 = 2 := ⟨by kernel_rfl, by kernel_rfl, by kernel_rfl, by kernel_rfl, by kernel_rfl, by kernel_rfl, by kernel_rfl, by kernel_rfl⟩

set_option maxRecDepth 100000 in
theorem elem_vt {n : Nat} {cs : List Value} {x : DataW H × List MemPlace} {sp : Nat → Bool} {held : Bool} (h : DataW.trod enc Tryd.prog W 0 sp held n 32 cs = some x) :
    ∃ v : Vt, cs = [.int .i64 v.k, .bool v.b, .float .f64 v.n, .string v.s, .int .i64 v.i] ∧ v.n < 18446744073709551616 := by
  obtain ⟨_, z0, z1, z2, z3, z4, _, _⟩ := cells_op
  obtain ⟨xs, m, _, _, hl, hx, hf⟩ := DataW.trod_struct Tryd.underlying32 h
  rw [z0] at hl
  match cs, hl with
  | [c0, c1, c2, c3, c4], _ =>
    have hxl : xs.length = 5 := hx
    match xs, hxl with
    | [y0, y1, y2, y3, y4], _ =>
      have g0 := hf 0 _ rfl
      have g1 := hf 1 _ rfl
      have g2 := hf 2 _ rfl
      have g3 := hf 3 _ rfl
      have g4 := hf 4 _ rfl
      simp [z1, z2, z3, z4] at g0 g1 g2 g3 g4
      obtain ⟨k, e0, _⟩ := DataW.trod_int Tryd.underlying3 g0
      obtain ⟨b, e1, _⟩ := DataW.trod_bool Tryd.underlying4 g1
      obtain ⟨f, e2, w2⟩ := trod_float Tryd.underlying30 g2
      obtain ⟨s, e3, _⟩ := DataW.trod_string Tryd.underlying9 g3
      obtain ⟨i, e4, _⟩ := DataW.trod_int Tryd.underlying3 g4
      refine ⟨⟨k, b, f, s, i⟩, ?_, ?_⟩
      · simp only [List.cons.injEq, and_true] at e0 e1 e2 e3 e4
        rw [e0, e1, e2, e3, e4]
      · simpa [Lit.wf, FloatKind.has] using w2
set_option maxRecDepth 100000 in
theorem elem_desc {n : Nat} {cs : List Value} {x : DataW H × List MemPlace} {sp : Nat → Bool} {held : Bool} (h : DataW.trod enc Tryd.prog W 0 sp held n 47 cs = some x) :
    ∃ d : Dt, cs = (dcs d).toList ∧ d.fin := by
  obtain ⟨_, z0, z1, z2, z3, z4, z5, _⟩ := cells_op
  have z6 : Tryd.prog.cellsOf 45 = 1 := by kernel_rfl
  obtain ⟨xs, m, _, _, hl, hx, hf⟩ := DataW.trod_struct Tryd.underlying47 h
  rw [z5] at hl
  match cs, hl with
  | [c0, c1, c2, c3, c4, c5, c6, c7, c8, c9, c10, c11, c12, c13, c14, c15, c16, c17], _ =>
    have hxl : xs.length = 6 := hx
    match xs, hxl with
    | [y0, y1, y2, y3, y4, y5], _ =>
      have g0 := hf 0 _ rfl
      have g1 := hf 1 _ rfl
      have g2 := hf 2 _ rfl
      have g3 := hf 3 _ rfl
      have g4 := hf 4 _ rfl
      have g5 := hf 5 _ rfl
      simp [z0, z6] at g0 g1 g2 g3 g4 g5
      obtain ⟨v, e0, w0⟩ := elem_vt g0
      obtain ⟨g, e1, w1⟩ := elem_vt g1
      obtain ⟨s, e2, w2⟩ := elem_vt g2
      obtain ⟨k3, e3, _⟩ := DataW.trod_int Tryd.underlying45 g3
      obtain ⟨k4, e4, _⟩ := DataW.trod_int Tryd.underlying45 g4
      obtain ⟨k5, e5, _⟩ := DataW.trod_int Tryd.underlying45 g5
      refine ⟨⟨v, g, s, k3, k4, k5⟩, ?_, w0, w1, w2⟩
      simp only [List.cons.injEq, and_true] at e0 e1 e2 e3 e4 e5
      obtain ⟨rfl, rfl, rfl, rfl, rfl⟩ := e0
      obtain ⟨rfl, rfl, rfl, rfl, rfl⟩ := e1
      obtain ⟨rfl, rfl, rfl, rfl, rfl⟩ := e2
      subst e3 e4 e5
      rfl
set_option maxRecDepth 100000 in
theorem elem_key {n : Nat} {cs : List Value} {x : DataW H × List MemPlace} {sp : Nat → Bool} {held : Bool} (h : DataW.trod enc Tryd.prog W 0 sp held n 44 cs = some x) :
    ∃ (s : ByteArray) (m : Int), cs = [.string s, .int .i64 m] := by
  obtain ⟨_, _, z1, _, _, z4, _, z7⟩ := cells_op
  obtain ⟨xs, m, _, _, hl, hx, hf⟩ := DataW.trod_struct Tryd.underlying44 h
  rw [z7] at hl
  match cs, hl with
  | [c0, c1], _ =>
    have hxl : xs.length = 2 := hx
    match xs, hxl with
    | [y0, y1], _ =>
      have g0 := hf 0 _ rfl
      have g1 := hf 1 _ rfl
      simp [z1, z4] at g0 g1
      obtain ⟨s, e0, _⟩ := DataW.trod_string Tryd.underlying9 g0
      obtain ⟨i, e1, _⟩ := DataW.trod_int Tryd.underlying3 g1
      refine ⟨s, i, ?_⟩
      simp only [List.cons.injEq, and_true] at e0 e1
      rw [e0, e1]
set_option maxRecDepth 100000 in
theorem elem_op {n : Nat} {cs : List Value} {x : DataW H × List MemPlace} {sp : Nat → Bool} {held : Bool} (h : DataW.trod enc Tryd.prog W 0 sp held n 49 cs = some x) :
    ∃ x : Ot, cs = (ocs x).toList ∧ x.fin := by
  obtain ⟨z, z0, z1, z2, _, z4, z5, z7⟩ := cells_op
  obtain ⟨xs, m, _, _, hl, hx, hf⟩ := DataW.trod_struct Tryd.underlying49 h
  rw [z] at hl
  match cs, hl with
  | [c0, c1, c2, c3, c4, c5, c6, c7, c8, c9, c10, c11, c12, c13, c14, c15, c16, c17, c18, c19, c20, c21, c22, c23, c24, c25, c26, c27, c28, c29, c30, c31], _ =>
    have hxl : xs.length = 10 := hx
    match xs, hxl with
    | [y0, y1, y2, y3, y4, y5, y6, y7, y8, y9], _ =>
      have g0 := hf 0 _ rfl
      have g1 := hf 1 _ rfl
      have g2 := hf 2 _ rfl
      have g3 := hf 3 _ rfl
      have g4 := hf 4 _ rfl
      have g5 := hf 5 _ rfl
      have g6 := hf 6 _ rfl
      have g7 := hf 7 _ rfl
      have g8 := hf 8 _ rfl
      have g9 := hf 9 _ rfl
      simp [z0, z1, z2, z5, z7] at g0 g1 g2 g3 g4 g5 g6 g7 g8 g9
      obtain ⟨o, e0, _⟩ := DataW.trod_int Tryd.underlying3 g0
      obtain ⟨t, e1, _⟩ := DataW.trod_int Tryd.underlying3 g1
      obtain ⟨a, e2, _⟩ := DataW.trod_int Tryd.underlying3 g2
      obtain ⟨b, e3, _⟩ := DataW.trod_int Tryd.underlying3 g3
      obtain ⟨c, e4, _⟩ := DataW.trod_int Tryd.underlying3 g4
      obtain ⟨ks, km, e5⟩ := elem_key g5
      obtain ⟨v, e6, w6⟩ := elem_vt g6
      obtain ⟨d, e7, w7⟩ := elem_desc g7
      obtain ⟨f, e8, _⟩ := DataW.trod_bool Tryd.underlying4 g8
      obtain ⟨q, e9, _⟩ := DataW.trod_bool Tryd.underlying4 g9
      refine ⟨⟨o, t, a, b, c, ks, km, v, d, f, q⟩, ?_, w6, w7⟩
      have e7' : [c12, c13, c14, c15, c16, c17, c18, c19, c20, c21, c22, c23, c24, c25, c26, c27, c28, c29] = [.int .i64 d.v.k, .bool d.v.b, .float .f64 d.v.n, .string d.v.s, .int .i64 d.v.i, .int .i64 d.g.k, .bool d.g.b, .float .f64 d.g.n, .string d.g.s, .int .i64 d.g.i, .int .i64 d.s.k, .bool d.s.b, .float .f64 d.s.n, .string d.s.s, .int .i64 d.s.i, .int .i64 d.w, .int .i64 d.e, .int .i64 d.c] := e7
      simp only [List.cons.injEq, and_true] at e0 e1 e2 e3 e4 e5 e6 e7' e8 e9
      obtain ⟨rfl, rfl⟩ := e5
      obtain ⟨rfl, rfl, rfl, rfl, rfl⟩ := e6
      obtain ⟨rfl, rfl, rfl, rfl, rfl, rfl, rfl, rfl, rfl, rfl, rfl, rfl, rfl, rfl, rfl, rfl, rfl, rfl⟩ := e7'
      subst e0 e1 e2 e3 e4 e8 e9
      rfl

theorem open_ops {a : Option Addr} {len cap : Nat} {d : DataW H} {p : List MemPlace} (h : DataW.Trod enc Tryd.prog W 0 (fun _ => true) true 40 (.slice a len cap) d p) :
    ∃ L : List Ot, len = L.length ∧ ORow W a L ∧ ∀ v ∈ L, v.fin := by
  obtain ⟨fuel, hf⟩ := h
  rcases Deep.open_slice Tryd.underlying40 hf with ⟨hcs, hx⟩ | ⟨x, l, c, m, n, D, Pl, hcs, hb, hl, hm, hmm, hx, hcell⟩
  · simp [Value.cells] at hcs
    obtain ⟨rfl, rfl, rfl⟩ := hcs
    exact ⟨[], rfl, fun h => absurd h (by simp), by simp⟩
  · simp [Value.cells] at hcs
    obtain ⟨rfl, rfl, rfl⟩ := hcs
    simp only [if_true] at hmm
    have each : ∀ i, i < len → ∃ v : Ot, (∀ q u, (ocs v)[q]? = some u → W.cell? ((x.add (i * 32)).add q) = some u) ∧ v.fin := by
      intro i hi
      obtain ⟨cs', h1, h2⟩ := hcell i (by omega)
      rw [cells_op.1] at h1
      obtain ⟨v, rfl, hv⟩ := elem_op h2
      obtain ⟨_, _, hc⟩ := World.cells?_some h1
      refine ⟨v, fun q u hq => ?_, hv⟩
      have hq2 : q < (ocs v).size := (Array.getElem?_eq_some_iff.1 hq).1
      have hq3 : q < 32 := hq2
      rw [hc q hq3, Array.getElem?_toList]
      exact hq
    have : Inhabited Ot := ⟨⟨0, 0, 0, 0, 0, ⟨#[]⟩, 0, ⟨0, false, 0, ⟨#[]⟩, 0⟩, ⟨⟨0, false, 0, ⟨#[]⟩, 0⟩, ⟨0, false, 0, ⟨#[]⟩, 0⟩, ⟨0, false, 0, ⟨#[]⟩, 0⟩, 0, 0, 0⟩, false, false⟩⟩
    obtain ⟨V, hV⟩ := Deep.choose_lt each
    refine ⟨(List.range len).map V, by simp, fun _ => ⟨x, rfl, fun j v hj => ?_⟩, fun v hv => ?_⟩
    · obtain ⟨hj1, hj2⟩ := List.getElem?_eq_some_iff.1 hj
      simp at hj1 hj2
      rw [← hj2]
      exact (hV j hj1).1
    · obtain ⟨j, hj, rfl⟩ := List.mem_map.1 hv
      exact (hV j (List.mem_range.1 hj)).2
end
end Go.Proofs.YtinaibebdacnmaaDoor.CC
