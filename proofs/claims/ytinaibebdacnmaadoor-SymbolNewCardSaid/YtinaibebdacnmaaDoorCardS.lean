/- An argument that is a row of values of the language: what the reading gives. -/
import Derived.Test.YtinaibebdacnmaaDoorCardV
import Derived.Test.YtinaibebdacnmaaDoorSymG
import Derived.Deep.Slices
namespace Go.Proofs.YtinaibebdacnmaaDoor.CC
open Go.ChangeShapes Go.WideShapes Go.ChangeAt Go.RowKit

section
variable {H : Type} {enc : TypeId × Value → H} {W : World}
theorem trod_float {t : TypeId} {k : FloatKind} {n : Nat} {cs : List Value} {x : DataW H × List MemPlace} {sp : Nat → Bool} {held : Bool} (ht : Tryd.prog.underlying t = some (.float k)) (h : DataW.trod enc Tryd.prog W 0 sp held n t cs = some x) : ∃ b, cs = [.float k b] ∧ (Lit.float k b).wf = true := by
  cases n with
  | zero => simp [DataW.trod] at h
  | succ n =>
    unfold DataW.trod at h
    rw [ht] at h
    split at h <;> simp_all

theorem cells_val : Tryd.prog.cellsOf 32 = 5 ∧ Tryd.prog.cellsOf 3 = 1 ∧ Tryd.prog.cellsOf 4 = 1 ∧ Tryd.prog.cellsOf 30 = 1 ∧ Tryd.prog.cellsOf 9 = 1 := ⟨by kernel_rfl, by kernel_rfl, by kernel_rfl, by kernel_rfl, by kernel_rfl⟩

set_option maxRecDepth 100000 in
theorem elem_val {n : Nat} {cs : List Value} {x : DataW H × List MemPlace} {sp : Nat → Bool} {held : Bool} (h : DataW.trod enc Tryd.prog W 0 sp held n 32 cs = some x) :
    ∃ v : Vl, cs = [.int .i64 v.k, .bool v.b, .float .f64 v.n, .string v.s, .int .i64 v.i] ∧ v.n < 18446744073709551616 := by
  obtain ⟨z0, z1, z2, z3, z4⟩ := cells_val
  obtain ⟨xs, m, _, _, hl, hx, hf⟩ := DataW.trod_struct Tryd.underlying32 h
  rw [z0] at hl
  match cs, hl with
  | [c0, c1, c2, c3, c4], _ =>
    have hxl : xs.length = 5 := hx
    match xs, hxl with
    | [y0, y1, y2, y3, y4], _ =>
      have g0 := hf 0 _ rfl
      have g1 := hf 1 _ rfl
      have g2 := hf 2 _ rfl
      have g3 := hf 3 _ rfl
      have g4 := hf 4 _ rfl
      simp [z1, z2, z3, z4] at g0 g1 g2 g3 g4
      obtain ⟨k, e0, _⟩ := DataW.trod_int Tryd.underlying3 g0
      obtain ⟨b, e1, _⟩ := DataW.trod_bool Tryd.underlying4 g1
      obtain ⟨f, e2, w2⟩ := trod_float Tryd.underlying30 g2
      obtain ⟨s, e3, _⟩ := DataW.trod_string Tryd.underlying9 g3
      obtain ⟨i, e4, _⟩ := DataW.trod_int Tryd.underlying3 g4
      refine ⟨⟨k, b, f, s, i⟩, ?_, ?_⟩
      · simp only [List.cons.injEq, and_true] at e0 e1 e2 e3 e4
        rw [e0, e1, e2, e3, e4]
      · simpa [Lit.wf, FloatKind.has] using w2

theorem open_vals {a : Option Addr} {len cap : Nat} {d : DataW H} {p : List MemPlace} (h : DataW.Trod enc Tryd.prog W 0 (fun _ => true) true 22 (.slice a len cap) d p) :
    ∃ L : List Vl, len = L.length ∧ VRow W a L ∧ ∀ v ∈ L, v.n < 18446744073709551616 := by
  obtain ⟨fuel, hf⟩ := h
  rcases Deep.open_slice Tryd.underlying22 hf with ⟨hcs, hx⟩ | ⟨x, l, c, m, n, D, Pl, hcs, hb, hl, hm, hmm, hx, hcell⟩
  · simp [Value.cells] at hcs
    obtain ⟨rfl, rfl, rfl⟩ := hcs
    exact ⟨[], rfl, fun h => absurd h (by simp), by simp⟩
  · simp [Value.cells] at hcs
    obtain ⟨rfl, rfl, rfl⟩ := hcs
    simp only [if_true] at hmm
    have each : ∀ i, i < len → ∃ v : Vl, (W.cell? (x.add (i * 5)) = some (.int .i64 v.k) ∧ W.cell? (x.add (i * 5 + 1)) = some (.bool v.b) ∧ W.cell? (x.add (i * 5 + 2)) = some (.float .f64 v.n) ∧ W.cell? (x.add (i * 5 + 3)) = some (.string v.s) ∧ W.cell? (x.add (i * 5 + 4)) = some (.int .i64 v.i)) ∧ v.n < 18446744073709551616 := by
      intro i hi
      obtain ⟨cs', h1, h2⟩ := hcell i (by omega)
      rw [cells_val.1] at h1
      obtain ⟨v, rfl, hv⟩ := elem_val h2
      obtain ⟨_, _, hc⟩ := World.cells?_some h1
      have q0 := hc 0 (by omega)
      have q1 := hc 1 (by omega)
      have q2 := hc 2 (by omega)
      have q3 := hc 3 (by omega)
      have q4 := hc 4 (by omega)
      rw [Deep.add_add] at q0 q1 q2 q3 q4
      exact ⟨v, ⟨q0, q1, q2, q3, q4⟩, hv⟩
    have : Inhabited Vl := ⟨⟨0, false, 0, ⟨#[]⟩, 0⟩⟩
    obtain ⟨V, hV⟩ := Deep.choose_lt each
    refine ⟨(List.range len).map V, by simp, fun _ => ⟨x, rfl, fun j v hj => ?_⟩, fun v hv => ?_⟩
    · obtain ⟨hj1, hj2⟩ := List.getElem?_eq_some_iff.1 hj
      simp at hj1 hj2
      rw [← hj2]
      exact (hV j hj1).1
    · obtain ⟨j, hj, rfl⟩ := List.mem_map.1 hv
      exact (hV j (List.mem_range.1 hj)).2
end
end Go.Proofs.YtinaibebdacnmaaDoor.CC
