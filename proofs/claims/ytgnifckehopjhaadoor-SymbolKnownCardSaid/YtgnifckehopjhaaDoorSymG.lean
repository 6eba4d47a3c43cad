/- The law SymbolNew: its walk. -/
import Derived.Test.YtgnifckehopjhaaDoorSymF
import Derived.Deep.Cut
namespace Go.Proofs.YtgnifckehopjhaaDoor
open Go.RowKit Go.Proofs.YtgnifckehopjhaaDoorW.PrintWords
attribute [local go_sem] run_store_float
attribute [local go_sem ↓] Go.wp_at_zero Go.wp_at_succ

/-- A value's five fields. -/
structure Vl where
  k : Int
  b : Bool
  n : Nat
  s : ByteArray
  i : Int
/-- A row of values lies in the world. -/
def VRow (W : World) (A : Option Addr) (L : List Vl) : Prop :=
  0 < L.length → ∃ ad, A = some ad ∧ ∀ j v, L[j]? = some v → W.cell? (ad.add (j * 5)) = some (.int .i64 v.k) ∧ W.cell? (ad.add (j * 5 + 1)) = some (.bool v.b) ∧ W.cell? (ad.add (j * 5 + 2)) = some (.float .f64 v.n) ∧ W.cell? (ad.add (j * 5 + 3)) = some (.string v.s) ∧ W.cell? (ad.add (j * 5 + 4)) = some (.int .i64 v.i)

theorem addQ (ad : Addr) (x q : Nat) (hq : q ≠ 0) : (⟨(ad.add x).block, (ad.add x).off + q, none⟩ : Addr) = ad.add (x + q) := by
  unfold Addr.add
  by_cases hx : x = 0 <;> simp [hx, hq, Nat.add_assoc]
theorem VRow.at {W W' : World} {A : Option Addr} {L : List Vl} (h : VRow W A L) (hb : Below W.heap.size W W') (j : Nat) (hj : j < L.length) : ∃ ad v, A = some ad ∧ L[j]? = some v ∧ W'.cell? (ad.add (j * 5)) = some (.int .i64 v.k) ∧ W'.cell? ⟨(ad.add (j * 5)).block, (ad.add (j * 5)).off + 1, none⟩ = some (.bool v.b) ∧ W'.cell? ⟨(ad.add (j * 5)).block, (ad.add (j * 5)).off + 2, none⟩ = some (.float .f64 v.n) ∧ W'.cell? ⟨(ad.add (j * 5)).block, (ad.add (j * 5)).off + 3, none⟩ = some (.string v.s) ∧ W'.cell? ⟨(ad.add (j * 5)).block, (ad.add (j * 5)).off + 4, none⟩ = some (.int .i64 v.i) := by
  obtain ⟨ad, e, hc⟩ := h (by omega)
  obtain ⟨c0, c1, c2, c3, c4⟩ := hc j _ (List.getElem?_eq_getElem hj)
  have k : ∀ {p : Addr} {x : Value}, W.cell? p = some x → W'.cell? p = some x := fun {p} {x} h => by rw [hb.cell (World.block_lt_of_cell? W p h)]; exact h
  exact ⟨ad, _, e, List.getElem?_eq_getElem hj, k c0, by rw [addQ _ _ 1 (by decide)]; exact k c1, by rw [addQ _ _ 2 (by decide)]; exact k c2, by rw [addQ _ _ 3 (by decide)]; exact k c3, by rw [addQ _ _ 4 (by decide)]; exact k c4⟩

theorem lookE {W : World} {b : Nat} (n : Int) (h : W.heap[b]? = some (.map #[] 0)) : (Instr.lookup 70 (.map (some b)) (.int .i64 n) true).run Tryd.prog W = .ok (.tuple #[.agg #[.string ⟨#[]⟩], .bool false]) W :=
  lookN u67 Tryd.underlying3 (isKI _) h rfl (zEntry W)

theorem keepU {V W W' : World} {q0 q1 q2 q3 q4 q5 q6 q7 q8 q9 : Addr} {x0 x1 x2 x3 x4 x5 x6 x7 x8 x9 : Value} (hb : Below W.heap.size W W') (h : W.cell? q0 = some x0 ∧ W.cell? q1 = some x1 ∧ W.cell? q2 = some x2 ∧ W.cell? q3 = some x3 ∧ W.cell? q4 = some x4 ∧ W.cell? q5 = some x5 ∧ W.cell? q6 = some x6 ∧ W.cell? q7 = some x7 ∧ W.cell? q8 = some x8 ∧ W.cell? q9 = some x9 ∧ Below V.heap.size V W) : W'.cell? q0 = some x0 ∧ W'.cell? q1 = some x1 ∧ W'.cell? q2 = some x2 ∧ W'.cell? q3 = some x3 ∧ W'.cell? q4 = some x4 ∧ W'.cell? q5 = some x5 ∧ W'.cell? q6 = some x6 ∧ W'.cell? q7 = some x7 ∧ W'.cell? q8 = some x8 ∧ W'.cell? q9 = some x9 ∧ Below V.heap.size V W' := by
  have k : ∀ {p : Addr} {x : Value}, W.cell? p = some x → W'.cell? p = some x := fun {p} {x} h => by rw [hb.cell (World.block_lt_of_cell? W p h)]; exact h
  obtain ⟨h0, h1, h2, h3, h4, h5, h6, h7, h8, h9, hB⟩ := h
  exact ⟨k h0, k h1, k h2, k h3, k h4, k h5, k h6, k h7, k h8, k h9, hB.trans (hb.mono hB.size)⟩
theorem belU {V W : World} {q0 q1 q2 q3 q4 q5 q6 q7 q8 q9 : Addr} {x0 x1 x2 x3 x4 x5 x6 x7 x8 x9 : Value} (h : W.cell? q0 = some x0 ∧ W.cell? q1 = some x1 ∧ W.cell? q2 = some x2 ∧ W.cell? q3 = some x3 ∧ W.cell? q4 = some x4 ∧ W.cell? q5 = some x5 ∧ W.cell? q6 = some x6 ∧ W.cell? q7 = some x7 ∧ W.cell? q8 = some x8 ∧ W.cell? q9 = some x9 ∧ Below V.heap.size V W) : Below V.heap.size V W := h.2.2.2.2.2.2.2.2.2.2
theorem getR (xs : List Value) (cnt q : Nat) (ys : List Value) (hx : xs.length = cnt * 5) : (xs ++ ys)[cnt * 5 + q]? = ys[q]? := by
  rw [List.getElem?_append_right (by omega), hx]; congr 1; omega
theorem Reg.len {B p cnt : Nat} {xs : List Value} {b1 b2 : Nat} {o1 o2 : Obj} {W : World} (h : Reg B p cnt xs b1 b2 o1 o2 W) : xs.length = cnt * 5 := by
  obtain ⟨_, _, _, _, _, _, _, _, _, _, _, ho⟩ := h
  exact ho.1

end Go.Proofs.YtgnifckehopjhaaDoor
