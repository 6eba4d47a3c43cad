/- The law UnitsPoints, walked. -/
import Derived.Test.YtnhlmgeopkdiaaaDoorPurY
namespace Go.Proofs.YtnhlmgeopkdiaaaDoor
open Go.RowKit Go.Proofs.YtnhlmgeopkdiaaaDoorW.PrintWords Go.Proofs.YtnhlmgeopkdiaaaDoor.U Go.Proofs.YtnhlmgeopkdiaaaDoor.PR
attribute [local go_sem] Oper.semAt_some

theorem run_store_fn {P : Program} {w : World} {a : Addr} {m : Mode} (fn : Fn) (first captured : Array Value) : (store a (.func fn first captured) m).run P w = stored P w a (.func fn first captured) m := run_store P w a _ m rfl
attribute [local go_sem] run_store_fn

theorem run_eqIn_fn {P : Program} {w : World} (d t : Nat) {ps : Array TypeId} {rs : Array TypeId} {vv : Bool} (f : Fn) (a c : Array Value) (h : P.underlying t = some (.func ps rs vv)) : (Op.equalIn (d + 1) t (.func f a c) .nilFunc).run P w = .ok false w := by
  simp [Op.equalIn, run_underlying h]
theorem run_eq_fn {P : Program} {w : World} (t : TypeId) {ps : Array TypeId} {rs : Array TypeId} {vv : Bool} (f : Fn) (a c : Array Value) (h : P.underlying t = some (.func ps rs vv)) : (binOp .eql t (.func f a c) .nilFunc).run P w = .ok (.bool false) w := by
  simp only [binOp]
  have e : (Op.equal t (.func f a c) .nilFunc).run P w = .ok false w := run_eqIn_fn 9999 t f a c h
  simp [e]
theorem eq_fn28 (f : Fn) (a c : Array Value) (w : World) : (binOp .eql 28 (.func f a c) .nilFunc).run Tryd.prog w = .ok (.bool false) w := run_eq_fn (ps := #[38]) (rs := #[]) (vv := false) _ f a c (by kernel_rfl)
attribute [local go_sem] eq_fn28

theorem cell_alloc_of (W : World) (a : Addr) (o : Obj) (v : Value) (h : W.cell? a = some v) : (W.alloc o).cell? a = some v := by
  obtain ⟨b, f, m⟩ := a
  exact (World.cell?_of_block (w := W) (a := ⟨b, f, m⟩) (Below.heap_alloc W o b (World.block_lt_of_cell? W _ h))).trans h

/-- All but block x lies as it lay. -/
structure Ex (x : Nat) (w w' : World) : Prop where
  os : w'.os = w.os
  tape : w'.tape = w.tape
  output : w'.output = w.output
  size : w.heap.size ≤ w'.heap.size
  same : ∀ k, k < w.heap.size → k ≠ x → w'.heap[k]? = w.heap[k]?
theorem Ex.refl (x : Nat) (w : World) : Ex x w w := ⟨rfl, rfl, rfl, Nat.le_refl _, fun _ _ _ => rfl⟩
theorem Ex.trans {x : Nat} {a b c : World} (h : Ex x a b) (k : Ex x b c) : Ex x a c :=
  ⟨k.os.trans h.os, k.tape.trans h.tape, k.output.trans h.output, Nat.le_trans h.size k.size, fun i hi hx => (k.same i (Nat.lt_of_lt_of_le hi h.size) hx).trans (h.same i hi hx)⟩
theorem Ex.of_below {x : Nat} {w w' : World} (h : Below w.heap.size w w') : Ex x w w' := ⟨h.os, h.tape, h.output, h.size, fun k hk _ => h.block k hk⟩
theorem Ex.below {x B : Nat} {w w' : World} (h : Ex x w w') (hB : B ≤ x) (hB2 : B ≤ w.heap.size) : Below B w w' := ⟨h.os, h.tape, h.output, h.size, fun k hk => h.same k (by omega) (by omega)⟩
theorem Ex.setCell (x : Nat) (w : World) (u : Value) : Ex x w (w.setCell ⟨x, 0, none⟩ u) := ⟨rfl, rfl, rfl, by simp [World.setCell], fun k _ hx => Below.heap_setCell _ _ _ _ hx⟩
theorem Ex.cell {x : Nat} {w w' : World} (h : Ex x w w') {p : Addr} {v : Value} (hc : w.cell? p = some v) (hx : p.block ≠ x) : w'.cell? p = some v :=
  (World.cell?_of_block (w := w) (h.same p.block (by obtain ⟨b, o, s⟩ := p; exact World.block_lt_of_cell? w _ hc) hx)).trans hc
theorem Ex.kpc {x B : Nat} {w w' : World} (h : Ex x w w') (hx : x < B) : KpC B w w' := ⟨h.size, fun b hb hl => h.same b hl (by omega)⟩

theorem boxes4 (w : World) (t1 t2 t3 t4 : Nat) (v1 v2 v3 v4 : Value) (W : World) (hW : W = (((w.alloc (.cells #[v1] t1)).alloc (.cells #[v2] t2)).alloc (.cells #[v3] t3)).alloc (.cells #[v4] t4)) :
    Boxed W w.heap.size t1 v1 ∧ Boxed W (w.heap.size + 1) t2 v2 ∧ Boxed W (w.heap.size + 2) t3 v3 ∧ Boxed W (w.heap.size + 3) t4 v4 ∧ Below w.heap.size w W ∧ W.heap.size = w.heap.size + 4 := by
  subst hW
  have h2 := Boxed.new (w.alloc (.cells #[v1] t1)) t2 v2
  have h3 := Boxed.new ((w.alloc (.cells #[v1] t1)).alloc (.cells #[v2] t2)) t3 v3
  have h4 := Boxed.new (((w.alloc (.cells #[v1] t1)).alloc (.cells #[v2] t2)).alloc (.cells #[v3] t3)) t4 v4
  simp only [World.size_alloc, Nat.add_assoc, Nat.reduceAdd] at h2 h3 h4
  exact ⟨(((Boxed.new w t1 v1).alloc _).alloc _).alloc _, (h2.alloc _).alloc _, h3.alloc _, h4, ((((Below.refl _ w).alloc (Nat.le_refl _) _).alloc (by simp) _).alloc (by simp; omega) _).alloc (by simp; omega) _, by simp⟩

theorem bx_below {W W' : World} {B : Nat} {t : TypeId} {v : Value} (h : Boxed W B t v) (hb : Below W.heap.size W W') : Boxed W' B t v := (hb.block B h.lt).trans h

end Go.Proofs.YtnhlmgeopkdiaaaDoor
