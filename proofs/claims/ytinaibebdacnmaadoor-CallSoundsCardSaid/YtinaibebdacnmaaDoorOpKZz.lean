import Derived.Test.YtinaibebdacnmaaDoorMc
set_option linter.all false
/- Package desc: kind. -/
namespace Go.Proofs.YtinaibebdacnmaaDoor
open Go.RowKit Go.Proofs.YtinaibebdacnmaaDoorW.PrintWords
attribute [local go_sem] run_store_float

/-- A value's fields. -/
structure Vt where
  k : Int
  b : Bool
  n : Nat
  s : ByteArray
  i : Int
/-- A descriptor's. -/
structure Dt where
  v : Vt
  g : Vt
  s : Vt
  w : Int
  e : Int
  c : Int
def Dt.fin (d : Dt) : Prop := d.v.n < 18446744073709551616 ∧ d.g.n < 18446744073709551616 ∧ d.s.n < 18446744073709551616
def DD (d : Dt) : Value := .agg #[.int .i64 d.v.k, .bool d.v.b, .float .f64 d.v.n, .string d.v.s, .int .i64 d.v.i, .int .i64 d.g.k, .bool d.g.b, .float .f64 d.g.n, .string d.g.s, .int .i64 d.g.i, .int .i64 d.s.k, .bool d.s.b, .float .f64 d.s.n, .string d.s.s, .int .i64 d.s.i, .int .i64 d.w, .int .i64 d.e, .int .i64 d.c]
/-- Every field of a descriptor by itself is well formed. -/
def bs (d : Dt) : Bool := (nn d.v.k d.v.b d.v.n d.v.s d.v.i || gd d.v.k d.v.b d.v.n d.v.s d.v.i) && (ca d.g.k d.g.b d.g.n d.g.s d.g.i && (ca d.s.k d.s.b d.s.n d.s.s d.s.i && (tr d.w && (tr d.e && tr d.c))))
def acc (d : Dt) : Bool := (d.g.k != 0) || (d.s.k != 0)
def dat (d : Dt) : Bool := (d.v.k != 0) || (d.w != 0)
def gD (d : Dt) : Bool := bs d && !(dat d && acc d)

theorem boxCell {W W' : World} {cs : Array Value} {t : TypeId} (hb : Below (W.alloc (.cells cs t)).heap.size (W.alloc (.cells cs t)) W') (q : Nat) {u : Value} (hu : cs[q]? = some u) : W'.cell? ⟨W.heap.size, q, none⟩ = some u := by
  rw [Lib.cell_of_heap (heap5 hb)]; simpa using hu

theorem c18 {W W' : World} {t : TypeId} {d : Dt} (hb : Below (W.alloc (.cells #[.int .i64 d.v.k, .bool d.v.b, .float .f64 d.v.n, .string d.v.s, .int .i64 d.v.i, .int .i64 d.g.k, .bool d.g.b, .float .f64 d.g.n, .string d.g.s, .int .i64 d.g.i, .int .i64 d.s.k, .bool d.s.b, .float .f64 d.s.n, .string d.s.s, .int .i64 d.s.i, .int .i64 d.w, .int .i64 d.e, .int .i64 d.c] t)).heap.size (W.alloc (.cells #[.int .i64 d.v.k, .bool d.v.b, .float .f64 d.v.n, .string d.v.s, .int .i64 d.v.i, .int .i64 d.g.k, .bool d.g.b, .float .f64 d.g.n, .string d.g.s, .int .i64 d.g.i, .int .i64 d.s.k, .bool d.s.b, .float .f64 d.s.n, .string d.s.s, .int .i64 d.s.i, .int .i64 d.w, .int .i64 d.e, .int .i64 d.c] t)) W') :
    W'.cell? ⟨W.heap.size, 0, none⟩ = some (.int .i64 d.v.k) ∧ W'.cell? ⟨W.heap.size, 1, none⟩ = some (.bool d.v.b) ∧ W'.cell? ⟨W.heap.size, 2, none⟩ = some (.float .f64 d.v.n) ∧ W'.cell? ⟨W.heap.size, 3, none⟩ = some (.string d.v.s) ∧ W'.cell? ⟨W.heap.size, 4, none⟩ = some (.int .i64 d.v.i) ∧
    W'.cell? ⟨W.heap.size, 5, none⟩ = some (.int .i64 d.g.k) ∧ W'.cell? ⟨W.heap.size, 6, none⟩ = some (.bool d.g.b) ∧ W'.cell? ⟨W.heap.size, 7, none⟩ = some (.float .f64 d.g.n) ∧ W'.cell? ⟨W.heap.size, 8, none⟩ = some (.string d.g.s) ∧ W'.cell? ⟨W.heap.size, 9, none⟩ = some (.int .i64 d.g.i) ∧
    W'.cell? ⟨W.heap.size, 10, none⟩ = some (.int .i64 d.s.k) ∧ W'.cell? ⟨W.heap.size, 11, none⟩ = some (.bool d.s.b) ∧ W'.cell? ⟨W.heap.size, 12, none⟩ = some (.float .f64 d.s.n) ∧ W'.cell? ⟨W.heap.size, 13, none⟩ = some (.string d.s.s) ∧ W'.cell? ⟨W.heap.size, 14, none⟩ = some (.int .i64 d.s.i) ∧
    W'.cell? ⟨W.heap.size, 15, none⟩ = some (.int .i64 d.w) ∧ W'.cell? ⟨W.heap.size, 16, none⟩ = some (.int .i64 d.e) ∧ W'.cell? ⟨W.heap.size, 17, none⟩ = some (.int .i64 d.c) :=
  ⟨boxCell hb 0 rfl, boxCell hb 1 rfl, boxCell hb 2 rfl, boxCell hb 3 rfl, boxCell hb 4 rfl, boxCell hb 5 rfl, boxCell hb 6 rfl, boxCell hb 7 rfl, boxCell hb 8 rfl, boxCell hb 9 rfl, boxCell hb 10 rfl, boxCell hb 11 rfl, boxCell hb 12 rfl, boxCell hb 13 rfl, boxCell hb 14 rfl, boxCell hb 15 rfl, boxCell hb 16 rfl, boxCell hb 17 rfl⟩

theorem retIB {x y : Int} {a b : Bool} (h : x = y) (h' : a = b) : Ending.returned (.tuple #[.int .i64 x, .bool a]) = .returned (.tuple #[.int .i64 y, .bool b]) := by rw [h, h']

set_option maxRecDepth 100000 in
set_option maxHeartbeats 4000000 in
theorem kind_c (d : Dt) (hf : d.fin) (w : World) (HT : Tabs w) : Calls Tryd.prog 83 #[DD d] w fun e w' => e = .returned (.tuple #[.int .i64 (bif bs d then (bif dat d then 1 else bif acc d then 2 else 0) else 0), .bool (gD d)]) ∧ Below w.heap.size w w' := by
  have ha := Fact.mk (fun w' => absent_c d.v.k d.v.b d.v.n d.v.s d.v.i hf.1 w')
  have hg := Fact.mk (fun w' (h : Below w.heap.size w w') => check_c d.v.k d.v.b d.v.n d.v.s d.v.i w' (HT.below h))
  have h1 := Fact.mk (fun w' (h : Below w.heap.size w w') => callable_c d.g.k d.g.b d.g.n d.g.s d.g.i hf.2.1 w' (HT.below h))
  have h2 := Fact.mk (fun w' (h : Below w.heap.size w w') => callable_c d.s.k d.s.b d.s.n d.s.s d.s.i hf.2.2 w' (HT.below h))
  have t1 := Fact.mk (tri_c d.w)
  have t2 := Fact.mk (tri_c d.e)
  have t3 := Fact.mk (tri_c d.c)
  have e1 := Fact.mk (there_c d.g.k d.g.b d.g.n d.g.s d.g.i)
  have e2 := Fact.mk (there_c d.s.k d.s.b d.s.n d.s.s d.s.i)
  have e3 := Fact.mk (there_c d.v.k d.v.b d.v.n d.v.s d.v.i)
  obtain ⟨R1, hR1⟩ : ∃ R1 : Int, R1 = (bif bs d then (bif dat d then 1 else bif acc d then 2 else 0) else 0) := ⟨_, rfl⟩
  obtain ⟨R2, hR2⟩ : ∃ R2 : Bool, R2 = gD d := ⟨_, rfl⟩
  rw [← hR1, ← hR2]
  simp only [gD, bs, dat, acc] at hR1 hR2
  generalize nn d.v.k d.v.b d.v.n d.v.s d.v.i = A at *
  generalize gd d.v.k d.v.b d.v.n d.v.s d.v.i = G at *
  generalize ca d.g.k d.g.b d.g.n d.g.s d.g.i = C1 at *
  generalize ca d.s.k d.s.b d.s.n d.s.s d.s.i = C2 at *
  generalize tr d.w = T1 at *
  generalize tr d.e = T2 at *
  generalize tr d.c = T3 at *
  generalize (d.v.k != 0) = X at *
  generalize (d.g.k != 0) = Y at *
  generalize (d.s.k != 0) = Z at *
  obtain ⟨U, hU⟩ : ∃ U, (d.w != 0) = U := ⟨_, rfl⟩
  rw [hU] at hR1 hR2
  clear HT hf
  unfold VV DD at *
  have hB := Below.refl (w.alloc (.cells #[.int .i64 d.v.k, .bool d.v.b, .float .f64 d.v.n, .string d.v.s, .int .i64 d.v.i, .int .i64 d.g.k, .bool d.g.b, .float .f64 d.g.n, .string d.g.s, .int .i64 d.g.i, .int .i64 d.s.k, .bool d.s.b, .float .f64 d.s.n, .string d.s.s, .int .i64 d.s.i, .int .i64 d.w, .int .i64 d.e, .int .i64 d.c] 47)).heap.size (w.alloc (.cells #[.int .i64 d.v.k, .bool d.v.b, .float .f64 d.v.n, .string d.v.s, .int .i64 d.v.i, .int .i64 d.g.k, .bool d.g.b, .float .f64 d.g.n, .string d.g.s, .int .i64 d.g.i, .int .i64 d.s.k, .bool d.s.b, .float .f64 d.s.n, .string d.s.s, .int .i64 d.s.i, .int .i64 d.w, .int .i64 d.e, .int .i64 d.c] 47))
  obtain ⟨c0, c1, c2, c3, c4, c5, c6, c7, c8, c9, c10, c11, c12, c13, c14, c15, c16, c17⟩ := c18 hB
  cases A
  cases G
  rotate_left
  cases C1
  rotate_left
  cases C2
  rotate_left
  cases T1
  rotate_left
  cases T2
  rotate_left
  cases T3
  rotate_left
  cases Y
  cases Z
  cases X
  cases U
  rotate_left
  rotate_left
  rotate_left
  cases X
  cases U
  rotate_left
  rotate_left
  rotate_left
  cases X
  cases U
  rotate_left
  rotate_left
  rotate_left
  cases C1
  rotate_left
  cases C2
  rotate_left
  cases T1
  rotate_left
  cases T2
  rotate_left
  cases T3
  rotate_left
  cases Y
  cases Z
  cases X
  cases U
  rotate_left
  rotate_left
  rotate_left
  cases X
  cases U
  rotate_left
  rotate_left
  rotate_left
  cases X
  cases U
  rotate_left
  rotate_left
  rotate_left
  all_goals
    first | rw [show R1 = 0 from hR1, show R2 = false from hR2] | rw [show R1 = 0 from hR1, show R2 = true from hR2] | rw [show R1 = 1 from hR1, show R2 = false from hR2] | rw [show R1 = 1 from hR1, show R2 = true from hR2] | rw [show R1 = 2 from hR1, show R2 = true from hR2]
    clear hR1 hR2 R1 R2
    go_enter Tryd.func83, Tryd.ntmps83
    go_wp2_with (first | (go_at_call 103; with_reducible refine (ha.out _).mono ?_; rintro e w' ⟨rfl, hb⟩; replace hB := hB.trans (hb.mono hB.size); clear hb c0 c1 c2 c3 c4 c5 c6 c7 c8 c9 c10 c11 c12 c13 c14 c15 c16 c17; obtain ⟨c0, c1, c2, c3, c4, c5, c6, c7, c8, c9, c10, c11, c12, c13, c14, c15, c16, c17⟩ := c18 hB) | (go_at_call 27; with_reducible refine (hg.out _ (below1 hB)).mono ?_; rintro e w' ⟨rfl, hb⟩; replace hB := hB.trans (hb.mono hB.size); clear hb c0 c1 c2 c3 c4 c5 c6 c7 c8 c9 c10 c11 c12 c13 c14 c15 c16 c17; obtain ⟨c0, c1, c2, c3, c4, c5, c6, c7, c8, c9, c10, c11, c12, c13, c14, c15, c16, c17⟩ := c18 hB) | (go_at_call 104; with_reducible refine (h1.out _ (below1 hB)).mono ?_; rintro e w' ⟨rfl, hb⟩; replace hB := hB.trans (hb.mono hB.size); clear hb c0 c1 c2 c3 c4 c5 c6 c7 c8 c9 c10 c11 c12 c13 c14 c15 c16 c17; obtain ⟨c0, c1, c2, c3, c4, c5, c6, c7, c8, c9, c10, c11, c12, c13, c14, c15, c16, c17⟩ := c18 hB) | (go_at_call 104; with_reducible refine (h2.out _ (below1 hB)).mono ?_; rintro e w' ⟨rfl, hb⟩; replace hB := hB.trans (hb.mono hB.size); clear hb c0 c1 c2 c3 c4 c5 c6 c7 c8 c9 c10 c11 c12 c13 c14 c15 c16 c17; obtain ⟨c0, c1, c2, c3, c4, c5, c6, c7, c8, c9, c10, c11, c12, c13, c14, c15, c16, c17⟩ := c18 hB) | (go_at_call 105; with_reducible refine (t1.out _).mono ?_; rintro e w' ⟨rfl, rfl⟩) | (go_at_call 105; with_reducible refine (t2.out _).mono ?_; rintro e w' ⟨rfl, rfl⟩) | (go_at_call 105; with_reducible refine (t3.out _).mono ?_; rintro e w' ⟨rfl, rfl⟩) | (go_at_call 106; with_reducible refine (e1.out _).mono ?_; rintro e w' ⟨rfl, hb⟩; replace hB := hB.trans (hb.mono hB.size); clear hb c0 c1 c2 c3 c4 c5 c6 c7 c8 c9 c10 c11 c12 c13 c14 c15 c16 c17; obtain ⟨c0, c1, c2, c3, c4, c5, c6, c7, c8, c9, c10, c11, c12, c13, c14, c15, c16, c17⟩ := c18 hB) | (go_at_call 106; with_reducible refine (e2.out _).mono ?_; rintro e w' ⟨rfl, hb⟩; replace hB := hB.trans (hb.mono hB.size); clear hb c0 c1 c2 c3 c4 c5 c6 c7 c8 c9 c10 c11 c12 c13 c14 c15 c16 c17; obtain ⟨c0, c1, c2, c3, c4, c5, c6, c7, c8, c9, c10, c11, c12, c13, c14, c15, c16, c17⟩ := c18 hB) | (go_at_call 106; with_reducible refine (e3.out _).mono ?_; rintro e w' ⟨rfl, hb⟩; replace hB := hB.trans (hb.mono hB.size); clear hb c0 c1 c2 c3 c4 c5 c6 c7 c8 c9 c10 c11 c12 c13 c14 c15 c16 c17; obtain ⟨c0, c1, c2, c3, c4, c5, c6, c7, c8, c9, c10, c11, c12, c13, c14, c15, c16, c17⟩ := c18 hB))
    go_ret2
    exact ⟨rfl, below1 hB⟩
end Go.Proofs.YtinaibebdacnmaaDoor
