/- package call: what is caught of a throw. -/
import Derived.Test.YtmcibofnanbhpaaDoorValG
import Derived.Test.YtmcibofnanbhpaaDoorAsM
import Derived.Deep.RegionHeld3
import Derived.Outline
namespace Go.Proofs.YtmcibofnanbhpaaDoor
open Go.RowKit Go.Proofs.YtmcibofnanbhpaaDoorW.PrintWords
attribute [local go_sem] run_store_float

/-- The name of a kind of throw. -/
def nmT (k : Int) : ByteArray := if k = 2 then ⟨#[84, 121, 112, 101, 69, 114, 114, 111, 114]⟩ else if k = 3 then ⟨#[82, 97, 110, 103, 101, 69, 114, 114, 111, 114]⟩ else if k = 4 then ⟨#[83, 121, 110, 116, 97, 120, 69, 114, 114, 111, 114]⟩ else ⟨#[82, 101, 102, 101, 114, 101, 110, 99, 101, 69, 114, 114, 111, 114]⟩

theorem facts6 {W : World} {g : Nat} {t : TypeId} {x0 x1 x2 x3 x4 x5 : Value} (h : W.heap[g]? = some (.cells #[x0, x1, x2, x3, x4, x5] t (0, 0))) :
    W.cell? ⟨g, 0, none⟩ = some x0 ∧ W.cell? ⟨g, 1, none⟩ = some x1 ∧ W.cell? ⟨g, 2, none⟩ = some x2 ∧ W.cell? ⟨g, 3, none⟩ = some x3 ∧ W.cell? ⟨g, 4, none⟩ = some x4 ∧ W.cell? ⟨g, 5, none⟩ = some x5 := by
  refine ⟨?_, ?_, ?_, ?_, ?_, ?_⟩ <;> rw [Lib.cell_of_heap h] <;> rfl

theorem old_alloc {W : World} {g : Nat} {o' : Obj} (h : W.heap[g]? = some o') (o : Obj) : (W.alloc o).heap[g]? = some o' := by
  rw [Lib.alloc_old W o _ (Array.getElem?_eq_some_iff.1 h).1]; exact h

theorem thrownError_c (g : Nat) (kd k : Int) (b : Bool) (n : Nat) (s : ByteArray) (i : Int) (w : World) (h : w.heap[g]? = some (.cells #[.int .i64 kd, .int .i64 k, .bool b, .float .f64 n, .string s, .int .i64 i] 79 (0, 0))) (h2 : 2 ≤ kd) (h5 : kd ≤ 5) :
    Calls Tryd.prog 150 #[.pointer (some ⟨g, 0, none⟩)] w fun e w' => e = .returned (.string (nmT kd)) ∧ w = w' := by
  have c0 := (facts6 h).1
  clear h
  have hk : kd = 2 ∨ kd = 3 ∨ kd = 4 ∨ kd = 5 := by omega
  rcases hk with rfl | rfl | rfl | rfl
  all_goals
    clear h2 h5
    go_enter Tryd.func150, Tryd.ntmps150
    go_wp2
    go_ret
    exact ⟨rfl, rfl⟩

theorem gd_nmT (kd : Int) : gd 5 false 0 (nmT kd) 0 = true := by
  unfold nmT
  split
  · decide +kernel
  · split
    · decide +kernel
    · split <;> decide +kernel

theorem keepC' {W W' : World} {p : Addr} {x : Value} (h : W.cell? p = some x) (hb : Below W.heap.size W W') : W'.cell? p = some x := by
  rw [hb.cell (World.block_lt_of_cell? W p h)]; exact h
theorem keepH' {W W' : World} {b : Nat} {o : Obj} (h : W.heap[b]? = some o) (hb : Below W.heap.size W W') : W'.heap[b]? = some o := by
  rw [hb.block b (Array.getElem?_eq_some_iff.1 h).1]; exact h
/-- What the region's worlds keep: five cells that are read, and a block of one's own. -/
theorem keepT {V W W' : World} {p0 p1 p2 p3 p4 : Addr} {x0 x1 x2 x3 x4 : Value} {b1 : Nat} {t : TypeId} (hb : Below W.heap.size W W') (h : W.cell? p0 = some x0 ∧ W.cell? p1 = some x1 ∧ W.cell? p2 = some x2 ∧ W.cell? p3 = some x3 ∧ W.cell? p4 = some x4 ∧ Below V.heap.size V W ∧ ∃ y0 y1 y2 y3 y4, W.heap[b1]? = some (.cells #[y0, y1, y2, y3, y4] t (0, 0))) : W'.cell? p0 = some x0 ∧ W'.cell? p1 = some x1 ∧ W'.cell? p2 = some x2 ∧ W'.cell? p3 = some x3 ∧ W'.cell? p4 = some x4 ∧ Below V.heap.size V W' ∧ ∃ y0 y1 y2 y3 y4, W'.heap[b1]? = some (.cells #[y0, y1, y2, y3, y4] t (0, 0)) := by
  obtain ⟨h0, h1, h2, h3, h4, hB, y0, y1, y2, y3, y4, k1⟩ := h
  exact ⟨keepC' h0 hb, keepC' h1 hb, keepC' h2 hb, keepC' h3 hb, keepC' h4 hb, hB.trans (hb.mono hB.size), y0, y1, y2, y3, y4, keepH' k1 hb⟩
theorem belT {V W : World} {p0 p1 p2 p3 p4 : Addr} {x0 x1 x2 x3 x4 : Value} {b1 : Nat} {t : TypeId} (h : W.cell? p0 = some x0 ∧ W.cell? p1 = some x1 ∧ W.cell? p2 = some x2 ∧ W.cell? p3 = some x3 ∧ W.cell? p4 = some x4 ∧ Below V.heap.size V W ∧ ∃ y0 y1 y2 y3 y4, W.heap[b1]? = some (.cells #[y0, y1, y2, y3, y4] t (0, 0))) : Below V.heap.size V W := h.2.2.2.2.2.1
theorem setT {V W : World} {g a0 a1 a2 a3 a4 : Nat} {x0 x1 x2 x3 x4 : Value} {b1 : Nat} {t : TypeId} (z0 z1 z2 z3 z4 : Value) (hne : b1 ≠ g) (hle : V.heap.size ≤ b1) (h : W.cell? ⟨g, a0, none⟩ = some x0 ∧ W.cell? ⟨g, a1, none⟩ = some x1 ∧ W.cell? ⟨g, a2, none⟩ = some x2 ∧ W.cell? ⟨g, a3, none⟩ = some x3 ∧ W.cell? ⟨g, a4, none⟩ = some x4 ∧ Below V.heap.size V W ∧ ∃ y0 y1 y2 y3 y4, W.heap[b1]? = some (.cells #[y0, y1, y2, y3, y4] t (0, 0))) : (((((W.setCell ⟨b1, 0, none⟩ z0).setCell ⟨b1, 1, none⟩ z1).setCell ⟨b1, 2, none⟩ z2).setCell ⟨b1, 3, none⟩ z3).setCell ⟨b1, 4, none⟩ z4).cell? ⟨g, a0, none⟩ = some x0 ∧ (((((W.setCell ⟨b1, 0, none⟩ z0).setCell ⟨b1, 1, none⟩ z1).setCell ⟨b1, 2, none⟩ z2).setCell ⟨b1, 3, none⟩ z3).setCell ⟨b1, 4, none⟩ z4).cell? ⟨g, a1, none⟩ = some x1 ∧ (((((W.setCell ⟨b1, 0, none⟩ z0).setCell ⟨b1, 1, none⟩ z1).setCell ⟨b1, 2, none⟩ z2).setCell ⟨b1, 3, none⟩ z3).setCell ⟨b1, 4, none⟩ z4).cell? ⟨g, a2, none⟩ = some x2 ∧ (((((W.setCell ⟨b1, 0, none⟩ z0).setCell ⟨b1, 1, none⟩ z1).setCell ⟨b1, 2, none⟩ z2).setCell ⟨b1, 3, none⟩ z3).setCell ⟨b1, 4, none⟩ z4).cell? ⟨g, a3, none⟩ = some x3 ∧ (((((W.setCell ⟨b1, 0, none⟩ z0).setCell ⟨b1, 1, none⟩ z1).setCell ⟨b1, 2, none⟩ z2).setCell ⟨b1, 3, none⟩ z3).setCell ⟨b1, 4, none⟩ z4).cell? ⟨g, a4, none⟩ = some x4 ∧ Below V.heap.size V (((((W.setCell ⟨b1, 0, none⟩ z0).setCell ⟨b1, 1, none⟩ z1).setCell ⟨b1, 2, none⟩ z2).setCell ⟨b1, 3, none⟩ z3).setCell ⟨b1, 4, none⟩ z4) ∧ ∃ y0 y1 y2 y3 y4, (((((W.setCell ⟨b1, 0, none⟩ z0).setCell ⟨b1, 1, none⟩ z1).setCell ⟨b1, 2, none⟩ z2).setCell ⟨b1, 3, none⟩ z3).setCell ⟨b1, 4, none⟩ z4).heap[b1]? = some (.cells #[y0, y1, y2, y3, y4] t (0, 0)) := by
  obtain ⟨h0, h1, h2, h3, h4, hB, y0, y1, y2, y3, y4, k1⟩ := h
  refine ⟨?_, ?_, ?_, ?_, ?_, setB5 hB hle _ _ _ _ _, _, _, _, _, _, set5 k1 _ _ _ _ _⟩ <;>
    (rw [World.cell?_setCell_far _ _ _ _ hne, World.cell?_setCell_far _ _ _ _ hne, World.cell?_setCell_far _ _ _ _ hne, World.cell?_setCell_far _ _ _ _ hne, World.cell?_setCell_far _ _ _ _ hne]; assumption)
set_option maxHeartbeats 4000000 in
set_option maxRecDepth 100000 in
theorem caught1_c (g : Nat) (k : Int) (b : Bool) (n : Nat) (s : ByteArray) (i : Int) (w : World) (HT : Tabs w) (h : w.heap[g]? = some (.cells #[.int .i64 1, .int .i64 k, .bool b, .float .f64 n, .string s, .int .i64 i] 79 (0, 0))) :
    Calls Tryd.prog 83 #[.pointer (some ⟨g, 0, none⟩)] w fun e w' => e = .returned (.tuple #[VV k b n s i, .bool (gd k b n s i)]) ∧ Below w.heap.size w w' := by
  have hg := Fact.mk (fun w' (h : Below w.heap.size w w') => check_c k b n s i w' (HT.below h))
  have c0 := fun o => (facts6 (old_alloc h o)).1
  have c1 := fun o => (facts6 (old_alloc h o)).2.1
  have c2 := fun o => (facts6 (old_alloc h o)).2.2.1
  have c3 := fun o => (facts6 (old_alloc h o)).2.2.2.1
  have c4 := fun o => (facts6 (old_alloc h o)).2.2.2.2.1
  have c5 := fun o => (facts6 (old_alloc h o)).2.2.2.2.2
  generalize gd k b n s i = G at hg ⊢
  unfold VV at *
  cases G
  all_goals
    simp only [if_true, if_false, Bool.false_eq_true] at hg
    go_enter Tryd.func83, Tryd.ntmps83
    go_wp2
    have hS0 : (w.alloc (.cells #[.int .i64 0, .bool false, .float .f64 0, .string ⟨#[]⟩, .int .i64 0] 43)).drew.cell? ⟨g, 1, none⟩ = some (.int .i64 k) ∧ (w.alloc (.cells #[.int .i64 0, .bool false, .float .f64 0, .string ⟨#[]⟩, .int .i64 0] 43)).drew.cell? ⟨g, 2, none⟩ = some (.bool b) ∧ (w.alloc (.cells #[.int .i64 0, .bool false, .float .f64 0, .string ⟨#[]⟩, .int .i64 0] 43)).drew.cell? ⟨g, 3, none⟩ = some (.float .f64 n) ∧ (w.alloc (.cells #[.int .i64 0, .bool false, .float .f64 0, .string ⟨#[]⟩, .int .i64 0] 43)).drew.cell? ⟨g, 4, none⟩ = some (.string s) ∧ (w.alloc (.cells #[.int .i64 0, .bool false, .float .f64 0, .string ⟨#[]⟩, .int .i64 0] 43)).drew.cell? ⟨g, 5, none⟩ = some (.int .i64 i) ∧ Below w.heap.size w (w.alloc (.cells #[.int .i64 0, .bool false, .float .f64 0, .string ⟨#[]⟩, .int .i64 0] 43)).drew ∧ ∃ y0 y1 y2 y3 y4, (w.alloc (.cells #[.int .i64 0, .bool false, .float .f64 0, .string ⟨#[]⟩, .int .i64 0] 43)).drew.heap[w.heap.size]? = some (.cells #[y0, y1, y2, y3, y4] 43 (0, 0)) := ⟨c1 _, c2 _, c3 _, c4 _, c5 _, ((Below.refl _ _).alloc (Nat.le_refl _) _).drew, _, _, _, _, _, heap_alloc_new _ _⟩
    have hne : w.heap.size ≠ g := fun e => by have := (Array.getElem?_eq_some_iff.1 h).1; omega
    clear c1 c2 c3 c4 c5 h HT
    go_region_held3 (fun W => W.cell? ⟨g, 1, none⟩ = some (.int .i64 k) ∧ W.cell? ⟨g, 2, none⟩ = some (.bool b) ∧ W.cell? ⟨g, 3, none⟩ = some (.float .f64 n) ∧ W.cell? ⟨g, 4, none⟩ = some (.string s) ∧ W.cell? ⟨g, 5, none⟩ = some (.int .i64 i) ∧ Below w.heap.size w W ∧ ∃ y0 y1 y2 y3 y4, W.heap[w.heap.size]? = some (.cells #[y0, y1, y2, y3, y4] 43 (0, 0))) (first | with_reducible exact hS0 | with_reducible exact setT _ _ _ _ _ hne (Nat.le_refl _) (by with_reducible assumption) | with_reducible exact keepT (by with_reducible assumption) (by with_reducible assumption)) (first | (go_at_call 62; with_reducible refine (hg.out _ (belT (by assumption))).mono ?_; rintro e W1 ⟨rfl, hb⟩; have hS1 := keepT (V := w) (b1 := w.heap.size) (t := 43) (p0 := ⟨g, 1, none⟩) (p1 := ⟨g, 2, none⟩) (p2 := ⟨g, 3, none⟩) (p3 := ⟨g, 4, none⟩) (p4 := ⟨g, 5, none⟩) (x0 := .int .i64 k) (x1 := .bool b) (x2 := .float .f64 n) (x3 := .string s) (x4 := .int .i64 i) hb (by assumption); obtain ⟨y0, y1, y2, y3, y4, hr1⟩ := hS1.2.2.2.2.2.2; obtain ⟨c0, c1, c2, c3, c4, f0, f1, f2, f3, f4⟩ := facts5 hr1))
    go_wp2
    refine bodyPost_ret (results_ct rfl _ _ w.heap.size _ _ _ _ rfl (set5 hr1 _ _ _ _ _) Tryd.underlying43 rfl (by kernel_rfl)) rfl ?_
    exact ⟨rfl, setB5 hS1.2.2.2.2.2.1 (Nat.le_refl _) _ _ _ _ _⟩

set_option maxRecDepth 100000 in
theorem caught2_c (g : Nat) (kd k : Int) (b : Bool) (n : Nat) (s : ByteArray) (i : Int) (w : World) (HT : Tabs w) (h : w.heap[g]? = some (.cells #[.int .i64 kd, .int .i64 k, .bool b, .float .f64 n, .string s, .int .i64 i] 79 (0, 0))) (h2 : 2 ≤ kd) (h5 : kd ≤ 5) :
    Calls Tryd.prog 83 #[.pointer (some ⟨g, 0, none⟩)] w fun e w' => e = .returned (.tuple #[VV 5 false 0 (nmT kd) 0, .bool true]) ∧ Below w.heap.size w w' := by
  have c0 := fun o => (facts6 (old_alloc h o)).1
  have hE := Fact.mk (fun o => thrownError_c g kd k b n s i (w.alloc o) (old_alloc h o) h2 h5)
  have hS := Fact.mk (fun w' (h : Below w.heap.size w w') => mkStr_c (nmT kd) w' (HT.below h))
  simp only [gd_nmT kd, if_true] at hS
  have hB0 := Fact.mk (fun o => (Below.refl w.heap.size w).alloc (Nat.le_refl _) o)
  have d1 : ¬ kd = 1 := by omega
  have hn := fun o => heap_alloc_new w o
  clear h
  generalize nmT kd = S at *
  unfold VV at *
  go_enter Tryd.func83, Tryd.ntmps83
  go_wp2_with (first | (go_at_call 150; refine (hE.out _).mono ?_; rintro e w1 ⟨rfl, rfl⟩) | (go_at_call 61; refine (hS.out _ (hB0.out _)).mono ?_; rintro e w2 ⟨rfl, hb⟩; have hr := heap5 hb; have hb1 := below1 hb; obtain ⟨q0, q1, q2, q3, q4, f0, f1, f2, f3, f4⟩ := facts5 hr))
  refine bodyPost_ret (results_ct rfl _ _ w.heap.size _ _ _ _ rfl (set5 hr _ _ _ _ _) Tryd.underlying43 rfl (by kernel_rfl)) rfl ?_
  exact ⟨rfl, setB5 hb1 (Nat.le_refl _) _ _ _ _ _⟩

set_option maxRecDepth 100000 in
theorem caught0_c (g : Nat) (kd k : Int) (b : Bool) (n : Nat) (s : ByteArray) (i : Int) (w : World) (h : w.heap[g]? = some (.cells #[.int .i64 kd, .int .i64 k, .bool b, .float .f64 n, .string s, .int .i64 i] 79 (0, 0))) (h2 : kd < 1 ∨ 5 < kd) :
    Calls Tryd.prog 83 #[.pointer (some ⟨g, 0, none⟩)] w fun e w' => e = .returned (.tuple #[VV 0 false 0 ⟨#[]⟩ 0, .bool false]) ∧ Below w.heap.size w w' := by
  have c0 := fun o => (facts6 (old_alloc h o)).1
  have d1 : ¬ kd = 1 := by omega
  have d2 : kd < 2 ∨ (¬ kd < 2 ∧ 5 < kd) := by omega
  clear h h2
  unfold VV at *
  rcases d2 with d2 | ⟨d2, d3⟩
  all_goals
    go_enter Tryd.func83, Tryd.ntmps83
    go_wp2
    refine bodyPost_ret (results_ct rfl _ _ w.heap.size _ _ _ _ rfl (heap_alloc_new _ _) Tryd.underlying43 rfl (by kernel_rfl)) rfl ?_
    exact ⟨rfl, (Below.refl _ _).alloc (Nat.le_refl _) _⟩
end Go.Proofs.YtmcibofnanbhpaaDoor
