/- The law ValueMust: its walk. -/
import Derived.Test.YtinaibebdacnmaaDoorMusD
import Derived.Deep.Cut
namespace Go.Proofs.YtinaibebdacnmaaDoor
open Go.RowKit Go.Proofs.YtinaibebdacnmaaDoorW.PrintWords
attribute [local go_sem] run_store_float

theorem far5 {W : World} {g b : Nat} {o : Obj} {y0 y1 y2 y3 y4 : Value} (h : W.heap[g]? = some o) (hne : g ≠ b) : (((((W.setCell ⟨b, 0, none⟩ y0).setCell ⟨b, 1, none⟩ y1).setCell ⟨b, 2, none⟩ y2).setCell ⟨b, 3, none⟩ y3).setCell ⟨b, 4, none⟩ y4).heap[g]? = some o := by
  rw [Below.heap_setCell _ _ _ _ hne, Below.heap_setCell _ _ _ _ hne, Below.heap_setCell _ _ _ _ hne, Below.heap_setCell _ _ _ _ hne, Below.heap_setCell _ _ _ _ hne]; exact h
theorem set1 {W : World} {g : Nat} {t : TypeId} {x : Value} (h : W.heap[g]? = some (.cells #[x] t (0, 0))) (y : Value) : (W.setCell ⟨g, 0, none⟩ y).heap[g]? = some (.cells #[y] t (0, 0)) := by
  simp [World.setCell, Array.getElem?_modify, h]
theorem far1 {W : World} {g b : Nat} {o : Obj} {y : Value} (h : W.heap[g]? = some o) (hne : g ≠ b) : (W.setCell ⟨b, 0, none⟩ y).heap[g]? = some o := by
  rw [Below.heap_setCell _ _ _ _ hne]; exact h

theorem results3 (tmps : Array Value) (w : World) (g0 g1 g2 : Nat) (t0 t1 t2 : TypeId) (x0 x1 x2 x3 x4 y z : Value) (h0 : tmps.getD 4 undef = .pointer (some ⟨g0, 0, none⟩)) (h1 : tmps.getD 5 undef = .pointer (some ⟨g1, 0, none⟩)) (h2 : tmps.getD 6 undef = .pointer (some ⟨g2, 0, none⟩))
    (k0 : w.heap[g0]? = some (.cells #[x0, x1, x2, x3, x4] t0 (0, 0))) (k1 : w.heap[g1]? = some (.cells #[y] t1 (0, 0))) (k2 : w.heap[g2]? = some (.cells #[z] t2 (0, 0))) :
    (results Tryd.f21 tmps).run Tryd.prog w = .ok (.tuple #[.agg #[x0, x1, x2, x3, x4], y, z]) w := by
  have h0' : tmps[4]?.getD undef = .pointer (some ⟨g0, 0, none⟩) := by simpa using h0
  have h1' : tmps[5]?.getD undef = .pointer (some ⟨g1, 0, none⟩) := by simpa using h1
  have h2' : tmps[6]?.getD undef = .pointer (some ⟨g2, 0, none⟩) := by simpa using h2
  have l0 := run_loadVar_row (P := Tryd.prog) w g0 t0 32 _ _ _ k0 Tryd.underlying32 rfl (by kernel_rfl)
  have l1 : (loadVar 57 ⟨g1, 0, none⟩).run Tryd.prog w = .ok y w := by
    simp [loadVar, isAgg, underlying, Tryd.underlying57, (fact1 k1).1, Result.andThen]
  have l2 : (loadVar 4 ⟨g2, 0, none⟩).run Tryd.prog w = .ok z w := by
    simp [loadVar, isAgg, underlying, Tryd.underlying4, (fact1 k2).1, Result.andThen]
  simp [results, h0', h1', h2', asAddr, l0, l1, l2]

theorem b4 (w : World) (o1 o2 o3 o4 : Obj) : Below w.heap.size w ((((w.alloc o1).alloc o2).alloc o3).alloc o4) := ((((Below.refl _ _).alloc (Nat.le_refl _) _).alloc (by simp) _).alloc (by simp; omega) _).alloc (by simp; omega) _
theorem four {w W' : World} {o1 o2 o3 o4 : Obj} (hb : Below ((((w.alloc o1).alloc o2).alloc o3).alloc o4).heap.size ((((w.alloc o1).alloc o2).alloc o3).alloc o4) W') :
    W'.heap[w.heap.size]? = some o1 ∧ W'.heap[w.heap.size + 1]? = some o2 ∧ W'.heap[w.heap.size + 1 + 1]? = some o3 ∧ W'.heap[w.heap.size + 1 + 1 + 1]? = some o4 ∧ Below w.heap.size w W' := by
  obtain ⟨k1, k2, k3, hB⟩ := three (w := w) (o1 := o1) (o2 := o2) (o3 := o3) (((Below.refl _ (((w.alloc o1).alloc o2).alloc o3)).alloc (Nat.le_refl _) o4).trans (hb.mono (by simp)))
  refine ⟨k1, k2, k3, keepH0 ?_ hb, hB⟩
  have := heap_alloc_new (((w.alloc o1).alloc o2).alloc o3) o4
  simpa using this

set_option maxRecDepth 100000 in
theorem lmBad (kd got k : Int) (b : Bool) (n : Nat) (s : ByteArray) (i : Int) (w : World) (hm : ∀ W, Below w.heap.size w W → Calls Tryd.prog 45 #[.int .i64 kd, VV k b n s i] W (Bad kd got W)) :
    Calls Tryd.prog 21 #[.int .i64 kd, VV k b n s i] w fun e w' => ∃ g, e = .returned (.tuple #[VV 0 false 0 ⟨#[]⟩ 0, .pointer (some ⟨g, 0, none⟩), .bool true]) ∧ w'.heap[g]? = some (.cells #[.int .i64 kd, .int .i64 got] 62 (0, 0)) ∧ Below w.heap.size w w' := by
  have hm := Fact.mk hm
  have hmf : ∀ (fn : Fn) (first cap : Array Value) (w : World), (Instr.makeFunc fn first cap).run Tryd.prog w = .ok (.func fn first cap) w := fun _ _ _ _ => rfl
  unfold VV at *
  go_enter_defers Tryd.func21, Tryd.ntmps21
  go_wp2_with (go_at_call 45; refine (hm.out _ (b4 _ _ _ _ _)).mono ?_; rintro e w1 ⟨g, older, rfl, ho, hg, hb⟩; obtain ⟨k1, k2, k3, k4, hB1⟩ := four hb)
  refine leaves_cons (f := 44) (args := #[.pointer (some ⟨w.heap.size + 1 + 1, 0, none⟩), .pointer (some ⟨w.heap.size + 1 + 1 + 1, 0, none⟩)]) (by simp) (by simp [go_sem]) ?_
  refine (lc_panic _ _ _ _ _ _ g older _ k3 k4 (by omega)).mono ?_
  rintro e u' w'' ⟨rfl, rfl, rfl⟩
  have hne1 : g ≠ w.heap.size + 1 + 1 := by
    rintro rfl; rw [k3] at hg; cases hg
  have hne2 : g ≠ w.heap.size + 1 + 1 + 1 := by
    rintro rfl; rw [k4] at hg; cases hg
  simp only [settle, ho]
  refine ⟨_, results3 _ _ (w.heap.size + 1) (w.heap.size + 1 + 1) (w.heap.size + 1 + 1 + 1) _ _ _ _ _ _ _ _ _ _ rfl rfl rfl (far1 (far1 k2 (by omega)) (by omega)) (far1 (set1 k3 _) (by omega)) (set1 (far1 k4 (by omega)) _), ?_⟩
  exact ⟨g, rfl, far1 (far1 hg hne1) hne2, (hB1.setCell (p := ⟨w.heap.size + 1 + 1, 0, none⟩) (show w.heap.size ≤ w.heap.size + 1 + 1 by omega) _).setCell (p := ⟨w.heap.size + 1 + 1 + 1, 0, none⟩) (show w.heap.size ≤ w.heap.size + 1 + 1 + 1 by omega) _⟩

set_option maxRecDepth 100000 in
theorem lmOk (kd k : Int) (b : Bool) (n : Nat) (s : ByteArray) (i : Int) (w : World) (hm : ∀ W, Below w.heap.size w W → Calls Tryd.prog 45 #[.int .i64 kd, VV k b n s i] W fun e W' => e = .returned (VV k b n s i) ∧ Below W.heap.size W W') :
    Calls Tryd.prog 21 #[.int .i64 kd, VV k b n s i] w fun e w' => e = .returned (.tuple #[VV k b n s i, .pointer none, .bool true]) ∧ Below w.heap.size w w' := by
  have hm := Fact.mk hm
  have hmf : ∀ (fn : Fn) (first cap : Array Value) (w : World), (Instr.makeFunc fn first cap).run Tryd.prog w = .ok (.func fn first cap) w := fun _ _ _ _ => rfl
  unfold VV at *
  go_enter_defers Tryd.func21, Tryd.ntmps21
  go_wp2_with (go_at_call 45; refine (hm.out _ (b4 _ _ _ _ _)).mono ?_; rintro e w1 ⟨rfl, hb⟩; obtain ⟨k1, k2, k3, k4, hB1⟩ := four hb; obtain ⟨e0, e1, e2, e3, e4, f0, f1, f2, f3, f4⟩ := facts5 k2; obtain ⟨m3, m3f⟩ := fact1 k3; obtain ⟨m4, m4f⟩ := fact1 k4)
  refine leaves_cons (f := 44) (args := #[.pointer (some ⟨w.heap.size + 1 + 1, 0, none⟩), .pointer (some ⟨w.heap.size + 1 + 1 + 1, 0, none⟩)]) (by simp) (by simp [go_sem]) ?_
  refine (lc_idle _ _ _).mono ?_
  rintro e u' w'' ⟨rfl, rfl, rfl⟩
  refine ⟨_, results3 _ _ (w.heap.size + 1) (w.heap.size + 1 + 1) (w.heap.size + 1 + 1 + 1) _ _ _ _ _ _ _ _ _ _ rfl rfl rfl (far1 (far1 (set5 k2 _ _ _ _ _) (by omega)) (by omega)) (far1 (set1 (far5 k3 (by omega)) _) (by omega)) (set1 (far1 (far5 k4 (by omega)) (by omega)) _), ?_⟩
  exact ⟨rfl, ((setB5 hB1 (by omega) _ _ _ _ _).setCell (p := ⟨w.heap.size + 1 + 1, 0, none⟩) (show w.heap.size ≤ w.heap.size + 1 + 1 by omega) _).setCell (p := ⟨w.heap.size + 1 + 1 + 1, 0, none⟩) (show w.heap.size ≤ w.heap.size + 1 + 1 + 1 by omega) _⟩

theorem must_bad (kd k : Int) (hne : kd ≠ k) (hk : k = 1 ∨ k = 2 ∨ k = 3 ∨ k = 4 ∨ k = 5 ∨ k = 6 ∨ k = 7) (b : Bool) (n : Nat) (s : ByteArray) (i : Int) (w : World) (hE : HE w) (hg : ∀ W, Below w.heap.size w W → Calls Tryd.prog 51 #[VV k b n s i] W fun e W' => e = .returned (.tuple #[oneV k b n s i, .bool true]) ∧ Below W.heap.size W W') :
    Calls Tryd.prog 45 #[.int .i64 kd, VV k b n s i] w (Bad kd k w) := by
  by_cases h : kd < 1 ∨ 7 < kd
  · exact mustNone kd h _ k b n s i w hE hg
  have hd : kd = 1 ∨ kd = 2 ∨ kd = 3 ∨ kd = 4 ∨ kd = 5 ∨ kd = 6 ∨ kd = 7 := by omega
  rcases hk with rfl | rfl | rfl | rfl | rfl | rfl | rfl
  · rcases hd with rfl | rfl | rfl | rfl | rfl | rfl | rfl
    · exact absurd rfl hne
    · exact mustBad2 117 (.agg #[]) (by decide) _ b n s i w hE hg
    · exact mustBad3 117 (.agg #[]) (by decide) _ b n s i w hE hg
    · exact mustBad4 117 (.agg #[]) (by decide) _ b n s i w hE hg
    · exact mustBad5 117 (.agg #[]) (by decide) _ b n s i w hE hg
    · exact mustBad6 117 (.agg #[]) (by decide) _ b n s i w hE hg
    · exact mustBad7 117 (.agg #[]) (by decide) _ b n s i w hE hg
  · rcases hd with rfl | rfl | rfl | rfl | rfl | rfl | rfl
    · exact mustBad1 118 (.agg #[]) (by decide) _ b n s i w hE hg
    · exact absurd rfl hne
    · exact mustBad3 118 (.agg #[]) (by decide) _ b n s i w hE hg
    · exact mustBad4 118 (.agg #[]) (by decide) _ b n s i w hE hg
    · exact mustBad5 118 (.agg #[]) (by decide) _ b n s i w hE hg
    · exact mustBad6 118 (.agg #[]) (by decide) _ b n s i w hE hg
    · exact mustBad7 118 (.agg #[]) (by decide) _ b n s i w hE hg
  · rcases hd with rfl | rfl | rfl | rfl | rfl | rfl | rfl
    · exact mustBad1 119 (.bool b) (by decide) _ b n s i w hE hg
    · exact mustBad2 119 (.bool b) (by decide) _ b n s i w hE hg
    · exact absurd rfl hne
    · exact mustBad4 119 (.bool b) (by decide) _ b n s i w hE hg
    · exact mustBad5 119 (.bool b) (by decide) _ b n s i w hE hg
    · exact mustBad6 119 (.bool b) (by decide) _ b n s i w hE hg
    · exact mustBad7 119 (.bool b) (by decide) _ b n s i w hE hg
  · rcases hd with rfl | rfl | rfl | rfl | rfl | rfl | rfl
    · exact mustBad1 120 (.float .f64 n) (by decide) _ b n s i w hE hg
    · exact mustBad2 120 (.float .f64 n) (by decide) _ b n s i w hE hg
    · exact mustBad3 120 (.float .f64 n) (by decide) _ b n s i w hE hg
    · exact absurd rfl hne
    · exact mustBad5 120 (.float .f64 n) (by decide) _ b n s i w hE hg
    · exact mustBad6 120 (.float .f64 n) (by decide) _ b n s i w hE hg
    · exact mustBad7 120 (.float .f64 n) (by decide) _ b n s i w hE hg
  · rcases hd with rfl | rfl | rfl | rfl | rfl | rfl | rfl
    · exact mustBad1 93 (.string s) (by decide) _ b n s i w hE hg
    · exact mustBad2 93 (.string s) (by decide) _ b n s i w hE hg
    · exact mustBad3 93 (.string s) (by decide) _ b n s i w hE hg
    · exact mustBad4 93 (.string s) (by decide) _ b n s i w hE hg
    · exact absurd rfl hne
    · exact mustBad6 93 (.string s) (by decide) _ b n s i w hE hg
    · exact mustBad7 93 (.string s) (by decide) _ b n s i w hE hg
  · rcases hd with rfl | rfl | rfl | rfl | rfl | rfl | rfl
    · exact mustBad1 121 (.int .i64 i) (by decide) _ b n s i w hE hg
    · exact mustBad2 121 (.int .i64 i) (by decide) _ b n s i w hE hg
    · exact mustBad3 121 (.int .i64 i) (by decide) _ b n s i w hE hg
    · exact mustBad4 121 (.int .i64 i) (by decide) _ b n s i w hE hg
    · exact mustBad5 121 (.int .i64 i) (by decide) _ b n s i w hE hg
    · exact absurd rfl hne
    · exact mustBad7 121 (.int .i64 i) (by decide) _ b n s i w hE hg
  · rcases hd with rfl | rfl | rfl | rfl | rfl | rfl | rfl
    · exact mustBad1 122 (.int .i64 i) (by decide) _ b n s i w hE hg
    · exact mustBad2 122 (.int .i64 i) (by decide) _ b n s i w hE hg
    · exact mustBad3 122 (.int .i64 i) (by decide) _ b n s i w hE hg
    · exact mustBad4 122 (.int .i64 i) (by decide) _ b n s i w hE hg
    · exact mustBad5 122 (.int .i64 i) (by decide) _ b n s i w hE hg
    · exact mustBad6 122 (.int .i64 i) (by decide) _ b n s i w hE hg
    · exact absurd rfl hne
theorem vEq (k : Int) (b : Bool) (n : Nat) (s : ByteArray) (i : Int) (h : gd k b n s i = true) :
    (k = 1 ∧ b = false ∧ n = 0 ∧ s = ⟨#[]⟩ ∧ i = 0) ∨ (k = 2 ∧ b = false ∧ n = 0 ∧ s = ⟨#[]⟩ ∧ i = 0) ∨ (k = 3 ∧ n = 0 ∧ s = ⟨#[]⟩ ∧ i = 0) ∨ (k = 4 ∧ b = false ∧ s = ⟨#[]⟩ ∧ i = 0) ∨ (k = 5 ∧ b = false ∧ n = 0 ∧ i = 0) ∨ (k = 6 ∧ b = false ∧ n = 0 ∧ s = ⟨#[]⟩) ∨ (k = 7 ∧ b = false ∧ n = 0 ∧ s = ⟨#[]⟩) := by
  have hs : ∀ s : ByteArray, s.toList = [] → s = ⟨#[]⟩ := fun s e => by
    have := (PR.toList_by s ⟨#[]⟩).1 (by rw [e]; decide +kernel)
    exact PR.by_inj this
  unfold gd at h
  split at h
  · simp at h; exact .inl ⟨by assumption, h.1, h.2.2.2, hs s h.2.1, h.2.2.1⟩
  split at h
  · simp at h; exact .inr (.inl ⟨by assumption, h.1, h.2.2.2, hs s h.2.1, h.2.2.1⟩)
  split at h
  · simp at h; exact .inr (.inr (.inl ⟨by assumption, h.2.2, hs s h.1, h.2.1⟩))
  split at h
  · simp at h; exact .inr (.inr (.inr (.inl ⟨by assumption, h.1, hs s h.2.1, h.2.2⟩)))
  split at h
  · simp at h; exact .inr (.inr (.inr (.inr (.inl ⟨by assumption, h.2.1, h.2.2.2, h.2.2.1⟩))))
  split at h
  · simp at h; exact .inr (.inr (.inr (.inr (.inr (.inl ⟨by assumption, h.2.1, h.2.2.2, hs s h.2.2.1⟩)))))
  split at h
  · simp at h; exact .inr (.inr (.inr (.inr (.inr (.inr ⟨by assumption, h.2.1, h.2.2.2, hs s h.2.2.1⟩)))))
  · cases h
theorem must_ok (k : Int) (b : Bool) (n : Nat) (s : ByteArray) (i : Int) (hgd : gd k b n s i = true) (w : World) (hg : ∀ W, Below w.heap.size w W → Calls Tryd.prog 51 #[VV k b n s i] W fun e W' => e = .returned (.tuple #[oneV k b n s i, .bool true]) ∧ Below W.heap.size W W') :
    Calls Tryd.prog 45 #[.int .i64 k, VV k b n s i] w fun e w' => e = .returned (VV k b n s i) ∧ Below w.heap.size w w' := by
  rcases vEq k b n s i hgd with ⟨rfl, rfl, rfl, rfl, rfl⟩ | ⟨rfl, rfl, rfl, rfl, rfl⟩ | ⟨rfl, rfl, rfl, rfl⟩ | ⟨rfl, rfl, rfl, rfl⟩ | ⟨rfl, rfl, rfl, rfl⟩ | ⟨rfl, rfl, rfl, rfl⟩ | ⟨rfl, rfl, rfl, rfl⟩
  · exact mustOk1 _ _ _ _ w hg
  · exact mustOk2 _ _ _ _ w hg
  · exact mustOk3 _ _ _ _ w hg
  · exact mustOk4 _ _ _ _ w hg
  · exact mustOk5 _ _ _ _ w hg
  · exact mustOk6 _ _ _ _ w hg
  · exact mustOk7 _ _ _ _ w hg

theorem facts5b {W : World} {g : Nat} {t : TypeId} {x0 x1 x2 x3 x4 : Value} (h : W.heap[g]? = some (.cells #[x0, x1, x2, x3, x4] t (0, 0))) :
    W.cell? ⟨g, 0, none⟩ = some x0 ∧ W.cell? ⟨g, 1, none⟩ = some x1 ∧ W.cell? ⟨g, 2, none⟩ = some x2 ∧ W.cell? ⟨g, 3, none⟩ = some x3 ∧ W.cell? ⟨g, 4, none⟩ = some x4 := by
  obtain ⟨c0, c1, c2, c3, c4, _⟩ := facts5 h
  exact ⟨c0, c1, c2, c3, c4⟩
theorem facts2 {W : World} {g : Nat} {t : TypeId} {x0 x1 : Value} (h : W.heap[g]? = some (.cells #[x0, x1] t (0, 0))) : W.cell? ⟨g, 0, none⟩ = some x0 ∧ W.cell? ⟨g, 1, none⟩ = some x1 := by
  refine ⟨?_, ?_⟩ <;> rw [Lib.cell_of_heap h] <;> rfl
theorem lt_of_h {W : World} {g : Nat} {o : Obj} (h : W.heap[g]? = some o) : g < W.heap.size := (Array.getElem?_eq_some_iff.1 h).1
set_option maxRecDepth 100000 in
theorem vmOk (k : Int) (b : Bool) (n : Nat) (s : ByteArray) (i : Int) (hn : n < 18446744073709551616) (hgd : gd k b n s i = true) (w : World) (hl : Calls Tryd.prog 21 #[.int .i64 k, VV k b n s i] (w.alloc (.cells #[.int .i64 k, .bool b, .float .f64 n, .string s, .int .i64 i] 32)) fun e w' => e = .returned (.tuple #[VV k b n s i, .pointer none, .bool true]) ∧ Below (w.alloc (.cells #[.int .i64 k, .bool b, .float .f64 n, .string s, .int .i64 i] 32)).heap.size (w.alloc (.cells #[.int .i64 k, .bool b, .float .f64 n, .string s, .int .i64 i] 32)) w') :
    Calls Tryd.prog 6 #[.int .i64 k, VV k b n s i] w fun e w' => e = .returned (.bool true) ∧ Below w.heap.size w w' := by
  have hl := Fact.mk hl
  have hG := Fact.mk (rGood_c k b n s i hn)
  have hk : ¬ k = 0 := by rintro rfl; simp [gd] at hgd
  rw [hgd] at hG
  have hq := Fact.mk (eqSelf_c k b n s i)
  clear hgd
  unfold VV at *
  go_enter Tryd.func6, Tryd.ntmps6
  go_upto_region 2 with (go_at_call 21; refine hl.out.mono ?_; rintro e w1 ⟨rfl, hb⟩; have k1 := heap5 hb; have hB1 := below1 hb; clear hb)
  obtain ⟨W, hW⟩ : ∃ W, W = w1.alloc (.cells #[.int .i64 k, .bool b, .float .f64 n, .string s, .int .i64 i] 32) := ⟨_, rfl⟩
  rw [← hW]
  have hv : W.heap[w.heap.size]? = some (.cells #[.int .i64 k, .bool b, .float .f64 n, .string s, .int .i64 i] 32 (0, 0)) := hW ▸ old_alloc' k1 _
  have ho : W.heap[w1.heap.size]? = some (.cells #[.int .i64 k, .bool b, .float .f64 n, .string s, .int .i64 i] 32 (0, 0)) := hW ▸ heap_alloc_new w1 _
  have hBW : Below w.heap.size w W := hW ▸ hB1.alloc hB1.size _
  clear hW k1 hB1 
  obtain ⟨c0, c1, c2, c3, c4⟩ := facts5b hv
  go_wp2_with fail
  refine (hG.out _).mono ?_
  rintro e w2 ⟨rfl, hb2⟩
  clear c0 c1 c2 c3 c4
  obtain ⟨c0, c1, c2, c3, c4⟩ := facts5b (keepH0 hv hb2)
  obtain ⟨d0, d1, d2, d3, d4⟩ := facts5b (keepH0 ho hb2)
  go_wp2_with fail
  refine (hq.out _).mono ?_
  rintro e w3 ⟨rfl, hb3⟩
  go_wp2
  go_ret
  exact ⟨rfl, (hBW.trans (hb2.mono hBW.size)).trans (hb3.mono (by have := hBW.size; have := hb2.size; omega))⟩
set_option maxRecDepth 100000 in
theorem vmBad (kd k : Int) (b : Bool) (n : Nat) (s : ByteArray) (i : Int) (hn : n < 18446744073709551616) (hne : ¬ k = kd) (hgd : gd k b n s i = true) (w : World) (hl : Calls Tryd.prog 21 #[.int .i64 kd, VV k b n s i] (w.alloc (.cells #[.int .i64 k, .bool b, .float .f64 n, .string s, .int .i64 i] 32)) fun e w' => ∃ g, e = .returned (.tuple #[VV 0 false 0 ⟨#[]⟩ 0, .pointer (some ⟨g, 0, none⟩), .bool true]) ∧ w'.heap[g]? = some (.cells #[.int .i64 kd, .int .i64 k] 62 (0, 0)) ∧ Below (w.alloc (.cells #[.int .i64 k, .bool b, .float .f64 n, .string s, .int .i64 i] 32)).heap.size (w.alloc (.cells #[.int .i64 k, .bool b, .float .f64 n, .string s, .int .i64 i] 32)) w') :
    Calls Tryd.prog 6 #[.int .i64 kd, VV k b n s i] w fun e w' => e = .returned (.bool true) ∧ Below w.heap.size w w' := by
  have hl := Fact.mk hl
  have hG := Fact.mk (rGood_c k b n s i hn)
  have hk : ¬ k = 0 := by rintro rfl; simp [gd] at hgd
  rw [hgd] at hG
  have hke : (k == kd) = false := by simpa using hne
  clear hgd
  unfold VV at *
  go_enter Tryd.func6, Tryd.ntmps6
  go_upto_region 2 with (go_at_call 21; refine hl.out.mono ?_; rintro e w1 ⟨g, rfl, hg, hb⟩; have k1 := heap5 hb; have hB1 := below1 hb; clear hb)
  obtain ⟨W, hW⟩ : ∃ W, W = w1.alloc (.cells #[.int .i64 0, .bool false, .float .f64 0, .string ⟨#[]⟩, .int .i64 0] 32) := ⟨_, rfl⟩
  rw [← hW]
  have hv : W.heap[w.heap.size]? = some (.cells #[.int .i64 k, .bool b, .float .f64 n, .string s, .int .i64 i] 32 (0, 0)) := hW ▸ old_alloc' k1 _
  have ho : W.heap[w1.heap.size]? = some (.cells #[.int .i64 0, .bool false, .float .f64 0, .string ⟨#[]⟩, .int .i64 0] 32 (0, 0)) := hW ▸ heap_alloc_new w1 _
  have hBW : Below w.heap.size w W := hW ▸ hB1.alloc hB1.size _
  have hgW : W.heap[g]? = some (.cells #[.int .i64 kd, .int .i64 k] 62 (0, 0)) := hW ▸ old_alloc' hg _
  clear hW k1 hB1 hg
  obtain ⟨c0, c1, c2, c3, c4⟩ := facts5b hv
  go_wp2_with fail
  refine (hG.out _).mono ?_
  rintro e w2 ⟨rfl, hb2⟩
  clear c0 c1 c2 c3 c4
  obtain ⟨c0, c1, c2, c3, c4⟩ := facts5b (keepH0 hv hb2)
  obtain ⟨g0, g1⟩ := facts2 (keepH0 hgW hb2)
  go_wp2
  go_ret
  exact ⟨rfl, hBW.trans (hb2.mono hBW.size)⟩
set_option maxRecDepth 100000 in
theorem vmIll (kd k : Int) (b : Bool) (n : Nat) (s : ByteArray) (i : Int) (hn : n < 18446744073709551616) (hgd : gd k b n s i = false) (w : World) (hl : Calls Tryd.prog 21 #[.int .i64 kd, VV k b n s i] (w.alloc (.cells #[.int .i64 k, .bool b, .float .f64 n, .string s, .int .i64 i] 32)) fun e w' => ∃ g, e = .returned (.tuple #[VV 0 false 0 ⟨#[]⟩ 0, .pointer (some ⟨g, 0, none⟩), .bool true]) ∧ w'.heap[g]? = some (.cells #[.int .i64 kd, .int .i64 0] 62 (0, 0)) ∧ Below (w.alloc (.cells #[.int .i64 k, .bool b, .float .f64 n, .string s, .int .i64 i] 32)).heap.size (w.alloc (.cells #[.int .i64 k, .bool b, .float .f64 n, .string s, .int .i64 i] 32)) w') :
    Calls Tryd.prog 6 #[.int .i64 kd, VV k b n s i] w fun e w' => e = .returned (.bool true) ∧ Below w.heap.size w w' := by
  have hl := Fact.mk hl
  have hG := Fact.mk (rGood_c k b n s i hn)
  rw [hgd] at hG
  clear hgd
  unfold VV at *
  go_enter Tryd.func6, Tryd.ntmps6
  go_upto_region 2 with (go_at_call 21; refine hl.out.mono ?_; rintro e w1 ⟨g, rfl, hg, hb⟩; have k1 := heap5 hb; have hB1 := below1 hb; clear hb)
  obtain ⟨W, hW⟩ : ∃ W, W = w1.alloc (.cells #[.int .i64 0, .bool false, .float .f64 0, .string ⟨#[]⟩, .int .i64 0] 32) := ⟨_, rfl⟩
  rw [← hW]
  have hv : W.heap[w.heap.size]? = some (.cells #[.int .i64 k, .bool b, .float .f64 n, .string s, .int .i64 i] 32 (0, 0)) := hW ▸ old_alloc' k1 _
  have ho : W.heap[w1.heap.size]? = some (.cells #[.int .i64 0, .bool false, .float .f64 0, .string ⟨#[]⟩, .int .i64 0] 32 (0, 0)) := hW ▸ heap_alloc_new w1 _
  have hBW : Below w.heap.size w W := hW ▸ hB1.alloc hB1.size _
  have hgW : W.heap[g]? = some (.cells #[.int .i64 kd, .int .i64 0] 62 (0, 0)) := hW ▸ old_alloc' hg _
  clear hW k1 hB1 hg
  obtain ⟨c0, c1, c2, c3, c4⟩ := facts5b hv
  go_wp2_with fail
  refine (hG.out _).mono ?_
  rintro e w2 ⟨rfl, hb2⟩
  clear c0 c1 c2 c3 c4
  obtain ⟨c0, c1, c2, c3, c4⟩ := facts5b (keepH0 hv hb2)
  obtain ⟨g0, g1⟩ := facts2 (keepH0 hgW hb2)
  go_wp2
  go_ret
  exact ⟨rfl, hBW.trans (hb2.mono hBW.size)⟩

theorem law_must (kd k : Int) (b : Bool) (n : Nat) (s : ByteArray) (i : Int) (hn : n < 18446744073709551616) (w : World) (HT : Tabs w) (hE : HE w) :
    Calls Tryd.prog 6 #[.int .i64 kd, VV k b n s i] w fun e w' => e = .returned (.bool true) ∧ Below w.heap.size w w' := by
  have hB := (Below.refl w.heap.size w).alloc (Nat.le_refl _) (.cells #[.int .i64 k, .bool b, .float .f64 n, .string s, .int .i64 i] 32)
  have HT' := HT.below hB
  have hE' := hE.below hB
  cases hgd : gd k b n s i with
  | false =>
    refine vmIll kd k b n s i hn hgd w (lmBad kd 0 k b n s i _ fun W hW => mustIll kd k b n s i W fun W' hW' => ?_)
    refine (good_c k b n s i W' (HT'.below (hW.trans (hW'.mono hW.size)))).mono ?_
    rintro e w' ⟨⟨x, rfl, _⟩, hb⟩
    exact ⟨⟨x, by rw [hgd]⟩, hb⟩
  | true =>
    have hg : ∀ W, Below (w.alloc (.cells #[.int .i64 k, .bool b, .float .f64 n, .string s, .int .i64 i] 32)).heap.size (w.alloc (.cells #[.int .i64 k, .bool b, .float .f64 n, .string s, .int .i64 i] 32)) W → Calls Tryd.prog 51 #[VV k b n s i] W fun e W' => e = .returned (.tuple #[oneV k b n s i, .bool true]) ∧ Below W.heap.size W W' := fun W hW => by
      refine (good_c k b n s i W (HT'.below hW)).mono ?_
      rintro e w' ⟨⟨x, rfl, hx⟩, hb⟩
      exact ⟨by rw [hx hgd, hgd], hb⟩
    by_cases h : kd = k
    · subst h
      exact vmOk kd b n s i hn hgd w (lmOk kd kd b n s i _ fun W hW => must_ok kd b n s i hgd W fun W' hW' => hg W' (hW.trans (hW'.mono hW.size)))
    · refine vmBad kd k b n s i hn (fun e => h e.symm) hgd w (lmBad kd k k b n s i _ fun W hW => must_bad kd k h ?_ b n s i W (hE'.below hW) fun W' hW' => hg W' (hW.trans (hW'.mono hW.size)))
      rcases vEq k b n s i hgd with ⟨h, _⟩ | ⟨h, _⟩ | ⟨h, _⟩ | ⟨h, _⟩ | ⟨h, _⟩ | ⟨h, _⟩ | ⟨h, _⟩ <;> omega
end Go.Proofs.YtinaibebdacnmaaDoor
