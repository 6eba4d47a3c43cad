/- The law CallCaught: its walk, case by case. -/
import Derived.Test.YtmcibofnanbhpaaDoorCatE
import Derived.Deep.Cut
namespace Go.Proofs.YtmcibofnanbhpaaDoor
open Go.RowKit Go.Proofs.YtmcibofnanbhpaaDoorW.PrintWords
attribute [local go_sem] run_store_float

theorem set5far {W : World} {g b : Nat} {o : Obj} {y0 y1 y2 y3 y4 : Value} (h : W.heap[g]? = some o) (hne : g ≠ b) : (((((W.setCell ⟨b, 0, none⟩ y0).setCell ⟨b, 1, none⟩ y1).setCell ⟨b, 2, none⟩ y2).setCell ⟨b, 3, none⟩ y3).setCell ⟨b, 4, none⟩ y4).heap[g]? = some o := by
  rw [Below.heap_setCell _ _ _ _ hne, Below.heap_setCell _ _ _ _ hne, Below.heap_setCell _ _ _ _ hne, Below.heap_setCell _ _ _ _ hne, Below.heap_setCell _ _ _ _ hne]; exact h
theorem facts5a {W : World} {g : Nat} {t : TypeId} {x0 x1 x2 x3 x4 : Value} (h : W.heap[g]? = some (.cells #[x0, x1, x2, x3, x4] t (0, 0))) :
    W.cell? ⟨g, 0, none⟩ = some x0 ∧ W.cell? ⟨g, 1, none⟩ = some x1 ∧ W.cell? ⟨g, 2, none⟩ = some x2 ∧ W.cell? ⟨g, 3, none⟩ = some x3 ∧ W.cell? ⟨g, 4, none⟩ = some x4 := by
  obtain ⟨c0, c1, c2, c3, c4, _⟩ := facts5 h
  exact ⟨c0, c1, c2, c3, c4⟩

set_option maxHeartbeats 1000000 in
set_option maxRecDepth 100000 in
theorem lawCa (kd k : Int) (b : Bool) (n : Nat) (s : ByteArray) (i code : Int) (hn : n < 18446744073709551616) (h1 : kd = 1) (hg : gd k b n s i = true) (w : World) (HT : Tabs w) (hE : AsT.HE w) :
    Calls Tryd.prog 8 #[.int .i64 kd, VV k b n s i, .int .i64 code] w fun e w' => e = .returned (.bool true) ∧ Below w.heap.size w w' := by
  have HB0 : Below w.heap.size w ((w.alloc (.cells #[.int .i64 k, .bool b, .float .f64 n, .string s, .int .i64 i] 43)).alloc (.cells #[.int .i64 kd, .int .i64 k, .bool b, .float .f64 n, .string s, .int .i64 i] 79)) := ((Below.refl _ _).alloc (Nat.le_refl _) _).alloc (by simp) _
  have hT0 : ((w.alloc (.cells #[.int .i64 k, .bool b, .float .f64 n, .string s, .int .i64 i] 43)).alloc (.cells #[.int .i64 kd, .int .i64 k, .bool b, .float .f64 n, .string s, .int .i64 i] 79)).heap[w.heap.size + 1]? = some (.cells #[.int .i64 kd, .int .i64 k, .bool b, .float .f64 n, .string s, .int .i64 i] 79 (0, 0)) := heap_alloc2_new _ _ _
  have hv0 : ((w.alloc (.cells #[.int .i64 k, .bool b, .float .f64 n, .string s, .int .i64 i] 43)).alloc (.cells #[.int .i64 kd, .int .i64 k, .bool b, .float .f64 n, .string s, .int .i64 i] 79)).heap[w.heap.size]? = some (.cells #[.int .i64 k, .bool b, .float .f64 n, .string s, .int .i64 i] 43 (0, 0)) := by rw [Lib.alloc_old _ _ _ (by simp)]; exact heap_alloc_new _ _
  have hC := caughtThrown_c (w.heap.size + 1) k b n s i (gd k b n s i) ((w.alloc (.cells #[.int .i64 k, .bool b, .float .f64 n, .string s, .int .i64 i] 43)).alloc (.cells #[.int .i64 kd, .int .i64 k, .bool b, .float .f64 n, .string s, .int .i64 i] 79)) (hE.below HB0) (fun W hb => by
    have := caught1_c (w.heap.size + 1) k b n s i W (HT.below (HB0.trans (hb.mono HB0.size))) (by rw [← h1]; exact keepH' hT0 hb)
    exact this)
  rw [hg] at hC
  simp only [if_true, if_false, Bool.false_eq_true] at hC
  have hC := Fact.mk hC
  have hC2 := Fact.mk (fun W (h : Below w.heap.size w W) => caughtErr_c code W (hE.below h))
  have hC3 := Fact.mk caughtNil_c
  have hEa := Fact.mk (eqSelf_c k b n s i)
  have hEz := Fact.mk (eqSelf_c 0 false 0 ⟨#[]⟩ 0)
  have hGd := Fact.mk (fun W => rGood_c k b n s i hn W)
  rw [hg] at hGd
  have HB0 := Fact.mk HB0
  have hv0 := Fact.mk hv0
  clear HT hE hT0
  subst h1
  unfold VV at *
  go_enter Tryd.func8, Tryd.ntmps8
  go_wp2_with fail
  refine hC.out.mono ?_
  rintro e w1 ⟨rfl, hb1⟩
  have hB1 := HB0.out.trans (hb1.mono HB0.out.size)
  have hv1 := keepH' hv0.out hb1
  clear hb1
  go_wp2_with fail
  refine (hC2.out _ (hB1.alloc hB1.size _)).mono ?_
  rintro e w2 ⟨rfl, hb2⟩
  have hB2 := (hB1.alloc hB1.size (.cells #[.int .i64 k, .bool b, .float .f64 n, .string s, .int .i64 i] 43)).trans (hb2.mono (hB1.alloc hB1.size (.cells #[.int .i64 k, .bool b, .float .f64 n, .string s, .int .i64 i] 43)).size)
  have hv2 := keepH' (old_alloc hv1 (.cells #[.int .i64 k, .bool b, .float .f64 n, .string s, .int .i64 i] 43)) hb2
  have ha2 := keepH' (heap_alloc_new w1 (.cells #[.int .i64 k, .bool b, .float .f64 n, .string s, .int .i64 i] 43)) hb2
  clear hb2 hv1
  go_wp2_with fail
  refine (hC3.out _).mono ?_
  rintro e w3 ⟨rfl, hb3⟩
  have hB3 := (hB2.alloc hB2.size (.cells #[.int .i64 0, .bool false, .float .f64 0, .string ⟨#[]⟩, .int .i64 0] 43)).trans (hb3.mono (hB2.alloc hB2.size (.cells #[.int .i64 0, .bool false, .float .f64 0, .string ⟨#[]⟩, .int .i64 0] 43)).size)
  have hv3 := keepH' (old_alloc hv2 (.cells #[.int .i64 0, .bool false, .float .f64 0, .string ⟨#[]⟩, .int .i64 0] 43)) hb3
  have ha3 := keepH' (old_alloc ha2 (.cells #[.int .i64 0, .bool false, .float .f64 0, .string ⟨#[]⟩, .int .i64 0] 43)) hb3
  have hz3 := keepH' (heap_alloc_new w2 (.cells #[.int .i64 0, .bool false, .float .f64 0, .string ⟨#[]⟩, .int .i64 0] 43)) hb3
  clear hb3 hv2 ha2
  have l1 := Fact.mk (Array.getElem?_eq_some_iff.1 ha3).1
  have l2 := Fact.mk (Array.getElem?_eq_some_iff.1 hz3).1
  have c0 := fun o o' => (facts5 (old_alloc (old_alloc hv3 o) o')).1
  have c1 := fun o o' => (facts5 (old_alloc (old_alloc hv3 o) o')).2.1
  have c2 := fun o o' => (facts5 (old_alloc (old_alloc hv3 o) o')).2.2.1
  have c3 := fun o o' => (facts5 (old_alloc (old_alloc hv3 o) o')).2.2.2.1
  have c4 := fun o o' => (facts5 (old_alloc (old_alloc hv3 o) o')).2.2.2.2.1
  go_wp2_with fail
  refine (hGd.out _).mono ?_
  rintro e w4 ⟨rfl, hb4⟩
  have hB4 := ((hB3.alloc hB3.size (.cells #[.int .i64 0, .bool false, .float .f64 0, .string ⟨#[]⟩, .int .i64 0] 43)).alloc (hB3.alloc hB3.size (.cells #[.int .i64 0, .bool false, .float .f64 0, .string ⟨#[]⟩, .int .i64 0] 43)).size (.cells #[.int .i64 0, .bool false, .float .f64 0, .string ⟨#[]⟩, .int .i64 0] 43)).trans (hb4.mono ((hB3.alloc hB3.size (.cells #[.int .i64 0, .bool false, .float .f64 0, .string ⟨#[]⟩, .int .i64 0] 43)).alloc (hB3.alloc hB3.size (.cells #[.int .i64 0, .bool false, .float .f64 0, .string ⟨#[]⟩, .int .i64 0] 43)).size (.cells #[.int .i64 0, .bool false, .float .f64 0, .string ⟨#[]⟩, .int .i64 0] 43)).size)
  have hv4 := keepH' (old_alloc (old_alloc hv3 (.cells #[.int .i64 0, .bool false, .float .f64 0, .string ⟨#[]⟩, .int .i64 0] 43)) (.cells #[.int .i64 0, .bool false, .float .f64 0, .string ⟨#[]⟩, .int .i64 0] 43)) hb4
  have ha4 := keepH' (old_alloc (old_alloc ha3 (.cells #[.int .i64 0, .bool false, .float .f64 0, .string ⟨#[]⟩, .int .i64 0] 43)) (.cells #[.int .i64 0, .bool false, .float .f64 0, .string ⟨#[]⟩, .int .i64 0] 43)) hb4
  have hz4 := keepH' (old_alloc (old_alloc hz3 (.cells #[.int .i64 0, .bool false, .float .f64 0, .string ⟨#[]⟩, .int .i64 0] 43)) (.cells #[.int .i64 0, .bool false, .float .f64 0, .string ⟨#[]⟩, .int .i64 0] 43)) hb4
  have hc4 := keepH' (old_alloc (heap_alloc_new w3 (.cells #[.int .i64 0, .bool false, .float .f64 0, .string ⟨#[]⟩, .int .i64 0] 43)) (.cells #[.int .i64 0, .bool false, .float .f64 0, .string ⟨#[]⟩, .int .i64 0] 43)) hb4
  have hw4 := keepH' (heap_alloc2_new w3 (.cells #[.int .i64 0, .bool false, .float .f64 0, .string ⟨#[]⟩, .int .i64 0] 43) (.cells #[.int .i64 0, .bool false, .float .f64 0, .string ⟨#[]⟩, .int .i64 0] 43)) hb4
  clear hb4 hv3 ha3 hz3 c0 c1 c2 c3 c4
  obtain ⟨c0, c1, c2, c3, c4⟩ := facts5a hv4
  obtain ⟨q0, q1, q2, q3, q4, f0, f1, f2, f3, f4⟩ := facts5 hw4
  go_upto_region 9 with (fail)
  obtain ⟨W, hW⟩ : ∃ W, W = (((((w4.setCell ⟨w3.heap.size + 1, 0, none⟩ (.int .i64 k)).setCell ⟨w3.heap.size + 1, 1, none⟩ (.bool b)).setCell ⟨w3.heap.size + 1, 2, none⟩ (.float .f64 n)).setCell ⟨w3.heap.size + 1, 3, none⟩ (.string s)).setCell ⟨w3.heap.size + 1, 4, none⟩ (.int .i64 i)) := ⟨_, rfl⟩
  rw [← hW]
  have hBW : Below w.heap.size w W := hW ▸ setB5 hB4 (by have := hB3.size; omega) _ _ _ _ _
  have hwW : W.heap[w3.heap.size + 1]? = some (.cells #[.int .i64 k, .bool b, .float .f64 n, .string s, .int .i64 i] 43 (0, 0)) := hW ▸ set5 hw4 _ _ _ _ _
  have haW : W.heap[w1.heap.size]? = some (.cells #[.int .i64 k, .bool b, .float .f64 n, .string s, .int .i64 i] 43 (0, 0)) := hW ▸ set5far ha4 (by have := l1.out; have := l2.out; omega)
  have hzW : W.heap[w2.heap.size]? = some (.cells #[.int .i64 0, .bool false, .float .f64 0, .string ⟨#[]⟩, .int .i64 0] 43 (0, 0)) := hW ▸ set5far hz4 (by have := l1.out; have := l2.out; omega)
  have hcW : W.heap[w3.heap.size]? = some (.cells #[.int .i64 0, .bool false, .float .f64 0, .string ⟨#[]⟩, .int .i64 0] 43 (0, 0)) := hW ▸ set5far hc4 (by have := l1.out; have := l2.out; omega)
  clear hW q0 q1 q2 q3 q4 f0 f1 f2 f3 f4
  clear c0 c1 c2 c3 c4
  obtain ⟨a0, a1, a2, a3, a4⟩ := facts5a haW
  obtain ⟨d0, d1, d2, d3, d4⟩ := facts5a hwW
  go_wp2_with fail
  refine (hEa.out _).mono ?_
  rintro e w5 ⟨rfl, hb5⟩
  have hB5 := hBW.trans (hb5.mono hBW.size)
  have hz5 := keepH' hzW hb5
  have hc5 := keepH' hcW hb5
  clear hb5 a0 a1 a2 a3 a4 d0 d1 d2 d3 d4
  obtain ⟨a0, a1, a2, a3, a4⟩ := facts5a hz5
  go_wp2_with fail
  refine (hEz.out _).mono ?_
  rintro e w6 ⟨rfl, hb6⟩
  have hB6 := hB5.trans (hb6.mono hB5.size)
  have hc6 := keepH' hc5 hb6
  clear hb6 a0 a1 a2 a3 a4
  obtain ⟨a0, a1, a2, a3, a4⟩ := facts5a hc6
  go_wp2_with fail
  refine (hEz.out _).mono ?_
  rintro e w7 ⟨rfl, hb7⟩
  have hB7 := hB6.trans (hb7.mono hB6.size)
  go_wp2
  go_ret
  exact ⟨rfl, hB7⟩

set_option maxHeartbeats 1000000 in
set_option maxRecDepth 100000 in
theorem lawCb (kd k : Int) (b : Bool) (n : Nat) (s : ByteArray) (i code : Int) (hn : n < 18446744073709551616) (h1 : kd = 1) (hg : gd k b n s i = false) (w : World) (HT : Tabs w) (hE : AsT.HE w) :
    Calls Tryd.prog 8 #[.int .i64 kd, VV k b n s i, .int .i64 code] w fun e w' => e = .returned (.bool true) ∧ Below w.heap.size w w' := by
  have HB0 : Below w.heap.size w ((w.alloc (.cells #[.int .i64 k, .bool b, .float .f64 n, .string s, .int .i64 i] 43)).alloc (.cells #[.int .i64 kd, .int .i64 k, .bool b, .float .f64 n, .string s, .int .i64 i] 79)) := ((Below.refl _ _).alloc (Nat.le_refl _) _).alloc (by simp) _
  have hT0 : ((w.alloc (.cells #[.int .i64 k, .bool b, .float .f64 n, .string s, .int .i64 i] 43)).alloc (.cells #[.int .i64 kd, .int .i64 k, .bool b, .float .f64 n, .string s, .int .i64 i] 79)).heap[w.heap.size + 1]? = some (.cells #[.int .i64 kd, .int .i64 k, .bool b, .float .f64 n, .string s, .int .i64 i] 79 (0, 0)) := heap_alloc2_new _ _ _
  have hv0 : ((w.alloc (.cells #[.int .i64 k, .bool b, .float .f64 n, .string s, .int .i64 i] 43)).alloc (.cells #[.int .i64 kd, .int .i64 k, .bool b, .float .f64 n, .string s, .int .i64 i] 79)).heap[w.heap.size]? = some (.cells #[.int .i64 k, .bool b, .float .f64 n, .string s, .int .i64 i] 43 (0, 0)) := by rw [Lib.alloc_old _ _ _ (by simp)]; exact heap_alloc_new _ _
  have hC := caughtThrown_c (w.heap.size + 1) k b n s i (gd k b n s i) ((w.alloc (.cells #[.int .i64 k, .bool b, .float .f64 n, .string s, .int .i64 i] 43)).alloc (.cells #[.int .i64 kd, .int .i64 k, .bool b, .float .f64 n, .string s, .int .i64 i] 79)) (hE.below HB0) (fun W hb => by
    have := caught1_c (w.heap.size + 1) k b n s i W (HT.below (HB0.trans (hb.mono HB0.size))) (by rw [← h1]; exact keepH' hT0 hb)
    exact this)
  rw [hg] at hC
  simp only [if_true, if_false, Bool.false_eq_true] at hC
  have hC := Fact.mk hC
  have hC2 := Fact.mk (fun W (h : Below w.heap.size w W) => caughtErr_c code W (hE.below h))
  have hC3 := Fact.mk caughtNil_c
  have hEa := Fact.mk (eqSelf_c 0 false 0 ⟨#[]⟩ 0)
  have hEz := Fact.mk (eqSelf_c 0 false 0 ⟨#[]⟩ 0)
  have hGd := Fact.mk (fun W => rGood_c k b n s i hn W)
  rw [hg] at hGd
  have HB0 := Fact.mk HB0
  have hv0 := Fact.mk hv0
  clear HT hE hT0
  subst h1
  unfold VV at *
  go_enter Tryd.func8, Tryd.ntmps8
  go_wp2_with fail
  refine hC.out.mono ?_
  rintro e w1 ⟨rfl, hb1⟩
  have hB1 := HB0.out.trans (hb1.mono HB0.out.size)
  have hv1 := keepH' hv0.out hb1
  clear hb1
  go_wp2_with fail
  refine (hC2.out _ (hB1.alloc hB1.size _)).mono ?_
  rintro e w2 ⟨rfl, hb2⟩
  have hB2 := (hB1.alloc hB1.size (.cells #[.int .i64 0, .bool false, .float .f64 0, .string ⟨#[]⟩, .int .i64 0] 43)).trans (hb2.mono (hB1.alloc hB1.size (.cells #[.int .i64 0, .bool false, .float .f64 0, .string ⟨#[]⟩, .int .i64 0] 43)).size)
  have hv2 := keepH' (old_alloc hv1 (.cells #[.int .i64 0, .bool false, .float .f64 0, .string ⟨#[]⟩, .int .i64 0] 43)) hb2
  have ha2 := keepH' (heap_alloc_new w1 (.cells #[.int .i64 0, .bool false, .float .f64 0, .string ⟨#[]⟩, .int .i64 0] 43)) hb2
  clear hb2 hv1
  go_wp2_with fail
  refine (hC3.out _).mono ?_
  rintro e w3 ⟨rfl, hb3⟩
  have hB3 := (hB2.alloc hB2.size (.cells #[.int .i64 0, .bool false, .float .f64 0, .string ⟨#[]⟩, .int .i64 0] 43)).trans (hb3.mono (hB2.alloc hB2.size (.cells #[.int .i64 0, .bool false, .float .f64 0, .string ⟨#[]⟩, .int .i64 0] 43)).size)
  have hv3 := keepH' (old_alloc hv2 (.cells #[.int .i64 0, .bool false, .float .f64 0, .string ⟨#[]⟩, .int .i64 0] 43)) hb3
  have ha3 := keepH' (old_alloc ha2 (.cells #[.int .i64 0, .bool false, .float .f64 0, .string ⟨#[]⟩, .int .i64 0] 43)) hb3
  have hz3 := keepH' (heap_alloc_new w2 (.cells #[.int .i64 0, .bool false, .float .f64 0, .string ⟨#[]⟩, .int .i64 0] 43)) hb3
  clear hb3 hv2 ha2
  have l1 := Fact.mk (Array.getElem?_eq_some_iff.1 ha3).1
  have l2 := Fact.mk (Array.getElem?_eq_some_iff.1 hz3).1
  have c0 := fun o o' => (facts5 (old_alloc (old_alloc hv3 o) o')).1
  have c1 := fun o o' => (facts5 (old_alloc (old_alloc hv3 o) o')).2.1
  have c2 := fun o o' => (facts5 (old_alloc (old_alloc hv3 o) o')).2.2.1
  have c3 := fun o o' => (facts5 (old_alloc (old_alloc hv3 o) o')).2.2.2.1
  have c4 := fun o o' => (facts5 (old_alloc (old_alloc hv3 o) o')).2.2.2.2.1
  go_wp2_with fail
  refine (hGd.out _).mono ?_
  rintro e w4 ⟨rfl, hb4⟩
  have hB4 := ((hB3.alloc hB3.size (.cells #[.int .i64 0, .bool false, .float .f64 0, .string ⟨#[]⟩, .int .i64 0] 43)).alloc (hB3.alloc hB3.size (.cells #[.int .i64 0, .bool false, .float .f64 0, .string ⟨#[]⟩, .int .i64 0] 43)).size (.cells #[.int .i64 0, .bool false, .float .f64 0, .string ⟨#[]⟩, .int .i64 0] 43)).trans (hb4.mono ((hB3.alloc hB3.size (.cells #[.int .i64 0, .bool false, .float .f64 0, .string ⟨#[]⟩, .int .i64 0] 43)).alloc (hB3.alloc hB3.size (.cells #[.int .i64 0, .bool false, .float .f64 0, .string ⟨#[]⟩, .int .i64 0] 43)).size (.cells #[.int .i64 0, .bool false, .float .f64 0, .string ⟨#[]⟩, .int .i64 0] 43)).size)
  have hv4 := keepH' (old_alloc (old_alloc hv3 (.cells #[.int .i64 0, .bool false, .float .f64 0, .string ⟨#[]⟩, .int .i64 0] 43)) (.cells #[.int .i64 0, .bool false, .float .f64 0, .string ⟨#[]⟩, .int .i64 0] 43)) hb4
  have ha4 := keepH' (old_alloc (old_alloc ha3 (.cells #[.int .i64 0, .bool false, .float .f64 0, .string ⟨#[]⟩, .int .i64 0] 43)) (.cells #[.int .i64 0, .bool false, .float .f64 0, .string ⟨#[]⟩, .int .i64 0] 43)) hb4
  have hz4 := keepH' (old_alloc (old_alloc hz3 (.cells #[.int .i64 0, .bool false, .float .f64 0, .string ⟨#[]⟩, .int .i64 0] 43)) (.cells #[.int .i64 0, .bool false, .float .f64 0, .string ⟨#[]⟩, .int .i64 0] 43)) hb4
  have hc4 := keepH' (old_alloc (heap_alloc_new w3 (.cells #[.int .i64 0, .bool false, .float .f64 0, .string ⟨#[]⟩, .int .i64 0] 43)) (.cells #[.int .i64 0, .bool false, .float .f64 0, .string ⟨#[]⟩, .int .i64 0] 43)) hb4
  have hw4 := keepH' (heap_alloc2_new w3 (.cells #[.int .i64 0, .bool false, .float .f64 0, .string ⟨#[]⟩, .int .i64 0] 43) (.cells #[.int .i64 0, .bool false, .float .f64 0, .string ⟨#[]⟩, .int .i64 0] 43)) hb4
  clear hb4 hv3 ha3 hz3 c0 c1 c2 c3 c4
  go_upto_region 9 with (fail)
  obtain ⟨W, hW⟩ : ∃ W, W = w4 := ⟨_, rfl⟩
  rw [← hW]
  have hBW : Below w.heap.size w W := hW ▸ hB4
  have hwW : W.heap[w3.heap.size + 1]? = some (.cells #[.int .i64 0, .bool false, .float .f64 0, .string ⟨#[]⟩, .int .i64 0] 43 (0, 0)) := hW ▸ hw4
  have haW : W.heap[w1.heap.size]? = some (.cells #[.int .i64 0, .bool false, .float .f64 0, .string ⟨#[]⟩, .int .i64 0] 43 (0, 0)) := hW ▸ ha4
  have hzW : W.heap[w2.heap.size]? = some (.cells #[.int .i64 0, .bool false, .float .f64 0, .string ⟨#[]⟩, .int .i64 0] 43 (0, 0)) := hW ▸ hz4
  have hcW : W.heap[w3.heap.size]? = some (.cells #[.int .i64 0, .bool false, .float .f64 0, .string ⟨#[]⟩, .int .i64 0] 43 (0, 0)) := hW ▸ hc4
  clear hW
  obtain ⟨a0, a1, a2, a3, a4⟩ := facts5a haW
  obtain ⟨d0, d1, d2, d3, d4⟩ := facts5a hwW
  go_wp2_with fail
  refine (hEa.out _).mono ?_
  rintro e w5 ⟨rfl, hb5⟩
  have hB5 := hBW.trans (hb5.mono hBW.size)
  have hz5 := keepH' hzW hb5
  have hc5 := keepH' hcW hb5
  clear hb5 a0 a1 a2 a3 a4 d0 d1 d2 d3 d4
  obtain ⟨a0, a1, a2, a3, a4⟩ := facts5a hz5
  go_wp2_with fail
  refine (hEz.out _).mono ?_
  rintro e w6 ⟨rfl, hb6⟩
  have hB6 := hB5.trans (hb6.mono hB5.size)
  have hc6 := keepH' hc5 hb6
  clear hb6 a0 a1 a2 a3 a4
  obtain ⟨a0, a1, a2, a3, a4⟩ := facts5a hc6
  go_wp2_with fail
  refine (hEz.out _).mono ?_
  rintro e w7 ⟨rfl, hb7⟩
  have hB7 := hB6.trans (hb7.mono hB6.size)
  go_wp2
  go_ret
  exact ⟨rfl, hB7⟩

set_option maxHeartbeats 1000000 in
set_option maxRecDepth 100000 in
theorem lawCc (kd k : Int) (b : Bool) (n : Nat) (s : ByteArray) (i code : Int) (hn : n < 18446744073709551616) (h2 : 2 ≤ kd) (h5 : kd ≤ 5) (w : World) (HT : Tabs w) (hE : AsT.HE w) :
    Calls Tryd.prog 8 #[.int .i64 kd, VV k b n s i, .int .i64 code] w fun e w' => e = .returned (.bool true) ∧ Below w.heap.size w w' := by
  have HB0 : Below w.heap.size w ((w.alloc (.cells #[.int .i64 k, .bool b, .float .f64 n, .string s, .int .i64 i] 43)).alloc (.cells #[.int .i64 kd, .int .i64 k, .bool b, .float .f64 n, .string s, .int .i64 i] 79)) := ((Below.refl _ _).alloc (Nat.le_refl _) _).alloc (by simp) _
  have hT0 : ((w.alloc (.cells #[.int .i64 k, .bool b, .float .f64 n, .string s, .int .i64 i] 43)).alloc (.cells #[.int .i64 kd, .int .i64 k, .bool b, .float .f64 n, .string s, .int .i64 i] 79)).heap[w.heap.size + 1]? = some (.cells #[.int .i64 kd, .int .i64 k, .bool b, .float .f64 n, .string s, .int .i64 i] 79 (0, 0)) := heap_alloc2_new _ _ _
  have hv0 : ((w.alloc (.cells #[.int .i64 k, .bool b, .float .f64 n, .string s, .int .i64 i] 43)).alloc (.cells #[.int .i64 kd, .int .i64 k, .bool b, .float .f64 n, .string s, .int .i64 i] 79)).heap[w.heap.size]? = some (.cells #[.int .i64 k, .bool b, .float .f64 n, .string s, .int .i64 i] 43 (0, 0)) := by rw [Lib.alloc_old _ _ _ (by simp)]; exact heap_alloc_new _ _
  have hC := caughtThrown_c (w.heap.size + 1) 5 false 0 (nmT kd) 0 true ((w.alloc (.cells #[.int .i64 k, .bool b, .float .f64 n, .string s, .int .i64 i] 43)).alloc (.cells #[.int .i64 kd, .int .i64 k, .bool b, .float .f64 n, .string s, .int .i64 i] 79)) (hE.below HB0) (fun W hb => caught2_c (w.heap.size + 1) kd k b n s i W (HT.below (HB0.trans (hb.mono HB0.size))) (keepH' hT0 hb) h2 h5)
  simp only [if_true, if_false, Bool.false_eq_true] at hC
  have hC := Fact.mk hC
  have hC2 := Fact.mk (fun W (h : Below w.heap.size w W) => caughtErr_c code W (hE.below h))
  have hC3 := Fact.mk caughtNil_c
  have hEa := Fact.mk (eqSelf_c 5 false 0 (nmT kd) 0)
  have hEz := Fact.mk (eqSelf_c 0 false 0 ⟨#[]⟩ 0)
  have hGd := Fact.mk (fun W => rGood_c k b n s i hn W)
  have hTh := Fact.mk (rThrown_c kd h2 h5)
  have HB0 := Fact.mk HB0
  have hv0 := Fact.mk hv0
  clear HT hE hT0
  generalize nmT kd = S at *
  have t1 : ¬ kd = 1 := by omega
  unfold VV at *
  go_enter Tryd.func8, Tryd.ntmps8
  go_wp2_with fail
  refine hC.out.mono ?_
  rintro e w1 ⟨rfl, hb1⟩
  have hB1 := HB0.out.trans (hb1.mono HB0.out.size)
  have hv1 := keepH' hv0.out hb1
  clear hb1
  go_wp2_with fail
  refine (hC2.out _ (hB1.alloc hB1.size _)).mono ?_
  rintro e w2 ⟨rfl, hb2⟩
  have hB2 := (hB1.alloc hB1.size (.cells #[.int .i64 5, .bool false, .float .f64 0, .string S, .int .i64 0] 43)).trans (hb2.mono (hB1.alloc hB1.size (.cells #[.int .i64 5, .bool false, .float .f64 0, .string S, .int .i64 0] 43)).size)
  have hv2 := keepH' (old_alloc hv1 (.cells #[.int .i64 5, .bool false, .float .f64 0, .string S, .int .i64 0] 43)) hb2
  have ha2 := keepH' (heap_alloc_new w1 (.cells #[.int .i64 5, .bool false, .float .f64 0, .string S, .int .i64 0] 43)) hb2
  clear hb2 hv1
  go_wp2_with fail
  refine (hC3.out _).mono ?_
  rintro e w3 ⟨rfl, hb3⟩
  have hB3 := (hB2.alloc hB2.size (.cells #[.int .i64 0, .bool false, .float .f64 0, .string ⟨#[]⟩, .int .i64 0] 43)).trans (hb3.mono (hB2.alloc hB2.size (.cells #[.int .i64 0, .bool false, .float .f64 0, .string ⟨#[]⟩, .int .i64 0] 43)).size)
  have hv3 := keepH' (old_alloc hv2 (.cells #[.int .i64 0, .bool false, .float .f64 0, .string ⟨#[]⟩, .int .i64 0] 43)) hb3
  have ha3 := keepH' (old_alloc ha2 (.cells #[.int .i64 0, .bool false, .float .f64 0, .string ⟨#[]⟩, .int .i64 0] 43)) hb3
  have hz3 := keepH' (heap_alloc_new w2 (.cells #[.int .i64 0, .bool false, .float .f64 0, .string ⟨#[]⟩, .int .i64 0] 43)) hb3
  clear hb3 hv2 ha2
  have l1 := Fact.mk (Array.getElem?_eq_some_iff.1 ha3).1
  have l2 := Fact.mk (Array.getElem?_eq_some_iff.1 hz3).1
  have c0 := fun o o' => (facts5 (old_alloc (old_alloc hv3 o) o')).1
  have c1 := fun o o' => (facts5 (old_alloc (old_alloc hv3 o) o')).2.1
  have c2 := fun o o' => (facts5 (old_alloc (old_alloc hv3 o) o')).2.2.1
  have c3 := fun o o' => (facts5 (old_alloc (old_alloc hv3 o) o')).2.2.2.1
  have c4 := fun o o' => (facts5 (old_alloc (old_alloc hv3 o) o')).2.2.2.2.1
  go_wp2_with fail
  refine (hTh.out _).mono ?_
  rintro e w4 ⟨rfl, hb4⟩
  have hB4 := ((hB3.alloc hB3.size (.cells #[.int .i64 0, .bool false, .float .f64 0, .string ⟨#[]⟩, .int .i64 0] 43)).alloc (hB3.alloc hB3.size (.cells #[.int .i64 0, .bool false, .float .f64 0, .string ⟨#[]⟩, .int .i64 0] 43)).size (.cells #[.int .i64 0, .bool false, .float .f64 0, .string ⟨#[]⟩, .int .i64 0] 43)).trans (hb4.mono ((hB3.alloc hB3.size (.cells #[.int .i64 0, .bool false, .float .f64 0, .string ⟨#[]⟩, .int .i64 0] 43)).alloc (hB3.alloc hB3.size (.cells #[.int .i64 0, .bool false, .float .f64 0, .string ⟨#[]⟩, .int .i64 0] 43)).size (.cells #[.int .i64 0, .bool false, .float .f64 0, .string ⟨#[]⟩, .int .i64 0] 43)).size)
  have hv4 := keepH' (old_alloc (old_alloc hv3 (.cells #[.int .i64 0, .bool false, .float .f64 0, .string ⟨#[]⟩, .int .i64 0] 43)) (.cells #[.int .i64 0, .bool false, .float .f64 0, .string ⟨#[]⟩, .int .i64 0] 43)) hb4
  have ha4 := keepH' (old_alloc (old_alloc ha3 (.cells #[.int .i64 0, .bool false, .float .f64 0, .string ⟨#[]⟩, .int .i64 0] 43)) (.cells #[.int .i64 0, .bool false, .float .f64 0, .string ⟨#[]⟩, .int .i64 0] 43)) hb4
  have hz4 := keepH' (old_alloc (old_alloc hz3 (.cells #[.int .i64 0, .bool false, .float .f64 0, .string ⟨#[]⟩, .int .i64 0] 43)) (.cells #[.int .i64 0, .bool false, .float .f64 0, .string ⟨#[]⟩, .int .i64 0] 43)) hb4
  have hc4 := keepH' (old_alloc (heap_alloc_new w3 (.cells #[.int .i64 0, .bool false, .float .f64 0, .string ⟨#[]⟩, .int .i64 0] 43)) (.cells #[.int .i64 0, .bool false, .float .f64 0, .string ⟨#[]⟩, .int .i64 0] 43)) hb4
  have hw4 := keepH' (heap_alloc2_new w3 (.cells #[.int .i64 0, .bool false, .float .f64 0, .string ⟨#[]⟩, .int .i64 0] 43) (.cells #[.int .i64 0, .bool false, .float .f64 0, .string ⟨#[]⟩, .int .i64 0] 43)) hb4
  clear hb4 hv3 ha3 hz3 c0 c1 c2 c3 c4
  obtain ⟨q0, q1, q2, q3, q4, f0, f1, f2, f3, f4⟩ := facts5 hw4
  go_upto_region 9 with (fail)
  obtain ⟨W, hW⟩ : ∃ W, W = (((((w4.setCell ⟨w3.heap.size + 1, 0, none⟩ (.int .i64 5)).setCell ⟨w3.heap.size + 1, 1, none⟩ (.bool false)).setCell ⟨w3.heap.size + 1, 2, none⟩ (.float .f64 0)).setCell ⟨w3.heap.size + 1, 3, none⟩ (.string S)).setCell ⟨w3.heap.size + 1, 4, none⟩ (.int .i64 0)) := ⟨_, rfl⟩
  rw [← hW]
  have hBW : Below w.heap.size w W := hW ▸ setB5 hB4 (by have := hB3.size; omega) _ _ _ _ _
  have hwW : W.heap[w3.heap.size + 1]? = some (.cells #[.int .i64 5, .bool false, .float .f64 0, .string S, .int .i64 0] 43 (0, 0)) := hW ▸ set5 hw4 _ _ _ _ _
  have haW : W.heap[w1.heap.size]? = some (.cells #[.int .i64 5, .bool false, .float .f64 0, .string S, .int .i64 0] 43 (0, 0)) := hW ▸ set5far ha4 (by have := l1.out; have := l2.out; omega)
  have hzW : W.heap[w2.heap.size]? = some (.cells #[.int .i64 0, .bool false, .float .f64 0, .string ⟨#[]⟩, .int .i64 0] 43 (0, 0)) := hW ▸ set5far hz4 (by have := l1.out; have := l2.out; omega)
  have hcW : W.heap[w3.heap.size]? = some (.cells #[.int .i64 0, .bool false, .float .f64 0, .string ⟨#[]⟩, .int .i64 0] 43 (0, 0)) := hW ▸ set5far hc4 (by have := l1.out; have := l2.out; omega)
  clear hW q0 q1 q2 q3 q4 f0 f1 f2 f3 f4
  obtain ⟨a0, a1, a2, a3, a4⟩ := facts5a haW
  obtain ⟨d0, d1, d2, d3, d4⟩ := facts5a hwW
  go_wp2_with fail
  refine (hEa.out _).mono ?_
  rintro e w5 ⟨rfl, hb5⟩
  have hB5 := hBW.trans (hb5.mono hBW.size)
  have hz5 := keepH' hzW hb5
  have hc5 := keepH' hcW hb5
  clear hb5 a0 a1 a2 a3 a4 d0 d1 d2 d3 d4
  obtain ⟨a0, a1, a2, a3, a4⟩ := facts5a hz5
  go_wp2_with fail
  refine (hEz.out _).mono ?_
  rintro e w6 ⟨rfl, hb6⟩
  have hB6 := hB5.trans (hb6.mono hB5.size)
  have hc6 := keepH' hc5 hb6
  clear hb6 a0 a1 a2 a3 a4
  obtain ⟨a0, a1, a2, a3, a4⟩ := facts5a hc6
  go_wp2_with fail
  refine (hEz.out _).mono ?_
  rintro e w7 ⟨rfl, hb7⟩
  have hB7 := hB6.trans (hb7.mono hB6.size)
  go_wp2
  go_ret
  exact ⟨rfl, hB7⟩

set_option maxHeartbeats 1000000 in
set_option maxRecDepth 100000 in
theorem lawCd (kd k : Int) (b : Bool) (n : Nat) (s : ByteArray) (i code : Int) (hn : n < 18446744073709551616) (h0 : kd < 1 ∨ 5 < kd) (w : World) (HT : Tabs w) (hE : AsT.HE w) :
    Calls Tryd.prog 8 #[.int .i64 kd, VV k b n s i, .int .i64 code] w fun e w' => e = .returned (.bool true) ∧ Below w.heap.size w w' := by
  have HB0 : Below w.heap.size w ((w.alloc (.cells #[.int .i64 k, .bool b, .float .f64 n, .string s, .int .i64 i] 43)).alloc (.cells #[.int .i64 kd, .int .i64 k, .bool b, .float .f64 n, .string s, .int .i64 i] 79)) := ((Below.refl _ _).alloc (Nat.le_refl _) _).alloc (by simp) _
  have hT0 : ((w.alloc (.cells #[.int .i64 k, .bool b, .float .f64 n, .string s, .int .i64 i] 43)).alloc (.cells #[.int .i64 kd, .int .i64 k, .bool b, .float .f64 n, .string s, .int .i64 i] 79)).heap[w.heap.size + 1]? = some (.cells #[.int .i64 kd, .int .i64 k, .bool b, .float .f64 n, .string s, .int .i64 i] 79 (0, 0)) := heap_alloc2_new _ _ _
  have hv0 : ((w.alloc (.cells #[.int .i64 k, .bool b, .float .f64 n, .string s, .int .i64 i] 43)).alloc (.cells #[.int .i64 kd, .int .i64 k, .bool b, .float .f64 n, .string s, .int .i64 i] 79)).heap[w.heap.size]? = some (.cells #[.int .i64 k, .bool b, .float .f64 n, .string s, .int .i64 i] 43 (0, 0)) := by rw [Lib.alloc_old _ _ _ (by simp)]; exact heap_alloc_new _ _
  have hC := caughtThrown_c (w.heap.size + 1) 0 false 0 ⟨#[]⟩ 0 false ((w.alloc (.cells #[.int .i64 k, .bool b, .float .f64 n, .string s, .int .i64 i] 43)).alloc (.cells #[.int .i64 kd, .int .i64 k, .bool b, .float .f64 n, .string s, .int .i64 i] 79)) (hE.below HB0) (fun W hb => caught0_c (w.heap.size + 1) kd k b n s i W (keepH' hT0 hb) h0)
  simp only [if_true, if_false, Bool.false_eq_true] at hC
  have hC := Fact.mk hC
  have hC2 := Fact.mk (fun W (h : Below w.heap.size w W) => caughtErr_c code W (hE.below h))
  have hC3 := Fact.mk caughtNil_c
  have hEa := Fact.mk (eqSelf_c 0 false 0 ⟨#[]⟩ 0)
  have hEz := Fact.mk (eqSelf_c 0 false 0 ⟨#[]⟩ 0)
  have hGd := Fact.mk (fun W => rGood_c k b n s i hn W)
  have HB0 := Fact.mk HB0
  have hv0 := Fact.mk hv0
  clear HT hE hT0
  have t0 : ¬ kd = 1 := by omega
  have t1 : kd < 2 ∨ (2 ≤ kd ∧ 5 < kd) := by omega
  clear h0
  rcases t1 with t1 | ⟨t1, t2⟩
  all_goals
    unfold VV at *
    go_enter Tryd.func8, Tryd.ntmps8
    go_wp2_with fail
    refine hC.out.mono ?_
    rintro e w1 ⟨rfl, hb1⟩
    have hB1 := HB0.out.trans (hb1.mono HB0.out.size)
    have hv1 := keepH' hv0.out hb1
    clear hb1
    go_wp2_with fail
    refine (hC2.out _ (hB1.alloc hB1.size _)).mono ?_
    rintro e w2 ⟨rfl, hb2⟩
    have hB2 := (hB1.alloc hB1.size (.cells #[.int .i64 0, .bool false, .float .f64 0, .string ⟨#[]⟩, .int .i64 0] 43)).trans (hb2.mono (hB1.alloc hB1.size (.cells #[.int .i64 0, .bool false, .float .f64 0, .string ⟨#[]⟩, .int .i64 0] 43)).size)
    have hv2 := keepH' (old_alloc hv1 (.cells #[.int .i64 0, .bool false, .float .f64 0, .string ⟨#[]⟩, .int .i64 0] 43)) hb2
    have ha2 := keepH' (heap_alloc_new w1 (.cells #[.int .i64 0, .bool false, .float .f64 0, .string ⟨#[]⟩, .int .i64 0] 43)) hb2
    clear hb2 hv1
    go_wp2_with fail
    refine (hC3.out _).mono ?_
    rintro e w3 ⟨rfl, hb3⟩
    have hB3 := (hB2.alloc hB2.size (.cells #[.int .i64 0, .bool false, .float .f64 0, .string ⟨#[]⟩, .int .i64 0] 43)).trans (hb3.mono (hB2.alloc hB2.size (.cells #[.int .i64 0, .bool false, .float .f64 0, .string ⟨#[]⟩, .int .i64 0] 43)).size)
    have hv3 := keepH' (old_alloc hv2 (.cells #[.int .i64 0, .bool false, .float .f64 0, .string ⟨#[]⟩, .int .i64 0] 43)) hb3
    have ha3 := keepH' (old_alloc ha2 (.cells #[.int .i64 0, .bool false, .float .f64 0, .string ⟨#[]⟩, .int .i64 0] 43)) hb3
    have hz3 := keepH' (heap_alloc_new w2 (.cells #[.int .i64 0, .bool false, .float .f64 0, .string ⟨#[]⟩, .int .i64 0] 43)) hb3
    clear hb3 hv2 ha2
    have l1 := Fact.mk (Array.getElem?_eq_some_iff.1 ha3).1
    have l2 := Fact.mk (Array.getElem?_eq_some_iff.1 hz3).1
    have c0 := fun o o' => (facts5 (old_alloc (old_alloc hv3 o) o')).1
    have c1 := fun o o' => (facts5 (old_alloc (old_alloc hv3 o) o')).2.1
    have c2 := fun o o' => (facts5 (old_alloc (old_alloc hv3 o) o')).2.2.1
    have c3 := fun o o' => (facts5 (old_alloc (old_alloc hv3 o) o')).2.2.2.1
    have c4 := fun o o' => (facts5 (old_alloc (old_alloc hv3 o) o')).2.2.2.2.1
    go_upto_region 9 with (fail)
    obtain ⟨W, hW⟩ : ∃ W, W = ((w3.alloc (.cells #[.int .i64 0, .bool false, .float .f64 0, .string ⟨#[]⟩, .int .i64 0] 43)).alloc (.cells #[.int .i64 0, .bool false, .float .f64 0, .string ⟨#[]⟩, .int .i64 0] 43)) := ⟨_, rfl⟩
    rw [← hW]
    have hBW : Below w.heap.size w W := hW ▸ (hB3.alloc hB3.size _).alloc (hB3.alloc hB3.size _).size _
    have hwW : W.heap[w3.heap.size + 1]? = some (.cells #[.int .i64 0, .bool false, .float .f64 0, .string ⟨#[]⟩, .int .i64 0] 43 (0, 0)) := hW ▸ heap_alloc2_new _ _ _
    have haW : W.heap[w1.heap.size]? = some (.cells #[.int .i64 0, .bool false, .float .f64 0, .string ⟨#[]⟩, .int .i64 0] 43 (0, 0)) := hW ▸ old_alloc (old_alloc ha3 _) _
    have hzW : W.heap[w2.heap.size]? = some (.cells #[.int .i64 0, .bool false, .float .f64 0, .string ⟨#[]⟩, .int .i64 0] 43 (0, 0)) := hW ▸ old_alloc (old_alloc hz3 _) _
    have hcW : W.heap[w3.heap.size]? = some (.cells #[.int .i64 0, .bool false, .float .f64 0, .string ⟨#[]⟩, .int .i64 0] 43 (0, 0)) := hW ▸ old_alloc (heap_alloc_new w3 _) _
    clear hW c0 c1 c2 c3 c4
    obtain ⟨a0, a1, a2, a3, a4⟩ := facts5a haW
    obtain ⟨d0, d1, d2, d3, d4⟩ := facts5a hwW
    go_wp2_with fail
    refine (hEa.out _).mono ?_
    rintro e w5 ⟨rfl, hb5⟩
    have hB5 := hBW.trans (hb5.mono hBW.size)
    have hz5 := keepH' hzW hb5
    have hc5 := keepH' hcW hb5
    clear hb5 a0 a1 a2 a3 a4 d0 d1 d2 d3 d4
    obtain ⟨a0, a1, a2, a3, a4⟩ := facts5a hz5
    go_wp2_with fail
    refine (hEz.out _).mono ?_
    rintro e w6 ⟨rfl, hb6⟩
    have hB6 := hB5.trans (hb6.mono hB5.size)
    have hc6 := keepH' hc5 hb6
    clear hb6 a0 a1 a2 a3 a4
    obtain ⟨a0, a1, a2, a3, a4⟩ := facts5a hc6
    go_wp2_with fail
    refine (hEz.out _).mono ?_
    rintro e w7 ⟨rfl, hb7⟩
    have hB7 := hB6.trans (hb7.mono hB6.size)
    go_wp2
    go_ret
    exact ⟨rfl, hB7⟩

theorem law_caught (kd k : Int) (b : Bool) (n : Nat) (s : ByteArray) (i code : Int) (hn : n < 18446744073709551616) (w : World) (HT : Tabs w) (hE : AsT.HE w) :
    Calls Tryd.prog 8 #[.int .i64 kd, VV k b n s i, .int .i64 code] w fun e w' => e = .returned (.bool true) ∧ Below w.heap.size w w' := by
  by_cases h1 : kd = 1
  · cases hg : gd k b n s i
    · exact lawCb kd k b n s i code hn h1 hg w HT hE
    · exact lawCa kd k b n s i code hn h1 hg w HT hE
  · by_cases h2 : 2 ≤ kd ∧ kd ≤ 5
    · exact lawCc kd k b n s i code hn h2.1 h2.2 w HT hE
    · exact lawCd kd k b n s i code hn (by omega) w HT hE
end Go.Proofs.YtmcibofnanbhpaaDoor
