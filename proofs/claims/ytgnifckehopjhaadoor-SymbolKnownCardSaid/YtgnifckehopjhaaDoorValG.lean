/- made, Made and the makers: what each call comes to. -/
import Derived.Test.YtgnifckehopjhaaDoorValF
import Derived.Deep.QuietTactic
import Derived.BigQuiet
namespace Go.Proofs.YtgnifckehopjhaaDoor
open Go.RowKit Go.Proofs.YtgnifckehopjhaaDoorW.PrintWords
attribute [local go_sem] run_store_float

theorem two5 {w W' : World} {t : TypeId} {x0 x1 x2 x3 x4 y0 y1 y2 y3 y4 : Value} (hb : Below ((w.alloc (.cells #[x0, x1, x2, x3, x4] t)).alloc (.cells #[y0, y1, y2, y3, y4] t)).heap.size ((w.alloc (.cells #[x0, x1, x2, x3, x4] t)).alloc (.cells #[y0, y1, y2, y3, y4] t)) W') :
    W'.heap[w.heap.size]? = some (.cells #[x0, x1, x2, x3, x4] t (0, 0)) ∧ W'.heap[w.heap.size + 1]? = some (.cells #[y0, y1, y2, y3, y4] t (0, 0)) ∧ Below w.heap.size w W' := by
  refine ⟨?_, ?_, ?_⟩
  · rw [hb.block w.heap.size (by simp; omega), Lib.alloc_old _ _ _ (by simp)]; exact heap_alloc_new w _
  · rw [hb.block (w.heap.size + 1) (by simp)]; exact heap_alloc2_new w _ _
  · exact (((Below.refl _ _).alloc (Nat.le_refl _) _).alloc (by simp) _).trans (hb.mono (by simp; omega))

theorem facts5 {W : World} {g : Nat} {t : TypeId} {x0 x1 x2 x3 x4 : Value} (h : W.heap[g]? = some (.cells #[x0, x1, x2, x3, x4] t (0, 0))) :
    W.cell? ⟨g, 0, none⟩ = some x0 ∧ W.cell? ⟨g, 1, none⟩ = some x1 ∧ W.cell? ⟨g, 2, none⟩ = some x2 ∧ W.cell? ⟨g, 3, none⟩ = some x3 ∧ W.cell? ⟨g, 4, none⟩ = some x4 ∧
    W.frozen? ⟨g, 0, none⟩ = false ∧ W.frozen? ⟨g, 1, none⟩ = false ∧ W.frozen? ⟨g, 2, none⟩ = false ∧ W.frozen? ⟨g, 3, none⟩ = false ∧ W.frozen? ⟨g, 4, none⟩ = false := by
  refine ⟨?_, ?_, ?_, ?_, ?_, Lib.frozen_of_heap h 0, Lib.frozen_of_heap h 1, Lib.frozen_of_heap h 2, Lib.frozen_of_heap h 3, Lib.frozen_of_heap h 4⟩ <;> rw [Lib.cell_of_heap h] <;> rfl

theorem set5 {W : World} {g : Nat} {t : TypeId} {x0 x1 x2 x3 x4 : Value} (h : W.heap[g]? = some (.cells #[x0, x1, x2, x3, x4] t (0, 0))) (y0 y1 y2 y3 y4 : Value) :
    (((((W.setCell ⟨g, 0, none⟩ y0).setCell ⟨g, 1, none⟩ y1).setCell ⟨g, 2, none⟩ y2).setCell ⟨g, 3, none⟩ y3).setCell ⟨g, 4, none⟩ y4).heap[g]? = some (.cells #[y0, y1, y2, y3, y4] t (0, 0)) := by
  simp [World.setCell, Array.getElem?_modify, h]
theorem setB5 {B g : Nat} {W W' : World} (h : Below B W W') (hg : B ≤ g) (y0 y1 y2 y3 y4 : Value) :
    Below B W (((((W'.setCell ⟨g, 0, none⟩ y0).setCell ⟨g, 1, none⟩ y1).setCell ⟨g, 2, none⟩ y2).setCell ⟨g, 3, none⟩ y3).setCell ⟨g, 4, none⟩ y4) :=
  ((((h.setCell (p := ⟨g, 0, none⟩) hg y0).setCell (p := ⟨g, 1, none⟩) hg y1).setCell (p := ⟨g, 2, none⟩) hg y2).setCell (p := ⟨g, 3, none⟩) hg y3).setCell (p := ⟨g, 4, none⟩) hg y4

set_option maxRecDepth 100000 in
theorem made_c (k : Int) (b : Bool) (n : Nat) (s : ByteArray) (i : Int) (w : World) (HT : Tabs w) : Calls Tryd.prog 41 #[VV k b n s i] w fun e w' => e = .returned (if gd k b n s i = true then VV k b n s i else VV 0 false 0 ⟨#[]⟩ 0) ∧ Below w.heap.size w w' := by
  have hg := Fact.mk (fun w' (h : Below w.heap.size w w') => check_c k b n s i w' (HT.below h))
  generalize gd k b n s i = G at hg ⊢
  unfold VV at *
  cases G
  all_goals
    go_enter Tryd.func41, Tryd.ntmps41
    go_wp2_with (go_at_call 28; refine (hg.out _ (((Below.refl _ _).alloc (Nat.le_refl _) _).alloc (by simp) _)).mono ?_; rintro e w1 ⟨rfl, hb⟩; obtain ⟨hv, hr, hb1⟩ := two5 hb; obtain ⟨c0, c1, c2, c3, c4, f0, f1, f2, f3, f4⟩ := facts5 hr; obtain ⟨d0, d1, d2, d3, d4, _⟩ := facts5 hv)
    refine bodyPost_ret (results_cell_row rfl _ _ (w.heap.size + 1) _ _ _ _ rfl (set5 hr _ _ _ _ _) Tryd.underlying44 rfl (by kernel_rfl)) rfl ?_
    exact ⟨rfl, setB5 hb1 (by omega) _ _ _ _ _⟩
set_option maxRecDepth 100000 in
theorem mkStr_c (s : ByteArray) (w : World) (HT : Tabs w) : Calls Tryd.prog 27 #[.string s] w fun e w' => e = .returned (if gd 5 false 0 s 0 = true then VV 5 false 0 s 0 else VV 0 false 0 ⟨#[]⟩ 0) ∧ Below w.heap.size w w' := by
  have ho := Fact.mk (open5_c s)
  have hg := Fact.mk (fun w' (h : Below w.heap.size w w') => made_c 5 false 0 s 0 w' (HT.below h))
  generalize gd 5 false 0 s 0 = G at hg ⊢
  unfold VV at *
  cases G
  all_goals
    go_enter Tryd.func27, Tryd.ntmps27
    go_wp2_with (first | (go_at_call 42; refine (ho.out _).mono ?_; rintro e w1 ⟨rfl, hb⟩; have hb0 := below1 hb) | (go_at_call 41; refine (hg.out _ hb0).mono ?_; rintro e w2 ⟨rfl, hb2⟩; have hb3 := hb.trans (hb2.mono hb.size); have hr := heap5 hb3; have hb1 := below1 hb3; obtain ⟨c0, c1, c2, c3, c4, f0, f1, f2, f3, f4⟩ := facts5 hr))
    refine bodyPost_ret (results_cell_row rfl _ _ w.heap.size _ _ _ _ rfl (set5 hr _ _ _ _ _) Tryd.underlying44 rfl (by kernel_rfl)) rfl ?_
    exact ⟨rfl, setB5 hb1 (Nat.le_refl _) _ _ _ _ _⟩

theorem ord_self (n : Nat) : (FloatKind.f64.format.order n n = some .eq) ∨ Fl.isNan n = true := by
  have e := Fl.order_self' n
  cases h : Fl.isNan n with
  | true => exact .inr rfl
  | false => rw [h] at e; exact .inl (beq_iff_eq.1 e)
set_option maxRecDepth 100000 in
/-- A value is the same as itself. -/
theorem eqSelf_c (k : Int) (b : Bool) (n : Nat) (s : ByteArray) (i : Int) (w : World) : Calls Tryd.prog 18 #[VV k b n s i, VV k b n s i] w fun e w' => e = .returned (.bool true) ∧ Below w.heap.size w w' := by
  have hb := run_bits n
  unfold VV at *
  go_enter Tryd.func18, Tryd.ntmps18
  go_wp2
  go_quiet (fail)
  go_wp2
  go_ret
  refine ⟨rfl, ?_⟩
  have hB := ((Below.refl w.heap.size w).alloc (Nat.le_refl _) (.cells #[.int .i64 k, .bool b, .float .f64 n, .string s, .int .i64 i] 44)).alloc (by simp) (.cells #[.int .i64 k, .bool b, .float .f64 n, .string s, .int .i64 i] 44)
  exact ⟨hB.os, hB.tape, hB.output, hB.size, hB.block⟩
end Go.Proofs.YtgnifckehopjhaaDoor
