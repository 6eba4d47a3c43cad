/- call.Caught: what each call comes to. -/
import Derived.Test.YtmcibofnanbhpaaDoorCatC
import Derived.Test.YtmcibofnanbhpaaDoorAsH
import Derived.LaidEql
import Derived.Outline
namespace Go.Proofs.YtmcibofnanbhpaaDoor
open Go.RowKit Go.Proofs.YtmcibofnanbhpaaDoorW.PrintWords
attribute [local go_sem] run_store_float

theorem neq_same (g : Nat) (w : World) : (binOp .neq 144 (.iface 77 (.pointer (some ⟨g, 0, none⟩))) (.iface 77 (.pointer (some ⟨g, 0, none⟩)))).run Tryd.prog w = .ok (.bool false) w := by
  obtain ⟨i, hi, hi2⟩ := Option.map_eq_some_iff.1 (show (Tryd.prog.info? 77).map (·.comparable) = some true by kernel_rfl)
  obtain ⟨j, hj, _⟩ := Option.map_eq_some_iff.1 (show (Tryd.prog.info? 79).map (·.size) = some 6 by kernel_rfl)
  simp only [binOp]
  simp [Op.equal, Op.maxDepth, run_equalIn_iface_ptr_same w 9998 ⟨g, 0, none⟩ Tryd.underlying144 Tryd.underlying77 hi hi2 hj]

set_option maxRecDepth 100000 in
theorem caughtNil_c (w : World) : Calls Tryd.prog 32 #[.nilIface] w fun e w' => e = .returned (.tuple #[VV 0 false 0 ⟨#[]⟩ 0, .bool false]) ∧ Below w.heap.size w w' := by
  have ha := Fact.mk AsT.as_nil
  unfold VV
  go_enter Tryd.func32, Tryd.ntmps32
  go_wp2_with (go_at_call 82; refine (ha.out _ _).mono ?_; rintro e w1 ⟨rfl, rfl⟩)
  refine bodyPost_ret (results_ct rfl _ _ w.heap.size _ _ _ _ rfl (by rw [Lib.alloc_old _ _ _ (by simp)]; exact heap_alloc_new _ _) Tryd.underlying43 rfl (by kernel_rfl)) rfl ?_
  exact ⟨rfl, ((Below.refl _ _).alloc (Nat.le_refl _) _).alloc (by simp) _⟩

theorem two51 {w W' : World} {t t' : TypeId} {x0 x1 x2 x3 x4 y : Value} {B : Nat} (hB : B = w.heap.size) (hb : Below ((w.alloc (.cells #[x0, x1, x2, x3, x4] t)).alloc (.cells #[y] t')).heap.size ((w.alloc (.cells #[x0, x1, x2, x3, x4] t)).alloc (.cells #[y] t')) W') :
    W'.heap[w.heap.size]? = some (.cells #[x0, x1, x2, x3, x4] t (0, 0)) ∧ Below B w W' := by
  subst hB
  refine ⟨?_, ?_⟩
  · rw [hb.block w.heap.size (by simp; omega), Lib.alloc_old _ _ _ (by simp)]; exact heap_alloc_new w _
  · exact (((Below.refl _ _).alloc (Nat.le_refl _) _).alloc (by simp) _).trans (hb.mono (by simp; omega))

set_option maxRecDepth 100000 in
theorem caughtErr_c (c : Int) (w : World) (hE : AsT.HE w) : Calls Tryd.prog 32 #[.iface 38 (.int .i64 c)] w fun e w' => e = .returned (.tuple #[VV 0 false 0 ⟨#[]⟩ 0, .bool false]) ∧ Below w.heap.size w w' := by
  have ha := Fact.mk (fun t W (h : Below w.heap.size w W) => AsT.as_miss c t W (hE.below h))
  have hB0 := Fact.mk (fun o o' => ((Below.refl w.heap.size w).alloc (Nat.le_refl _) o).alloc (by simp) o')
  clear hE
  unfold VV
  go_enter Tryd.func32, Tryd.ntmps32
  go_wp2_with (go_at_call 82; refine (ha.out _ _ (hB0.out _ _)).mono ?_; rintro e w1 ⟨rfl, hb⟩; obtain ⟨hr, hb1⟩ := two51 rfl hb; obtain ⟨c0, c1, c2, c3, c4, f0, f1, f2, f3, f4⟩ := facts5 hr)
  refine bodyPost_ret (results_ct rfl _ _ w.heap.size _ _ _ _ rfl (set5 hr _ _ _ _ _) Tryd.underlying43 rfl (by kernel_rfl)) rfl ?_
  exact ⟨rfl, setB5 hb1 (Nat.le_refl _) _ _ _ _ _⟩

theorem after_as {w W w1 : World} {r : Obj} (hr0 : W.heap[w.heap.size]? = some r) (HB0 : Below w.heap.size w W) (hb : Below (w.heap.size + 1) W w1) : w1.heap[w.heap.size]? = some r ∧ Below w.heap.size w w1 :=
  ⟨(hb.block w.heap.size (Nat.lt_succ_self _)).trans hr0, HB0.trans (hb.mono (Nat.le_succ w.heap.size))⟩

set_option maxRecDepth 100000 in
theorem caughtThrown_c (g : Nat) (k : Int) (b : Bool) (n : Nat) (s : ByteArray) (i : Int) (ok : Bool) (w : World) (hE : AsT.HE w)
    (hc : ∀ W, Below w.heap.size w W → Calls Tryd.prog 83 #[.pointer (some ⟨g, 0, none⟩)] W fun e W' => e = .returned (.tuple #[VV k b n s i, .bool ok]) ∧ Below W.heap.size W W') :
    Calls Tryd.prog 32 #[.iface 77 (.pointer (some ⟨g, 0, none⟩))] w fun e w' => e = .returned (.tuple #[if ok = true then VV k b n s i else VV 0 false 0 ⟨#[]⟩ 0, .bool ok]) ∧ Below w.heap.size w w' := by
  have hB0 : Below w.heap.size w ((w.alloc (.cells #[.int .i64 0, .bool false, .float .f64 0, .string ⟨#[]⟩, .int .i64 0] 43)).alloc (.cells #[.pointer none] 77)) := ((Below.refl w.heap.size w).alloc (Nat.le_refl _) _).alloc (by simp) _
  have ha := Fact.mk (AsT.as_hit2 ⟨g, 0, none⟩ (w.heap.size + 1) (w.heap.size + 1) (Nat.le_refl _) _ (hE.below hB0) (heap_alloc2_new w _ _))
  have hc := Fact.mk hc
  have hq := neq_same g
  have hr0 : Fact (((w.alloc (.cells #[.int .i64 0, .bool false, .float .f64 0, .string ⟨#[]⟩, .int .i64 0] 43)).alloc (.cells #[.pointer none] 77)).heap[w.heap.size]? = some (.cells #[.int .i64 0, .bool false, .float .f64 0, .string ⟨#[]⟩, .int .i64 0] 43 (0, 0))) := ⟨by rw [Lib.alloc_old _ _ _ (by simp)]; exact heap_alloc_new _ _⟩
  have HB0 := Fact.mk hB0
  clear hE hB0
  unfold VV at *
  cases ok
  all_goals
    simp only [if_true, if_false, Bool.false_eq_true]
    go_enter Tryd.func32, Tryd.ntmps32
    go_wp2_with fail
    refine ha.out.mono ?_
    rintro e w1 ⟨rfl, ht, hb⟩
    have ht0 : w1.cell? ⟨w.heap.size + 1, 0, none⟩ = some (.pointer (some ⟨g, 0, none⟩)) := by rw [Lib.cell_of_heap ht]; rfl
    obtain ⟨hr1, hb1⟩ := after_as hr0.out HB0.out hb
    clear hb
    go_wp2_with fail
    refine (hc.out _ hb1).mono ?_
    rintro e w2 ⟨rfl, hb2⟩
    have hr2 := keepH' hr1 hb2
    have hb3 := hb1.trans (hb2.mono hb1.size)
    clear hr1 hb1 ht ht0 hb2
    have c0 := fun o => (facts5 (old_alloc hr2 o)).1
    have c1 := fun o => (facts5 (old_alloc hr2 o)).2.1
    have c2 := fun o => (facts5 (old_alloc hr2 o)).2.2.1
    have c3 := fun o => (facts5 (old_alloc hr2 o)).2.2.2.1
    have c4 := fun o => (facts5 (old_alloc hr2 o)).2.2.2.2.1
    have f0 := fun o => (facts5 (old_alloc hr2 o)).2.2.2.2.2.1
    have f1 := fun o => (facts5 (old_alloc hr2 o)).2.2.2.2.2.2.1
    have f2 := fun o => (facts5 (old_alloc hr2 o)).2.2.2.2.2.2.2.1
    have f3 := fun o => (facts5 (old_alloc hr2 o)).2.2.2.2.2.2.2.2.1
    have f4 := fun o => (facts5 (old_alloc hr2 o)).2.2.2.2.2.2.2.2.2
    go_wp2
    refine bodyPost_ret (results_ct rfl _ _ w.heap.size _ _ _ _ rfl (set5 (old_alloc hr2 _) _ _ _ _ _) Tryd.underlying43 rfl (by kernel_rfl)) rfl ?_
    exact ⟨rfl, setB5 (hb3.alloc hb3.size _) (Nat.le_refl _) _ _ _ _ _⟩
end Go.Proofs.YtmcibofnanbhpaaDoor
