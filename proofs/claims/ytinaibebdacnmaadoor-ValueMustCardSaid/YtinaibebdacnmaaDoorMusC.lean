/- The deferred closures of value.Must and of the law's must: what each comes to, by the mode of the frame below. -/
import Derived.Test.YtinaibebdacnmaaDoorValG
import Derived.Test.YtinaibebdacnmaaDoorAsWM
import Derived.Recover
import Derived.Outline
import Derived.OneCell
import Derived.WalkLawsBesides
namespace Go.Proofs.YtinaibebdacnmaaDoor
open Go.RowKit Go.Proofs.YtinaibebdacnmaaDoorW.PrintWords
attribute [local go_sem] run_store_float

theorem fact1 {W : World} {g : Nat} {t : TypeId} {x0 : Value} (h : W.heap[g]? = some (.cells #[x0] t (0, 0))) : W.cell? ⟨g, 0, none⟩ = some x0 ∧ W.frozen? ⟨g, 0, none⟩ = false := by
  refine ⟨?_, Lib.frozen_of_heap h 0⟩; rw [Lib.cell_of_heap h]; rfl

theorem ta57 (g : Value) (w : World) : (Instr.typeAssert (.iface 57 g) 20 57 true).run Tryd.prog w = .ok (.tuple #[g, .bool true]) w := by kernel_rfl
theorem neqNil (t : TypeId) (v : Value) (w : World) : (binOp .neq 20 (.iface t v) .nilIface).run Tryd.prog w = .ok (.bool true) w := by kernel_rfl

theorem lc_panic (p1 p2 : Nat) (x1 x2 : Value) (t1 t2 : TypeId) (g : Nat) (older : List PanicEntry) (w : World) (h1 : w.heap[p1]? = some (.cells #[x1] t1 (0, 0))) (h2 : w.heap[p2]? = some (.cells #[x2] t2 (0, 0))) (hne : p1 ≠ p2) :
    CallsD Tryd.prog 44 #[.pointer (some ⟨p1, 0, none⟩), .pointer (some ⟨p2, 0, none⟩)] (.panicking ({ v := .iface 57 (.pointer (some ⟨g, 0, none⟩)), recovered := false } :: older)) w fun e u' w' => e = .returned (.tuple #[]) ∧ u' = .panicking ({ v := .iface 57 (.pointer (some ⟨g, 0, none⟩)), recovered := true } :: older) ∧ w' = (w.setCell ⟨p1, 0, none⟩ (.pointer (some ⟨g, 0, none⟩))).setCell ⟨p2, 0, none⟩ (.bool true) := by
  obtain ⟨c1, f1⟩ := fact1 h1
  obtain ⟨c2, f2⟩ := fact1 h2
  have ta := ta57
  refine callsD_of_wpS Tryd.func44 rfl fun c₀ cs hu => ?_
  simp only [Tryd.ntmps44, List.size_toArray, List.length_cons, List.length_nil, Nat.reduceAdd, Nat.reduceSub, Array.replicate_succ, Array.replicate_zero, List.push_toArray, List.append_toArray, List.nil_append, List.cons_append]
  apply wpS_seq
  apply wpS_region
  simp [wpOpsS, go_sem, recoverD, hu, Exit.thenS]
  refine wpS_of_wp ?_
  go_wp2
  exact ⟨rfl, _, rfl, _, results_none rfl _ _ _, rfl, rfl, rfl⟩

theorem lc_idle (p1 p2 : Nat) (w : World) :
    CallsD Tryd.prog 44 #[.pointer (some ⟨p1, 0, none⟩), .pointer (some ⟨p2, 0, none⟩)] .returning w fun e u' w' => e = .returned (.tuple #[]) ∧ u' = .returning ∧ w' = w := by
  refine callsD_of_wpS Tryd.func44 rfl fun c₀ cs hu => ?_
  simp only [Tryd.ntmps44, List.size_toArray, List.length_cons, List.length_nil, Nat.reduceAdd, Nat.reduceSub, Array.replicate_succ, Array.replicate_zero, List.push_toArray, List.append_toArray, List.nil_append, List.cons_append]
  apply wpS_seq
  apply wpS_region
  simp [wpOpsS, go_sem, recoverD, hu, Exit.thenS]
  refine wpS_of_wp ?_
  go_wp2
  refine ⟨rfl, .returning, ?_, _, results_none rfl _ _ _, rfl, rfl, rfl⟩
  cases c₀; simp_all

theorem vc_idle (p1 p2 : Nat) (w : World) :
    CallsD Tryd.prog 70 #[.pointer (some ⟨p1, 0, none⟩), .pointer (some ⟨p2, 0, none⟩)] .returning w fun e u' w' => e = .returned (.tuple #[]) ∧ u' = .returning ∧ w' = w := by
  refine callsD_of_wpS Tryd.func70 rfl fun c₀ cs hu => ?_
  simp only [Tryd.ntmps70, List.size_toArray, List.length_cons, List.length_nil, Nat.reduceAdd, Nat.reduceSub, Array.replicate_succ, Array.replicate_zero, List.push_toArray, List.append_toArray, List.nil_append, List.cons_append]
  apply wpS_seq
  apply wpS_region
  simp [wpOpsS, go_sem, recoverD, hu, Exit.thenS]
  refine wpS_of_wp ?_
  go_wp2
  refine ⟨rfl, .returning, ?_, _, results_none rfl _ _ _, rfl, rfl, rfl⟩
  cases c₀; simp_all

/-- The variable errors.errorType holds the type 'error'. -/
def HE (w : World) : Prop := w.cell? ⟨1, 0, none⟩ = some (.iface 172 (.agg #[.pointer (some ⟨7, 112, none⟩)]))
theorem HE.below {w w' : World} (h : HE w) (hb : Below w.heap.size w w') : HE w' := by
  unfold HE at *
  rw [hb.cell (World.block_lt_of_cell? w _ h)]; exact h
theorem asw_hit (e : Addr) (B b : Nat) (hB : B ≤ b) (w : World) (hg : HE w) (ht : w.heap[b]? = some (.cells #[.pointer none] 57 (0, 0))) :
    Calls Tryd.prog 71 #[.iface 57 (.pointer (some e)), .iface 115 (.pointer (some ⟨b, 0, none⟩))] w fun ev w' => ev = .returned (.bool true) ∧ Below B w w' := by
  refine (AsW.as_hit e ⟨b, 0, none⟩ (.pointer none) w hg (by rw [Lib.cell_of_heap ht]; rfl) (Lib.frozen_of_heap ht 0)).mono ?_
  rintro ev w' ⟨rfl, rfl⟩
  have hlt : b < w.heap.size := (Array.getElem?_eq_some_iff.1 ht).1
  refine ⟨rfl, ?_⟩
  exact (((((Below.refl B w).alloc (by omega) _).alloc (by simp; omega) _).alloc (by simp; omega) _).alloc (by simp; omega) _).setCell (p := ⟨b, 0, none⟩) hB _

theorem old_alloc' {W : World} {g : Nat} {o' : Obj} (h : W.heap[g]? = some o') (o : Obj) : (W.alloc o).heap[g]? = some o' := by
  rw [Lib.alloc_old W o _ (Array.getElem?_eq_some_iff.1 h).1]; exact h
theorem keepH0 {W W' : World} {b : Nat} {o : Obj} (h : W.heap[b]? = some o) (hb : Below W.heap.size W W') : W'.heap[b]? = some o := by
  rw [hb.block b (Array.getElem?_eq_some_iff.1 h).1]; exact h
theorem erTAE (c : Value) (w : World) : (Instr.typeAssert (.iface 15 c) 20 112 true).run Tryd.prog w = .ok (.tuple #[.iface 15 c, .bool true]) w := run_typeAssert_hasB Tryd.underlying112 (by kernel_rfl) _ _ _
theorem erW (c : Value) (w : World) : (Instr.typeAssert (.iface 57 c) 20 112 true).run Tryd.prog w = .ok (.tuple #[.iface 57 c, .bool true]) w := run_typeAssert_hasB Tryd.underlying112 (by kernel_rfl) _ _ _

/-- Of a failed assertion's panic: it becomes a *Wrong with both kinds. -/
theorem vc_other (pk pv : Nat) (kind vk : Int) (t1 t2 : TypeId) (y1 y2 y3 y4 : Value) (r : Addr) (older : List PanicEntry) (w : World) (hE : HE w) (h1 : w.heap[pk]? = some (.cells #[.int .i64 kind] t1 (0, 0))) (h2 : w.heap[pv]? = some (.cells #[.int .i64 vk, y1, y2, y3, y4] t2 (0, 0))) :
    CallsD Tryd.prog 70 #[.pointer (some ⟨pk, 0, none⟩), .pointer (some ⟨pv, 0, none⟩)] (.panicking ({ v := .iface 15 (.pointer (some r)), recovered := false } :: older)) w fun e u' w' => ∃ g, e = .panicked [{ v := .iface 57 (.pointer (some ⟨g, 0, none⟩)), recovered := false }] ∧ u' = .panicking ({ v := .iface 15 (.pointer (some r)), recovered := true } :: older) ∧ w'.heap[g]? = some (.cells #[.int .i64 kind, .int .i64 vk] 62 (0, 0)) ∧ Below w.heap.size w w' := by
  have ha := Fact.mk (fun t W (h : Below w.heap.size w W) => AsW.as_miss r t W (hE.below h))
  have h1 := Fact.mk h1
  have h2 := Fact.mk h2
  have q := erTAE
  have hB0 := Fact.mk (fun o => (Below.refl w.heap.size w).alloc (Nat.le_refl _) o)
  clear hE
  refine callsD_of_wpS Tryd.func70 rfl fun c₀ cs hu => ?_
  simp only [Tryd.ntmps70, List.size_toArray, List.length_cons, List.length_nil, Nat.reduceAdd, Nat.reduceSub, Array.replicate_succ, Array.replicate_zero, List.push_toArray, List.append_toArray, List.nil_append, List.cons_append]
  apply wpS_seq
  apply wpS_region
  simp [wpOpsS, go_sem, recoverD, hu, Exit.thenS]
  refine wpS_of_wp ?_
  go_wp2_with (go_at_call 71; refine (ha.out _ _ (hB0.out _)).mono ?_; rintro e w1 ⟨rfl, hb⟩; have k1 := (fact1 (keepH0 (old_alloc' h1.out _) hb)).1; have k2 := (facts5 (keepH0 (old_alloc' h2.out _) hb)).1)
  exact ⟨rfl, _, rfl, w1.heap.size, rfl, rfl, heap_alloc_new _ _, (below1 hb).alloc (below1 hb).size _⟩

/-- Of a *Wrong: it goes on. -/
theorem vc_wrong (pk pv g : Nat) (older : List PanicEntry) (w : World) (hE : HE w) :
    CallsD Tryd.prog 70 #[.pointer (some ⟨pk, 0, none⟩), .pointer (some ⟨pv, 0, none⟩)] (.panicking ({ v := .iface 57 (.pointer (some ⟨g, 0, none⟩)), recovered := false } :: older)) w fun e u' w' => e = .panicked [{ v := .iface 57 (.pointer (some ⟨g, 0, none⟩)), recovered := false }] ∧ u' = .panicking ({ v := .iface 57 (.pointer (some ⟨g, 0, none⟩)), recovered := true } :: older) ∧ Below w.heap.size w w' := by
  have ha := Fact.mk (asw_hit ⟨g, 0, none⟩ w.heap.size w.heap.size (Nat.le_refl _) (w.alloc (.cells #[.pointer none] 57)) (hE.below ((Below.refl w.heap.size w).alloc (Nat.le_refl _) _)) (heap_alloc_new _ _))
  have q := erW
  clear hE
  refine callsD_of_wpS Tryd.func70 rfl fun c₀ cs hu => ?_
  simp only [Tryd.ntmps70, List.size_toArray, List.length_cons, List.length_nil, Nat.reduceAdd, Nat.reduceSub, Array.replicate_succ, Array.replicate_zero, List.push_toArray, List.append_toArray, List.nil_append, List.cons_append]
  apply wpS_seq
  apply wpS_region
  simp [wpOpsS, go_sem, recoverD, hu, Exit.thenS]
  refine wpS_of_wp ?_
  go_wp2_with (go_at_call 71; refine ha.out.mono ?_; rintro e w1 ⟨rfl, hb⟩)
  exact ⟨rfl, _, rfl, rfl, rfl, ((Below.refl _ _).alloc (Nat.le_refl _) _).trans hb⟩
end Go.Proofs.YtinaibebdacnmaaDoor
