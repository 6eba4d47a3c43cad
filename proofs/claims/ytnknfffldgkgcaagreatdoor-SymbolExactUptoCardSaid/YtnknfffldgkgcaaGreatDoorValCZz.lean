import Derived.Test.YtnknfffldgkgcaaGreatDoorUp
import Derived.Test.YtnknfffldgkgcaaGreatDoorRows
import Derived.Laws.Externs
set_option linter.all false
/- The functions of package value on single values: what each call comes to. -/
namespace Go.Proofs.YtnknfffldgkgcaaGreatDoor
open Go.RowKit Go.Proofs.YtnknfffldgkgcaaGreatDoorW.PrintWords

theorem run_store_float {P : Program} {w : World} {a : Addr} {m : Mode} (k : FloatKind) (n : Nat) : (store a (.float k n) m).run P w = stored P w a (.float k n) m := run_store P w a _ m rfl
attribute [local go_sem] run_store_float

/-- A value of the language. -/
def VV (k : Int) (b : Bool) (n : Nat) (s : ByteArray) (i : Int) : Value := .agg #[.int .i64 k, .bool b, .float .f64 n, .string s, .int .i64 i]

theorem run_bits (a : Nat) (w : World) : (callFunc 50 #[.float .f64 a]).run Tryz.prog w = .ok (.value (.int .u64 a)) w := by
  rw [run_callFunc_extern (e := Extern.MathFloatBits.float64bits) Tryz.func50 (by kernel_rfl) (by kernel_rfl) (by kernel_rfl) (by kernel_rfl)]
  rfl
theorem ret_tb {x : Value} {a b : Bool} (h : a = b) : Ending.returned (.tuple #[x, .bool a]) = .returned (.tuple #[x, .bool b]) := by rw [h]
theorem ret_int {k : IntKind} {a b : Int} (h : a = b) : Ending.returned (.int k a) = .returned (.int k b) := by rw [h]

theorem heap5 {W W' : World} {t : TypeId} {cs : Array Value} (hb : Below (W.alloc (.cells cs t)).heap.size (W.alloc (.cells cs t)) W') : W'.heap[W.heap.size]? = some (.cells cs t (0, 0)) := by
  rw [hb.block W.heap.size (by simp)]; exact heap_alloc_new W _
theorem cells5 {W W' : World} {t : TypeId} {x0 x1 x2 x3 x4 : Value} (hb : Below (W.alloc (.cells #[x0, x1, x2, x3, x4] t)).heap.size (W.alloc (.cells #[x0, x1, x2, x3, x4] t)) W') (o : Obj) :
    (W'.alloc o).cell? ⟨W.heap.size, 0, none⟩ = some x0 ∧ (W'.alloc o).cell? ⟨W.heap.size, 1, none⟩ = some x1 ∧ (W'.alloc o).cell? ⟨W.heap.size, 2, none⟩ = some x2 ∧ (W'.alloc o).cell? ⟨W.heap.size, 3, none⟩ = some x3 ∧ (W'.alloc o).cell? ⟨W.heap.size, 4, none⟩ = some x4 := by
  have h := heap5 hb
  have h' : (W'.alloc o).heap[W.heap.size]? = some (.cells #[x0, x1, x2, x3, x4] t (0, 0)) := by
    rw [Lib.alloc_old W' o _ (Array.getElem?_eq_some_iff.1 h).1]; exact h
  refine ⟨?_, ?_, ?_, ?_, ?_⟩ <;> rw [Lib.cell_of_heap h'] <;> rfl
theorem cells5' {W W' : World} {t : TypeId} {x0 x1 x2 x3 x4 : Value} (hb : Below (W.alloc (.cells #[x0, x1, x2, x3, x4] t)).heap.size (W.alloc (.cells #[x0, x1, x2, x3, x4] t)) W') :
    W'.cell? ⟨W.heap.size, 0, none⟩ = some x0 ∧ W'.cell? ⟨W.heap.size, 1, none⟩ = some x1 ∧ W'.cell? ⟨W.heap.size, 2, none⟩ = some x2 ∧ W'.cell? ⟨W.heap.size, 3, none⟩ = some x3 ∧ W'.cell? ⟨W.heap.size, 4, none⟩ = some x4 := by
  have h := heap5 hb
  refine ⟨?_, ?_, ?_, ?_, ?_⟩ <;> rw [Lib.cell_of_heap h] <;> rfl
theorem below1 {W W' : World} {o : Obj} (hb : Below (W.alloc o).heap.size (W.alloc o) W') : Below W.heap.size W W' :=
  ((Below.refl _ _).alloc (Nat.le_refl _) o).trans (hb.mono (by simp))

theorem meth1 (w : World) : (method 283 143 (.agg #[]) "cameo/value.open").run Tryz.prog w = .ok (115, .agg #[]) w := by kernel_rfl
theorem meth2 (w : World) : (method 283 144 (.agg #[]) "cameo/value.open").run Tryz.prog w = .ok (116, .agg #[]) w := by kernel_rfl
theorem meth3 (b : Bool) (w : World) : (method 283 145 (.bool b) "cameo/value.open").run Tryz.prog w = .ok (117, .bool b) w := by kernel_rfl
theorem meth4 (n : Nat) (w : World) : (method 283 146 (.float .f64 n) "cameo/value.open").run Tryz.prog w = .ok (118, .float .f64 n) w := by kernel_rfl
theorem meth5 (s : ByteArray) (w : World) : (method 283 102 (.string s) "cameo/value.open").run Tryz.prog w = .ok (52, .string s) w := by kernel_rfl
theorem meth6 (i : Int) (w : World) : (method 283 147 (.int .i64 i) "cameo/value.open").run Tryz.prog w = .ok (119, .int .i64 i) w := by kernel_rfl
theorem meth7 (i : Int) (w : World) : (method 283 148 (.int .i64 i) "cameo/value.open").run Tryz.prog w = .ok (120, .int .i64 i) w := by kernel_rfl
theorem open1_c (w : World) : Calls Tryz.prog 115 #[.agg #[]] w fun e w' => e = .returned (VV 1 false 0 ⟨#[]⟩ 0) ∧ Below w.heap.size w w' := by
  unfold VV
  go_enter Tryz.func115, Tryz.ntmps115
  go_wp2
  refine bodyPost_ret (results_cell_row rfl _ _ (w.heap.size + 1) _ _ _ _ rfl (heap_alloc2_new _ _ _) Tryz.underlying35 rfl (by kernel_rfl)) rfl ?_
  exact ⟨rfl, ((Below.refl _ _).alloc (Nat.le_refl _) _).alloc (by simp) _⟩
theorem open2_c (w : World) : Calls Tryz.prog 116 #[.agg #[]] w fun e w' => e = .returned (VV 2 false 0 ⟨#[]⟩ 0) ∧ Below w.heap.size w w' := by
  unfold VV
  go_enter Tryz.func116, Tryz.ntmps116
  go_wp2
  refine bodyPost_ret (results_cell_row rfl _ _ (w.heap.size + 1) _ _ _ _ rfl (heap_alloc2_new _ _ _) Tryz.underlying35 rfl (by kernel_rfl)) rfl ?_
  exact ⟨rfl, ((Below.refl _ _).alloc (Nat.le_refl _) _).alloc (by simp) _⟩
theorem open3_c (b : Bool) (w : World) : Calls Tryz.prog 117 #[.bool b] w fun e w' => e = .returned (VV 3 b 0 ⟨#[]⟩ 0) ∧ Below w.heap.size w w' := by
  unfold VV
  go_enter Tryz.func117, Tryz.ntmps117
  go_wp2
  refine bodyPost_ret (results_cell_row rfl _ _ w.heap.size _ _ _ _ rfl (heap_alloc_new _ _) Tryz.underlying35 rfl (by kernel_rfl)) rfl ?_
  exact ⟨rfl, (Below.refl _ _).alloc (Nat.le_refl _) _⟩
theorem open4_c (n : Nat) (w : World) : Calls Tryz.prog 118 #[.float .f64 n] w fun e w' => e = .returned (VV 4 false n ⟨#[]⟩ 0) ∧ Below w.heap.size w w' := by
  unfold VV
  go_enter Tryz.func118, Tryz.ntmps118
  go_wp2
  refine bodyPost_ret (results_cell_row rfl _ _ w.heap.size _ _ _ _ rfl (heap_alloc_new _ _) Tryz.underlying35 rfl (by kernel_rfl)) rfl ?_
  exact ⟨rfl, (Below.refl _ _).alloc (Nat.le_refl _) _⟩
theorem open5_c (s : ByteArray) (w : World) : Calls Tryz.prog 52 #[.string s] w fun e w' => e = .returned (VV 5 false 0 s 0) ∧ Below w.heap.size w w' := by
  unfold VV
  go_enter Tryz.func52, Tryz.ntmps52
  go_wp2
  refine bodyPost_ret (results_cell_row rfl _ _ w.heap.size _ _ _ _ rfl (heap_alloc_new _ _) Tryz.underlying35 rfl (by kernel_rfl)) rfl ?_
  exact ⟨rfl, (Below.refl _ _).alloc (Nat.le_refl _) _⟩
theorem open6_c (i : Int) (w : World) : Calls Tryz.prog 119 #[.int .i64 i] w fun e w' => e = .returned (VV 6 false 0 ⟨#[]⟩ i) ∧ Below w.heap.size w w' := by
  unfold VV
  go_enter Tryz.func119, Tryz.ntmps119
  go_wp2
  refine bodyPost_ret (results_cell_row rfl _ _ w.heap.size _ _ _ _ rfl (heap_alloc_new _ _) Tryz.underlying35 rfl (by kernel_rfl)) rfl ?_
  exact ⟨rfl, (Below.refl _ _).alloc (Nat.le_refl _) _⟩
theorem open7_c (i : Int) (w : World) : Calls Tryz.prog 120 #[.int .i64 i] w fun e w' => e = .returned (VV 7 false 0 ⟨#[]⟩ i) ∧ Below w.heap.size w w' := by
  unfold VV
  go_enter Tryz.func120, Tryz.ntmps120
  go_wp2
  refine bodyPost_ret (results_cell_row rfl _ _ w.heap.size _ _ _ _ rfl (heap_alloc_new _ _) Tryz.underlying35 rfl (by kernel_rfl)) rfl ?_
  exact ⟨rfl, (Below.refl _ _).alloc (Nat.le_refl _) _⟩
theorem in1_c (b : Bool) (n : Nat) (s : ByteArray) (i : Int) (w : World) : Calls Tryz.prog 67 #[VV 1 b n s i] w fun e w' => e = .returned (.iface 143 (.agg #[])) ∧ Below w.heap.size w w' := by
  unfold VV
  go_enter Tryz.func67, Tryz.ntmps67
  go_wp2
  go_ret
  exact ⟨rfl, (Below.refl _ _).alloc (Nat.le_refl _) _⟩
theorem in2_c (b : Bool) (n : Nat) (s : ByteArray) (i : Int) (w : World) : Calls Tryz.prog 67 #[VV 2 b n s i] w fun e w' => e = .returned (.iface 144 (.agg #[])) ∧ Below w.heap.size w w' := by
  unfold VV
  go_enter Tryz.func67, Tryz.ntmps67
  go_wp2
  go_ret
  exact ⟨rfl, (Below.refl _ _).alloc (Nat.le_refl _) _⟩
theorem in3_c (b : Bool) (n : Nat) (s : ByteArray) (i : Int) (w : World) : Calls Tryz.prog 67 #[VV 3 b n s i] w fun e w' => e = .returned (.iface 145 (.bool b)) ∧ Below w.heap.size w w' := by
  unfold VV
  go_enter Tryz.func67, Tryz.ntmps67
  go_wp2
  go_ret
  exact ⟨rfl, (Below.refl _ _).alloc (Nat.le_refl _) _⟩
theorem in4_c (b : Bool) (n : Nat) (s : ByteArray) (i : Int) (w : World) : Calls Tryz.prog 67 #[VV 4 b n s i] w fun e w' => e = .returned (.iface 146 (.float .f64 n)) ∧ Below w.heap.size w w' := by
  unfold VV
  go_enter Tryz.func67, Tryz.ntmps67
  go_wp2
  go_ret
  exact ⟨rfl, (Below.refl _ _).alloc (Nat.le_refl _) _⟩
theorem in5_c (b : Bool) (n : Nat) (s : ByteArray) (i : Int) (w : World) (hT : Fact (Tabs w)) (h1 : (s.size : Int) ≤ 1048576) (h2 : (Pt.all s).2 = true) : Calls Tryz.prog 67 #[VV 5 b n s i] w fun e w' => e = .returned (.iface 102 (.string s)) ∧ Below w.heap.size w w' := by
  unfold VV
  have HT := hT.out
  have hV := Fact.mk (show units_Valid.f s = some true by unfold units_Valid.f; rw [if_pos (by omega), h2])
  clear h2
  go_enter Tryz.func67, Tryz.ntmps67
  go_wp2_with (go_at_call 37; refine (units_Valid.calls s _ _ ⟨HT.below ((Below.refl _ _).alloc (Nat.le_refl _) _)⟩ hV.out).mono ?_; rintro e w1 ⟨rfl, hb⟩; obtain ⟨c0, c1, c2, c3, c4⟩ := cells5' hb)
  go_ret
  exact ⟨rfl, below1 hb⟩
theorem in6_c (b : Bool) (n : Nat) (s : ByteArray) (i : Int) (w : World) (h1 : 1 ≤ i) (h2 : i ≤ 65536) : Calls Tryz.prog 67 #[VV 6 b n s i] w fun e w' => e = .returned (.iface 147 (.int .i64 i)) ∧ Below w.heap.size w w' := by
  unfold VV
  go_enter Tryz.func67, Tryz.ntmps67
  go_wp2
  go_ret
  exact ⟨rfl, (Below.refl _ _).alloc (Nat.le_refl _) _⟩
theorem in7_c (b : Bool) (n : Nat) (s : ByteArray) (i : Int) (w : World) (h1 : 1 ≤ i) (h2 : i ≤ 65536) : Calls Tryz.prog 67 #[VV 7 b n s i] w fun e w' => e = .returned (.iface 148 (.int .i64 i)) ∧ Below w.heap.size w w' := by
  unfold VV
  go_enter Tryz.func67, Tryz.ntmps67
  go_wp2
  go_ret
  exact ⟨rfl, (Below.refl _ _).alloc (Nat.le_refl _) _⟩
theorem in5f_c (b : Bool) (n : Nat) (s : ByteArray) (i : Int) (w : World) (hT : Fact (Tabs w)) (h2 : ¬ ((s.size : Int) ≤ 1048576 ∧ (Pt.all s).2 = true)) : Calls Tryz.prog 67 #[VV 5 b n s i] w fun e w' => e = .returned .nilIface ∧ Below w.heap.size w w' := by
  unfold VV
  by_cases h1 : (s.size : Int) ≤ 1048576
  · have HT := hT.out
    have hV := Fact.mk (show units_Valid.f s = some false by unfold units_Valid.f; rw [if_pos (by omega)]; congr 1; cases g : (Pt.all s).2 with
      | false => rfl
      | true => exact absurd ⟨h1, g⟩ h2)
    clear h2
    go_enter Tryz.func67, Tryz.ntmps67
    go_wp2_with (go_at_call 37; refine (units_Valid.calls s _ _ ⟨HT.below ((Below.refl _ _).alloc (Nat.le_refl _) _)⟩ hV.out).mono ?_; rintro e w1 ⟨rfl, hb⟩; obtain ⟨c0, c1, c2, c3, c4⟩ := cells5' hb)
    go_ret
    exact ⟨rfl, below1 hb⟩
  · clear h2
    go_enter Tryz.func67, Tryz.ntmps67
    go_wp2
    go_ret
    exact ⟨rfl, (Below.refl _ _).alloc (Nat.le_refl _) _⟩
theorem in6f_c (b : Bool) (n : Nat) (s : ByteArray) (i : Int) (w : World) (h2 : ¬ (1 ≤ i ∧ i ≤ 65536)) : Calls Tryz.prog 67 #[VV 6 b n s i] w fun e w' => e = .returned .nilIface ∧ Below w.heap.size w w' := by
  unfold VV
  by_cases h1 : 1 ≤ i
  · have h3 : ¬ i ≤ 65536 := fun h => h2 ⟨h1, h⟩
    clear h2
    go_enter Tryz.func67, Tryz.ntmps67
    go_wp2
    go_ret
    exact ⟨rfl, (Below.refl _ _).alloc (Nat.le_refl _) _⟩
  · clear h2
    go_enter Tryz.func67, Tryz.ntmps67
    go_wp2
    go_ret
    exact ⟨rfl, (Below.refl _ _).alloc (Nat.le_refl _) _⟩
theorem in7f_c (b : Bool) (n : Nat) (s : ByteArray) (i : Int) (w : World) (h2 : ¬ (1 ≤ i ∧ i ≤ 65536)) : Calls Tryz.prog 67 #[VV 7 b n s i] w fun e w' => e = .returned .nilIface ∧ Below w.heap.size w w' := by
  unfold VV
  by_cases h1 : 1 ≤ i
  · have h3 : ¬ i ≤ 65536 := fun h => h2 ⟨h1, h⟩
    clear h2
    go_enter Tryz.func67, Tryz.ntmps67
    go_wp2
    go_ret
    exact ⟨rfl, (Below.refl _ _).alloc (Nat.le_refl _) _⟩
  · clear h2
    go_enter Tryz.func67, Tryz.ntmps67
    go_wp2
    go_ret
    exact ⟨rfl, (Below.refl _ _).alloc (Nat.le_refl _) _⟩
theorem in0_c (k : Int) (b : Bool) (n : Nat) (s : ByteArray) (i : Int) (w : World) (h1 : k ≠ 1) (h2 : k ≠ 2) (h3 : k ≠ 3) (h4 : k ≠ 4) (h5 : k ≠ 5) (h6 : k ≠ 6) (h7 : k ≠ 7) : Calls Tryz.prog 67 #[VV k b n s i] w fun e w' => e = .returned .nilIface ∧ Below w.heap.size w w' := by
  unfold VV
  go_enter Tryz.func67, Tryz.ntmps67
  go_wp2
  all_goals (go_ret; exact ⟨rfl, (Below.refl _ _).alloc (Nat.le_refl _) _⟩)
set_option maxRecDepth 100000 in
theorem good1_c (b : Bool) (n : Nat) (s : ByteArray) (i : Int) (w : World) :
    Calls Tryz.prog 53 #[VV 1 b n s i] w fun e w' => e = .returned (.tuple #[.iface 143 (.agg #[]), .bool (!b && (decide (s.toList = []) && (decide (i = 0) && decide (n = 0))))]) ∧ Below w.heap.size w w' := by
  have hi := Fact.mk (in1_c b n s i (w.alloc (.cells #[.int .i64 1, .bool b, .float .f64 n, .string s, .int .i64 i] 35)))
  have ho := Fact.mk (open1_c )
  have hm := meth1 
  have hbits := run_bits n
  skip
  unfold VV at *
  go_enter Tryz.func53, Tryz.ntmps53
  go_wp2_with (first | (go_at_call 67; refine hi.out.mono ?_; rintro e w1 ⟨rfl, hb⟩) | (go_at_call 115; refine (ho.out _).mono ?_; rintro e w2 ⟨rfl, hb2⟩; have hb3 := hb.trans (hb2.mono hb.size); have hc := cells5 hb3; have c0 := fun o => (hc o).1; have c1 := fun o => (hc o).2.1; have c2 := fun o => (hc o).2.2.1; have c3 := fun o => (hc o).2.2.2.1; have c4 := fun o => (hc o).2.2.2.2; clear hc))
  all_goals
    have hb4 := (below1 hb3).alloc (below1 hb3).size
    clear c0 c1 c2 c3 c4 hi ho hm hbits hb2 hb hb3
    go_ret2
    refine ⟨ret_tb ?_, hb4 _⟩
    first | (simp_all; done) | (rw [Bool.eq_iff_iff]; simp_all; done) | (rw [Bool.eq_iff_iff]; simp_all; omega)
set_option maxRecDepth 100000 in
theorem good2_c (b : Bool) (n : Nat) (s : ByteArray) (i : Int) (w : World) :
    Calls Tryz.prog 53 #[VV 2 b n s i] w fun e w' => e = .returned (.tuple #[.iface 144 (.agg #[]), .bool (!b && (decide (s.toList = []) && (decide (i = 0) && decide (n = 0))))]) ∧ Below w.heap.size w w' := by
  have hi := Fact.mk (in2_c b n s i (w.alloc (.cells #[.int .i64 2, .bool b, .float .f64 n, .string s, .int .i64 i] 35)))
  have ho := Fact.mk (open2_c )
  have hm := meth2 
  have hbits := run_bits n
  skip
  unfold VV at *
  go_enter Tryz.func53, Tryz.ntmps53
  go_wp2_with (first | (go_at_call 67; refine hi.out.mono ?_; rintro e w1 ⟨rfl, hb⟩) | (go_at_call 116; refine (ho.out _).mono ?_; rintro e w2 ⟨rfl, hb2⟩; have hb3 := hb.trans (hb2.mono hb.size); have hc := cells5 hb3; have c0 := fun o => (hc o).1; have c1 := fun o => (hc o).2.1; have c2 := fun o => (hc o).2.2.1; have c3 := fun o => (hc o).2.2.2.1; have c4 := fun o => (hc o).2.2.2.2; clear hc))
  all_goals
    have hb4 := (below1 hb3).alloc (below1 hb3).size
    clear c0 c1 c2 c3 c4 hi ho hm hbits hb2 hb hb3
    go_ret2
    refine ⟨ret_tb ?_, hb4 _⟩
    first | (simp_all; done) | (rw [Bool.eq_iff_iff]; simp_all; done) | (rw [Bool.eq_iff_iff]; simp_all; omega)
set_option maxRecDepth 100000 in
theorem good3_c (b : Bool) (n : Nat) (s : ByteArray) (i : Int) (w : World) :
    Calls Tryz.prog 53 #[VV 3 b n s i] w fun e w' => e = .returned (.tuple #[.iface 145 (.bool b), .bool (decide (s.toList = []) && (decide (i = 0) && decide (n = 0)))]) ∧ Below w.heap.size w w' := by
  have hi := Fact.mk (in3_c b n s i (w.alloc (.cells #[.int .i64 3, .bool b, .float .f64 n, .string s, .int .i64 i] 35)))
  have ho := Fact.mk (open3_c b )
  have hm := meth3 b 
  have hbits := run_bits n
  skip
  unfold VV at *
  go_enter Tryz.func53, Tryz.ntmps53
  go_wp2_with (first | (go_at_call 67; refine hi.out.mono ?_; rintro e w1 ⟨rfl, hb⟩) | (go_at_call 117; refine (ho.out _).mono ?_; rintro e w2 ⟨rfl, hb2⟩; have hb3 := hb.trans (hb2.mono hb.size); have hc := cells5 hb3; have c0 := fun o => (hc o).1; have c1 := fun o => (hc o).2.1; have c2 := fun o => (hc o).2.2.1; have c3 := fun o => (hc o).2.2.2.1; have c4 := fun o => (hc o).2.2.2.2; clear hc))
  all_goals
    have hb4 := (below1 hb3).alloc (below1 hb3).size
    clear c0 c1 c2 c3 c4 hi ho hm hbits hb2 hb hb3
    go_ret2
    refine ⟨ret_tb ?_, hb4 _⟩
    first | (simp_all; done) | (rw [Bool.eq_iff_iff]; simp_all; done) | (rw [Bool.eq_iff_iff]; simp_all; omega)
set_option maxRecDepth 100000 in
theorem good4_c (b : Bool) (n : Nat) (s : ByteArray) (i : Int) (w : World) :
    Calls Tryz.prog 53 #[VV 4 b n s i] w fun e w' => e = .returned (.tuple #[.iface 146 (.float .f64 n), .bool (!b && (decide (s.toList = []) && decide (i = 0)))]) ∧ Below w.heap.size w w' := by
  have hi := Fact.mk (in4_c b n s i (w.alloc (.cells #[.int .i64 4, .bool b, .float .f64 n, .string s, .int .i64 i] 35)))
  have ho := Fact.mk (open4_c n )
  have hm := meth4 n 
  have hbits := run_bits n
  skip
  unfold VV at *
  go_enter Tryz.func53, Tryz.ntmps53
  go_wp2_with (first | (go_at_call 67; refine hi.out.mono ?_; rintro e w1 ⟨rfl, hb⟩) | (go_at_call 118; refine (ho.out _).mono ?_; rintro e w2 ⟨rfl, hb2⟩; have hb3 := hb.trans (hb2.mono hb.size); have hc := cells5 hb3; have c0 := fun o => (hc o).1; have c1 := fun o => (hc o).2.1; have c2 := fun o => (hc o).2.2.1; have c3 := fun o => (hc o).2.2.2.1; have c4 := fun o => (hc o).2.2.2.2; clear hc))
  all_goals
    have hb4 := (below1 hb3).alloc (below1 hb3).size
    clear c0 c1 c2 c3 c4 hi ho hm hbits hb2 hb hb3
    go_ret2
    refine ⟨ret_tb ?_, hb4 _⟩
    first | (simp_all; done) | (rw [Bool.eq_iff_iff]; simp_all; done) | (rw [Bool.eq_iff_iff]; simp_all; omega)
set_option maxRecDepth 100000 in
theorem good5_c (b : Bool) (n : Nat) (s : ByteArray) (i : Int) (w : World) (hT : Fact (Tabs w)) (g1 : (s.size : Int) ≤ 1048576) (g2 : (Pt.all s).2 = true) :
    Calls Tryz.prog 53 #[VV 5 b n s i] w fun e w' => e = .returned (.tuple #[.iface 102 (.string s), .bool (!b && (decide (i = 0) && decide (n = 0)))]) ∧ Below w.heap.size w w' := by
  have hi := Fact.mk (in5_c b n s i (w.alloc (.cells #[.int .i64 5, .bool b, .float .f64 n, .string s, .int .i64 i] 35)) ⟨hT.out.below ((Below.refl _ _).alloc (Nat.le_refl _) _)⟩ g1 g2)
  have ho := Fact.mk (open5_c s )
  have hm := meth5 s 
  have hbits := run_bits n
  clear g2
  unfold VV at *
  go_enter Tryz.func53, Tryz.ntmps53
  go_wp2_with (first | (go_at_call 67; refine hi.out.mono ?_; rintro e w1 ⟨rfl, hb⟩) | (go_at_call 52; refine (ho.out _).mono ?_; rintro e w2 ⟨rfl, hb2⟩; have hb3 := hb.trans (hb2.mono hb.size); have hc := cells5 hb3; have c0 := fun o => (hc o).1; have c1 := fun o => (hc o).2.1; have c2 := fun o => (hc o).2.2.1; have c3 := fun o => (hc o).2.2.2.1; have c4 := fun o => (hc o).2.2.2.2; clear hc))
  all_goals
    have hb4 := (below1 hb3).alloc (below1 hb3).size
    clear c0 c1 c2 c3 c4 hi ho hm hbits hb2 hb hb3
    go_ret2
    refine ⟨ret_tb ?_, hb4 _⟩
    first | (simp_all; done) | (rw [Bool.eq_iff_iff]; simp_all; done) | (rw [Bool.eq_iff_iff]; simp_all; omega)
set_option maxRecDepth 100000 in
theorem good6_c (b : Bool) (n : Nat) (s : ByteArray) (i : Int) (w : World) (g1 : 1 ≤ i) (g2 : i ≤ 65536) :
    Calls Tryz.prog 53 #[VV 6 b n s i] w fun e w' => e = .returned (.tuple #[.iface 147 (.int .i64 i), .bool (!b && (decide (s.toList = []) && decide (n = 0)))]) ∧ Below w.heap.size w w' := by
  have hi := Fact.mk (in6_c b n s i (w.alloc (.cells #[.int .i64 6, .bool b, .float .f64 n, .string s, .int .i64 i] 35)) g1 g2)
  have ho := Fact.mk (open6_c i )
  have hm := meth6 i 
  have hbits := run_bits n
  clear g1 g2
  unfold VV at *
  go_enter Tryz.func53, Tryz.ntmps53
  go_wp2_with (first | (go_at_call 67; refine hi.out.mono ?_; rintro e w1 ⟨rfl, hb⟩) | (go_at_call 119; refine (ho.out _).mono ?_; rintro e w2 ⟨rfl, hb2⟩; have hb3 := hb.trans (hb2.mono hb.size); have hc := cells5 hb3; have c0 := fun o => (hc o).1; have c1 := fun o => (hc o).2.1; have c2 := fun o => (hc o).2.2.1; have c3 := fun o => (hc o).2.2.2.1; have c4 := fun o => (hc o).2.2.2.2; clear hc))
  all_goals
    have hb4 := (below1 hb3).alloc (below1 hb3).size
    clear c0 c1 c2 c3 c4 hi ho hm hbits hb2 hb hb3
    go_ret2
    refine ⟨ret_tb ?_, hb4 _⟩
    first | (simp_all; done) | (rw [Bool.eq_iff_iff]; simp_all; done) | (rw [Bool.eq_iff_iff]; simp_all; omega)
set_option maxRecDepth 100000 in
theorem good7_c (b : Bool) (n : Nat) (s : ByteArray) (i : Int) (w : World) (g1 : 1 ≤ i) (g2 : i ≤ 65536) :
    Calls Tryz.prog 53 #[VV 7 b n s i] w fun e w' => e = .returned (.tuple #[.iface 148 (.int .i64 i), .bool (!b && (decide (s.toList = []) && decide (n = 0)))]) ∧ Below w.heap.size w w' := by
  have hi := Fact.mk (in7_c b n s i (w.alloc (.cells #[.int .i64 7, .bool b, .float .f64 n, .string s, .int .i64 i] 35)) g1 g2)
  have ho := Fact.mk (open7_c i )
  have hm := meth7 i 
  have hbits := run_bits n
  clear g1 g2
  unfold VV at *
  go_enter Tryz.func53, Tryz.ntmps53
  go_wp2_with (first | (go_at_call 67; refine hi.out.mono ?_; rintro e w1 ⟨rfl, hb⟩) | (go_at_call 120; refine (ho.out _).mono ?_; rintro e w2 ⟨rfl, hb2⟩; have hb3 := hb.trans (hb2.mono hb.size); have hc := cells5 hb3; have c0 := fun o => (hc o).1; have c1 := fun o => (hc o).2.1; have c2 := fun o => (hc o).2.2.1; have c3 := fun o => (hc o).2.2.2.1; have c4 := fun o => (hc o).2.2.2.2; clear hc))
  all_goals
    have hb4 := (below1 hb3).alloc (below1 hb3).size
    clear c0 c1 c2 c3 c4 hi ho hm hbits hb2 hb hb3
    go_ret2
    refine ⟨ret_tb ?_, hb4 _⟩
    first | (simp_all; done) | (rw [Bool.eq_iff_iff]; simp_all; done) | (rw [Bool.eq_iff_iff]; simp_all; omega)
set_option maxRecDepth 100000 in
theorem goodf_c (k : Int) (b : Bool) (n : Nat) (s : ByteArray) (i : Int) (w : World) (hi : Fact (∀ w', Below w.heap.size w w' → Calls Tryz.prog 67 #[VV k b n s i] w' fun e w'' => e = .returned .nilIface ∧ Below w'.heap.size w' w'')) :
    Calls Tryz.prog 53 #[VV k b n s i] w fun e w' => e = .returned (.tuple #[.nilIface, .bool false]) ∧ Below w.heap.size w w' := by
  have hi2 := Fact.mk (hi.out (w.alloc (.cells #[.int .i64 k, .bool b, .float .f64 n, .string s, .int .i64 i] 35)) ((Below.refl _ _).alloc (Nat.le_refl _) _))
  clear hi
  unfold VV at *
  go_enter Tryz.func53, Tryz.ntmps53
  go_wp2_with (go_at_call 67; refine hi2.out.mono ?_; rintro e w1 ⟨rfl, hb⟩)
  go_ret2
  exact ⟨rfl, below1 hb⟩
end Go.Proofs.YtnknfffldgkgcaaGreatDoor
