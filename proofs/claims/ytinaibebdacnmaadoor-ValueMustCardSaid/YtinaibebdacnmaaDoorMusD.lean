/- value.Must: what it answers, and what it panics with. -/
import Derived.Test.YtinaibebdacnmaaDoorMusC
namespace Go.Proofs.YtinaibebdacnmaaDoor
open Go.RowKit Go.Proofs.YtinaibebdacnmaaDoorW.PrintWords
attribute [local go_sem] run_store_float

/-- It panics with a *Wrong of two kinds. -/
def Bad (kd got : Int) (w : World) (e : Ending) (w' : World) : Prop := ∃ g older, e = .panicked ({ v := .iface 57 (.pointer (some ⟨g, 0, none⟩)), recovered := false } :: older) ∧ older.dropWhile (!·.goexit) = [] ∧ w'.heap[g]? = some (.cells #[.int .i64 kd, .int .i64 got] 62 (0, 0)) ∧ Below w.heap.size w w'

theorem three {w W' : World} {o1 o2 o3 : Obj} (hb : Below (((w.alloc o1).alloc o2).alloc o3).heap.size (((w.alloc o1).alloc o2).alloc o3) W') :
    W'.heap[w.heap.size]? = some o1 ∧ W'.heap[w.heap.size + 1]? = some o2 ∧ W'.heap[w.heap.size + 1 + 1]? = some o3 ∧ Below w.heap.size w W' := by
  refine ⟨keepH0 (old_alloc' (old_alloc' (heap_alloc_new w o1) _) _) hb, keepH0 (old_alloc' (heap_alloc2_new w o1 o2) _) hb, keepH0 ?_ hb, ?_⟩
  · have := heap_alloc_new ((w.alloc o1).alloc o2) o3
    simpa using this
  · exact ((((Below.refl _ _).alloc (Nat.le_refl _) _).alloc (by simp) _).alloc (by simp; omega) _).trans (hb.mono (by simp; omega))
theorem b3 (w : World) (o1 o2 o3 : Obj) : Below w.heap.size w (((w.alloc o1).alloc o2).alloc o3) := (((Below.refl _ _).alloc (Nat.le_refl _) _).alloc (by simp) _).alloc (by simp; omega) _

/-- The frame leaves by Must's closure behind a failed assertion. -/
theorem leave_other {w W : World} {fn : Func} {tmps : Array Value} {kd k : Int} {y1 y2 y3 y4 : Value} {r : Addr} (hE : HE w) (hB : Below w.heap.size w W) (h1 : W.heap[w.heap.size]? = some (.cells #[.int .i64 kd] 3 (0, 0))) (h2 : W.heap[w.heap.size + 1]? = some (.cells #[.int .i64 k, y1, y2, y3, y4] 32 (0, 0))) :
    Leaves Tryd.prog fn tmps (Bad kd k w) [{ target := .fn (.func 70) #[.pointer (some ⟨w.heap.size, 0, none⟩), .pointer (some ⟨w.heap.size + 1, 0, none⟩)], args := #[] }] (.panicking [{ v := .iface 15 (.pointer (some r)), recovered := false }]) W := by
  refine leaves_cons (f := 70) (args := #[.pointer (some ⟨w.heap.size, 0, none⟩), .pointer (some ⟨w.heap.size + 1, 0, none⟩)]) (by simp) (by simp [go_sem]) ?_
  refine (vc_other w.heap.size (w.heap.size + 1) kd k _ _ y1 y2 y3 y4 r [] W (hE.below hB) h1 h2).mono ?_
  rintro e u' w'' ⟨g, rfl, rfl, hg, hb⟩
  exact ⟨g, _, rfl, rfl, hg, hB.trans (hb.mono hB.size)⟩
/-- .. behind a *Wrong. -/
theorem leave_wrong {w W : World} {fn : Func} {tmps : Array Value} {kd k : Int} {g : Nat} (hE : HE w) (hB : Below w.heap.size w W) (hg : W.heap[g]? = some (.cells #[.int .i64 kd, .int .i64 k] 62 (0, 0))) :
    Leaves Tryd.prog fn tmps (Bad kd k w) [{ target := .fn (.func 70) #[.pointer (some ⟨w.heap.size, 0, none⟩), .pointer (some ⟨w.heap.size + 1, 0, none⟩)], args := #[] }] (.panicking [{ v := .iface 57 (.pointer (some ⟨g, 0, none⟩)), recovered := false }]) W := by
  refine leaves_cons (f := 70) (args := #[.pointer (some ⟨w.heap.size, 0, none⟩), .pointer (some ⟨w.heap.size + 1, 0, none⟩)]) (by simp) (by simp [go_sem]) ?_
  refine (vc_wrong w.heap.size (w.heap.size + 1) g [] W (hE.below hB)).mono ?_
  rintro e u' w'' ⟨rfl, rfl, hb⟩
  exact ⟨g, _, rfl, rfl, keepH0 hg hb, hB.trans (hb.mono hB.size)⟩
/-- .. and where it returns. -/
theorem leave_ret {W : World} {fn : Func} {tmps : Array Value} {R : Ending → World → Prop} {p1 p2 : Nat} {v : Value} (hr : (results fn tmps).run Tryd.prog W = .ok v W) (h : R (.returned v) W) :
    Leaves Tryd.prog fn tmps R [{ target := .fn (.func 70) #[.pointer (some ⟨p1, 0, none⟩), .pointer (some ⟨p2, 0, none⟩)], args := #[] }] .returning W := by
  refine leaves_cons (f := 70) (args := #[.pointer (some ⟨p1, 0, none⟩), .pointer (some ⟨p2, 0, none⟩)]) (by simp) (by simp [go_sem]) ?_
  refine (vc_idle p1 p2 W).mono ?_
  rintro e u' w'' ⟨rfl, rfl, rfl⟩
  exact ⟨_, hr, h⟩

theorem taBad1 (T : TypeId) (x : Value) (hT : T ≠ 117) (w : World) : (Instr.typeAssert (.iface T x) 96 117 false).run Tryd.prog w = .halt (.panic (.iface 15 (.pointer (some ⟨w.heap.size, 0, none⟩)))) (w.alloc (.cells #[.pointer (some ⟨7, 96, none⟩), .pointer (some ⟨7, T, none⟩), .pointer (some ⟨7, 117, none⟩), .string ⟨#[]⟩] 195)) := by
  simp [Instr.typeAssert, underlying, Tryd.underlying117, hT, runtimePanic]
  kernel_rfl
theorem taOk1 (x : Value) (w : World) : (Instr.typeAssert (.iface 117 x) 96 117 false).run Tryd.prog w = .ok x w := by kernel_rfl
theorem taBad2 (T : TypeId) (x : Value) (hT : T ≠ 118) (w : World) : (Instr.typeAssert (.iface T x) 96 118 false).run Tryd.prog w = .halt (.panic (.iface 15 (.pointer (some ⟨w.heap.size, 0, none⟩)))) (w.alloc (.cells #[.pointer (some ⟨7, 96, none⟩), .pointer (some ⟨7, T, none⟩), .pointer (some ⟨7, 118, none⟩), .string ⟨#[]⟩] 195)) := by
  simp [Instr.typeAssert, underlying, Tryd.underlying118, hT, runtimePanic]
  kernel_rfl
theorem taOk2 (x : Value) (w : World) : (Instr.typeAssert (.iface 118 x) 96 118 false).run Tryd.prog w = .ok x w := by kernel_rfl
theorem taBad3 (T : TypeId) (x : Value) (hT : T ≠ 119) (w : World) : (Instr.typeAssert (.iface T x) 96 119 false).run Tryd.prog w = .halt (.panic (.iface 15 (.pointer (some ⟨w.heap.size, 0, none⟩)))) (w.alloc (.cells #[.pointer (some ⟨7, 96, none⟩), .pointer (some ⟨7, T, none⟩), .pointer (some ⟨7, 119, none⟩), .string ⟨#[]⟩] 195)) := by
  simp [Instr.typeAssert, underlying, Tryd.underlying119, hT, runtimePanic]
  kernel_rfl
theorem taOk3 (x : Value) (w : World) : (Instr.typeAssert (.iface 119 x) 96 119 false).run Tryd.prog w = .ok x w := by kernel_rfl
theorem taBad4 (T : TypeId) (x : Value) (hT : T ≠ 120) (w : World) : (Instr.typeAssert (.iface T x) 96 120 false).run Tryd.prog w = .halt (.panic (.iface 15 (.pointer (some ⟨w.heap.size, 0, none⟩)))) (w.alloc (.cells #[.pointer (some ⟨7, 96, none⟩), .pointer (some ⟨7, T, none⟩), .pointer (some ⟨7, 120, none⟩), .string ⟨#[]⟩] 195)) := by
  simp [Instr.typeAssert, underlying, Tryd.underlying120, hT, runtimePanic]
  kernel_rfl
theorem taOk4 (x : Value) (w : World) : (Instr.typeAssert (.iface 120 x) 96 120 false).run Tryd.prog w = .ok x w := by kernel_rfl
theorem taBad5 (T : TypeId) (x : Value) (hT : T ≠ 93) (w : World) : (Instr.typeAssert (.iface T x) 96 93 false).run Tryd.prog w = .halt (.panic (.iface 15 (.pointer (some ⟨w.heap.size, 0, none⟩)))) (w.alloc (.cells #[.pointer (some ⟨7, 96, none⟩), .pointer (some ⟨7, T, none⟩), .pointer (some ⟨7, 93, none⟩), .string ⟨#[]⟩] 195)) := by
  simp [Instr.typeAssert, underlying, Tryd.underlying93, hT, runtimePanic]
  kernel_rfl
theorem taOk5 (x : Value) (w : World) : (Instr.typeAssert (.iface 93 x) 96 93 false).run Tryd.prog w = .ok x w := by kernel_rfl
theorem taBad6 (T : TypeId) (x : Value) (hT : T ≠ 121) (w : World) : (Instr.typeAssert (.iface T x) 96 121 false).run Tryd.prog w = .halt (.panic (.iface 15 (.pointer (some ⟨w.heap.size, 0, none⟩)))) (w.alloc (.cells #[.pointer (some ⟨7, 96, none⟩), .pointer (some ⟨7, T, none⟩), .pointer (some ⟨7, 121, none⟩), .string ⟨#[]⟩] 195)) := by
  simp [Instr.typeAssert, underlying, Tryd.underlying121, hT, runtimePanic]
  kernel_rfl
theorem taOk6 (x : Value) (w : World) : (Instr.typeAssert (.iface 121 x) 96 121 false).run Tryd.prog w = .ok x w := by kernel_rfl
theorem taBad7 (T : TypeId) (x : Value) (hT : T ≠ 122) (w : World) : (Instr.typeAssert (.iface T x) 96 122 false).run Tryd.prog w = .halt (.panic (.iface 15 (.pointer (some ⟨w.heap.size, 0, none⟩)))) (w.alloc (.cells #[.pointer (some ⟨7, 96, none⟩), .pointer (some ⟨7, T, none⟩), .pointer (some ⟨7, 122, none⟩), .string ⟨#[]⟩] 195)) := by
  simp [Instr.typeAssert, underlying, Tryd.underlying122, hT, runtimePanic]
  kernel_rfl
theorem taOk7 (x : Value) (w : World) : (Instr.typeAssert (.iface 122 x) 96 122 false).run Tryd.prog w = .ok x w := by kernel_rfl
set_option maxRecDepth 100000 in
theorem mustBad1 (T : TypeId) (x : Value) (hT : T ≠ 117) (k : Int) (b : Bool) (n : Nat) (s : ByteArray) (i : Int) (w : World) (hE : HE w) (hg : ∀ W, Below w.heap.size w W → Calls Tryd.prog 51 #[VV k b n s i] W fun e W' => e = .returned (.tuple #[.iface T x, .bool true]) ∧ Below W.heap.size W W') :
    Calls Tryd.prog 45 #[.int .i64 1, VV k b n s i] w (Bad 1 k w) := by
  have hg := Fact.mk hg
  have hta := taBad1 T x hT
  have hE := Fact.mk hE
  have hmf : ∀ (fn : Fn) (first cap : Array Value) (w : World), (Instr.makeFunc fn first cap).run Tryd.prog w = .ok (.func fn first cap) w := fun _ _ _ _ => rfl
  unfold VV at *
  go_enter_defers Tryd.func45, Tryd.ntmps45
  go_wp2_with (go_at_call 51; refine (hg.out _ (b3 _ _ _ _)).mono ?_; rintro e w1 ⟨rfl, hb⟩; obtain ⟨k1, k2, k3, hB1⟩ := three hb; have c0 := (fact1 k1).1; obtain ⟨d0, d1, d2, d3, d4, _⟩ := facts5 k2; obtain ⟨e0, e1, e2, e3, e4, f0, f1, f2, f3, f4⟩ := facts5 k3)
  exact leave_other hE.out (hB1.alloc hB1.size _) (old_alloc' k1 _) (old_alloc' k2 _)
set_option maxRecDepth 100000 in
theorem mustOk1 (b : Bool) (n : Nat) (s : ByteArray) (i : Int) (w : World) (hg : ∀ W, Below w.heap.size w W → Calls Tryd.prog 51 #[VV 1 b n s i] W fun e W' => e = .returned (.tuple #[.iface 117 (.agg #[]), .bool true]) ∧ Below W.heap.size W W') :
    Calls Tryd.prog 45 #[.int .i64 1, VV 1 b n s i] w fun e w' => e = .returned (VV 1 false 0 ⟨#[]⟩ 0) ∧ Below w.heap.size w w' := by
  have hg := Fact.mk hg
  have hta := taOk1
  have ho := Fact.mk (open1_c )
  have hmf : ∀ (fn : Fn) (first cap : Array Value) (w : World), (Instr.makeFunc fn first cap).run Tryd.prog w = .ok (.func fn first cap) w := fun _ _ _ _ => rfl
  unfold VV at *
  go_enter_defers Tryd.func45, Tryd.ntmps45
  go_wp2_with (first | (go_at_call 51; refine (hg.out _ (b3 _ _ _ _)).mono ?_; rintro e w1 ⟨rfl, hb⟩; obtain ⟨k1, k2, k3, hB1⟩ := three hb; have c0 := (fact1 k1).1; obtain ⟨d0, d1, d2, d3, d4, _⟩ := facts5 k2; obtain ⟨e0, e1, e2, e3, e4, f0, f1, f2, f3, f4⟩ := facts5 k3) | (go_at_call 72; refine (ho.out _).mono ?_; rintro e w2 ⟨rfl, hb2⟩; clear e0 e1 e2 e3 e4 f0 f1 f2 f3 f4; have k4 := keepH0 k3 hb2; obtain ⟨e0, e1, e2, e3, e4, f0, f1, f2, f3, f4⟩ := facts5 k4))
  refine leave_ret (results_cell_row rfl _ _ (w.heap.size + 1 + 1) _ _ _ _ rfl (set5 k4 _ _ _ _ _) Tryd.underlying32 rfl (by kernel_rfl)) ?_
  exact ⟨rfl, setB5 (hB1.trans (hb2.mono hB1.size)) (by omega) _ _ _ _ _⟩
set_option maxRecDepth 100000 in
theorem mustBad2 (T : TypeId) (x : Value) (hT : T ≠ 118) (k : Int) (b : Bool) (n : Nat) (s : ByteArray) (i : Int) (w : World) (hE : HE w) (hg : ∀ W, Below w.heap.size w W → Calls Tryd.prog 51 #[VV k b n s i] W fun e W' => e = .returned (.tuple #[.iface T x, .bool true]) ∧ Below W.heap.size W W') :
    Calls Tryd.prog 45 #[.int .i64 2, VV k b n s i] w (Bad 2 k w) := by
  have hg := Fact.mk hg
  have hta := taBad2 T x hT
  have hE := Fact.mk hE
  have hmf : ∀ (fn : Fn) (first cap : Array Value) (w : World), (Instr.makeFunc fn first cap).run Tryd.prog w = .ok (.func fn first cap) w := fun _ _ _ _ => rfl
  unfold VV at *
  go_enter_defers Tryd.func45, Tryd.ntmps45
  go_wp2_with (go_at_call 51; refine (hg.out _ (b3 _ _ _ _)).mono ?_; rintro e w1 ⟨rfl, hb⟩; obtain ⟨k1, k2, k3, hB1⟩ := three hb; have c0 := (fact1 k1).1; obtain ⟨d0, d1, d2, d3, d4, _⟩ := facts5 k2; obtain ⟨e0, e1, e2, e3, e4, f0, f1, f2, f3, f4⟩ := facts5 k3)
  exact leave_other hE.out (hB1.alloc hB1.size _) (old_alloc' k1 _) (old_alloc' k2 _)
set_option maxRecDepth 100000 in
theorem mustOk2 (b : Bool) (n : Nat) (s : ByteArray) (i : Int) (w : World) (hg : ∀ W, Below w.heap.size w W → Calls Tryd.prog 51 #[VV 2 b n s i] W fun e W' => e = .returned (.tuple #[.iface 118 (.agg #[]), .bool true]) ∧ Below W.heap.size W W') :
    Calls Tryd.prog 45 #[.int .i64 2, VV 2 b n s i] w fun e w' => e = .returned (VV 2 false 0 ⟨#[]⟩ 0) ∧ Below w.heap.size w w' := by
  have hg := Fact.mk hg
  have hta := taOk2
  have ho := Fact.mk (open2_c )
  have hmf : ∀ (fn : Fn) (first cap : Array Value) (w : World), (Instr.makeFunc fn first cap).run Tryd.prog w = .ok (.func fn first cap) w := fun _ _ _ _ => rfl
  unfold VV at *
  go_enter_defers Tryd.func45, Tryd.ntmps45
  go_wp2_with (first | (go_at_call 51; refine (hg.out _ (b3 _ _ _ _)).mono ?_; rintro e w1 ⟨rfl, hb⟩; obtain ⟨k1, k2, k3, hB1⟩ := three hb; have c0 := (fact1 k1).1; obtain ⟨d0, d1, d2, d3, d4, _⟩ := facts5 k2; obtain ⟨e0, e1, e2, e3, e4, f0, f1, f2, f3, f4⟩ := facts5 k3) | (go_at_call 73; refine (ho.out _).mono ?_; rintro e w2 ⟨rfl, hb2⟩; clear e0 e1 e2 e3 e4 f0 f1 f2 f3 f4; have k4 := keepH0 k3 hb2; obtain ⟨e0, e1, e2, e3, e4, f0, f1, f2, f3, f4⟩ := facts5 k4))
  refine leave_ret (results_cell_row rfl _ _ (w.heap.size + 1 + 1) _ _ _ _ rfl (set5 k4 _ _ _ _ _) Tryd.underlying32 rfl (by kernel_rfl)) ?_
  exact ⟨rfl, setB5 (hB1.trans (hb2.mono hB1.size)) (by omega) _ _ _ _ _⟩
set_option maxRecDepth 100000 in
theorem mustBad3 (T : TypeId) (x : Value) (hT : T ≠ 119) (k : Int) (b : Bool) (n : Nat) (s : ByteArray) (i : Int) (w : World) (hE : HE w) (hg : ∀ W, Below w.heap.size w W → Calls Tryd.prog 51 #[VV k b n s i] W fun e W' => e = .returned (.tuple #[.iface T x, .bool true]) ∧ Below W.heap.size W W') :
    Calls Tryd.prog 45 #[.int .i64 3, VV k b n s i] w (Bad 3 k w) := by
  have hg := Fact.mk hg
  have hta := taBad3 T x hT
  have hE := Fact.mk hE
  have hmf : ∀ (fn : Fn) (first cap : Array Value) (w : World), (Instr.makeFunc fn first cap).run Tryd.prog w = .ok (.func fn first cap) w := fun _ _ _ _ => rfl
  unfold VV at *
  go_enter_defers Tryd.func45, Tryd.ntmps45
  go_wp2_with (go_at_call 51; refine (hg.out _ (b3 _ _ _ _)).mono ?_; rintro e w1 ⟨rfl, hb⟩; obtain ⟨k1, k2, k3, hB1⟩ := three hb; have c0 := (fact1 k1).1; obtain ⟨d0, d1, d2, d3, d4, _⟩ := facts5 k2; obtain ⟨e0, e1, e2, e3, e4, f0, f1, f2, f3, f4⟩ := facts5 k3)
  exact leave_other hE.out (hB1.alloc hB1.size _) (old_alloc' k1 _) (old_alloc' k2 _)
set_option maxRecDepth 100000 in
theorem mustOk3 (b : Bool) (n : Nat) (s : ByteArray) (i : Int) (w : World) (hg : ∀ W, Below w.heap.size w W → Calls Tryd.prog 51 #[VV 3 b n s i] W fun e W' => e = .returned (.tuple #[.iface 119 (.bool b), .bool true]) ∧ Below W.heap.size W W') :
    Calls Tryd.prog 45 #[.int .i64 3, VV 3 b n s i] w fun e w' => e = .returned (VV 3 b 0 ⟨#[]⟩ 0) ∧ Below w.heap.size w w' := by
  have hg := Fact.mk hg
  have hta := taOk3
  have ho := Fact.mk (open3_c b)
  have hmf : ∀ (fn : Fn) (first cap : Array Value) (w : World), (Instr.makeFunc fn first cap).run Tryd.prog w = .ok (.func fn first cap) w := fun _ _ _ _ => rfl
  unfold VV at *
  go_enter_defers Tryd.func45, Tryd.ntmps45
  go_wp2_with (first | (go_at_call 51; refine (hg.out _ (b3 _ _ _ _)).mono ?_; rintro e w1 ⟨rfl, hb⟩; obtain ⟨k1, k2, k3, hB1⟩ := three hb; have c0 := (fact1 k1).1; obtain ⟨d0, d1, d2, d3, d4, _⟩ := facts5 k2; obtain ⟨e0, e1, e2, e3, e4, f0, f1, f2, f3, f4⟩ := facts5 k3) | (go_at_call 74; refine (ho.out _).mono ?_; rintro e w2 ⟨rfl, hb2⟩; clear e0 e1 e2 e3 e4 f0 f1 f2 f3 f4; have k4 := keepH0 k3 hb2; obtain ⟨e0, e1, e2, e3, e4, f0, f1, f2, f3, f4⟩ := facts5 k4))
  refine leave_ret (results_cell_row rfl _ _ (w.heap.size + 1 + 1) _ _ _ _ rfl (set5 k4 _ _ _ _ _) Tryd.underlying32 rfl (by kernel_rfl)) ?_
  exact ⟨rfl, setB5 (hB1.trans (hb2.mono hB1.size)) (by omega) _ _ _ _ _⟩
set_option maxRecDepth 100000 in
theorem mustBad4 (T : TypeId) (x : Value) (hT : T ≠ 120) (k : Int) (b : Bool) (n : Nat) (s : ByteArray) (i : Int) (w : World) (hE : HE w) (hg : ∀ W, Below w.heap.size w W → Calls Tryd.prog 51 #[VV k b n s i] W fun e W' => e = .returned (.tuple #[.iface T x, .bool true]) ∧ Below W.heap.size W W') :
    Calls Tryd.prog 45 #[.int .i64 4, VV k b n s i] w (Bad 4 k w) := by
  have hg := Fact.mk hg
  have hta := taBad4 T x hT
  have hE := Fact.mk hE
  have hmf : ∀ (fn : Fn) (first cap : Array Value) (w : World), (Instr.makeFunc fn first cap).run Tryd.prog w = .ok (.func fn first cap) w := fun _ _ _ _ => rfl
  unfold VV at *
  go_enter_defers Tryd.func45, Tryd.ntmps45
  go_wp2_with (go_at_call 51; refine (hg.out _ (b3 _ _ _ _)).mono ?_; rintro e w1 ⟨rfl, hb⟩; obtain ⟨k1, k2, k3, hB1⟩ := three hb; have c0 := (fact1 k1).1; obtain ⟨d0, d1, d2, d3, d4, _⟩ := facts5 k2; obtain ⟨e0, e1, e2, e3, e4, f0, f1, f2, f3, f4⟩ := facts5 k3)
  exact leave_other hE.out (hB1.alloc hB1.size _) (old_alloc' k1 _) (old_alloc' k2 _)
set_option maxRecDepth 100000 in
theorem mustOk4 (b : Bool) (n : Nat) (s : ByteArray) (i : Int) (w : World) (hg : ∀ W, Below w.heap.size w W → Calls Tryd.prog 51 #[VV 4 b n s i] W fun e W' => e = .returned (.tuple #[.iface 120 (.float .f64 n), .bool true]) ∧ Below W.heap.size W W') :
    Calls Tryd.prog 45 #[.int .i64 4, VV 4 b n s i] w fun e w' => e = .returned (VV 4 false n ⟨#[]⟩ 0) ∧ Below w.heap.size w w' := by
  have hg := Fact.mk hg
  have hta := taOk4
  have ho := Fact.mk (open4_c n)
  have hmf : ∀ (fn : Fn) (first cap : Array Value) (w : World), (Instr.makeFunc fn first cap).run Tryd.prog w = .ok (.func fn first cap) w := fun _ _ _ _ => rfl
  unfold VV at *
  go_enter_defers Tryd.func45, Tryd.ntmps45
  go_wp2_with (first | (go_at_call 51; refine (hg.out _ (b3 _ _ _ _)).mono ?_; rintro e w1 ⟨rfl, hb⟩; obtain ⟨k1, k2, k3, hB1⟩ := three hb; have c0 := (fact1 k1).1; obtain ⟨d0, d1, d2, d3, d4, _⟩ := facts5 k2; obtain ⟨e0, e1, e2, e3, e4, f0, f1, f2, f3, f4⟩ := facts5 k3) | (go_at_call 75; refine (ho.out _).mono ?_; rintro e w2 ⟨rfl, hb2⟩; clear e0 e1 e2 e3 e4 f0 f1 f2 f3 f4; have k4 := keepH0 k3 hb2; obtain ⟨e0, e1, e2, e3, e4, f0, f1, f2, f3, f4⟩ := facts5 k4))
  refine leave_ret (results_cell_row rfl _ _ (w.heap.size + 1 + 1) _ _ _ _ rfl (set5 k4 _ _ _ _ _) Tryd.underlying32 rfl (by kernel_rfl)) ?_
  exact ⟨rfl, setB5 (hB1.trans (hb2.mono hB1.size)) (by omega) _ _ _ _ _⟩
set_option maxRecDepth 100000 in
theorem mustBad5 (T : TypeId) (x : Value) (hT : T ≠ 93) (k : Int) (b : Bool) (n : Nat) (s : ByteArray) (i : Int) (w : World) (hE : HE w) (hg : ∀ W, Below w.heap.size w W → Calls Tryd.prog 51 #[VV k b n s i] W fun e W' => e = .returned (.tuple #[.iface T x, .bool true]) ∧ Below W.heap.size W W') :
    Calls Tryd.prog 45 #[.int .i64 5, VV k b n s i] w (Bad 5 k w) := by
  have hg := Fact.mk hg
  have hta := taBad5 T x hT
  have hE := Fact.mk hE
  have hmf : ∀ (fn : Fn) (first cap : Array Value) (w : World), (Instr.makeFunc fn first cap).run Tryd.prog w = .ok (.func fn first cap) w := fun _ _ _ _ => rfl
  unfold VV at *
  go_enter_defers Tryd.func45, Tryd.ntmps45
  go_wp2_with (go_at_call 51; refine (hg.out _ (b3 _ _ _ _)).mono ?_; rintro e w1 ⟨rfl, hb⟩; obtain ⟨k1, k2, k3, hB1⟩ := three hb; have c0 := (fact1 k1).1; obtain ⟨d0, d1, d2, d3, d4, _⟩ := facts5 k2; obtain ⟨e0, e1, e2, e3, e4, f0, f1, f2, f3, f4⟩ := facts5 k3)
  exact leave_other hE.out (hB1.alloc hB1.size _) (old_alloc' k1 _) (old_alloc' k2 _)
set_option maxRecDepth 100000 in
theorem mustOk5 (b : Bool) (n : Nat) (s : ByteArray) (i : Int) (w : World) (hg : ∀ W, Below w.heap.size w W → Calls Tryd.prog 51 #[VV 5 b n s i] W fun e W' => e = .returned (.tuple #[.iface 93 (.string s), .bool true]) ∧ Below W.heap.size W W') :
    Calls Tryd.prog 45 #[.int .i64 5, VV 5 b n s i] w fun e w' => e = .returned (VV 5 false 0 s 0) ∧ Below w.heap.size w w' := by
  have hg := Fact.mk hg
  have hta := taOk5
  have ho := Fact.mk (open5_c s)
  have hmf : ∀ (fn : Fn) (first cap : Array Value) (w : World), (Instr.makeFunc fn first cap).run Tryd.prog w = .ok (.func fn first cap) w := fun _ _ _ _ => rfl
  unfold VV at *
  go_enter_defers Tryd.func45, Tryd.ntmps45
  go_wp2_with (first | (go_at_call 51; refine (hg.out _ (b3 _ _ _ _)).mono ?_; rintro e w1 ⟨rfl, hb⟩; obtain ⟨k1, k2, k3, hB1⟩ := three hb; have c0 := (fact1 k1).1; obtain ⟨d0, d1, d2, d3, d4, _⟩ := facts5 k2; obtain ⟨e0, e1, e2, e3, e4, f0, f1, f2, f3, f4⟩ := facts5 k3) | (go_at_call 50; refine (ho.out _).mono ?_; rintro e w2 ⟨rfl, hb2⟩; clear e0 e1 e2 e3 e4 f0 f1 f2 f3 f4; have k4 := keepH0 k3 hb2; obtain ⟨e0, e1, e2, e3, e4, f0, f1, f2, f3, f4⟩ := facts5 k4))
  refine leave_ret (results_cell_row rfl _ _ (w.heap.size + 1 + 1) _ _ _ _ rfl (set5 k4 _ _ _ _ _) Tryd.underlying32 rfl (by kernel_rfl)) ?_
  exact ⟨rfl, setB5 (hB1.trans (hb2.mono hB1.size)) (by omega) _ _ _ _ _⟩
set_option maxRecDepth 100000 in
theorem mustBad6 (T : TypeId) (x : Value) (hT : T ≠ 121) (k : Int) (b : Bool) (n : Nat) (s : ByteArray) (i : Int) (w : World) (hE : HE w) (hg : ∀ W, Below w.heap.size w W → Calls Tryd.prog 51 #[VV k b n s i] W fun e W' => e = .returned (.tuple #[.iface T x, .bool true]) ∧ Below W.heap.size W W') :
    Calls Tryd.prog 45 #[.int .i64 6, VV k b n s i] w (Bad 6 k w) := by
  have hg := Fact.mk hg
  have hta := taBad6 T x hT
  have hE := Fact.mk hE
  have hmf : ∀ (fn : Fn) (first cap : Array Value) (w : World), (Instr.makeFunc fn first cap).run Tryd.prog w = .ok (.func fn first cap) w := fun _ _ _ _ => rfl
  unfold VV at *
  go_enter_defers Tryd.func45, Tryd.ntmps45
  go_wp2_with (go_at_call 51; refine (hg.out _ (b3 _ _ _ _)).mono ?_; rintro e w1 ⟨rfl, hb⟩; obtain ⟨k1, k2, k3, hB1⟩ := three hb; have c0 := (fact1 k1).1; obtain ⟨d0, d1, d2, d3, d4, _⟩ := facts5 k2; obtain ⟨e0, e1, e2, e3, e4, f0, f1, f2, f3, f4⟩ := facts5 k3)
  exact leave_other hE.out (hB1.alloc hB1.size _) (old_alloc' k1 _) (old_alloc' k2 _)
set_option maxRecDepth 100000 in
theorem mustOk6 (b : Bool) (n : Nat) (s : ByteArray) (i : Int) (w : World) (hg : ∀ W, Below w.heap.size w W → Calls Tryd.prog 51 #[VV 6 b n s i] W fun e W' => e = .returned (.tuple #[.iface 121 (.int .i64 i), .bool true]) ∧ Below W.heap.size W W') :
    Calls Tryd.prog 45 #[.int .i64 6, VV 6 b n s i] w fun e w' => e = .returned (VV 6 false 0 ⟨#[]⟩ i) ∧ Below w.heap.size w w' := by
  have hg := Fact.mk hg
  have hta := taOk6
  have ho := Fact.mk (open6_c i)
  have hmf : ∀ (fn : Fn) (first cap : Array Value) (w : World), (Instr.makeFunc fn first cap).run Tryd.prog w = .ok (.func fn first cap) w := fun _ _ _ _ => rfl
  unfold VV at *
  go_enter_defers Tryd.func45, Tryd.ntmps45
  go_wp2_with (first | (go_at_call 51; refine (hg.out _ (b3 _ _ _ _)).mono ?_; rintro e w1 ⟨rfl, hb⟩; obtain ⟨k1, k2, k3, hB1⟩ := three hb; have c0 := (fact1 k1).1; obtain ⟨d0, d1, d2, d3, d4, _⟩ := facts5 k2; obtain ⟨e0, e1, e2, e3, e4, f0, f1, f2, f3, f4⟩ := facts5 k3) | (go_at_call 76; refine (ho.out _).mono ?_; rintro e w2 ⟨rfl, hb2⟩; clear e0 e1 e2 e3 e4 f0 f1 f2 f3 f4; have k4 := keepH0 k3 hb2; obtain ⟨e0, e1, e2, e3, e4, f0, f1, f2, f3, f4⟩ := facts5 k4))
  refine leave_ret (results_cell_row rfl _ _ (w.heap.size + 1 + 1) _ _ _ _ rfl (set5 k4 _ _ _ _ _) Tryd.underlying32 rfl (by kernel_rfl)) ?_
  exact ⟨rfl, setB5 (hB1.trans (hb2.mono hB1.size)) (by omega) _ _ _ _ _⟩
set_option maxRecDepth 100000 in
theorem mustBad7 (T : TypeId) (x : Value) (hT : T ≠ 122) (k : Int) (b : Bool) (n : Nat) (s : ByteArray) (i : Int) (w : World) (hE : HE w) (hg : ∀ W, Below w.heap.size w W → Calls Tryd.prog 51 #[VV k b n s i] W fun e W' => e = .returned (.tuple #[.iface T x, .bool true]) ∧ Below W.heap.size W W') :
    Calls Tryd.prog 45 #[.int .i64 7, VV k b n s i] w (Bad 7 k w) := by
  have hg := Fact.mk hg
  have hta := taBad7 T x hT
  have hE := Fact.mk hE
  have hmf : ∀ (fn : Fn) (first cap : Array Value) (w : World), (Instr.makeFunc fn first cap).run Tryd.prog w = .ok (.func fn first cap) w := fun _ _ _ _ => rfl
  unfold VV at *
  go_enter_defers Tryd.func45, Tryd.ntmps45
  go_wp2_with (go_at_call 51; refine (hg.out _ (b3 _ _ _ _)).mono ?_; rintro e w1 ⟨rfl, hb⟩; obtain ⟨k1, k2, k3, hB1⟩ := three hb; have c0 := (fact1 k1).1; obtain ⟨d0, d1, d2, d3, d4, _⟩ := facts5 k2; obtain ⟨e0, e1, e2, e3, e4, f0, f1, f2, f3, f4⟩ := facts5 k3)
  exact leave_other hE.out (hB1.alloc hB1.size _) (old_alloc' k1 _) (old_alloc' k2 _)
set_option maxRecDepth 100000 in
theorem mustOk7 (b : Bool) (n : Nat) (s : ByteArray) (i : Int) (w : World) (hg : ∀ W, Below w.heap.size w W → Calls Tryd.prog 51 #[VV 7 b n s i] W fun e W' => e = .returned (.tuple #[.iface 122 (.int .i64 i), .bool true]) ∧ Below W.heap.size W W') :
    Calls Tryd.prog 45 #[.int .i64 7, VV 7 b n s i] w fun e w' => e = .returned (VV 7 false 0 ⟨#[]⟩ i) ∧ Below w.heap.size w w' := by
  have hg := Fact.mk hg
  have hta := taOk7
  have ho := Fact.mk (open7_c i)
  have hmf : ∀ (fn : Fn) (first cap : Array Value) (w : World), (Instr.makeFunc fn first cap).run Tryd.prog w = .ok (.func fn first cap) w := fun _ _ _ _ => rfl
  unfold VV at *
  go_enter_defers Tryd.func45, Tryd.ntmps45
  go_wp2_with (first | (go_at_call 51; refine (hg.out _ (b3 _ _ _ _)).mono ?_; rintro e w1 ⟨rfl, hb⟩; obtain ⟨k1, k2, k3, hB1⟩ := three hb; have c0 := (fact1 k1).1; obtain ⟨d0, d1, d2, d3, d4, _⟩ := facts5 k2; obtain ⟨e0, e1, e2, e3, e4, f0, f1, f2, f3, f4⟩ := facts5 k3) | (go_at_call 77; refine (ho.out _).mono ?_; rintro e w2 ⟨rfl, hb2⟩; clear e0 e1 e2 e3 e4 f0 f1 f2 f3 f4; have k4 := keepH0 k3 hb2; obtain ⟨e0, e1, e2, e3, e4, f0, f1, f2, f3, f4⟩ := facts5 k4))
  refine leave_ret (results_cell_row rfl _ _ (w.heap.size + 1 + 1) _ _ _ _ rfl (set5 k4 _ _ _ _ _) Tryd.underlying32 rfl (by kernel_rfl)) ?_
  exact ⟨rfl, setB5 (hB1.trans (hb2.mono hB1.size)) (by omega) _ _ _ _ _⟩
set_option maxRecDepth 100000 in
theorem mustNone (kd : Int) (h : kd < 1 ∨ 7 < kd) (x : Value) (k : Int) (b : Bool) (n : Nat) (s : ByteArray) (i : Int) (w : World) (hE : HE w) (hg : ∀ W, Below w.heap.size w W → Calls Tryd.prog 51 #[VV k b n s i] W fun e W' => e = .returned (.tuple #[x, .bool true]) ∧ Below W.heap.size W W') :
    Calls Tryd.prog 45 #[.int .i64 kd, VV k b n s i] w (Bad kd k w) := by
  have hg := Fact.mk hg
  have hE := Fact.mk hE
  have n1 : ¬ kd = 1 := by omega
  have n2 : ¬ kd = 2 := by omega
  have n3 : ¬ kd = 3 := by omega
  have n4 : ¬ kd = 4 := by omega
  have n5 : ¬ kd = 5 := by omega
  have n6 : ¬ kd = 6 := by omega
  have n7 : ¬ kd = 7 := by omega
  clear h
  have hmf : ∀ (fn : Fn) (first cap : Array Value) (w : World), (Instr.makeFunc fn first cap).run Tryd.prog w = .ok (.func fn first cap) w := fun _ _ _ _ => rfl
  unfold VV at *
  go_enter_defers Tryd.func45, Tryd.ntmps45
  go_wp2_with (go_at_call 51; refine (hg.out _ (b3 _ _ _ _)).mono ?_; rintro e w1 ⟨rfl, hb⟩; obtain ⟨k1, k2, k3, hB1⟩ := three hb; have c0 := (fact1 k1).1; obtain ⟨d0, d1, d2, d3, d4, _⟩ := facts5 k2; obtain ⟨e0, e1, e2, e3, e4, f0, f1, f2, f3, f4⟩ := facts5 k3)
  exact leave_wrong hE.out (hB1.alloc hB1.size _) (heap_alloc_new _ _)
set_option maxRecDepth 100000 in
theorem mustIll (kd : Int) (k : Int) (b : Bool) (n : Nat) (s : ByteArray) (i : Int) (w : World) (hg : ∀ W, Below w.heap.size w W → Calls Tryd.prog 51 #[VV k b n s i] W fun e W' => (∃ x, e = .returned (.tuple #[x, .bool false])) ∧ Below W.heap.size W W') :
    Calls Tryd.prog 45 #[.int .i64 kd, VV k b n s i] w (Bad kd 0 w) := by
  have hg := Fact.mk hg
  have hmf : ∀ (fn : Fn) (first cap : Array Value) (w : World), (Instr.makeFunc fn first cap).run Tryd.prog w = .ok (.func fn first cap) w := fun _ _ _ _ => rfl
  unfold VV at *
  go_enter_defers Tryd.func45, Tryd.ntmps45
  go_wp2_with (go_at_call 51; refine (hg.out _ (b3 _ _ _ _)).mono ?_; rintro e w1 ⟨⟨x, rfl⟩, hb⟩; obtain ⟨k1, k2, k3, hB1⟩ := three hb; have c0 := (fact1 k1).1; obtain ⟨d0, d1, d2, d3, d4, _⟩ := facts5 k2; obtain ⟨e0, e1, e2, e3, e4, f0, f1, f2, f3, f4⟩ := facts5 k3)
  exact ⟨w1.heap.size, [], rfl, rfl, heap_alloc_new _ _, hB1.alloc hB1.size _⟩
end Go.Proofs.YtinaibebdacnmaaDoor
