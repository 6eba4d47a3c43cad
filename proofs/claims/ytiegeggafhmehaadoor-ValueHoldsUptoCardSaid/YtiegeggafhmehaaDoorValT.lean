/- Truth: what each call comes to. -/
import Derived.Test.YtiegeggafhmehaaDoorValM
namespace Go.Proofs.YtiegeggafhmehaaDoor
open Go.RowKit Go.Proofs.YtiegeggafhmehaaDoorW.PrintWords
attribute [local go_sem] run_store_float

theorem ord_nn (n : Nat) : FloatKind.f64.format.order n n = some .eq ↔ Fl.isNan n = false := by
  have e := Fl.order_self' n
  have e2 : (FloatKind.f64.format.order n n = some .eq) ↔ ((Ieee.double.order n n == some .eq) = true) := by rw [beq_iff_eq]; rfl
  rw [e2, e]
  cases Fl.isNan n <;> simp
theorem ta11 (w : World) : (Instr.typeAssert (.iface 114 (.agg #[])) 123 114 true).run Tryd.prog w = .ok (.tuple #[.agg #[], .bool true]) w := by kernel_rfl
theorem ta12 (w : World) : (Instr.typeAssert (.iface 114 (.agg #[])) 123 115 true).run Tryd.prog w = .ok (.tuple #[.agg #[], .bool false]) w := by kernel_rfl
theorem ta13 (w : World) : (Instr.typeAssert (.iface 114 (.agg #[])) 123 116 true).run Tryd.prog w = .ok (.tuple #[.bool false, .bool false]) w := by kernel_rfl
theorem ta14 (w : World) : (Instr.typeAssert (.iface 114 (.agg #[])) 123 117 true).run Tryd.prog w = .ok (.tuple #[.float .f64 0, .bool false]) w := by kernel_rfl
theorem ta15 (w : World) : (Instr.typeAssert (.iface 114 (.agg #[])) 123 118 true).run Tryd.prog w = .ok (.tuple #[.string ⟨#[]⟩, .bool false]) w := by kernel_rfl
theorem ta21 (w : World) : (Instr.typeAssert (.iface 115 (.agg #[])) 123 114 true).run Tryd.prog w = .ok (.tuple #[.agg #[], .bool false]) w := by kernel_rfl
theorem ta22 (w : World) : (Instr.typeAssert (.iface 115 (.agg #[])) 123 115 true).run Tryd.prog w = .ok (.tuple #[.agg #[], .bool true]) w := by kernel_rfl
theorem ta23 (w : World) : (Instr.typeAssert (.iface 115 (.agg #[])) 123 116 true).run Tryd.prog w = .ok (.tuple #[.bool false, .bool false]) w := by kernel_rfl
theorem ta24 (w : World) : (Instr.typeAssert (.iface 115 (.agg #[])) 123 117 true).run Tryd.prog w = .ok (.tuple #[.float .f64 0, .bool false]) w := by kernel_rfl
theorem ta25 (w : World) : (Instr.typeAssert (.iface 115 (.agg #[])) 123 118 true).run Tryd.prog w = .ok (.tuple #[.string ⟨#[]⟩, .bool false]) w := by kernel_rfl
theorem ta31 (b : Bool) (w : World) : (Instr.typeAssert (.iface 116 (.bool b)) 123 114 true).run Tryd.prog w = .ok (.tuple #[.agg #[], .bool false]) w := by kernel_rfl
theorem ta32 (b : Bool) (w : World) : (Instr.typeAssert (.iface 116 (.bool b)) 123 115 true).run Tryd.prog w = .ok (.tuple #[.agg #[], .bool false]) w := by kernel_rfl
theorem ta33 (b : Bool) (w : World) : (Instr.typeAssert (.iface 116 (.bool b)) 123 116 true).run Tryd.prog w = .ok (.tuple #[.bool b, .bool true]) w := by kernel_rfl
theorem ta34 (b : Bool) (w : World) : (Instr.typeAssert (.iface 116 (.bool b)) 123 117 true).run Tryd.prog w = .ok (.tuple #[.float .f64 0, .bool false]) w := by kernel_rfl
theorem ta35 (b : Bool) (w : World) : (Instr.typeAssert (.iface 116 (.bool b)) 123 118 true).run Tryd.prog w = .ok (.tuple #[.string ⟨#[]⟩, .bool false]) w := by kernel_rfl
theorem ta41 (n : Nat) (w : World) : (Instr.typeAssert (.iface 117 (.float .f64 n)) 123 114 true).run Tryd.prog w = .ok (.tuple #[.agg #[], .bool false]) w := by kernel_rfl
theorem ta42 (n : Nat) (w : World) : (Instr.typeAssert (.iface 117 (.float .f64 n)) 123 115 true).run Tryd.prog w = .ok (.tuple #[.agg #[], .bool false]) w := by kernel_rfl
theorem ta43 (n : Nat) (w : World) : (Instr.typeAssert (.iface 117 (.float .f64 n)) 123 116 true).run Tryd.prog w = .ok (.tuple #[.bool false, .bool false]) w := by kernel_rfl
theorem ta44 (n : Nat) (w : World) : (Instr.typeAssert (.iface 117 (.float .f64 n)) 123 117 true).run Tryd.prog w = .ok (.tuple #[.float .f64 n, .bool true]) w := by kernel_rfl
theorem ta45 (n : Nat) (w : World) : (Instr.typeAssert (.iface 117 (.float .f64 n)) 123 118 true).run Tryd.prog w = .ok (.tuple #[.string ⟨#[]⟩, .bool false]) w := by kernel_rfl
theorem ta51 (s : ByteArray) (w : World) : (Instr.typeAssert (.iface 118 (.string s)) 123 114 true).run Tryd.prog w = .ok (.tuple #[.agg #[], .bool false]) w := by kernel_rfl
theorem ta52 (s : ByteArray) (w : World) : (Instr.typeAssert (.iface 118 (.string s)) 123 115 true).run Tryd.prog w = .ok (.tuple #[.agg #[], .bool false]) w := by kernel_rfl
theorem ta53 (s : ByteArray) (w : World) : (Instr.typeAssert (.iface 118 (.string s)) 123 116 true).run Tryd.prog w = .ok (.tuple #[.bool false, .bool false]) w := by kernel_rfl
theorem ta54 (s : ByteArray) (w : World) : (Instr.typeAssert (.iface 118 (.string s)) 123 117 true).run Tryd.prog w = .ok (.tuple #[.float .f64 0, .bool false]) w := by kernel_rfl
theorem ta55 (s : ByteArray) (w : World) : (Instr.typeAssert (.iface 118 (.string s)) 123 118 true).run Tryd.prog w = .ok (.tuple #[.string s, .bool true]) w := by kernel_rfl
theorem ta61 (i : Int) (w : World) : (Instr.typeAssert (.iface 119 (.int .i64 i)) 123 114 true).run Tryd.prog w = .ok (.tuple #[.agg #[], .bool false]) w := by kernel_rfl
theorem ta62 (i : Int) (w : World) : (Instr.typeAssert (.iface 119 (.int .i64 i)) 123 115 true).run Tryd.prog w = .ok (.tuple #[.agg #[], .bool false]) w := by kernel_rfl
theorem ta63 (i : Int) (w : World) : (Instr.typeAssert (.iface 119 (.int .i64 i)) 123 116 true).run Tryd.prog w = .ok (.tuple #[.bool false, .bool false]) w := by kernel_rfl
theorem ta64 (i : Int) (w : World) : (Instr.typeAssert (.iface 119 (.int .i64 i)) 123 117 true).run Tryd.prog w = .ok (.tuple #[.float .f64 0, .bool false]) w := by kernel_rfl
theorem ta65 (i : Int) (w : World) : (Instr.typeAssert (.iface 119 (.int .i64 i)) 123 118 true).run Tryd.prog w = .ok (.tuple #[.string ⟨#[]⟩, .bool false]) w := by kernel_rfl
theorem ta71 (i : Int) (w : World) : (Instr.typeAssert (.iface 120 (.int .i64 i)) 123 114 true).run Tryd.prog w = .ok (.tuple #[.agg #[], .bool false]) w := by kernel_rfl
theorem ta72 (i : Int) (w : World) : (Instr.typeAssert (.iface 120 (.int .i64 i)) 123 115 true).run Tryd.prog w = .ok (.tuple #[.agg #[], .bool false]) w := by kernel_rfl
theorem ta73 (i : Int) (w : World) : (Instr.typeAssert (.iface 120 (.int .i64 i)) 123 116 true).run Tryd.prog w = .ok (.tuple #[.bool false, .bool false]) w := by kernel_rfl
theorem ta74 (i : Int) (w : World) : (Instr.typeAssert (.iface 120 (.int .i64 i)) 123 117 true).run Tryd.prog w = .ok (.tuple #[.float .f64 0, .bool false]) w := by kernel_rfl
theorem ta75 (i : Int) (w : World) : (Instr.typeAssert (.iface 120 (.int .i64 i)) 123 118 true).run Tryd.prog w = .ok (.tuple #[.string ⟨#[]⟩, .bool false]) w := by kernel_rfl

set_option maxRecDepth 100000 in
set_option maxHeartbeats 800000 in
theorem truth1_c (b : Bool) (n : Nat) (s : ByteArray) (i : Int) (w : World) (HT : Tabs w) (h : gd 1 b n s i = true) :
    Calls Tryd.prog 44 #[VV 1 b n s i] w fun e w' => e = .returned (.tuple #[.bool (false), .int .i64 0]) ∧ Below w.heap.size w w' := by
  have hg := Fact.mk (goodT_c 1 b n s i (w.alloc (.cells #[.int .i64 1, .bool b, .float .f64 n, .string s, .int .i64 i] 42)) (HT.below ((Below.refl _ _).alloc (Nat.le_refl _) _)) h)
  have e1 : oU 1 b n s i = .agg #[] := rfl
  have e2 : oT 1 = 114 := rfl
  rw [e1, e2] at hg
  have t1 := ta11
  have t2 := ta12
  have t3 := ta13
  have t4 := ta14
  have t5 := ta15
  clear e1 e2 h HT
  unfold VV at *
  go_enter Tryd.func44, Tryd.ntmps44
  go_wp2_with (go_at_call 83; refine hg.out.mono ?_; rintro e w1 ⟨rfl, hb⟩)
  all_goals
    have hbw := below1 hb
    clear t1 t2 t3 t4 t5
    go_ret2
    refine ⟨ret_be ?_, hbw⟩
    first | rfl | (simp_all; done) | (rw [Bool.eq_iff_iff]; simp_all; done)

set_option maxRecDepth 100000 in
set_option maxHeartbeats 800000 in
theorem truth2_c (b : Bool) (n : Nat) (s : ByteArray) (i : Int) (w : World) (HT : Tabs w) (h : gd 2 b n s i = true) :
    Calls Tryd.prog 44 #[VV 2 b n s i] w fun e w' => e = .returned (.tuple #[.bool (false), .int .i64 0]) ∧ Below w.heap.size w w' := by
  have hg := Fact.mk (goodT_c 2 b n s i (w.alloc (.cells #[.int .i64 2, .bool b, .float .f64 n, .string s, .int .i64 i] 42)) (HT.below ((Below.refl _ _).alloc (Nat.le_refl _) _)) h)
  have e1 : oU 2 b n s i = .agg #[] := rfl
  have e2 : oT 2 = 115 := rfl
  rw [e1, e2] at hg
  have t1 := ta21
  have t2 := ta22
  have t3 := ta23
  have t4 := ta24
  have t5 := ta25
  clear e1 e2 h HT
  unfold VV at *
  go_enter Tryd.func44, Tryd.ntmps44
  go_wp2_with (go_at_call 83; refine hg.out.mono ?_; rintro e w1 ⟨rfl, hb⟩)
  all_goals
    have hbw := below1 hb
    clear t1 t2 t3 t4 t5
    go_ret2
    refine ⟨ret_be ?_, hbw⟩
    first | rfl | (simp_all; done) | (rw [Bool.eq_iff_iff]; simp_all; done)

set_option maxRecDepth 100000 in
set_option maxHeartbeats 800000 in
theorem truth3_c (b : Bool) (n : Nat) (s : ByteArray) (i : Int) (w : World) (HT : Tabs w) (h : gd 3 b n s i = true) :
    Calls Tryd.prog 44 #[VV 3 b n s i] w fun e w' => e = .returned (.tuple #[.bool (b), .int .i64 0]) ∧ Below w.heap.size w w' := by
  have hg := Fact.mk (goodT_c 3 b n s i (w.alloc (.cells #[.int .i64 3, .bool b, .float .f64 n, .string s, .int .i64 i] 42)) (HT.below ((Below.refl _ _).alloc (Nat.le_refl _) _)) h)
  have e1 : oU 3 b n s i = .bool b := rfl
  have e2 : oT 3 = 116 := rfl
  rw [e1, e2] at hg
  have t1 := ta31 b
  have t2 := ta32 b
  have t3 := ta33 b
  have t4 := ta34 b
  have t5 := ta35 b
  clear e1 e2 h HT
  unfold VV at *
  go_enter Tryd.func44, Tryd.ntmps44
  go_wp2_with (go_at_call 83; refine hg.out.mono ?_; rintro e w1 ⟨rfl, hb⟩)
  all_goals
    have hbw := below1 hb
    clear t1 t2 t3 t4 t5
    go_ret2
    refine ⟨ret_be ?_, hbw⟩
    first | rfl | (simp_all; done) | (rw [Bool.eq_iff_iff]; simp_all; done)

set_option maxRecDepth 100000 in
set_option maxHeartbeats 800000 in
theorem truth4_c (b : Bool) (n : Nat) (s : ByteArray) (i : Int) (hn : n < 18446744073709551616) (w : World) (HT : Tabs w) (h : gd 4 b n s i = true) :
    Calls Tryd.prog 44 #[VV 4 b n s i] w fun e w' => e = .returned (.tuple #[.bool (!Fl.isNan n && !(decide (n = 0) || decide (n = 9223372036854775808))), .int .i64 0]) ∧ Below w.heap.size w w' := by
  have hg := Fact.mk (goodT_c 4 b n s i (w.alloc (.cells #[.int .i64 4, .bool b, .float .f64 n, .string s, .int .i64 i] 42)) (HT.below ((Below.refl _ _).alloc (Nat.le_refl _) _)) h)
  have e1 : oU 4 b n s i = .float .f64 n := rfl
  have e2 : oT 4 = 117 := rfl
  rw [e1, e2] at hg
  have t1 := ta41 n
  have t2 := ta42 n
  have t3 := ta43 n
  have t4 := ta44 n
  have t5 := ta45 n
  clear e1 e2 h HT
  unfold VV at *
  go_enter Tryd.func44, Tryd.ntmps44
  go_wp2_with (go_at_call 83; refine hg.out.mono ?_; rintro e w1 ⟨rfl, hb⟩)
  all_goals
    have hbw := below1 hb
    clear t1 t2 t3 t4 t5
    go_ret2
    refine ⟨ret_be ?_, hbw⟩
    have o1 := ord_nn n
    have o2 := ord0 n hn
    first | rfl | (simp_all; done) | (rw [Bool.eq_iff_iff]; simp_all; done)

set_option maxRecDepth 100000 in
set_option maxHeartbeats 800000 in
theorem truth5_c (b : Bool) (n : Nat) (s : ByteArray) (i : Int) (w : World) (HT : Tabs w) (h : gd 5 b n s i = true) :
    Calls Tryd.prog 44 #[VV 5 b n s i] w fun e w' => e = .returned (.tuple #[.bool (decide (s.toList ≠ [])), .int .i64 0]) ∧ Below w.heap.size w w' := by
  have hg := Fact.mk (goodT_c 5 b n s i (w.alloc (.cells #[.int .i64 5, .bool b, .float .f64 n, .string s, .int .i64 i] 42)) (HT.below ((Below.refl _ _).alloc (Nat.le_refl _) _)) h)
  have e1 : oU 5 b n s i = .string s := rfl
  have e2 : oT 5 = 118 := rfl
  rw [e1, e2] at hg
  have t1 := ta51 s
  have t2 := ta52 s
  have t3 := ta53 s
  have t4 := ta54 s
  have t5 := ta55 s
  clear e1 e2 h HT
  unfold VV at *
  go_enter Tryd.func44, Tryd.ntmps44
  go_wp2_with (go_at_call 83; refine hg.out.mono ?_; rintro e w1 ⟨rfl, hb⟩)
  all_goals
    have hbw := below1 hb
    clear t1 t2 t3 t4 t5
    go_ret2
    refine ⟨ret_be ?_, hbw⟩
    first | rfl | (simp_all; done) | (rw [Bool.eq_iff_iff]; simp_all; done)

set_option maxRecDepth 100000 in
set_option maxHeartbeats 800000 in
theorem truth6_c (b : Bool) (n : Nat) (s : ByteArray) (i : Int) (w : World) (HT : Tabs w) (h : gd 6 b n s i = true) :
    Calls Tryd.prog 44 #[VV 6 b n s i] w fun e w' => e = .returned (.tuple #[.bool (true), .int .i64 0]) ∧ Below w.heap.size w w' := by
  have hg := Fact.mk (goodT_c 6 b n s i (w.alloc (.cells #[.int .i64 6, .bool b, .float .f64 n, .string s, .int .i64 i] 42)) (HT.below ((Below.refl _ _).alloc (Nat.le_refl _) _)) h)
  have e1 : oU 6 b n s i = .int .i64 i := rfl
  have e2 : oT 6 = 119 := rfl
  rw [e1, e2] at hg
  have t1 := ta61 i
  have t2 := ta62 i
  have t3 := ta63 i
  have t4 := ta64 i
  have t5 := ta65 i
  clear e1 e2 h HT
  unfold VV at *
  go_enter Tryd.func44, Tryd.ntmps44
  go_wp2_with (go_at_call 83; refine hg.out.mono ?_; rintro e w1 ⟨rfl, hb⟩)
  all_goals
    have hbw := below1 hb
    clear t1 t2 t3 t4 t5
    go_ret2
    refine ⟨ret_be ?_, hbw⟩
    first | rfl | (simp_all; done) | (rw [Bool.eq_iff_iff]; simp_all; done)

set_option maxRecDepth 100000 in
set_option maxHeartbeats 800000 in
theorem truth7_c (b : Bool) (n : Nat) (s : ByteArray) (i : Int) (w : World) (HT : Tabs w) (h : gd 7 b n s i = true) :
    Calls Tryd.prog 44 #[VV 7 b n s i] w fun e w' => e = .returned (.tuple #[.bool (true), .int .i64 0]) ∧ Below w.heap.size w w' := by
  have hg := Fact.mk (goodT_c 7 b n s i (w.alloc (.cells #[.int .i64 7, .bool b, .float .f64 n, .string s, .int .i64 i] 42)) (HT.below ((Below.refl _ _).alloc (Nat.le_refl _) _)) h)
  have e1 : oU 7 b n s i = .int .i64 i := rfl
  have e2 : oT 7 = 120 := rfl
  rw [e1, e2] at hg
  have t1 := ta71 i
  have t2 := ta72 i
  have t3 := ta73 i
  have t4 := ta74 i
  have t5 := ta75 i
  clear e1 e2 h HT
  unfold VV at *
  go_enter Tryd.func44, Tryd.ntmps44
  go_wp2_with (go_at_call 83; refine hg.out.mono ?_; rintro e w1 ⟨rfl, hb⟩)
  all_goals
    have hbw := below1 hb
    clear t1 t2 t3 t4 t5
    go_ret2
    refine ⟨ret_be ?_, hbw⟩
    first | rfl | (simp_all; done) | (rw [Bool.eq_iff_iff]; simp_all; done)

set_option maxRecDepth 100000 in
theorem truthf_c (k : Int) (b : Bool) (n : Nat) (s : ByteArray) (i : Int) (w : World) (HT : Tabs w) (h : gd k b n s i = false) :
    Calls Tryd.prog 44 #[VV k b n s i] w fun e w' => e = .returned (.tuple #[.bool false, .int .i64 5]) ∧ Below w.heap.size w w' := by
  have hg := Fact.mk (goodF_c k b n s i (w.alloc (.cells #[.int .i64 k, .bool b, .float .f64 n, .string s, .int .i64 i] 42)) (HT.below ((Below.refl _ _).alloc (Nat.le_refl _) _)) h)
  clear h HT
  unfold VV at *
  go_enter Tryd.func44, Tryd.ntmps44
  go_wp2_with (go_at_call 83; refine hg.out.mono ?_; rintro e w1 ⟨⟨x, rfl⟩, hb⟩)
  go_ret2
  exact ⟨rfl, below1 hb⟩

/-- Is a value truthy? -/
def tv (k : Int) (b : Bool) (n : Nat) (s : ByteArray) : Bool :=
  if k = 1 then false else if k = 2 then false else if k = 3 then b else if k = 4 then !Fl.isNan n && !(decide (n = 0) || decide (n = 9223372036854775808)) else if k = 5 then decide (s.toList ≠ []) else true
theorem truth_c (k : Int) (b : Bool) (n : Nat) (s : ByteArray) (i : Int) (hn : n < 18446744073709551616) (w : World) (HT : Tabs w) :
    Calls Tryd.prog 44 #[VV k b n s i] w fun e w' => e = .returned (.tuple #[.bool (gd k b n s i && tv k b n s), .int .i64 (if gd k b n s i = true then 0 else 5)]) ∧ Below w.heap.size w w' := by
  cases hg : gd k b n s i
  · exact truthf_c k b n s i w HT hg
  by_cases h1 : k = 1
  · subst h1; exact truth1_c b n s i w HT hg
  by_cases h2 : k = 2
  · subst h2; exact truth2_c b n s i w HT hg
  by_cases h3 : k = 3
  · subst h3; exact truth3_c b n s i w HT hg
  by_cases h4 : k = 4
  · subst h4; exact truth4_c b n s i hn w HT hg
  by_cases h5 : k = 5
  · subst h5; exact truth5_c b n s i w HT hg
  by_cases h6 : k = 6
  · subst h6; exact truth6_c b n s i w HT hg
  by_cases h7 : k = 7
  · subst h7; exact truth7_c b n s i w HT hg
  exfalso
  unfold gd at hg
  rw [if_neg h1, if_neg h2, if_neg h3, if_neg h4, if_neg h5, if_neg h6, if_neg h7] at hg
  cases hg
end Go.Proofs.YtiegeggafhmehaaDoor
