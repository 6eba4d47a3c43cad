import Derived.Test.YtinaibebdacnmaaDoorMe
set_option linter.all false
/- Operations, code by code. -/
set_option linter.unusedVariables false
namespace Go.Proofs.YtinaibebdacnmaaDoor
open Go.RowKit Go.Proofs.YtinaibebdacnmaaDoorW.PrintWords
attribute [local go_sem] run_store_float
set_option maxRecDepth 100000 in
set_option maxHeartbeats 4000000 in
theorem sr1 (cs : Array Value) (t0 a b c km : Int) (ks : ByteArray) (vk : Int) (vb : Bool) (vn : Nat) (vs : ByteArray) (vi : Int) (R V : Bool) (w : World) (h0 : cs[0]? = some (.int .i64 1)) (h1 : cs[1]? = some (.int .i64 t0)) (h7 : cs[7]? = some (.int .i64 vk)) (h8 : cs[8]? = some (.bool vb)) (h9 : cs[9]? = some (.float .f64 vn)) (h10 : cs[10]? = some (.string vs)) (h11 : cs[11]? = some (.int .i64 vi)) (hr : Fact (∀ w', Calls Tryd.prog 59 #[.int .i64 t0] w' fun e w'' => e = .returned (.bool R) ∧ w' = w'')) (hv : Fact (∀ w', Calls Tryd.prog 22 #[.agg #[.int .i64 vk, .bool vb, .float .f64 vn, .string vs, .int .i64 vi]] w' fun e w'' => e = .returned (.bool V) ∧ Below w'.heap.size w' w'')) :
    Calls Tryd.prog 34 #[.agg cs] w fun e w' => e = .returned (.bool (R && V)) ∧ Below w.heap.size w w' := by
  have hB := Below.refl (w.alloc (.cells cs 49)).heap.size (w.alloc (.cells cs 49))
  have g0 := boxCell hB 0 h0; have g1 := boxCell hB 1 h1; have g7 := boxCell hB 7 h7; have g8 := boxCell hB 8 h8; have g9 := boxCell hB 9 h9; have g10 := boxCell hB 10 h10; have g11 := boxCell hB 11 h11
  cases R with
  | false =>
    go_enter Tryd.func34, Tryd.ntmps34
    go_wp2_with (first | (go_at_call 59; with_reducible refine (hr.out _).mono ?_; rintro e w' ⟨rfl, rfl⟩) | (go_at_call 22; with_reducible refine (hv.out _).mono ?_; rintro e w2 ⟨rfl, hb2⟩; replace hB := hB.trans (hb2.mono hB.size); clear hb2))
    go_ret
    exact ⟨rfl, below1 hB⟩
  | true =>
    cases V with
    | false =>
      go_enter Tryd.func34, Tryd.ntmps34
      go_wp2_with (first | (go_at_call 59; with_reducible refine (hr.out _).mono ?_; rintro e w' ⟨rfl, rfl⟩) | (go_at_call 22; with_reducible refine (hv.out _).mono ?_; rintro e w2 ⟨rfl, hb2⟩; replace hB := hB.trans (hb2.mono hB.size); clear hb2))
      go_ret
      exact ⟨rfl, below1 hB⟩
    | true =>
      go_enter Tryd.func34, Tryd.ntmps34
      go_wp2_with (first | (go_at_call 59; with_reducible refine (hr.out _).mono ?_; rintro e w' ⟨rfl, rfl⟩) | (go_at_call 22; with_reducible refine (hv.out _).mono ?_; rintro e w2 ⟨rfl, hb2⟩; replace hB := hB.trans (hb2.mono hB.size); clear hb2))
      go_ret
      exact ⟨rfl, below1 hB⟩
set_option maxRecDepth 100000 in
set_option maxHeartbeats 4000000 in
theorem sr2 (cs : Array Value) (t0 a b c km : Int) (ks : ByteArray) (R A : Bool) (w : World) (h0 : cs[0]? = some (.int .i64 2)) (h1 : cs[1]? = some (.int .i64 t0)) (h2 : cs[2]? = some (.int .i64 a)) (hr : Fact (∀ w', Calls Tryd.prog 59 #[.int .i64 t0] w' fun e w'' => e = .returned (.bool R) ∧ w' = w'')) (ha : Fact (∀ w', Calls Tryd.prog 59 #[.int .i64 a] w' fun e w'' => e = .returned (.bool A) ∧ w' = w'')) :
    Calls Tryd.prog 34 #[.agg cs] w fun e w' => e = .returned (.bool (R && A)) ∧ Below w.heap.size w w' := by
  have hB := Below.refl (w.alloc (.cells cs 49)).heap.size (w.alloc (.cells cs 49))
  have g0 := boxCell hB 0 h0; have g1 := boxCell hB 1 h1; have g2 := boxCell hB 2 h2
  cases R with
  | false =>
    go_enter Tryd.func34, Tryd.ntmps34
    go_wp2_with (first | (go_at_call 59; with_reducible refine (hr.out _).mono ?_; rintro e w' ⟨rfl, rfl⟩) | (go_at_call 59; with_reducible refine (ha.out _).mono ?_; rintro e w' ⟨rfl, rfl⟩))
    go_ret
    exact ⟨rfl, below1 hB⟩
  | true =>
    cases A with
    | false =>
      go_enter Tryd.func34, Tryd.ntmps34
      go_wp2_with (first | (go_at_call 59; with_reducible refine (hr.out _).mono ?_; rintro e w' ⟨rfl, rfl⟩) | (go_at_call 59; with_reducible refine (ha.out _).mono ?_; rintro e w' ⟨rfl, rfl⟩))
      go_ret
      exact ⟨rfl, below1 hB⟩
    | true =>
      go_enter Tryd.func34, Tryd.ntmps34
      go_wp2_with (first | (go_at_call 59; with_reducible refine (hr.out _).mono ?_; rintro e w' ⟨rfl, rfl⟩) | (go_at_call 59; with_reducible refine (ha.out _).mono ?_; rintro e w' ⟨rfl, rfl⟩))
      go_ret
      exact ⟨rfl, below1 hB⟩
set_option maxRecDepth 100000 in
set_option maxHeartbeats 4000000 in
theorem sr3 (cs : Array Value) (t0 a b c km : Int) (ks : ByteArray) (R : Bool) (w : World) (h0 : cs[0]? = some (.int .i64 3)) (h1 : cs[1]? = some (.int .i64 t0)) (hr : Fact (∀ w', Calls Tryd.prog 59 #[.int .i64 t0] w' fun e w'' => e = .returned (.bool R) ∧ w' = w'')) :
    Calls Tryd.prog 34 #[.agg cs] w fun e w' => e = .returned (.bool (R)) ∧ Below w.heap.size w w' := by
  have hB := Below.refl (w.alloc (.cells cs 49)).heap.size (w.alloc (.cells cs 49))
  have g0 := boxCell hB 0 h0; have g1 := boxCell hB 1 h1
  cases R with
  | false =>
    go_enter Tryd.func34, Tryd.ntmps34
    go_wp2_with (first | (go_at_call 59; with_reducible refine (hr.out _).mono ?_; rintro e w' ⟨rfl, rfl⟩))
    go_ret
    exact ⟨rfl, below1 hB⟩
  | true =>
    go_enter Tryd.func34, Tryd.ntmps34
    go_wp2_with (first | (go_at_call 59; with_reducible refine (hr.out _).mono ?_; rintro e w' ⟨rfl, rfl⟩))
    go_ret
    exact ⟨rfl, below1 hB⟩
set_option maxRecDepth 100000 in
set_option maxHeartbeats 4000000 in
theorem sr4 (cs : Array Value) (t0 a b c km : Int) (ks : ByteArray) (R : Bool) (w : World) (h0 : cs[0]? = some (.int .i64 4)) (h1 : cs[1]? = some (.int .i64 t0)) (h2 : cs[2]? = some (.int .i64 a)) (hr : Fact (∀ w', Calls Tryd.prog 59 #[.int .i64 t0] w' fun e w'' => e = .returned (.bool R) ∧ w' = w'')) :
    Calls Tryd.prog 34 #[.agg cs] w fun e w' => e = .returned (.bool (R && decide (0 ≤ a))) ∧ Below w.heap.size w w' := by
  have hB := Below.refl (w.alloc (.cells cs 49)).heap.size (w.alloc (.cells cs 49))
  have g0 := boxCell hB 0 h0; have g1 := boxCell hB 1 h1; have g2 := boxCell hB 2 h2
  cases R with
  | false =>
    go_enter Tryd.func34, Tryd.ntmps34
    go_wp2_with (first | (go_at_call 59; with_reducible refine (hr.out _).mono ?_; rintro e w' ⟨rfl, rfl⟩))
    go_ret
    exact ⟨rfl, below1 hB⟩
  | true =>
    go_enter Tryd.func34, Tryd.ntmps34
    go_wp2_with (first | (go_at_call 59; with_reducible refine (hr.out _).mono ?_; rintro e w' ⟨rfl, rfl⟩))
    go_ret
    exact ⟨rfl, below1 hB⟩
set_option maxRecDepth 100000 in
set_option maxHeartbeats 4000000 in
theorem sr5 (cs : Array Value) (t0 a b c km : Int) (ks : ByteArray) (R : Bool) (w : World) (h0 : cs[0]? = some (.int .i64 5)) (h1 : cs[1]? = some (.int .i64 t0)) (hr : Fact (∀ w', Calls Tryd.prog 59 #[.int .i64 t0] w' fun e w'' => e = .returned (.bool R) ∧ w' = w'')) :
    Calls Tryd.prog 34 #[.agg cs] w fun e w' => e = .returned (.bool (R)) ∧ Below w.heap.size w w' := by
  have hB := Below.refl (w.alloc (.cells cs 49)).heap.size (w.alloc (.cells cs 49))
  have g0 := boxCell hB 0 h0; have g1 := boxCell hB 1 h1
  cases R with
  | false =>
    go_enter Tryd.func34, Tryd.ntmps34
    go_wp2_with (first | (go_at_call 59; with_reducible refine (hr.out _).mono ?_; rintro e w' ⟨rfl, rfl⟩))
    go_ret
    exact ⟨rfl, below1 hB⟩
  | true =>
    go_enter Tryd.func34, Tryd.ntmps34
    go_wp2_with (first | (go_at_call 59; with_reducible refine (hr.out _).mono ?_; rintro e w' ⟨rfl, rfl⟩))
    go_ret
    exact ⟨rfl, below1 hB⟩
set_option maxRecDepth 100000 in
set_option maxHeartbeats 4000000 in
theorem sr6 (cs : Array Value) (t0 a b c km : Int) (ks : ByteArray) (R : Bool) (w : World) (h0 : cs[0]? = some (.int .i64 6)) (h1 : cs[1]? = some (.int .i64 t0)) (hr : Fact (∀ w', Calls Tryd.prog 59 #[.int .i64 t0] w' fun e w'' => e = .returned (.bool R) ∧ w' = w'')) :
    Calls Tryd.prog 34 #[.agg cs] w fun e w' => e = .returned (.bool (R)) ∧ Below w.heap.size w w' := by
  have hB := Below.refl (w.alloc (.cells cs 49)).heap.size (w.alloc (.cells cs 49))
  have g0 := boxCell hB 0 h0; have g1 := boxCell hB 1 h1
  cases R with
  | false =>
    go_enter Tryd.func34, Tryd.ntmps34
    go_wp2_with (first | (go_at_call 59; with_reducible refine (hr.out _).mono ?_; rintro e w' ⟨rfl, rfl⟩))
    go_ret
    exact ⟨rfl, below1 hB⟩
  | true =>
    go_enter Tryd.func34, Tryd.ntmps34
    go_wp2_with (first | (go_at_call 59; with_reducible refine (hr.out _).mono ?_; rintro e w' ⟨rfl, rfl⟩))
    go_ret
    exact ⟨rfl, below1 hB⟩
set_option maxRecDepth 100000 in
set_option maxHeartbeats 4000000 in
theorem sr7 (cs : Array Value) (t0 a b c km : Int) (ks : ByteArray) (R A : Bool) (w : World) (h0 : cs[0]? = some (.int .i64 7)) (h1 : cs[1]? = some (.int .i64 t0)) (h2 : cs[2]? = some (.int .i64 a)) (hr : Fact (∀ w', Calls Tryd.prog 59 #[.int .i64 t0] w' fun e w'' => e = .returned (.bool R) ∧ w' = w'')) (ha : Fact (∀ w', Calls Tryd.prog 59 #[.int .i64 a] w' fun e w'' => e = .returned (.bool A) ∧ w' = w'')) :
    Calls Tryd.prog 34 #[.agg cs] w fun e w' => e = .returned (.bool (R && A)) ∧ Below w.heap.size w w' := by
  have hB := Below.refl (w.alloc (.cells cs 49)).heap.size (w.alloc (.cells cs 49))
  have g0 := boxCell hB 0 h0; have g1 := boxCell hB 1 h1; have g2 := boxCell hB 2 h2
  cases R with
  | false =>
    go_enter Tryd.func34, Tryd.ntmps34
    go_wp2_with (first | (go_at_call 59; with_reducible refine (hr.out _).mono ?_; rintro e w' ⟨rfl, rfl⟩) | (go_at_call 59; with_reducible refine (ha.out _).mono ?_; rintro e w' ⟨rfl, rfl⟩))
    go_ret
    exact ⟨rfl, below1 hB⟩
  | true =>
    cases A with
    | false =>
      go_enter Tryd.func34, Tryd.ntmps34
      go_wp2_with (first | (go_at_call 59; with_reducible refine (hr.out _).mono ?_; rintro e w' ⟨rfl, rfl⟩) | (go_at_call 59; with_reducible refine (ha.out _).mono ?_; rintro e w' ⟨rfl, rfl⟩))
      go_ret
      exact ⟨rfl, below1 hB⟩
    | true =>
      go_enter Tryd.func34, Tryd.ntmps34
      go_wp2_with (first | (go_at_call 59; with_reducible refine (hr.out _).mono ?_; rintro e w' ⟨rfl, rfl⟩) | (go_at_call 59; with_reducible refine (ha.out _).mono ?_; rintro e w' ⟨rfl, rfl⟩))
      go_ret
      exact ⟨rfl, below1 hB⟩
set_option maxRecDepth 100000 in
set_option maxHeartbeats 4000000 in
theorem sr8 (cs : Array Value) (t0 a b c km : Int) (ks : ByteArray) (R A : Bool) (w : World) (h0 : cs[0]? = some (.int .i64 8)) (h1 : cs[1]? = some (.int .i64 t0)) (h2 : cs[2]? = some (.int .i64 a)) (hr : Fact (∀ w', Calls Tryd.prog 59 #[.int .i64 t0] w' fun e w'' => e = .returned (.bool R) ∧ w' = w'')) (ha : Fact (∀ w', Calls Tryd.prog 59 #[.int .i64 a] w' fun e w'' => e = .returned (.bool A) ∧ w' = w'')) :
    Calls Tryd.prog 34 #[.agg cs] w fun e w' => e = .returned (.bool (R && A)) ∧ Below w.heap.size w w' := by
  have hB := Below.refl (w.alloc (.cells cs 49)).heap.size (w.alloc (.cells cs 49))
  have g0 := boxCell hB 0 h0; have g1 := boxCell hB 1 h1; have g2 := boxCell hB 2 h2
  cases R with
  | false =>
    go_enter Tryd.func34, Tryd.ntmps34
    go_wp2_with (first | (go_at_call 59; with_reducible refine (hr.out _).mono ?_; rintro e w' ⟨rfl, rfl⟩) | (go_at_call 59; with_reducible refine (ha.out _).mono ?_; rintro e w' ⟨rfl, rfl⟩))
    go_ret
    exact ⟨rfl, below1 hB⟩
  | true =>
    cases A with
    | false =>
      go_enter Tryd.func34, Tryd.ntmps34
      go_wp2_with (first | (go_at_call 59; with_reducible refine (hr.out _).mono ?_; rintro e w' ⟨rfl, rfl⟩) | (go_at_call 59; with_reducible refine (ha.out _).mono ?_; rintro e w' ⟨rfl, rfl⟩))
      go_ret
      exact ⟨rfl, below1 hB⟩
    | true =>
      go_enter Tryd.func34, Tryd.ntmps34
      go_wp2_with (first | (go_at_call 59; with_reducible refine (hr.out _).mono ?_; rintro e w' ⟨rfl, rfl⟩) | (go_at_call 59; with_reducible refine (ha.out _).mono ?_; rintro e w' ⟨rfl, rfl⟩))
      go_ret
      exact ⟨rfl, below1 hB⟩
set_option maxRecDepth 100000 in
set_option maxHeartbeats 4000000 in
theorem sr9 (cs : Array Value) (t0 a b c km : Int) (ks : ByteArray) (R A : Bool) (w : World) (h0 : cs[0]? = some (.int .i64 9)) (h1 : cs[1]? = some (.int .i64 t0)) (h2 : cs[2]? = some (.int .i64 a)) (h3 : cs[3]? = some (.int .i64 b)) (hr : Fact (∀ w', Calls Tryd.prog 59 #[.int .i64 t0] w' fun e w'' => e = .returned (.bool R) ∧ w' = w'')) (ha : Fact (∀ w', Calls Tryd.prog 59 #[.int .i64 a] w' fun e w'' => e = .returned (.bool A) ∧ w' = w'')) :
    Calls Tryd.prog 34 #[.agg cs] w fun e w' => e = .returned (.bool (R && (A && decide (0 ≤ b)))) ∧ Below w.heap.size w w' := by
  have hB := Below.refl (w.alloc (.cells cs 49)).heap.size (w.alloc (.cells cs 49))
  have g0 := boxCell hB 0 h0; have g1 := boxCell hB 1 h1; have g2 := boxCell hB 2 h2; have g3 := boxCell hB 3 h3
  cases R with
  | false =>
    go_enter Tryd.func34, Tryd.ntmps34
    go_wp2_with (first | (go_at_call 59; with_reducible refine (hr.out _).mono ?_; rintro e w' ⟨rfl, rfl⟩) | (go_at_call 59; with_reducible refine (ha.out _).mono ?_; rintro e w' ⟨rfl, rfl⟩))
    go_ret
    exact ⟨rfl, below1 hB⟩
  | true =>
    cases A with
    | false =>
      go_enter Tryd.func34, Tryd.ntmps34
      go_wp2_with (first | (go_at_call 59; with_reducible refine (hr.out _).mono ?_; rintro e w' ⟨rfl, rfl⟩) | (go_at_call 59; with_reducible refine (ha.out _).mono ?_; rintro e w' ⟨rfl, rfl⟩))
      go_ret
      exact ⟨rfl, below1 hB⟩
    | true =>
      go_enter Tryd.func34, Tryd.ntmps34
      go_wp2_with (first | (go_at_call 59; with_reducible refine (hr.out _).mono ?_; rintro e w' ⟨rfl, rfl⟩) | (go_at_call 59; with_reducible refine (ha.out _).mono ?_; rintro e w' ⟨rfl, rfl⟩))
      go_ret
      exact ⟨rfl, below1 hB⟩
end Go.Proofs.YtinaibebdacnmaaDoor

/- Operations, code by code. -/
set_option linter.unusedVariables false
namespace Go.Proofs.YtinaibebdacnmaaDoor
open Go.RowKit Go.Proofs.YtinaibebdacnmaaDoorW.PrintWords
attribute [local go_sem] run_store_float
set_option maxRecDepth 100000 in
set_option maxHeartbeats 4000000 in
theorem sr10 (cs : Array Value) (t0 a b c km : Int) (ks : ByteArray) (R A K : Bool) (w : World) (h0 : cs[0]? = some (.int .i64 10)) (h1 : cs[1]? = some (.int .i64 t0)) (h2 : cs[2]? = some (.int .i64 a)) (h5 : cs[5]? = some (.string ks)) (h6 : cs[6]? = some (.int .i64 km)) (hr : Fact (∀ w', Calls Tryd.prog 59 #[.int .i64 t0] w' fun e w'' => e = .returned (.bool R) ∧ w' = w'')) (ha : Fact (∀ w', Calls Tryd.prog 59 #[.int .i64 a] w' fun e w'' => e = .returned (.bool A) ∧ w' = w'')) (hk : Fact (∀ w', Calls Tryd.prog 58 #[.agg #[.string ks, .int .i64 km]] w' fun e w'' => e = .returned (.bool K) ∧ Below w'.heap.size w' w''))  :
    Calls Tryd.prog 34 #[.agg cs] w fun e w' => e = .returned (.bool (K && (R && A))) ∧ Below w.heap.size w w' := by
  have hB := Below.refl (w.alloc (.cells cs 49)).heap.size (w.alloc (.cells cs 49))
  have g0 := boxCell hB 0 h0; have g1 := boxCell hB 1 h1; have g2 := boxCell hB 2 h2; have g5 := boxCell hB 5 h5; have g6 := boxCell hB 6 h6
  cases K with
  | false =>
    go_enter Tryd.func34, Tryd.ntmps34
    go_wp2_with (first | (go_at_call 59; with_reducible refine (hr.out _).mono ?_; rintro e w' ⟨rfl, rfl⟩) | (go_at_call 59; with_reducible refine (ha.out _).mono ?_; rintro e w' ⟨rfl, rfl⟩) | (go_at_call 58; with_reducible refine (hk.out _).mono ?_; rintro e w2 ⟨rfl, hb2⟩; replace hB := hB.trans (hb2.mono hB.size); clear hb2; (try clear g0 g1 g2 g5 g6); have g0 := boxCell hB 0 h0; have g1 := boxCell hB 1 h1; have g2 := boxCell hB 2 h2; have g5 := boxCell hB 5 h5; have g6 := boxCell hB 6 h6))
    go_ret
    exact ⟨rfl, below1 hB⟩
  | true =>
    cases R with
    | false =>
      go_enter Tryd.func34, Tryd.ntmps34
      go_wp2_with (first | (go_at_call 59; with_reducible refine (hr.out _).mono ?_; rintro e w' ⟨rfl, rfl⟩) | (go_at_call 59; with_reducible refine (ha.out _).mono ?_; rintro e w' ⟨rfl, rfl⟩) | (go_at_call 58; with_reducible refine (hk.out _).mono ?_; rintro e w2 ⟨rfl, hb2⟩; replace hB := hB.trans (hb2.mono hB.size); clear hb2; (try clear g0 g1 g2 g5 g6); have g0 := boxCell hB 0 h0; have g1 := boxCell hB 1 h1; have g2 := boxCell hB 2 h2; have g5 := boxCell hB 5 h5; have g6 := boxCell hB 6 h6))
      go_ret
      exact ⟨rfl, below1 hB⟩
    | true =>
      cases A with
      | false =>
        go_enter Tryd.func34, Tryd.ntmps34
        go_wp2_with (first | (go_at_call 59; with_reducible refine (hr.out _).mono ?_; rintro e w' ⟨rfl, rfl⟩) | (go_at_call 59; with_reducible refine (ha.out _).mono ?_; rintro e w' ⟨rfl, rfl⟩) | (go_at_call 58; with_reducible refine (hk.out _).mono ?_; rintro e w2 ⟨rfl, hb2⟩; replace hB := hB.trans (hb2.mono hB.size); clear hb2; (try clear g0 g1 g2 g5 g6); have g0 := boxCell hB 0 h0; have g1 := boxCell hB 1 h1; have g2 := boxCell hB 2 h2; have g5 := boxCell hB 5 h5; have g6 := boxCell hB 6 h6))
        go_ret
        exact ⟨rfl, below1 hB⟩
      | true =>
        go_enter Tryd.func34, Tryd.ntmps34
        go_wp2_with (first | (go_at_call 59; with_reducible refine (hr.out _).mono ?_; rintro e w' ⟨rfl, rfl⟩) | (go_at_call 59; with_reducible refine (ha.out _).mono ?_; rintro e w' ⟨rfl, rfl⟩) | (go_at_call 58; with_reducible refine (hk.out _).mono ?_; rintro e w2 ⟨rfl, hb2⟩; replace hB := hB.trans (hb2.mono hB.size); clear hb2; (try clear g0 g1 g2 g5 g6); have g0 := boxCell hB 0 h0; have g1 := boxCell hB 1 h1; have g2 := boxCell hB 2 h2; have g5 := boxCell hB 5 h5; have g6 := boxCell hB 6 h6))
        go_ret
        exact ⟨rfl, below1 hB⟩
set_option maxRecDepth 100000 in
set_option maxHeartbeats 4000000 in
theorem sr11 (cs : Array Value) (t0 a b c km : Int) (ks : ByteArray) (R A B K : Bool) (w : World) (h0 : cs[0]? = some (.int .i64 11)) (h1 : cs[1]? = some (.int .i64 t0)) (h2 : cs[2]? = some (.int .i64 a)) (h3 : cs[3]? = some (.int .i64 b)) (h5 : cs[5]? = some (.string ks)) (h6 : cs[6]? = some (.int .i64 km)) (hr : Fact (∀ w', Calls Tryd.prog 59 #[.int .i64 t0] w' fun e w'' => e = .returned (.bool R) ∧ w' = w'')) (ha : Fact (∀ w', Calls Tryd.prog 59 #[.int .i64 a] w' fun e w'' => e = .returned (.bool A) ∧ w' = w'')) (hb_ : Fact (∀ w', Calls Tryd.prog 59 #[.int .i64 b] w' fun e w'' => e = .returned (.bool B) ∧ w' = w'')) (hk : Fact (∀ w', Calls Tryd.prog 58 #[.agg #[.string ks, .int .i64 km]] w' fun e w'' => e = .returned (.bool K) ∧ Below w'.heap.size w' w''))  :
    Calls Tryd.prog 34 #[.agg cs] w fun e w' => e = .returned (.bool (K && (R && (A && B)))) ∧ Below w.heap.size w w' := by
  have hB := Below.refl (w.alloc (.cells cs 49)).heap.size (w.alloc (.cells cs 49))
  have g0 := boxCell hB 0 h0; have g1 := boxCell hB 1 h1; have g2 := boxCell hB 2 h2; have g3 := boxCell hB 3 h3; have g5 := boxCell hB 5 h5; have g6 := boxCell hB 6 h6
  cases K with
  | false =>
    go_enter Tryd.func34, Tryd.ntmps34
    go_wp2_with (first | (go_at_call 59; with_reducible refine (hr.out _).mono ?_; rintro e w' ⟨rfl, rfl⟩) | (go_at_call 59; with_reducible refine (ha.out _).mono ?_; rintro e w' ⟨rfl, rfl⟩) | (go_at_call 59; with_reducible refine (hb_.out _).mono ?_; rintro e w' ⟨rfl, rfl⟩) | (go_at_call 58; with_reducible refine (hk.out _).mono ?_; rintro e w2 ⟨rfl, hb2⟩; replace hB := hB.trans (hb2.mono hB.size); clear hb2; (try clear g0 g1 g2 g3 g5 g6); have g0 := boxCell hB 0 h0; have g1 := boxCell hB 1 h1; have g2 := boxCell hB 2 h2; have g3 := boxCell hB 3 h3; have g5 := boxCell hB 5 h5; have g6 := boxCell hB 6 h6))
    go_ret
    exact ⟨rfl, below1 hB⟩
  | true =>
    cases R with
    | false =>
      go_enter Tryd.func34, Tryd.ntmps34
      go_wp2_with (first | (go_at_call 59; with_reducible refine (hr.out _).mono ?_; rintro e w' ⟨rfl, rfl⟩) | (go_at_call 59; with_reducible refine (ha.out _).mono ?_; rintro e w' ⟨rfl, rfl⟩) | (go_at_call 59; with_reducible refine (hb_.out _).mono ?_; rintro e w' ⟨rfl, rfl⟩) | (go_at_call 58; with_reducible refine (hk.out _).mono ?_; rintro e w2 ⟨rfl, hb2⟩; replace hB := hB.trans (hb2.mono hB.size); clear hb2; (try clear g0 g1 g2 g3 g5 g6); have g0 := boxCell hB 0 h0; have g1 := boxCell hB 1 h1; have g2 := boxCell hB 2 h2; have g3 := boxCell hB 3 h3; have g5 := boxCell hB 5 h5; have g6 := boxCell hB 6 h6))
      go_ret
      exact ⟨rfl, below1 hB⟩
    | true =>
      cases A with
      | false =>
        go_enter Tryd.func34, Tryd.ntmps34
        go_wp2_with (first | (go_at_call 59; with_reducible refine (hr.out _).mono ?_; rintro e w' ⟨rfl, rfl⟩) | (go_at_call 59; with_reducible refine (ha.out _).mono ?_; rintro e w' ⟨rfl, rfl⟩) | (go_at_call 59; with_reducible refine (hb_.out _).mono ?_; rintro e w' ⟨rfl, rfl⟩) | (go_at_call 58; with_reducible refine (hk.out _).mono ?_; rintro e w2 ⟨rfl, hb2⟩; replace hB := hB.trans (hb2.mono hB.size); clear hb2; (try clear g0 g1 g2 g3 g5 g6); have g0 := boxCell hB 0 h0; have g1 := boxCell hB 1 h1; have g2 := boxCell hB 2 h2; have g3 := boxCell hB 3 h3; have g5 := boxCell hB 5 h5; have g6 := boxCell hB 6 h6))
        go_ret
        exact ⟨rfl, below1 hB⟩
      | true =>
        cases B with
        | false =>
          go_enter Tryd.func34, Tryd.ntmps34
          go_wp2_with (first | (go_at_call 59; with_reducible refine (hr.out _).mono ?_; rintro e w' ⟨rfl, rfl⟩) | (go_at_call 59; with_reducible refine (ha.out _).mono ?_; rintro e w' ⟨rfl, rfl⟩) | (go_at_call 59; with_reducible refine (hb_.out _).mono ?_; rintro e w' ⟨rfl, rfl⟩) | (go_at_call 58; with_reducible refine (hk.out _).mono ?_; rintro e w2 ⟨rfl, hb2⟩; replace hB := hB.trans (hb2.mono hB.size); clear hb2; (try clear g0 g1 g2 g3 g5 g6); have g0 := boxCell hB 0 h0; have g1 := boxCell hB 1 h1; have g2 := boxCell hB 2 h2; have g3 := boxCell hB 3 h3; have g5 := boxCell hB 5 h5; have g6 := boxCell hB 6 h6))
          go_ret
          exact ⟨rfl, below1 hB⟩
        | true =>
          go_enter Tryd.func34, Tryd.ntmps34
          go_wp2_with (first | (go_at_call 59; with_reducible refine (hr.out _).mono ?_; rintro e w' ⟨rfl, rfl⟩) | (go_at_call 59; with_reducible refine (ha.out _).mono ?_; rintro e w' ⟨rfl, rfl⟩) | (go_at_call 59; with_reducible refine (hb_.out _).mono ?_; rintro e w' ⟨rfl, rfl⟩) | (go_at_call 58; with_reducible refine (hk.out _).mono ?_; rintro e w2 ⟨rfl, hb2⟩; replace hB := hB.trans (hb2.mono hB.size); clear hb2; (try clear g0 g1 g2 g3 g5 g6); have g0 := boxCell hB 0 h0; have g1 := boxCell hB 1 h1; have g2 := boxCell hB 2 h2; have g3 := boxCell hB 3 h3; have g5 := boxCell hB 5 h5; have g6 := boxCell hB 6 h6))
          go_ret
          exact ⟨rfl, below1 hB⟩
set_option maxRecDepth 100000 in
set_option maxHeartbeats 4000000 in
theorem sr13 (cs : Array Value) (t0 a b c km : Int) (ks : ByteArray) (R A K : Bool) (w : World) (h0 : cs[0]? = some (.int .i64 13)) (h1 : cs[1]? = some (.int .i64 t0)) (h2 : cs[2]? = some (.int .i64 a)) (h5 : cs[5]? = some (.string ks)) (h6 : cs[6]? = some (.int .i64 km)) (hr : Fact (∀ w', Calls Tryd.prog 59 #[.int .i64 t0] w' fun e w'' => e = .returned (.bool R) ∧ w' = w'')) (ha : Fact (∀ w', Calls Tryd.prog 59 #[.int .i64 a] w' fun e w'' => e = .returned (.bool A) ∧ w' = w'')) (hk : Fact (∀ w', Calls Tryd.prog 58 #[.agg #[.string ks, .int .i64 km]] w' fun e w'' => e = .returned (.bool K) ∧ Below w'.heap.size w' w''))  :
    Calls Tryd.prog 34 #[.agg cs] w fun e w' => e = .returned (.bool (K && (R && A))) ∧ Below w.heap.size w w' := by
  have hB := Below.refl (w.alloc (.cells cs 49)).heap.size (w.alloc (.cells cs 49))
  have g0 := boxCell hB 0 h0; have g1 := boxCell hB 1 h1; have g2 := boxCell hB 2 h2; have g5 := boxCell hB 5 h5; have g6 := boxCell hB 6 h6
  cases K with
  | false =>
    go_enter Tryd.func34, Tryd.ntmps34
    go_wp2_with (first | (go_at_call 59; with_reducible refine (hr.out _).mono ?_; rintro e w' ⟨rfl, rfl⟩) | (go_at_call 59; with_reducible refine (ha.out _).mono ?_; rintro e w' ⟨rfl, rfl⟩) | (go_at_call 58; with_reducible refine (hk.out _).mono ?_; rintro e w2 ⟨rfl, hb2⟩; replace hB := hB.trans (hb2.mono hB.size); clear hb2; (try clear g0 g1 g2 g5 g6); have g0 := boxCell hB 0 h0; have g1 := boxCell hB 1 h1; have g2 := boxCell hB 2 h2; have g5 := boxCell hB 5 h5; have g6 := boxCell hB 6 h6))
    go_ret
    exact ⟨rfl, below1 hB⟩
  | true =>
    cases R with
    | false =>
      go_enter Tryd.func34, Tryd.ntmps34
      go_wp2_with (first | (go_at_call 59; with_reducible refine (hr.out _).mono ?_; rintro e w' ⟨rfl, rfl⟩) | (go_at_call 59; with_reducible refine (ha.out _).mono ?_; rintro e w' ⟨rfl, rfl⟩) | (go_at_call 58; with_reducible refine (hk.out _).mono ?_; rintro e w2 ⟨rfl, hb2⟩; replace hB := hB.trans (hb2.mono hB.size); clear hb2; (try clear g0 g1 g2 g5 g6); have g0 := boxCell hB 0 h0; have g1 := boxCell hB 1 h1; have g2 := boxCell hB 2 h2; have g5 := boxCell hB 5 h5; have g6 := boxCell hB 6 h6))
      go_ret
      exact ⟨rfl, below1 hB⟩
    | true =>
      cases A with
      | false =>
        go_enter Tryd.func34, Tryd.ntmps34
        go_wp2_with (first | (go_at_call 59; with_reducible refine (hr.out _).mono ?_; rintro e w' ⟨rfl, rfl⟩) | (go_at_call 59; with_reducible refine (ha.out _).mono ?_; rintro e w' ⟨rfl, rfl⟩) | (go_at_call 58; with_reducible refine (hk.out _).mono ?_; rintro e w2 ⟨rfl, hb2⟩; replace hB := hB.trans (hb2.mono hB.size); clear hb2; (try clear g0 g1 g2 g5 g6); have g0 := boxCell hB 0 h0; have g1 := boxCell hB 1 h1; have g2 := boxCell hB 2 h2; have g5 := boxCell hB 5 h5; have g6 := boxCell hB 6 h6))
        go_ret
        exact ⟨rfl, below1 hB⟩
      | true =>
        go_enter Tryd.func34, Tryd.ntmps34
        go_wp2_with (first | (go_at_call 59; with_reducible refine (hr.out _).mono ?_; rintro e w' ⟨rfl, rfl⟩) | (go_at_call 59; with_reducible refine (ha.out _).mono ?_; rintro e w' ⟨rfl, rfl⟩) | (go_at_call 58; with_reducible refine (hk.out _).mono ?_; rintro e w2 ⟨rfl, hb2⟩; replace hB := hB.trans (hb2.mono hB.size); clear hb2; (try clear g0 g1 g2 g5 g6); have g0 := boxCell hB 0 h0; have g1 := boxCell hB 1 h1; have g2 := boxCell hB 2 h2; have g5 := boxCell hB 5 h5; have g6 := boxCell hB 6 h6))
        go_ret
        exact ⟨rfl, below1 hB⟩
set_option maxRecDepth 100000 in
set_option maxHeartbeats 4000000 in
theorem sr14 (cs : Array Value) (t0 a b c km : Int) (ks : ByteArray) (R A K : Bool) (w : World) (h0 : cs[0]? = some (.int .i64 14)) (h1 : cs[1]? = some (.int .i64 t0)) (h2 : cs[2]? = some (.int .i64 a)) (h5 : cs[5]? = some (.string ks)) (h6 : cs[6]? = some (.int .i64 km)) (hr : Fact (∀ w', Calls Tryd.prog 59 #[.int .i64 t0] w' fun e w'' => e = .returned (.bool R) ∧ w' = w'')) (ha : Fact (∀ w', Calls Tryd.prog 59 #[.int .i64 a] w' fun e w'' => e = .returned (.bool A) ∧ w' = w'')) (hk : Fact (∀ w', Calls Tryd.prog 58 #[.agg #[.string ks, .int .i64 km]] w' fun e w'' => e = .returned (.bool K) ∧ Below w'.heap.size w' w''))  :
    Calls Tryd.prog 34 #[.agg cs] w fun e w' => e = .returned (.bool (K && (R && A))) ∧ Below w.heap.size w w' := by
  have hB := Below.refl (w.alloc (.cells cs 49)).heap.size (w.alloc (.cells cs 49))
  have g0 := boxCell hB 0 h0; have g1 := boxCell hB 1 h1; have g2 := boxCell hB 2 h2; have g5 := boxCell hB 5 h5; have g6 := boxCell hB 6 h6
  cases K with
  | false =>
    go_enter Tryd.func34, Tryd.ntmps34
    go_wp2_with (first | (go_at_call 59; with_reducible refine (hr.out _).mono ?_; rintro e w' ⟨rfl, rfl⟩) | (go_at_call 59; with_reducible refine (ha.out _).mono ?_; rintro e w' ⟨rfl, rfl⟩) | (go_at_call 58; with_reducible refine (hk.out _).mono ?_; rintro e w2 ⟨rfl, hb2⟩; replace hB := hB.trans (hb2.mono hB.size); clear hb2; (try clear g0 g1 g2 g5 g6); have g0 := boxCell hB 0 h0; have g1 := boxCell hB 1 h1; have g2 := boxCell hB 2 h2; have g5 := boxCell hB 5 h5; have g6 := boxCell hB 6 h6))
    go_ret
    exact ⟨rfl, below1 hB⟩
  | true =>
    cases R with
    | false =>
      go_enter Tryd.func34, Tryd.ntmps34
      go_wp2_with (first | (go_at_call 59; with_reducible refine (hr.out _).mono ?_; rintro e w' ⟨rfl, rfl⟩) | (go_at_call 59; with_reducible refine (ha.out _).mono ?_; rintro e w' ⟨rfl, rfl⟩) | (go_at_call 58; with_reducible refine (hk.out _).mono ?_; rintro e w2 ⟨rfl, hb2⟩; replace hB := hB.trans (hb2.mono hB.size); clear hb2; (try clear g0 g1 g2 g5 g6); have g0 := boxCell hB 0 h0; have g1 := boxCell hB 1 h1; have g2 := boxCell hB 2 h2; have g5 := boxCell hB 5 h5; have g6 := boxCell hB 6 h6))
      go_ret
      exact ⟨rfl, below1 hB⟩
    | true =>
      cases A with
      | false =>
        go_enter Tryd.func34, Tryd.ntmps34
        go_wp2_with (first | (go_at_call 59; with_reducible refine (hr.out _).mono ?_; rintro e w' ⟨rfl, rfl⟩) | (go_at_call 59; with_reducible refine (ha.out _).mono ?_; rintro e w' ⟨rfl, rfl⟩) | (go_at_call 58; with_reducible refine (hk.out _).mono ?_; rintro e w2 ⟨rfl, hb2⟩; replace hB := hB.trans (hb2.mono hB.size); clear hb2; (try clear g0 g1 g2 g5 g6); have g0 := boxCell hB 0 h0; have g1 := boxCell hB 1 h1; have g2 := boxCell hB 2 h2; have g5 := boxCell hB 5 h5; have g6 := boxCell hB 6 h6))
        go_ret
        exact ⟨rfl, below1 hB⟩
      | true =>
        go_enter Tryd.func34, Tryd.ntmps34
        go_wp2_with (first | (go_at_call 59; with_reducible refine (hr.out _).mono ?_; rintro e w' ⟨rfl, rfl⟩) | (go_at_call 59; with_reducible refine (ha.out _).mono ?_; rintro e w' ⟨rfl, rfl⟩) | (go_at_call 58; with_reducible refine (hk.out _).mono ?_; rintro e w2 ⟨rfl, hb2⟩; replace hB := hB.trans (hb2.mono hB.size); clear hb2; (try clear g0 g1 g2 g5 g6); have g0 := boxCell hB 0 h0; have g1 := boxCell hB 1 h1; have g2 := boxCell hB 2 h2; have g5 := boxCell hB 5 h5; have g6 := boxCell hB 6 h6))
        go_ret
        exact ⟨rfl, below1 hB⟩
set_option maxRecDepth 100000 in
set_option maxHeartbeats 4000000 in
theorem sr15 (cs : Array Value) (t0 a b c km : Int) (ks : ByteArray) (R A K : Bool) (w : World) (h0 : cs[0]? = some (.int .i64 15)) (h1 : cs[1]? = some (.int .i64 t0)) (h2 : cs[2]? = some (.int .i64 a)) (h5 : cs[5]? = some (.string ks)) (h6 : cs[6]? = some (.int .i64 km)) (hr : Fact (∀ w', Calls Tryd.prog 59 #[.int .i64 t0] w' fun e w'' => e = .returned (.bool R) ∧ w' = w'')) (ha : Fact (∀ w', Calls Tryd.prog 59 #[.int .i64 a] w' fun e w'' => e = .returned (.bool A) ∧ w' = w'')) (hk : Fact (∀ w', Calls Tryd.prog 58 #[.agg #[.string ks, .int .i64 km]] w' fun e w'' => e = .returned (.bool K) ∧ Below w'.heap.size w' w''))  :
    Calls Tryd.prog 34 #[.agg cs] w fun e w' => e = .returned (.bool (K && (R && A))) ∧ Below w.heap.size w w' := by
  have hB := Below.refl (w.alloc (.cells cs 49)).heap.size (w.alloc (.cells cs 49))
  have g0 := boxCell hB 0 h0; have g1 := boxCell hB 1 h1; have g2 := boxCell hB 2 h2; have g5 := boxCell hB 5 h5; have g6 := boxCell hB 6 h6
  cases K with
  | false =>
    go_enter Tryd.func34, Tryd.ntmps34
    go_wp2_with (first | (go_at_call 59; with_reducible refine (hr.out _).mono ?_; rintro e w' ⟨rfl, rfl⟩) | (go_at_call 59; with_reducible refine (ha.out _).mono ?_; rintro e w' ⟨rfl, rfl⟩) | (go_at_call 58; with_reducible refine (hk.out _).mono ?_; rintro e w2 ⟨rfl, hb2⟩; replace hB := hB.trans (hb2.mono hB.size); clear hb2; (try clear g0 g1 g2 g5 g6); have g0 := boxCell hB 0 h0; have g1 := boxCell hB 1 h1; have g2 := boxCell hB 2 h2; have g5 := boxCell hB 5 h5; have g6 := boxCell hB 6 h6))
    go_ret
    exact ⟨rfl, below1 hB⟩
  | true =>
    cases R with
    | false =>
      go_enter Tryd.func34, Tryd.ntmps34
      go_wp2_with (first | (go_at_call 59; with_reducible refine (hr.out _).mono ?_; rintro e w' ⟨rfl, rfl⟩) | (go_at_call 59; with_reducible refine (ha.out _).mono ?_; rintro e w' ⟨rfl, rfl⟩) | (go_at_call 58; with_reducible refine (hk.out _).mono ?_; rintro e w2 ⟨rfl, hb2⟩; replace hB := hB.trans (hb2.mono hB.size); clear hb2; (try clear g0 g1 g2 g5 g6); have g0 := boxCell hB 0 h0; have g1 := boxCell hB 1 h1; have g2 := boxCell hB 2 h2; have g5 := boxCell hB 5 h5; have g6 := boxCell hB 6 h6))
      go_ret
      exact ⟨rfl, below1 hB⟩
    | true =>
      cases A with
      | false =>
        go_enter Tryd.func34, Tryd.ntmps34
        go_wp2_with (first | (go_at_call 59; with_reducible refine (hr.out _).mono ?_; rintro e w' ⟨rfl, rfl⟩) | (go_at_call 59; with_reducible refine (ha.out _).mono ?_; rintro e w' ⟨rfl, rfl⟩) | (go_at_call 58; with_reducible refine (hk.out _).mono ?_; rintro e w2 ⟨rfl, hb2⟩; replace hB := hB.trans (hb2.mono hB.size); clear hb2; (try clear g0 g1 g2 g5 g6); have g0 := boxCell hB 0 h0; have g1 := boxCell hB 1 h1; have g2 := boxCell hB 2 h2; have g5 := boxCell hB 5 h5; have g6 := boxCell hB 6 h6))
        go_ret
        exact ⟨rfl, below1 hB⟩
      | true =>
        go_enter Tryd.func34, Tryd.ntmps34
        go_wp2_with (first | (go_at_call 59; with_reducible refine (hr.out _).mono ?_; rintro e w' ⟨rfl, rfl⟩) | (go_at_call 59; with_reducible refine (ha.out _).mono ?_; rintro e w' ⟨rfl, rfl⟩) | (go_at_call 58; with_reducible refine (hk.out _).mono ?_; rintro e w2 ⟨rfl, hb2⟩; replace hB := hB.trans (hb2.mono hB.size); clear hb2; (try clear g0 g1 g2 g5 g6); have g0 := boxCell hB 0 h0; have g1 := boxCell hB 1 h1; have g2 := boxCell hB 2 h2; have g5 := boxCell hB 5 h5; have g6 := boxCell hB 6 h6))
        go_ret
        exact ⟨rfl, below1 hB⟩
end Go.Proofs.YtinaibebdacnmaaDoor

/- Operations, code by code. -/
set_option linter.unusedVariables false
namespace Go.Proofs.YtinaibebdacnmaaDoor
open Go.RowKit Go.Proofs.YtinaibebdacnmaaDoorW.PrintWords
attribute [local go_sem] run_store_float
set_option maxRecDepth 100000 in
set_option maxHeartbeats 4000000 in
theorem sr16 (cs : Array Value) (t0 a b c km : Int) (ks : ByteArray) (R A : Bool) (w : World) (h0 : cs[0]? = some (.int .i64 16)) (h1 : cs[1]? = some (.int .i64 t0)) (h2 : cs[2]? = some (.int .i64 a)) (hr : Fact (∀ w', Calls Tryd.prog 59 #[.int .i64 t0] w' fun e w'' => e = .returned (.bool R) ∧ w' = w'')) (ha : Fact (∀ w', Calls Tryd.prog 59 #[.int .i64 a] w' fun e w'' => e = .returned (.bool A) ∧ w' = w'')) :
    Calls Tryd.prog 34 #[.agg cs] w fun e w' => e = .returned (.bool (R && A)) ∧ Below w.heap.size w w' := by
  have hB := Below.refl (w.alloc (.cells cs 49)).heap.size (w.alloc (.cells cs 49))
  have g0 := boxCell hB 0 h0; have g1 := boxCell hB 1 h1; have g2 := boxCell hB 2 h2
  cases R with
  | false =>
    go_enter Tryd.func34, Tryd.ntmps34
    go_wp2_with (first | (go_at_call 59; with_reducible refine (hr.out _).mono ?_; rintro e w' ⟨rfl, rfl⟩) | (go_at_call 59; with_reducible refine (ha.out _).mono ?_; rintro e w' ⟨rfl, rfl⟩))
    go_ret
    exact ⟨rfl, below1 hB⟩
  | true =>
    cases A with
    | false =>
      go_enter Tryd.func34, Tryd.ntmps34
      go_wp2_with (first | (go_at_call 59; with_reducible refine (hr.out _).mono ?_; rintro e w' ⟨rfl, rfl⟩) | (go_at_call 59; with_reducible refine (ha.out _).mono ?_; rintro e w' ⟨rfl, rfl⟩))
      go_ret
      exact ⟨rfl, below1 hB⟩
    | true =>
      go_enter Tryd.func34, Tryd.ntmps34
      go_wp2_with (first | (go_at_call 59; with_reducible refine (hr.out _).mono ?_; rintro e w' ⟨rfl, rfl⟩) | (go_at_call 59; with_reducible refine (ha.out _).mono ?_; rintro e w' ⟨rfl, rfl⟩))
      go_ret
      exact ⟨rfl, below1 hB⟩
set_option maxRecDepth 100000 in
set_option maxHeartbeats 4000000 in
theorem sr17 (cs : Array Value) (t0 a b c km : Int) (ks : ByteArray) (R A B : Bool) (w : World) (h0 : cs[0]? = some (.int .i64 17)) (h1 : cs[1]? = some (.int .i64 t0)) (h2 : cs[2]? = some (.int .i64 a)) (h3 : cs[3]? = some (.int .i64 b)) (hr : Fact (∀ w', Calls Tryd.prog 59 #[.int .i64 t0] w' fun e w'' => e = .returned (.bool R) ∧ w' = w'')) (ha : Fact (∀ w', Calls Tryd.prog 59 #[.int .i64 a] w' fun e w'' => e = .returned (.bool A) ∧ w' = w'')) (hb_ : Fact (∀ w', Calls Tryd.prog 59 #[.int .i64 b] w' fun e w'' => e = .returned (.bool B) ∧ w' = w'')) :
    Calls Tryd.prog 34 #[.agg cs] w fun e w' => e = .returned (.bool (R && (A && B))) ∧ Below w.heap.size w w' := by
  have hB := Below.refl (w.alloc (.cells cs 49)).heap.size (w.alloc (.cells cs 49))
  have g0 := boxCell hB 0 h0; have g1 := boxCell hB 1 h1; have g2 := boxCell hB 2 h2; have g3 := boxCell hB 3 h3
  cases R with
  | false =>
    go_enter Tryd.func34, Tryd.ntmps34
    go_wp2_with (first | (go_at_call 59; with_reducible refine (hr.out _).mono ?_; rintro e w' ⟨rfl, rfl⟩) | (go_at_call 59; with_reducible refine (ha.out _).mono ?_; rintro e w' ⟨rfl, rfl⟩) | (go_at_call 59; with_reducible refine (hb_.out _).mono ?_; rintro e w' ⟨rfl, rfl⟩))
    go_ret
    exact ⟨rfl, below1 hB⟩
  | true =>
    cases A with
    | false =>
      go_enter Tryd.func34, Tryd.ntmps34
      go_wp2_with (first | (go_at_call 59; with_reducible refine (hr.out _).mono ?_; rintro e w' ⟨rfl, rfl⟩) | (go_at_call 59; with_reducible refine (ha.out _).mono ?_; rintro e w' ⟨rfl, rfl⟩) | (go_at_call 59; with_reducible refine (hb_.out _).mono ?_; rintro e w' ⟨rfl, rfl⟩))
      go_ret
      exact ⟨rfl, below1 hB⟩
    | true =>
      cases B with
      | false =>
        go_enter Tryd.func34, Tryd.ntmps34
        go_wp2_with (first | (go_at_call 59; with_reducible refine (hr.out _).mono ?_; rintro e w' ⟨rfl, rfl⟩) | (go_at_call 59; with_reducible refine (ha.out _).mono ?_; rintro e w' ⟨rfl, rfl⟩) | (go_at_call 59; with_reducible refine (hb_.out _).mono ?_; rintro e w' ⟨rfl, rfl⟩))
        go_ret
        exact ⟨rfl, below1 hB⟩
      | true =>
        go_enter Tryd.func34, Tryd.ntmps34
        go_wp2_with (first | (go_at_call 59; with_reducible refine (hr.out _).mono ?_; rintro e w' ⟨rfl, rfl⟩) | (go_at_call 59; with_reducible refine (ha.out _).mono ?_; rintro e w' ⟨rfl, rfl⟩) | (go_at_call 59; with_reducible refine (hb_.out _).mono ?_; rintro e w' ⟨rfl, rfl⟩))
        go_ret
        exact ⟨rfl, below1 hB⟩
set_option maxRecDepth 100000 in
set_option maxHeartbeats 4000000 in
theorem sr18 (cs : Array Value) (t0 a b c km : Int) (ks : ByteArray) (R A : Bool) (w : World) (h0 : cs[0]? = some (.int .i64 18)) (h1 : cs[1]? = some (.int .i64 t0)) (h2 : cs[2]? = some (.int .i64 a)) (hr : Fact (∀ w', Calls Tryd.prog 59 #[.int .i64 t0] w' fun e w'' => e = .returned (.bool R) ∧ w' = w'')) (ha : Fact (∀ w', Calls Tryd.prog 59 #[.int .i64 a] w' fun e w'' => e = .returned (.bool A) ∧ w' = w'')) :
    Calls Tryd.prog 34 #[.agg cs] w fun e w' => e = .returned (.bool (R && A)) ∧ Below w.heap.size w w' := by
  have hB := Below.refl (w.alloc (.cells cs 49)).heap.size (w.alloc (.cells cs 49))
  have g0 := boxCell hB 0 h0; have g1 := boxCell hB 1 h1; have g2 := boxCell hB 2 h2
  cases R with
  | false =>
    go_enter Tryd.func34, Tryd.ntmps34
    go_wp2_with (first | (go_at_call 59; with_reducible refine (hr.out _).mono ?_; rintro e w' ⟨rfl, rfl⟩) | (go_at_call 59; with_reducible refine (ha.out _).mono ?_; rintro e w' ⟨rfl, rfl⟩))
    go_ret
    exact ⟨rfl, below1 hB⟩
  | true =>
    cases A with
    | false =>
      go_enter Tryd.func34, Tryd.ntmps34
      go_wp2_with (first | (go_at_call 59; with_reducible refine (hr.out _).mono ?_; rintro e w' ⟨rfl, rfl⟩) | (go_at_call 59; with_reducible refine (ha.out _).mono ?_; rintro e w' ⟨rfl, rfl⟩))
      go_ret
      exact ⟨rfl, below1 hB⟩
    | true =>
      go_enter Tryd.func34, Tryd.ntmps34
      go_wp2_with (first | (go_at_call 59; with_reducible refine (hr.out _).mono ?_; rintro e w' ⟨rfl, rfl⟩) | (go_at_call 59; with_reducible refine (ha.out _).mono ?_; rintro e w' ⟨rfl, rfl⟩))
      go_ret
      exact ⟨rfl, below1 hB⟩
set_option maxRecDepth 100000 in
set_option maxHeartbeats 4000000 in
theorem sr19 (cs : Array Value) (t0 a b c km : Int) (ks : ByteArray) (R A : Bool) (w : World) (h0 : cs[0]? = some (.int .i64 19)) (h1 : cs[1]? = some (.int .i64 t0)) (h2 : cs[2]? = some (.int .i64 a)) (hr : Fact (∀ w', Calls Tryd.prog 59 #[.int .i64 t0] w' fun e w'' => e = .returned (.bool R) ∧ w' = w'')) (ha : Fact (∀ w', Calls Tryd.prog 59 #[.int .i64 a] w' fun e w'' => e = .returned (.bool A) ∧ w' = w'')) :
    Calls Tryd.prog 34 #[.agg cs] w fun e w' => e = .returned (.bool (R && A)) ∧ Below w.heap.size w w' := by
  have hB := Below.refl (w.alloc (.cells cs 49)).heap.size (w.alloc (.cells cs 49))
  have g0 := boxCell hB 0 h0; have g1 := boxCell hB 1 h1; have g2 := boxCell hB 2 h2
  cases R with
  | false =>
    go_enter Tryd.func34, Tryd.ntmps34
    go_wp2_with (first | (go_at_call 59; with_reducible refine (hr.out _).mono ?_; rintro e w' ⟨rfl, rfl⟩) | (go_at_call 59; with_reducible refine (ha.out _).mono ?_; rintro e w' ⟨rfl, rfl⟩))
    go_ret
    exact ⟨rfl, below1 hB⟩
  | true =>
    cases A with
    | false =>
      go_enter Tryd.func34, Tryd.ntmps34
      go_wp2_with (first | (go_at_call 59; with_reducible refine (hr.out _).mono ?_; rintro e w' ⟨rfl, rfl⟩) | (go_at_call 59; with_reducible refine (ha.out _).mono ?_; rintro e w' ⟨rfl, rfl⟩))
      go_ret
      exact ⟨rfl, below1 hB⟩
    | true =>
      go_enter Tryd.func34, Tryd.ntmps34
      go_wp2_with (first | (go_at_call 59; with_reducible refine (hr.out _).mono ?_; rintro e w' ⟨rfl, rfl⟩) | (go_at_call 59; with_reducible refine (ha.out _).mono ?_; rintro e w' ⟨rfl, rfl⟩))
      go_ret
      exact ⟨rfl, below1 hB⟩
set_option maxRecDepth 100000 in
set_option maxHeartbeats 4000000 in
theorem sr20 (cs : Array Value) (t0 a b c km : Int) (ks : ByteArray) (R A B C : Bool) (w : World) (h0 : cs[0]? = some (.int .i64 20)) (h1 : cs[1]? = some (.int .i64 t0)) (h2 : cs[2]? = some (.int .i64 a)) (h3 : cs[3]? = some (.int .i64 b)) (h4 : cs[4]? = some (.int .i64 c)) (hr : Fact (∀ w', Calls Tryd.prog 59 #[.int .i64 t0] w' fun e w'' => e = .returned (.bool R) ∧ w' = w'')) (ha : Fact (∀ w', Calls Tryd.prog 59 #[.int .i64 a] w' fun e w'' => e = .returned (.bool A) ∧ w' = w'')) (hb_ : Fact (∀ w', Calls Tryd.prog 59 #[.int .i64 b] w' fun e w'' => e = .returned (.bool B) ∧ w' = w'')) (hc : Fact (∀ w', Calls Tryd.prog 59 #[.int .i64 c] w' fun e w'' => e = .returned (.bool C) ∧ w' = w'')) :
    Calls Tryd.prog 34 #[.agg cs] w fun e w' => e = .returned (.bool (R && (A && (B && C)))) ∧ Below w.heap.size w w' := by
  have hB := Below.refl (w.alloc (.cells cs 49)).heap.size (w.alloc (.cells cs 49))
  have g0 := boxCell hB 0 h0; have g1 := boxCell hB 1 h1; have g2 := boxCell hB 2 h2; have g3 := boxCell hB 3 h3; have g4 := boxCell hB 4 h4
  cases R with
  | false =>
    go_enter Tryd.func34, Tryd.ntmps34
    go_wp2_with (first | (go_at_call 59; with_reducible refine (hr.out _).mono ?_; rintro e w' ⟨rfl, rfl⟩) | (go_at_call 59; with_reducible refine (ha.out _).mono ?_; rintro e w' ⟨rfl, rfl⟩) | (go_at_call 59; with_reducible refine (hb_.out _).mono ?_; rintro e w' ⟨rfl, rfl⟩) | (go_at_call 59; with_reducible refine (hc.out _).mono ?_; rintro e w' ⟨rfl, rfl⟩))
    go_ret
    exact ⟨rfl, below1 hB⟩
  | true =>
    cases A with
    | false =>
      go_enter Tryd.func34, Tryd.ntmps34
      go_wp2_with (first | (go_at_call 59; with_reducible refine (hr.out _).mono ?_; rintro e w' ⟨rfl, rfl⟩) | (go_at_call 59; with_reducible refine (ha.out _).mono ?_; rintro e w' ⟨rfl, rfl⟩) | (go_at_call 59; with_reducible refine (hb_.out _).mono ?_; rintro e w' ⟨rfl, rfl⟩) | (go_at_call 59; with_reducible refine (hc.out _).mono ?_; rintro e w' ⟨rfl, rfl⟩))
      go_ret
      exact ⟨rfl, below1 hB⟩
    | true =>
      cases B with
      | false =>
        go_enter Tryd.func34, Tryd.ntmps34
        go_wp2_with (first | (go_at_call 59; with_reducible refine (hr.out _).mono ?_; rintro e w' ⟨rfl, rfl⟩) | (go_at_call 59; with_reducible refine (ha.out _).mono ?_; rintro e w' ⟨rfl, rfl⟩) | (go_at_call 59; with_reducible refine (hb_.out _).mono ?_; rintro e w' ⟨rfl, rfl⟩) | (go_at_call 59; with_reducible refine (hc.out _).mono ?_; rintro e w' ⟨rfl, rfl⟩))
        go_ret
        exact ⟨rfl, below1 hB⟩
      | true =>
        cases C with
        | false =>
          go_enter Tryd.func34, Tryd.ntmps34
          go_wp2_with (first | (go_at_call 59; with_reducible refine (hr.out _).mono ?_; rintro e w' ⟨rfl, rfl⟩) | (go_at_call 59; with_reducible refine (ha.out _).mono ?_; rintro e w' ⟨rfl, rfl⟩) | (go_at_call 59; with_reducible refine (hb_.out _).mono ?_; rintro e w' ⟨rfl, rfl⟩) | (go_at_call 59; with_reducible refine (hc.out _).mono ?_; rintro e w' ⟨rfl, rfl⟩))
          go_ret
          exact ⟨rfl, below1 hB⟩
        | true =>
          go_enter Tryd.func34, Tryd.ntmps34
          go_wp2_with (first | (go_at_call 59; with_reducible refine (hr.out _).mono ?_; rintro e w' ⟨rfl, rfl⟩) | (go_at_call 59; with_reducible refine (ha.out _).mono ?_; rintro e w' ⟨rfl, rfl⟩) | (go_at_call 59; with_reducible refine (hb_.out _).mono ?_; rintro e w' ⟨rfl, rfl⟩) | (go_at_call 59; with_reducible refine (hc.out _).mono ?_; rintro e w' ⟨rfl, rfl⟩))
          go_ret
          exact ⟨rfl, below1 hB⟩
set_option maxRecDepth 100000 in
set_option maxHeartbeats 4000000 in
theorem sr21 (cs : Array Value) (t0 a b c km : Int) (ks : ByteArray) (R A B : Bool) (w : World) (h0 : cs[0]? = some (.int .i64 21)) (h1 : cs[1]? = some (.int .i64 t0)) (h2 : cs[2]? = some (.int .i64 a)) (h3 : cs[3]? = some (.int .i64 b)) (hr : Fact (∀ w', Calls Tryd.prog 59 #[.int .i64 t0] w' fun e w'' => e = .returned (.bool R) ∧ w' = w'')) (ha : Fact (∀ w', Calls Tryd.prog 59 #[.int .i64 a] w' fun e w'' => e = .returned (.bool A) ∧ w' = w'')) (hb_ : Fact (∀ w', Calls Tryd.prog 59 #[.int .i64 b] w' fun e w'' => e = .returned (.bool B) ∧ w' = w'')) :
    Calls Tryd.prog 34 #[.agg cs] w fun e w' => e = .returned (.bool (R && (A && B))) ∧ Below w.heap.size w w' := by
  have hB := Below.refl (w.alloc (.cells cs 49)).heap.size (w.alloc (.cells cs 49))
  have g0 := boxCell hB 0 h0; have g1 := boxCell hB 1 h1; have g2 := boxCell hB 2 h2; have g3 := boxCell hB 3 h3
  cases R with
  | false =>
    go_enter Tryd.func34, Tryd.ntmps34
    go_wp2_with (first | (go_at_call 59; with_reducible refine (hr.out _).mono ?_; rintro e w' ⟨rfl, rfl⟩) | (go_at_call 59; with_reducible refine (ha.out _).mono ?_; rintro e w' ⟨rfl, rfl⟩) | (go_at_call 59; with_reducible refine (hb_.out _).mono ?_; rintro e w' ⟨rfl, rfl⟩))
    go_ret
    exact ⟨rfl, below1 hB⟩
  | true =>
    cases A with
    | false =>
      go_enter Tryd.func34, Tryd.ntmps34
      go_wp2_with (first | (go_at_call 59; with_reducible refine (hr.out _).mono ?_; rintro e w' ⟨rfl, rfl⟩) | (go_at_call 59; with_reducible refine (ha.out _).mono ?_; rintro e w' ⟨rfl, rfl⟩) | (go_at_call 59; with_reducible refine (hb_.out _).mono ?_; rintro e w' ⟨rfl, rfl⟩))
      go_ret
      exact ⟨rfl, below1 hB⟩
    | true =>
      cases B with
      | false =>
        go_enter Tryd.func34, Tryd.ntmps34
        go_wp2_with (first | (go_at_call 59; with_reducible refine (hr.out _).mono ?_; rintro e w' ⟨rfl, rfl⟩) | (go_at_call 59; with_reducible refine (ha.out _).mono ?_; rintro e w' ⟨rfl, rfl⟩) | (go_at_call 59; with_reducible refine (hb_.out _).mono ?_; rintro e w' ⟨rfl, rfl⟩))
        go_ret
        exact ⟨rfl, below1 hB⟩
      | true =>
        go_enter Tryd.func34, Tryd.ntmps34
        go_wp2_with (first | (go_at_call 59; with_reducible refine (hr.out _).mono ?_; rintro e w' ⟨rfl, rfl⟩) | (go_at_call 59; with_reducible refine (ha.out _).mono ?_; rintro e w' ⟨rfl, rfl⟩) | (go_at_call 59; with_reducible refine (hb_.out _).mono ?_; rintro e w' ⟨rfl, rfl⟩))
        go_ret
        exact ⟨rfl, below1 hB⟩
set_option maxRecDepth 100000 in
set_option maxHeartbeats 4000000 in
theorem sr22 (cs : Array Value) (t0 a b c km : Int) (ks : ByteArray) (R A : Bool) (w : World) (h0 : cs[0]? = some (.int .i64 22)) (h1 : cs[1]? = some (.int .i64 t0)) (h2 : cs[2]? = some (.int .i64 a)) (hr : Fact (∀ w', Calls Tryd.prog 59 #[.int .i64 t0] w' fun e w'' => e = .returned (.bool R) ∧ w' = w'')) (ha : Fact (∀ w', Calls Tryd.prog 59 #[.int .i64 a] w' fun e w'' => e = .returned (.bool A) ∧ w' = w'')) :
    Calls Tryd.prog 34 #[.agg cs] w fun e w' => e = .returned (.bool (R && A)) ∧ Below w.heap.size w w' := by
  have hB := Below.refl (w.alloc (.cells cs 49)).heap.size (w.alloc (.cells cs 49))
  have g0 := boxCell hB 0 h0; have g1 := boxCell hB 1 h1; have g2 := boxCell hB 2 h2
  cases R with
  | false =>
    go_enter Tryd.func34, Tryd.ntmps34
    go_wp2_with (first | (go_at_call 59; with_reducible refine (hr.out _).mono ?_; rintro e w' ⟨rfl, rfl⟩) | (go_at_call 59; with_reducible refine (ha.out _).mono ?_; rintro e w' ⟨rfl, rfl⟩))
    go_ret
    exact ⟨rfl, below1 hB⟩
  | true =>
    cases A with
    | false =>
      go_enter Tryd.func34, Tryd.ntmps34
      go_wp2_with (first | (go_at_call 59; with_reducible refine (hr.out _).mono ?_; rintro e w' ⟨rfl, rfl⟩) | (go_at_call 59; with_reducible refine (ha.out _).mono ?_; rintro e w' ⟨rfl, rfl⟩))
      go_ret
      exact ⟨rfl, below1 hB⟩
    | true =>
      go_enter Tryd.func34, Tryd.ntmps34
      go_wp2_with (first | (go_at_call 59; with_reducible refine (hr.out _).mono ?_; rintro e w' ⟨rfl, rfl⟩) | (go_at_call 59; with_reducible refine (ha.out _).mono ?_; rintro e w' ⟨rfl, rfl⟩))
      go_ret
      exact ⟨rfl, below1 hB⟩
set_option maxRecDepth 100000 in
set_option maxHeartbeats 4000000 in
theorem sr23 (cs : Array Value) (t0 a b c km : Int) (ks : ByteArray) (R A B : Bool) (w : World) (h0 : cs[0]? = some (.int .i64 23)) (h1 : cs[1]? = some (.int .i64 t0)) (h2 : cs[2]? = some (.int .i64 a)) (h3 : cs[3]? = some (.int .i64 b)) (hr : Fact (∀ w', Calls Tryd.prog 59 #[.int .i64 t0] w' fun e w'' => e = .returned (.bool R) ∧ w' = w'')) (ha : Fact (∀ w', Calls Tryd.prog 59 #[.int .i64 a] w' fun e w'' => e = .returned (.bool A) ∧ w' = w'')) (hb_ : Fact (∀ w', Calls Tryd.prog 59 #[.int .i64 b] w' fun e w'' => e = .returned (.bool B) ∧ w' = w'')) :
    Calls Tryd.prog 34 #[.agg cs] w fun e w' => e = .returned (.bool (R && (A && B))) ∧ Below w.heap.size w w' := by
  have hB := Below.refl (w.alloc (.cells cs 49)).heap.size (w.alloc (.cells cs 49))
  have g0 := boxCell hB 0 h0; have g1 := boxCell hB 1 h1; have g2 := boxCell hB 2 h2; have g3 := boxCell hB 3 h3
  cases R with
  | false =>
    go_enter Tryd.func34, Tryd.ntmps34
    go_wp2_with (first | (go_at_call 59; with_reducible refine (hr.out _).mono ?_; rintro e w' ⟨rfl, rfl⟩) | (go_at_call 59; with_reducible refine (ha.out _).mono ?_; rintro e w' ⟨rfl, rfl⟩) | (go_at_call 59; with_reducible refine (hb_.out _).mono ?_; rintro e w' ⟨rfl, rfl⟩))
    go_ret
    exact ⟨rfl, below1 hB⟩
  | true =>
    cases A with
    | false =>
      go_enter Tryd.func34, Tryd.ntmps34
      go_wp2_with (first | (go_at_call 59; with_reducible refine (hr.out _).mono ?_; rintro e w' ⟨rfl, rfl⟩) | (go_at_call 59; with_reducible refine (ha.out _).mono ?_; rintro e w' ⟨rfl, rfl⟩) | (go_at_call 59; with_reducible refine (hb_.out _).mono ?_; rintro e w' ⟨rfl, rfl⟩))
      go_ret
      exact ⟨rfl, below1 hB⟩
    | true =>
      cases B with
      | false =>
        go_enter Tryd.func34, Tryd.ntmps34
        go_wp2_with (first | (go_at_call 59; with_reducible refine (hr.out _).mono ?_; rintro e w' ⟨rfl, rfl⟩) | (go_at_call 59; with_reducible refine (ha.out _).mono ?_; rintro e w' ⟨rfl, rfl⟩) | (go_at_call 59; with_reducible refine (hb_.out _).mono ?_; rintro e w' ⟨rfl, rfl⟩))
        go_ret
        exact ⟨rfl, below1 hB⟩
      | true =>
        go_enter Tryd.func34, Tryd.ntmps34
        go_wp2_with (first | (go_at_call 59; with_reducible refine (hr.out _).mono ?_; rintro e w' ⟨rfl, rfl⟩) | (go_at_call 59; with_reducible refine (ha.out _).mono ?_; rintro e w' ⟨rfl, rfl⟩) | (go_at_call 59; with_reducible refine (hb_.out _).mono ?_; rintro e w' ⟨rfl, rfl⟩))
        go_ret
        exact ⟨rfl, below1 hB⟩
set_option maxRecDepth 100000 in
set_option maxHeartbeats 4000000 in
theorem sr24 (cs : Array Value) (t0 a b c km : Int) (ks : ByteArray) (R A B C : Bool) (w : World) (h0 : cs[0]? = some (.int .i64 24)) (h1 : cs[1]? = some (.int .i64 t0)) (h2 : cs[2]? = some (.int .i64 a)) (h3 : cs[3]? = some (.int .i64 b)) (h4 : cs[4]? = some (.int .i64 c)) (hr : Fact (∀ w', Calls Tryd.prog 59 #[.int .i64 t0] w' fun e w'' => e = .returned (.bool R) ∧ w' = w'')) (ha : Fact (∀ w', Calls Tryd.prog 59 #[.int .i64 a] w' fun e w'' => e = .returned (.bool A) ∧ w' = w'')) (hb_ : Fact (∀ w', Calls Tryd.prog 59 #[.int .i64 b] w' fun e w'' => e = .returned (.bool B) ∧ w' = w'')) (hc : Fact (∀ w', Calls Tryd.prog 59 #[.int .i64 c] w' fun e w'' => e = .returned (.bool C) ∧ w' = w'')) :
    Calls Tryd.prog 34 #[.agg cs] w fun e w' => e = .returned (.bool (R && (A && (B && C)))) ∧ Below w.heap.size w w' := by
  have hB := Below.refl (w.alloc (.cells cs 49)).heap.size (w.alloc (.cells cs 49))
  have g0 := boxCell hB 0 h0; have g1 := boxCell hB 1 h1; have g2 := boxCell hB 2 h2; have g3 := boxCell hB 3 h3; have g4 := boxCell hB 4 h4
  cases R with
  | false =>
    go_enter Tryd.func34, Tryd.ntmps34
    go_wp2_with (first | (go_at_call 59; with_reducible refine (hr.out _).mono ?_; rintro e w' ⟨rfl, rfl⟩) | (go_at_call 59; with_reducible refine (ha.out _).mono ?_; rintro e w' ⟨rfl, rfl⟩) | (go_at_call 59; with_reducible refine (hb_.out _).mono ?_; rintro e w' ⟨rfl, rfl⟩) | (go_at_call 59; with_reducible refine (hc.out _).mono ?_; rintro e w' ⟨rfl, rfl⟩))
    go_ret
    exact ⟨rfl, below1 hB⟩
  | true =>
    cases A with
    | false =>
      go_enter Tryd.func34, Tryd.ntmps34
      go_wp2_with (first | (go_at_call 59; with_reducible refine (hr.out _).mono ?_; rintro e w' ⟨rfl, rfl⟩) | (go_at_call 59; with_reducible refine (ha.out _).mono ?_; rintro e w' ⟨rfl, rfl⟩) | (go_at_call 59; with_reducible refine (hb_.out _).mono ?_; rintro e w' ⟨rfl, rfl⟩) | (go_at_call 59; with_reducible refine (hc.out _).mono ?_; rintro e w' ⟨rfl, rfl⟩))
      go_ret
      exact ⟨rfl, below1 hB⟩
    | true =>
      cases B with
      | false =>
        go_enter Tryd.func34, Tryd.ntmps34
        go_wp2_with (first | (go_at_call 59; with_reducible refine (hr.out _).mono ?_; rintro e w' ⟨rfl, rfl⟩) | (go_at_call 59; with_reducible refine (ha.out _).mono ?_; rintro e w' ⟨rfl, rfl⟩) | (go_at_call 59; with_reducible refine (hb_.out _).mono ?_; rintro e w' ⟨rfl, rfl⟩) | (go_at_call 59; with_reducible refine (hc.out _).mono ?_; rintro e w' ⟨rfl, rfl⟩))
        go_ret
        exact ⟨rfl, below1 hB⟩
      | true =>
        cases C with
        | false =>
          go_enter Tryd.func34, Tryd.ntmps34
          go_wp2_with (first | (go_at_call 59; with_reducible refine (hr.out _).mono ?_; rintro e w' ⟨rfl, rfl⟩) | (go_at_call 59; with_reducible refine (ha.out _).mono ?_; rintro e w' ⟨rfl, rfl⟩) | (go_at_call 59; with_reducible refine (hb_.out _).mono ?_; rintro e w' ⟨rfl, rfl⟩) | (go_at_call 59; with_reducible refine (hc.out _).mono ?_; rintro e w' ⟨rfl, rfl⟩))
          go_ret
          exact ⟨rfl, below1 hB⟩
        | true =>
          go_enter Tryd.func34, Tryd.ntmps34
          go_wp2_with (first | (go_at_call 59; with_reducible refine (hr.out _).mono ?_; rintro e w' ⟨rfl, rfl⟩) | (go_at_call 59; with_reducible refine (ha.out _).mono ?_; rintro e w' ⟨rfl, rfl⟩) | (go_at_call 59; with_reducible refine (hb_.out _).mono ?_; rintro e w' ⟨rfl, rfl⟩) | (go_at_call 59; with_reducible refine (hc.out _).mono ?_; rintro e w' ⟨rfl, rfl⟩))
          go_ret
          exact ⟨rfl, below1 hB⟩
end Go.Proofs.YtinaibebdacnmaaDoor

/- Operations, code by code. -/
set_option linter.unusedVariables false
namespace Go.Proofs.YtinaibebdacnmaaDoor
open Go.RowKit Go.Proofs.YtinaibebdacnmaaDoorW.PrintWords
attribute [local go_sem] run_store_float
set_option maxRecDepth 100000 in
set_option maxHeartbeats 4000000 in
theorem sr12a (cs : Array Value) (t0 a b c km : Int) (ks : ByteArray) (d : Dt) (dd : Array Value) (R A B K D F Y Z : Bool) (w : World) (h0 : cs[0]? = some (.int .i64 12)) (h1 : cs[1]? = some (.int .i64 t0)) (h2 : cs[2]? = some (.int .i64 a)) (h3 : cs[3]? = some (.int .i64 b)) (h5 : cs[5]? = some (.string ks)) (h6 : cs[6]? = some (.int .i64 km)) (hdd : ∀ q, q < dd.size → cs[12 + q]? = dd[q]?) (hsz : (Tryd.prog.info? 47).map (·.size) = some dd.size) (hr : Fact (∀ w', Calls Tryd.prog 59 #[.int .i64 t0] w' fun e w'' => e = .returned (.bool R) ∧ w' = w'')) (ha : Fact (∀ w', Calls Tryd.prog 59 #[.int .i64 a] w' fun e w'' => e = .returned (.bool A) ∧ w' = w'')) (hb_ : Fact (∀ w', Calls Tryd.prog 59 #[.int .i64 b] w' fun e w'' => e = .returned (.bool B) ∧ w' = w'')) (hk : Fact (∀ w', Calls Tryd.prog 58 #[.agg #[.string ks, .int .i64 km]] w' fun e w'' => e = .returned (.bool K) ∧ Below w'.heap.size w' w'')) (hd : Fact (∀ w', Calls Tryd.prog 60 #[.agg dd] w' fun e w'' => e = .returned (.bool D) ∧ Below w'.heap.size w' w'')) (hy : Fact (∀ w', Calls Tryd.prog 61 #[.agg #[.int .i64 d.g.k, .bool d.g.b, .float .f64 d.g.n, .string d.g.s, .int .i64 d.g.i]] w' fun e w'' => e = .returned (.bool Y) ∧ Below w'.heap.size w' w'')) (hz : Fact (∀ w', Calls Tryd.prog 61 #[.agg #[.int .i64 d.s.k, .bool d.s.b, .float .f64 d.s.n, .string d.s.s, .int .i64 d.s.i]] w' fun e w'' => e = .returned (.bool Z) ∧ Below w'.heap.size w' w''))  (hbad : (R && (A && (B && K))) = false) :
    Calls Tryd.prog 34 #[.agg cs] w fun e w' => e = .returned (.bool (K && (R && (A && (B && (D && !(F && (Y || Z)))))))) ∧ Below w.heap.size w w' := by
  have hB := Below.refl (w.alloc (.cells cs 49)).heap.size (w.alloc (.cells cs 49))
  have g0 := boxCell hB 0 h0; have g1 := boxCell hB 1 h1; have g2 := boxCell hB 2 h2; have g3 := boxCell hB 3 h3; have g5 := boxCell hB 5 h5; have g6 := boxCell hB 6 h6
  cases K with
  | false =>
    go_enter Tryd.func34, Tryd.ntmps34
    go_wp2_with (first | (go_at_call 59; with_reducible refine (hr.out _).mono ?_; rintro e w' ⟨rfl, rfl⟩) | (go_at_call 59; with_reducible refine (ha.out _).mono ?_; rintro e w' ⟨rfl, rfl⟩) | (go_at_call 59; with_reducible refine (hb_.out _).mono ?_; rintro e w' ⟨rfl, rfl⟩) | (go_at_call 58; with_reducible refine (hk.out _).mono ?_; rintro e w2 ⟨rfl, hb2⟩; replace hB := hB.trans (hb2.mono hB.size); clear hb2; (try clear g0 g1 g2 g3 g5 g6); have g0 := boxCell hB 0 h0; have g1 := boxCell hB 1 h1; have g2 := boxCell hB 2 h2; have g3 := boxCell hB 3 h3; have g5 := boxCell hB 5 h5; have g6 := boxCell hB 6 h6))
    go_ret
    exact ⟨rfl, below1 hB⟩
  | true =>
    cases R with
    | false =>
      go_enter Tryd.func34, Tryd.ntmps34
      go_wp2_with (first | (go_at_call 59; with_reducible refine (hr.out _).mono ?_; rintro e w' ⟨rfl, rfl⟩) | (go_at_call 59; with_reducible refine (ha.out _).mono ?_; rintro e w' ⟨rfl, rfl⟩) | (go_at_call 59; with_reducible refine (hb_.out _).mono ?_; rintro e w' ⟨rfl, rfl⟩) | (go_at_call 58; with_reducible refine (hk.out _).mono ?_; rintro e w2 ⟨rfl, hb2⟩; replace hB := hB.trans (hb2.mono hB.size); clear hb2; (try clear g0 g1 g2 g3 g5 g6); have g0 := boxCell hB 0 h0; have g1 := boxCell hB 1 h1; have g2 := boxCell hB 2 h2; have g3 := boxCell hB 3 h3; have g5 := boxCell hB 5 h5; have g6 := boxCell hB 6 h6))
      go_ret
      exact ⟨rfl, below1 hB⟩
    | true =>
      cases A with
      | false =>
        go_enter Tryd.func34, Tryd.ntmps34
        go_wp2_with (first | (go_at_call 59; with_reducible refine (hr.out _).mono ?_; rintro e w' ⟨rfl, rfl⟩) | (go_at_call 59; with_reducible refine (ha.out _).mono ?_; rintro e w' ⟨rfl, rfl⟩) | (go_at_call 59; with_reducible refine (hb_.out _).mono ?_; rintro e w' ⟨rfl, rfl⟩) | (go_at_call 58; with_reducible refine (hk.out _).mono ?_; rintro e w2 ⟨rfl, hb2⟩; replace hB := hB.trans (hb2.mono hB.size); clear hb2; (try clear g0 g1 g2 g3 g5 g6); have g0 := boxCell hB 0 h0; have g1 := boxCell hB 1 h1; have g2 := boxCell hB 2 h2; have g3 := boxCell hB 3 h3; have g5 := boxCell hB 5 h5; have g6 := boxCell hB 6 h6))
        go_ret
        exact ⟨rfl, below1 hB⟩
      | true =>
        cases B with
        | false =>
          go_enter Tryd.func34, Tryd.ntmps34
          go_wp2_with (first | (go_at_call 59; with_reducible refine (hr.out _).mono ?_; rintro e w' ⟨rfl, rfl⟩) | (go_at_call 59; with_reducible refine (ha.out _).mono ?_; rintro e w' ⟨rfl, rfl⟩) | (go_at_call 59; with_reducible refine (hb_.out _).mono ?_; rintro e w' ⟨rfl, rfl⟩) | (go_at_call 58; with_reducible refine (hk.out _).mono ?_; rintro e w2 ⟨rfl, hb2⟩; replace hB := hB.trans (hb2.mono hB.size); clear hb2; (try clear g0 g1 g2 g3 g5 g6); have g0 := boxCell hB 0 h0; have g1 := boxCell hB 1 h1; have g2 := boxCell hB 2 h2; have g3 := boxCell hB 3 h3; have g5 := boxCell hB 5 h5; have g6 := boxCell hB 6 h6))
          go_ret
          exact ⟨rfl, below1 hB⟩
        | true =>
          exact absurd hbad (by decide)
set_option maxRecDepth 100000 in
set_option maxHeartbeats 4000000 in
theorem sr12b (cs : Array Value) (t0 a b c km : Int) (ks : ByteArray) (d : Dt) (dd : Array Value) (R A B K D F Y Z : Bool) (w : World) (h0 : cs[0]? = some (.int .i64 12)) (h1 : cs[1]? = some (.int .i64 t0)) (h2 : cs[2]? = some (.int .i64 a)) (h3 : cs[3]? = some (.int .i64 b)) (h5 : cs[5]? = some (.string ks)) (h6 : cs[6]? = some (.int .i64 km)) (h17 : cs[17]? = some (.int .i64 d.g.k)) (h18 : cs[18]? = some (.bool d.g.b)) (h19 : cs[19]? = some (.float .f64 d.g.n)) (h20 : cs[20]? = some (.string d.g.s)) (h21 : cs[21]? = some (.int .i64 d.g.i)) (h22 : cs[22]? = some (.int .i64 d.s.k)) (h23 : cs[23]? = some (.bool d.s.b)) (h24 : cs[24]? = some (.float .f64 d.s.n)) (h25 : cs[25]? = some (.string d.s.s)) (h26 : cs[26]? = some (.int .i64 d.s.i)) (h30 : cs[30]? = some (.bool F)) (hdd : ∀ q, q < dd.size → cs[12 + q]? = dd[q]?) (hsz : (Tryd.prog.info? 47).map (·.size) = some dd.size) (hr : Fact (∀ w', Calls Tryd.prog 59 #[.int .i64 t0] w' fun e w'' => e = .returned (.bool R) ∧ w' = w'')) (ha : Fact (∀ w', Calls Tryd.prog 59 #[.int .i64 a] w' fun e w'' => e = .returned (.bool A) ∧ w' = w'')) (hb_ : Fact (∀ w', Calls Tryd.prog 59 #[.int .i64 b] w' fun e w'' => e = .returned (.bool B) ∧ w' = w'')) (hk : Fact (∀ w', Calls Tryd.prog 58 #[.agg #[.string ks, .int .i64 km]] w' fun e w'' => e = .returned (.bool K) ∧ Below w'.heap.size w' w'')) (hd : Fact (∀ w', Calls Tryd.prog 60 #[.agg dd] w' fun e w'' => e = .returned (.bool D) ∧ Below w'.heap.size w' w'')) (hy : Fact (∀ w', Calls Tryd.prog 61 #[.agg #[.int .i64 d.g.k, .bool d.g.b, .float .f64 d.g.n, .string d.g.s, .int .i64 d.g.i]] w' fun e w'' => e = .returned (.bool Y) ∧ Below w'.heap.size w' w'')) (hz : Fact (∀ w', Calls Tryd.prog 61 #[.agg #[.int .i64 d.s.k, .bool d.s.b, .float .f64 d.s.n, .string d.s.s, .int .i64 d.s.i]] w' fun e w'' => e = .returned (.bool Z) ∧ Below w'.heap.size w' w'')) (eR : R = true) (eA : A = true) (eB : B = true) (eK : K = true) (eD : D = false) :
    Calls Tryd.prog 34 #[.agg cs] w fun e w' => e = .returned (.bool (K && (R && (A && (B && (D && !(F && (Y || Z)))))))) ∧ Below w.heap.size w w' := by
  have hB := Below.refl (w.alloc (.cells cs 49)).heap.size (w.alloc (.cells cs 49))
  have g0 := boxCell hB 0 h0; have g1 := boxCell hB 1 h1; have g2 := boxCell hB 2 h2; have g3 := boxCell hB 3 h3; have g5 := boxCell hB 5 h5; have g6 := boxCell hB 6 h6; have g17 := boxCell hB 17 h17; have g18 := boxCell hB 18 h18; have g19 := boxCell hB 19 h19; have g20 := boxCell hB 20 h20; have g21 := boxCell hB 21 h21; have g22 := boxCell hB 22 h22; have g23 := boxCell hB 23 h23; have g24 := boxCell hB 24 h24; have g25 := boxCell hB 25 h25; have g26 := boxCell hB 26 h26; have g30 := boxCell hB 30 h30
  obtain rfl : R = true := eR
  obtain rfl : A = true := eA
  obtain rfl : B = true := eB
  obtain rfl : K = true := eK
  obtain rfl : D = false := eD
  cases F with
  | false =>
    go_enter Tryd.func34, Tryd.ntmps34
    go_wp2_with (first | (go_at_call 59; with_reducible refine (hr.out _).mono ?_; rintro e w' ⟨rfl, rfl⟩) | (go_at_call 59; with_reducible refine (ha.out _).mono ?_; rintro e w' ⟨rfl, rfl⟩) | (go_at_call 59; with_reducible refine (hb_.out _).mono ?_; rintro e w' ⟨rfl, rfl⟩) | (go_at_call 58; with_reducible refine (hk.out _).mono ?_; rintro e w2 ⟨rfl, hb2⟩; replace hB := hB.trans (hb2.mono hB.size); clear hb2; (try clear g0 g1 g2 g3 g5 g6 g17 g18 g19 g20 g21 g22 g23 g24 g25 g26 g30); have g0 := boxCell hB 0 h0; have g1 := boxCell hB 1 h1; have g2 := boxCell hB 2 h2; have g3 := boxCell hB 3 h3; have g5 := boxCell hB 5 h5; have g6 := boxCell hB 6 h6; have g17 := boxCell hB 17 h17; have g18 := boxCell hB 18 h18; have g19 := boxCell hB 19 h19; have g20 := boxCell hB 20 h20; have g21 := boxCell hB 21 h21; have g22 := boxCell hB 22 h22; have g23 := boxCell hB 23 h23; have g24 := boxCell hB 24 h24; have g25 := boxCell hB 25 h25; have g26 := boxCell hB 26 h26; have g30 := boxCell hB 30 h30) | ((with_reducible refine wpLoadMid (op := ⟨some 91, _, _, _, _, _⟩) ?hw91 47 (.tmp 90) rfl w.heap.size 12 ?hx91 dd _ (rangeD hB hdd) Tryd.underlying47 ?hd91 hsz ?_); (case hw91 => rfl); (case hx91 => rfl); (case hd91 => rfl)) | (go_at_call 60; with_reducible refine (hd.out _).mono ?_; rintro e w2 ⟨rfl, hb2⟩; replace hB := hB.trans (hb2.mono hB.size); clear hb2; (try clear g0 g1 g2 g3 g5 g6 g17 g18 g19 g20 g21 g22 g23 g24 g25 g26 g30); have g17 := boxCell hB 17 h17; have g18 := boxCell hB 18 h18; have g19 := boxCell hB 19 h19; have g20 := boxCell hB 20 h20; have g21 := boxCell hB 21 h21; have g22 := boxCell hB 22 h22; have g23 := boxCell hB 23 h23; have g24 := boxCell hB 24 h24; have g25 := boxCell hB 25 h25; have g26 := boxCell hB 26 h26; have g30 := boxCell hB 30 h30) | (go_at_call 61; with_reducible refine (hy.out _).mono ?_; rintro e w2 ⟨rfl, hb2⟩; replace hB := hB.trans (hb2.mono hB.size); clear hb2; (try clear g17 g18 g19 g20 g21 g22 g23 g24 g25 g26 g30); have g17 := boxCell hB 17 h17; have g18 := boxCell hB 18 h18; have g19 := boxCell hB 19 h19; have g20 := boxCell hB 20 h20; have g21 := boxCell hB 21 h21; have g22 := boxCell hB 22 h22; have g23 := boxCell hB 23 h23; have g24 := boxCell hB 24 h24; have g25 := boxCell hB 25 h25; have g26 := boxCell hB 26 h26; have g30 := boxCell hB 30 h30) | (go_at_call 61; with_reducible refine (hz.out _).mono ?_; rintro e w2 ⟨rfl, hb2⟩; replace hB := hB.trans (hb2.mono hB.size); clear hb2))
    go_ret
    exact ⟨rfl, below1 hB⟩
  | true =>
    cases Y with
    | false =>
      go_enter Tryd.func34, Tryd.ntmps34
      go_wp2_with (first | (go_at_call 59; with_reducible refine (hr.out _).mono ?_; rintro e w' ⟨rfl, rfl⟩) | (go_at_call 59; with_reducible refine (ha.out _).mono ?_; rintro e w' ⟨rfl, rfl⟩) | (go_at_call 59; with_reducible refine (hb_.out _).mono ?_; rintro e w' ⟨rfl, rfl⟩) | (go_at_call 58; with_reducible refine (hk.out _).mono ?_; rintro e w2 ⟨rfl, hb2⟩; replace hB := hB.trans (hb2.mono hB.size); clear hb2; (try clear g0 g1 g2 g3 g5 g6 g17 g18 g19 g20 g21 g22 g23 g24 g25 g26 g30); have g0 := boxCell hB 0 h0; have g1 := boxCell hB 1 h1; have g2 := boxCell hB 2 h2; have g3 := boxCell hB 3 h3; have g5 := boxCell hB 5 h5; have g6 := boxCell hB 6 h6; have g17 := boxCell hB 17 h17; have g18 := boxCell hB 18 h18; have g19 := boxCell hB 19 h19; have g20 := boxCell hB 20 h20; have g21 := boxCell hB 21 h21; have g22 := boxCell hB 22 h22; have g23 := boxCell hB 23 h23; have g24 := boxCell hB 24 h24; have g25 := boxCell hB 25 h25; have g26 := boxCell hB 26 h26; have g30 := boxCell hB 30 h30) | ((with_reducible refine wpLoadMid (op := ⟨some 91, _, _, _, _, _⟩) ?hw91 47 (.tmp 90) rfl w.heap.size 12 ?hx91 dd _ (rangeD hB hdd) Tryd.underlying47 ?hd91 hsz ?_); (case hw91 => rfl); (case hx91 => rfl); (case hd91 => rfl)) | (go_at_call 60; with_reducible refine (hd.out _).mono ?_; rintro e w2 ⟨rfl, hb2⟩; replace hB := hB.trans (hb2.mono hB.size); clear hb2; (try clear g0 g1 g2 g3 g5 g6 g17 g18 g19 g20 g21 g22 g23 g24 g25 g26 g30); have g17 := boxCell hB 17 h17; have g18 := boxCell hB 18 h18; have g19 := boxCell hB 19 h19; have g20 := boxCell hB 20 h20; have g21 := boxCell hB 21 h21; have g22 := boxCell hB 22 h22; have g23 := boxCell hB 23 h23; have g24 := boxCell hB 24 h24; have g25 := boxCell hB 25 h25; have g26 := boxCell hB 26 h26; have g30 := boxCell hB 30 h30) | (go_at_call 61; with_reducible refine (hy.out _).mono ?_; rintro e w2 ⟨rfl, hb2⟩; replace hB := hB.trans (hb2.mono hB.size); clear hb2; (try clear g17 g18 g19 g20 g21 g22 g23 g24 g25 g26 g30); have g17 := boxCell hB 17 h17; have g18 := boxCell hB 18 h18; have g19 := boxCell hB 19 h19; have g20 := boxCell hB 20 h20; have g21 := boxCell hB 21 h21; have g22 := boxCell hB 22 h22; have g23 := boxCell hB 23 h23; have g24 := boxCell hB 24 h24; have g25 := boxCell hB 25 h25; have g26 := boxCell hB 26 h26; have g30 := boxCell hB 30 h30) | (go_at_call 61; with_reducible refine (hz.out _).mono ?_; rintro e w2 ⟨rfl, hb2⟩; replace hB := hB.trans (hb2.mono hB.size); clear hb2))
      go_ret
      exact ⟨rfl, below1 hB⟩
    | true =>
      go_enter Tryd.func34, Tryd.ntmps34
      go_wp2_with (first | (go_at_call 59; with_reducible refine (hr.out _).mono ?_; rintro e w' ⟨rfl, rfl⟩) | (go_at_call 59; with_reducible refine (ha.out _).mono ?_; rintro e w' ⟨rfl, rfl⟩) | (go_at_call 59; with_reducible refine (hb_.out _).mono ?_; rintro e w' ⟨rfl, rfl⟩) | (go_at_call 58; with_reducible refine (hk.out _).mono ?_; rintro e w2 ⟨rfl, hb2⟩; replace hB := hB.trans (hb2.mono hB.size); clear hb2; (try clear g0 g1 g2 g3 g5 g6 g17 g18 g19 g20 g21 g22 g23 g24 g25 g26 g30); have g0 := boxCell hB 0 h0; have g1 := boxCell hB 1 h1; have g2 := boxCell hB 2 h2; have g3 := boxCell hB 3 h3; have g5 := boxCell hB 5 h5; have g6 := boxCell hB 6 h6; have g17 := boxCell hB 17 h17; have g18 := boxCell hB 18 h18; have g19 := boxCell hB 19 h19; have g20 := boxCell hB 20 h20; have g21 := boxCell hB 21 h21; have g22 := boxCell hB 22 h22; have g23 := boxCell hB 23 h23; have g24 := boxCell hB 24 h24; have g25 := boxCell hB 25 h25; have g26 := boxCell hB 26 h26; have g30 := boxCell hB 30 h30) | ((with_reducible refine wpLoadMid (op := ⟨some 91, _, _, _, _, _⟩) ?hw91 47 (.tmp 90) rfl w.heap.size 12 ?hx91 dd _ (rangeD hB hdd) Tryd.underlying47 ?hd91 hsz ?_); (case hw91 => rfl); (case hx91 => rfl); (case hd91 => rfl)) | (go_at_call 60; with_reducible refine (hd.out _).mono ?_; rintro e w2 ⟨rfl, hb2⟩; replace hB := hB.trans (hb2.mono hB.size); clear hb2; (try clear g0 g1 g2 g3 g5 g6 g17 g18 g19 g20 g21 g22 g23 g24 g25 g26 g30); have g17 := boxCell hB 17 h17; have g18 := boxCell hB 18 h18; have g19 := boxCell hB 19 h19; have g20 := boxCell hB 20 h20; have g21 := boxCell hB 21 h21; have g22 := boxCell hB 22 h22; have g23 := boxCell hB 23 h23; have g24 := boxCell hB 24 h24; have g25 := boxCell hB 25 h25; have g26 := boxCell hB 26 h26; have g30 := boxCell hB 30 h30) | (go_at_call 61; with_reducible refine (hy.out _).mono ?_; rintro e w2 ⟨rfl, hb2⟩; replace hB := hB.trans (hb2.mono hB.size); clear hb2; (try clear g17 g18 g19 g20 g21 g22 g23 g24 g25 g26 g30); have g17 := boxCell hB 17 h17; have g18 := boxCell hB 18 h18; have g19 := boxCell hB 19 h19; have g20 := boxCell hB 20 h20; have g21 := boxCell hB 21 h21; have g22 := boxCell hB 22 h22; have g23 := boxCell hB 23 h23; have g24 := boxCell hB 24 h24; have g25 := boxCell hB 25 h25; have g26 := boxCell hB 26 h26; have g30 := boxCell hB 30 h30) | (go_at_call 61; with_reducible refine (hz.out _).mono ?_; rintro e w2 ⟨rfl, hb2⟩; replace hB := hB.trans (hb2.mono hB.size); clear hb2))
      go_ret
      exact ⟨rfl, below1 hB⟩
set_option maxRecDepth 100000 in
set_option maxHeartbeats 4000000 in
theorem sr12c (cs : Array Value) (t0 a b c km : Int) (ks : ByteArray) (d : Dt) (dd : Array Value) (R A B K D F Y Z : Bool) (w : World) (h0 : cs[0]? = some (.int .i64 12)) (h1 : cs[1]? = some (.int .i64 t0)) (h2 : cs[2]? = some (.int .i64 a)) (h3 : cs[3]? = some (.int .i64 b)) (h5 : cs[5]? = some (.string ks)) (h6 : cs[6]? = some (.int .i64 km)) (h17 : cs[17]? = some (.int .i64 d.g.k)) (h18 : cs[18]? = some (.bool d.g.b)) (h19 : cs[19]? = some (.float .f64 d.g.n)) (h20 : cs[20]? = some (.string d.g.s)) (h21 : cs[21]? = some (.int .i64 d.g.i)) (h22 : cs[22]? = some (.int .i64 d.s.k)) (h23 : cs[23]? = some (.bool d.s.b)) (h24 : cs[24]? = some (.float .f64 d.s.n)) (h25 : cs[25]? = some (.string d.s.s)) (h26 : cs[26]? = some (.int .i64 d.s.i)) (h30 : cs[30]? = some (.bool F)) (hdd : ∀ q, q < dd.size → cs[12 + q]? = dd[q]?) (hsz : (Tryd.prog.info? 47).map (·.size) = some dd.size) (hr : Fact (∀ w', Calls Tryd.prog 59 #[.int .i64 t0] w' fun e w'' => e = .returned (.bool R) ∧ w' = w'')) (ha : Fact (∀ w', Calls Tryd.prog 59 #[.int .i64 a] w' fun e w'' => e = .returned (.bool A) ∧ w' = w'')) (hb_ : Fact (∀ w', Calls Tryd.prog 59 #[.int .i64 b] w' fun e w'' => e = .returned (.bool B) ∧ w' = w'')) (hk : Fact (∀ w', Calls Tryd.prog 58 #[.agg #[.string ks, .int .i64 km]] w' fun e w'' => e = .returned (.bool K) ∧ Below w'.heap.size w' w'')) (hd : Fact (∀ w', Calls Tryd.prog 60 #[.agg dd] w' fun e w'' => e = .returned (.bool D) ∧ Below w'.heap.size w' w'')) (hy : Fact (∀ w', Calls Tryd.prog 61 #[.agg #[.int .i64 d.g.k, .bool d.g.b, .float .f64 d.g.n, .string d.g.s, .int .i64 d.g.i]] w' fun e w'' => e = .returned (.bool Y) ∧ Below w'.heap.size w' w'')) (hz : Fact (∀ w', Calls Tryd.prog 61 #[.agg #[.int .i64 d.s.k, .bool d.s.b, .float .f64 d.s.n, .string d.s.s, .int .i64 d.s.i]] w' fun e w'' => e = .returned (.bool Z) ∧ Below w'.heap.size w' w'')) (eR : R = true) (eA : A = true) (eB : B = true) (eK : K = true) (eD : D = true) (eF : F = false) :
    Calls Tryd.prog 34 #[.agg cs] w fun e w' => e = .returned (.bool (K && (R && (A && (B && (D && !(F && (Y || Z)))))))) ∧ Below w.heap.size w w' := by
  have hB := Below.refl (w.alloc (.cells cs 49)).heap.size (w.alloc (.cells cs 49))
  have g0 := boxCell hB 0 h0; have g1 := boxCell hB 1 h1; have g2 := boxCell hB 2 h2; have g3 := boxCell hB 3 h3; have g5 := boxCell hB 5 h5; have g6 := boxCell hB 6 h6; have g17 := boxCell hB 17 h17; have g18 := boxCell hB 18 h18; have g19 := boxCell hB 19 h19; have g20 := boxCell hB 20 h20; have g21 := boxCell hB 21 h21; have g22 := boxCell hB 22 h22; have g23 := boxCell hB 23 h23; have g24 := boxCell hB 24 h24; have g25 := boxCell hB 25 h25; have g26 := boxCell hB 26 h26; have g30 := boxCell hB 30 h30
  obtain rfl : R = true := eR
  obtain rfl : A = true := eA
  obtain rfl : B = true := eB
  obtain rfl : K = true := eK
  obtain rfl : D = true := eD
  obtain rfl : F = false := eF
  cases Y with
  | false =>
    go_enter Tryd.func34, Tryd.ntmps34
    go_wp2_with (first | (go_at_call 59; with_reducible refine (hr.out _).mono ?_; rintro e w' ⟨rfl, rfl⟩) | (go_at_call 59; with_reducible refine (ha.out _).mono ?_; rintro e w' ⟨rfl, rfl⟩) | (go_at_call 59; with_reducible refine (hb_.out _).mono ?_; rintro e w' ⟨rfl, rfl⟩) | (go_at_call 58; with_reducible refine (hk.out _).mono ?_; rintro e w2 ⟨rfl, hb2⟩; replace hB := hB.trans (hb2.mono hB.size); clear hb2; (try clear g0 g1 g2 g3 g5 g6 g17 g18 g19 g20 g21 g22 g23 g24 g25 g26 g30); have g0 := boxCell hB 0 h0; have g1 := boxCell hB 1 h1; have g2 := boxCell hB 2 h2; have g3 := boxCell hB 3 h3; have g5 := boxCell hB 5 h5; have g6 := boxCell hB 6 h6; have g17 := boxCell hB 17 h17; have g18 := boxCell hB 18 h18; have g19 := boxCell hB 19 h19; have g20 := boxCell hB 20 h20; have g21 := boxCell hB 21 h21; have g22 := boxCell hB 22 h22; have g23 := boxCell hB 23 h23; have g24 := boxCell hB 24 h24; have g25 := boxCell hB 25 h25; have g26 := boxCell hB 26 h26; have g30 := boxCell hB 30 h30) | ((with_reducible refine wpLoadMid (op := ⟨some 91, _, _, _, _, _⟩) ?hw91 47 (.tmp 90) rfl w.heap.size 12 ?hx91 dd _ (rangeD hB hdd) Tryd.underlying47 ?hd91 hsz ?_); (case hw91 => rfl); (case hx91 => rfl); (case hd91 => rfl)) | (go_at_call 60; with_reducible refine (hd.out _).mono ?_; rintro e w2 ⟨rfl, hb2⟩; replace hB := hB.trans (hb2.mono hB.size); clear hb2; (try clear g0 g1 g2 g3 g5 g6 g17 g18 g19 g20 g21 g22 g23 g24 g25 g26 g30); have g17 := boxCell hB 17 h17; have g18 := boxCell hB 18 h18; have g19 := boxCell hB 19 h19; have g20 := boxCell hB 20 h20; have g21 := boxCell hB 21 h21; have g22 := boxCell hB 22 h22; have g23 := boxCell hB 23 h23; have g24 := boxCell hB 24 h24; have g25 := boxCell hB 25 h25; have g26 := boxCell hB 26 h26; have g30 := boxCell hB 30 h30) | (go_at_call 61; with_reducible refine (hy.out _).mono ?_; rintro e w2 ⟨rfl, hb2⟩; replace hB := hB.trans (hb2.mono hB.size); clear hb2; (try clear g17 g18 g19 g20 g21 g22 g23 g24 g25 g26 g30); have g17 := boxCell hB 17 h17; have g18 := boxCell hB 18 h18; have g19 := boxCell hB 19 h19; have g20 := boxCell hB 20 h20; have g21 := boxCell hB 21 h21; have g22 := boxCell hB 22 h22; have g23 := boxCell hB 23 h23; have g24 := boxCell hB 24 h24; have g25 := boxCell hB 25 h25; have g26 := boxCell hB 26 h26; have g30 := boxCell hB 30 h30) | (go_at_call 61; with_reducible refine (hz.out _).mono ?_; rintro e w2 ⟨rfl, hb2⟩; replace hB := hB.trans (hb2.mono hB.size); clear hb2))
    go_ret
    exact ⟨rfl, below1 hB⟩
  | true =>
    go_enter Tryd.func34, Tryd.ntmps34
    go_wp2_with (first | (go_at_call 59; with_reducible refine (hr.out _).mono ?_; rintro e w' ⟨rfl, rfl⟩) | (go_at_call 59; with_reducible refine (ha.out _).mono ?_; rintro e w' ⟨rfl, rfl⟩) | (go_at_call 59; with_reducible refine (hb_.out _).mono ?_; rintro e w' ⟨rfl, rfl⟩) | (go_at_call 58; with_reducible refine (hk.out _).mono ?_; rintro e w2 ⟨rfl, hb2⟩; replace hB := hB.trans (hb2.mono hB.size); clear hb2; (try clear g0 g1 g2 g3 g5 g6 g17 g18 g19 g20 g21 g22 g23 g24 g25 g26 g30); have g0 := boxCell hB 0 h0; have g1 := boxCell hB 1 h1; have g2 := boxCell hB 2 h2; have g3 := boxCell hB 3 h3; have g5 := boxCell hB 5 h5; have g6 := boxCell hB 6 h6; have g17 := boxCell hB 17 h17; have g18 := boxCell hB 18 h18; have g19 := boxCell hB 19 h19; have g20 := boxCell hB 20 h20; have g21 := boxCell hB 21 h21; have g22 := boxCell hB 22 h22; have g23 := boxCell hB 23 h23; have g24 := boxCell hB 24 h24; have g25 := boxCell hB 25 h25; have g26 := boxCell hB 26 h26; have g30 := boxCell hB 30 h30) | ((with_reducible refine wpLoadMid (op := ⟨some 91, _, _, _, _, _⟩) ?hw91 47 (.tmp 90) rfl w.heap.size 12 ?hx91 dd _ (rangeD hB hdd) Tryd.underlying47 ?hd91 hsz ?_); (case hw91 => rfl); (case hx91 => rfl); (case hd91 => rfl)) | (go_at_call 60; with_reducible refine (hd.out _).mono ?_; rintro e w2 ⟨rfl, hb2⟩; replace hB := hB.trans (hb2.mono hB.size); clear hb2; (try clear g0 g1 g2 g3 g5 g6 g17 g18 g19 g20 g21 g22 g23 g24 g25 g26 g30); have g17 := boxCell hB 17 h17; have g18 := boxCell hB 18 h18; have g19 := boxCell hB 19 h19; have g20 := boxCell hB 20 h20; have g21 := boxCell hB 21 h21; have g22 := boxCell hB 22 h22; have g23 := boxCell hB 23 h23; have g24 := boxCell hB 24 h24; have g25 := boxCell hB 25 h25; have g26 := boxCell hB 26 h26; have g30 := boxCell hB 30 h30) | (go_at_call 61; with_reducible refine (hy.out _).mono ?_; rintro e w2 ⟨rfl, hb2⟩; replace hB := hB.trans (hb2.mono hB.size); clear hb2; (try clear g17 g18 g19 g20 g21 g22 g23 g24 g25 g26 g30); have g17 := boxCell hB 17 h17; have g18 := boxCell hB 18 h18; have g19 := boxCell hB 19 h19; have g20 := boxCell hB 20 h20; have g21 := boxCell hB 21 h21; have g22 := boxCell hB 22 h22; have g23 := boxCell hB 23 h23; have g24 := boxCell hB 24 h24; have g25 := boxCell hB 25 h25; have g26 := boxCell hB 26 h26; have g30 := boxCell hB 30 h30) | (go_at_call 61; with_reducible refine (hz.out _).mono ?_; rintro e w2 ⟨rfl, hb2⟩; replace hB := hB.trans (hb2.mono hB.size); clear hb2))
    go_ret
    exact ⟨rfl, below1 hB⟩
end Go.Proofs.YtinaibebdacnmaaDoor

/- Operations, code by code. -/
set_option linter.unusedVariables false
namespace Go.Proofs.YtinaibebdacnmaaDoor
open Go.RowKit Go.Proofs.YtinaibebdacnmaaDoorW.PrintWords
attribute [local go_sem] run_store_float
set_option maxRecDepth 100000 in
set_option maxHeartbeats 4000000 in
theorem sr12d (cs : Array Value) (t0 a b c km : Int) (ks : ByteArray) (d : Dt) (dd : Array Value) (R A B K D F Y Z : Bool) (w : World) (h0 : cs[0]? = some (.int .i64 12)) (h1 : cs[1]? = some (.int .i64 t0)) (h2 : cs[2]? = some (.int .i64 a)) (h3 : cs[3]? = some (.int .i64 b)) (h5 : cs[5]? = some (.string ks)) (h6 : cs[6]? = some (.int .i64 km)) (h17 : cs[17]? = some (.int .i64 d.g.k)) (h18 : cs[18]? = some (.bool d.g.b)) (h19 : cs[19]? = some (.float .f64 d.g.n)) (h20 : cs[20]? = some (.string d.g.s)) (h21 : cs[21]? = some (.int .i64 d.g.i)) (h22 : cs[22]? = some (.int .i64 d.s.k)) (h23 : cs[23]? = some (.bool d.s.b)) (h24 : cs[24]? = some (.float .f64 d.s.n)) (h25 : cs[25]? = some (.string d.s.s)) (h26 : cs[26]? = some (.int .i64 d.s.i)) (h30 : cs[30]? = some (.bool F)) (hdd : ∀ q, q < dd.size → cs[12 + q]? = dd[q]?) (hsz : (Tryd.prog.info? 47).map (·.size) = some dd.size) (hr : Fact (∀ w', Calls Tryd.prog 59 #[.int .i64 t0] w' fun e w'' => e = .returned (.bool R) ∧ w' = w'')) (ha : Fact (∀ w', Calls Tryd.prog 59 #[.int .i64 a] w' fun e w'' => e = .returned (.bool A) ∧ w' = w'')) (hb_ : Fact (∀ w', Calls Tryd.prog 59 #[.int .i64 b] w' fun e w'' => e = .returned (.bool B) ∧ w' = w'')) (hk : Fact (∀ w', Calls Tryd.prog 58 #[.agg #[.string ks, .int .i64 km]] w' fun e w'' => e = .returned (.bool K) ∧ Below w'.heap.size w' w'')) (hd : Fact (∀ w', Calls Tryd.prog 60 #[.agg dd] w' fun e w'' => e = .returned (.bool D) ∧ Below w'.heap.size w' w'')) (hy : Fact (∀ w', Calls Tryd.prog 61 #[.agg #[.int .i64 d.g.k, .bool d.g.b, .float .f64 d.g.n, .string d.g.s, .int .i64 d.g.i]] w' fun e w'' => e = .returned (.bool Y) ∧ Below w'.heap.size w' w'')) (hz : Fact (∀ w', Calls Tryd.prog 61 #[.agg #[.int .i64 d.s.k, .bool d.s.b, .float .f64 d.s.n, .string d.s.s, .int .i64 d.s.i]] w' fun e w'' => e = .returned (.bool Z) ∧ Below w'.heap.size w' w'')) (eR : R = true) (eA : A = true) (eB : B = true) (eK : K = true) (eD : D = true) (eF : F = true) (eY : Y = false) :
    Calls Tryd.prog 34 #[.agg cs] w fun e w' => e = .returned (.bool (K && (R && (A && (B && (D && !(F && (Y || Z)))))))) ∧ Below w.heap.size w w' := by
  have hB := Below.refl (w.alloc (.cells cs 49)).heap.size (w.alloc (.cells cs 49))
  have g0 := boxCell hB 0 h0; have g1 := boxCell hB 1 h1; have g2 := boxCell hB 2 h2; have g3 := boxCell hB 3 h3; have g5 := boxCell hB 5 h5; have g6 := boxCell hB 6 h6; have g17 := boxCell hB 17 h17; have g18 := boxCell hB 18 h18; have g19 := boxCell hB 19 h19; have g20 := boxCell hB 20 h20; have g21 := boxCell hB 21 h21; have g22 := boxCell hB 22 h22; have g23 := boxCell hB 23 h23; have g24 := boxCell hB 24 h24; have g25 := boxCell hB 25 h25; have g26 := boxCell hB 26 h26; have g30 := boxCell hB 30 h30
  obtain rfl : R = true := eR
  obtain rfl : A = true := eA
  obtain rfl : B = true := eB
  obtain rfl : K = true := eK
  obtain rfl : D = true := eD
  obtain rfl : F = true := eF
  obtain rfl : Y = false := eY
  go_enter Tryd.func34, Tryd.ntmps34
  go_wp2_with (first | (go_at_call 59; with_reducible refine (hr.out _).mono ?_; rintro e w' ⟨rfl, rfl⟩) | (go_at_call 59; with_reducible refine (ha.out _).mono ?_; rintro e w' ⟨rfl, rfl⟩) | (go_at_call 59; with_reducible refine (hb_.out _).mono ?_; rintro e w' ⟨rfl, rfl⟩) | (go_at_call 58; with_reducible refine (hk.out _).mono ?_; rintro e w2 ⟨rfl, hb2⟩; replace hB := hB.trans (hb2.mono hB.size); clear hb2; (try clear g0 g1 g2 g3 g5 g6 g17 g18 g19 g20 g21 g22 g23 g24 g25 g26 g30); have g0 := boxCell hB 0 h0; have g1 := boxCell hB 1 h1; have g2 := boxCell hB 2 h2; have g3 := boxCell hB 3 h3; have g5 := boxCell hB 5 h5; have g6 := boxCell hB 6 h6; have g17 := boxCell hB 17 h17; have g18 := boxCell hB 18 h18; have g19 := boxCell hB 19 h19; have g20 := boxCell hB 20 h20; have g21 := boxCell hB 21 h21; have g22 := boxCell hB 22 h22; have g23 := boxCell hB 23 h23; have g24 := boxCell hB 24 h24; have g25 := boxCell hB 25 h25; have g26 := boxCell hB 26 h26; have g30 := boxCell hB 30 h30) | ((with_reducible refine wpLoadMid (op := ⟨some 91, _, _, _, _, _⟩) ?hw91 47 (.tmp 90) rfl w.heap.size 12 ?hx91 dd _ (rangeD hB hdd) Tryd.underlying47 ?hd91 hsz ?_); (case hw91 => rfl); (case hx91 => rfl); (case hd91 => rfl)) | (go_at_call 60; with_reducible refine (hd.out _).mono ?_; rintro e w2 ⟨rfl, hb2⟩; replace hB := hB.trans (hb2.mono hB.size); clear hb2; (try clear g0 g1 g2 g3 g5 g6 g17 g18 g19 g20 g21 g22 g23 g24 g25 g26 g30); have g17 := boxCell hB 17 h17; have g18 := boxCell hB 18 h18; have g19 := boxCell hB 19 h19; have g20 := boxCell hB 20 h20; have g21 := boxCell hB 21 h21; have g22 := boxCell hB 22 h22; have g23 := boxCell hB 23 h23; have g24 := boxCell hB 24 h24; have g25 := boxCell hB 25 h25; have g26 := boxCell hB 26 h26; have g30 := boxCell hB 30 h30) | (go_at_call 61; with_reducible refine (hy.out _).mono ?_; rintro e w2 ⟨rfl, hb2⟩; replace hB := hB.trans (hb2.mono hB.size); clear hb2; (try clear g17 g18 g19 g20 g21 g22 g23 g24 g25 g26 g30); have g17 := boxCell hB 17 h17; have g18 := boxCell hB 18 h18; have g19 := boxCell hB 19 h19; have g20 := boxCell hB 20 h20; have g21 := boxCell hB 21 h21; have g22 := boxCell hB 22 h22; have g23 := boxCell hB 23 h23; have g24 := boxCell hB 24 h24; have g25 := boxCell hB 25 h25; have g26 := boxCell hB 26 h26; have g30 := boxCell hB 30 h30) | (go_at_call 61; with_reducible refine (hz.out _).mono ?_; rintro e w2 ⟨rfl, hb2⟩; replace hB := hB.trans (hb2.mono hB.size); clear hb2))
  go_ret
  exact ⟨rfl, below1 hB⟩
set_option maxRecDepth 100000 in
set_option maxHeartbeats 4000000 in
theorem sr12e (cs : Array Value) (t0 a b c km : Int) (ks : ByteArray) (d : Dt) (dd : Array Value) (R A B K D F Y Z : Bool) (w : World) (h0 : cs[0]? = some (.int .i64 12)) (h1 : cs[1]? = some (.int .i64 t0)) (h2 : cs[2]? = some (.int .i64 a)) (h3 : cs[3]? = some (.int .i64 b)) (h5 : cs[5]? = some (.string ks)) (h6 : cs[6]? = some (.int .i64 km)) (h17 : cs[17]? = some (.int .i64 d.g.k)) (h18 : cs[18]? = some (.bool d.g.b)) (h19 : cs[19]? = some (.float .f64 d.g.n)) (h20 : cs[20]? = some (.string d.g.s)) (h21 : cs[21]? = some (.int .i64 d.g.i)) (h22 : cs[22]? = some (.int .i64 d.s.k)) (h23 : cs[23]? = some (.bool d.s.b)) (h24 : cs[24]? = some (.float .f64 d.s.n)) (h25 : cs[25]? = some (.string d.s.s)) (h26 : cs[26]? = some (.int .i64 d.s.i)) (h30 : cs[30]? = some (.bool F)) (hdd : ∀ q, q < dd.size → cs[12 + q]? = dd[q]?) (hsz : (Tryd.prog.info? 47).map (·.size) = some dd.size) (hr : Fact (∀ w', Calls Tryd.prog 59 #[.int .i64 t0] w' fun e w'' => e = .returned (.bool R) ∧ w' = w'')) (ha : Fact (∀ w', Calls Tryd.prog 59 #[.int .i64 a] w' fun e w'' => e = .returned (.bool A) ∧ w' = w'')) (hb_ : Fact (∀ w', Calls Tryd.prog 59 #[.int .i64 b] w' fun e w'' => e = .returned (.bool B) ∧ w' = w'')) (hk : Fact (∀ w', Calls Tryd.prog 58 #[.agg #[.string ks, .int .i64 km]] w' fun e w'' => e = .returned (.bool K) ∧ Below w'.heap.size w' w'')) (hd : Fact (∀ w', Calls Tryd.prog 60 #[.agg dd] w' fun e w'' => e = .returned (.bool D) ∧ Below w'.heap.size w' w'')) (hy : Fact (∀ w', Calls Tryd.prog 61 #[.agg #[.int .i64 d.g.k, .bool d.g.b, .float .f64 d.g.n, .string d.g.s, .int .i64 d.g.i]] w' fun e w'' => e = .returned (.bool Y) ∧ Below w'.heap.size w' w'')) (hz : Fact (∀ w', Calls Tryd.prog 61 #[.agg #[.int .i64 d.s.k, .bool d.s.b, .float .f64 d.s.n, .string d.s.s, .int .i64 d.s.i]] w' fun e w'' => e = .returned (.bool Z) ∧ Below w'.heap.size w' w'')) (eR : R = true) (eA : A = true) (eB : B = true) (eK : K = true) (eD : D = true) (eF : F = true) (eY : Y = true) :
    Calls Tryd.prog 34 #[.agg cs] w fun e w' => e = .returned (.bool (K && (R && (A && (B && (D && !(F && (Y || Z)))))))) ∧ Below w.heap.size w w' := by
  have hB := Below.refl (w.alloc (.cells cs 49)).heap.size (w.alloc (.cells cs 49))
  have g0 := boxCell hB 0 h0; have g1 := boxCell hB 1 h1; have g2 := boxCell hB 2 h2; have g3 := boxCell hB 3 h3; have g5 := boxCell hB 5 h5; have g6 := boxCell hB 6 h6; have g17 := boxCell hB 17 h17; have g18 := boxCell hB 18 h18; have g19 := boxCell hB 19 h19; have g20 := boxCell hB 20 h20; have g21 := boxCell hB 21 h21; have g22 := boxCell hB 22 h22; have g23 := boxCell hB 23 h23; have g24 := boxCell hB 24 h24; have g25 := boxCell hB 25 h25; have g26 := boxCell hB 26 h26; have g30 := boxCell hB 30 h30
  obtain rfl : R = true := eR
  obtain rfl : A = true := eA
  obtain rfl : B = true := eB
  obtain rfl : K = true := eK
  obtain rfl : D = true := eD
  obtain rfl : F = true := eF
  obtain rfl : Y = true := eY
  go_enter Tryd.func34, Tryd.ntmps34
  go_wp2_with (first | (go_at_call 59; with_reducible refine (hr.out _).mono ?_; rintro e w' ⟨rfl, rfl⟩) | (go_at_call 59; with_reducible refine (ha.out _).mono ?_; rintro e w' ⟨rfl, rfl⟩) | (go_at_call 59; with_reducible refine (hb_.out _).mono ?_; rintro e w' ⟨rfl, rfl⟩) | (go_at_call 58; with_reducible refine (hk.out _).mono ?_; rintro e w2 ⟨rfl, hb2⟩; replace hB := hB.trans (hb2.mono hB.size); clear hb2; (try clear g0 g1 g2 g3 g5 g6 g17 g18 g19 g20 g21 g22 g23 g24 g25 g26 g30); have g0 := boxCell hB 0 h0; have g1 := boxCell hB 1 h1; have g2 := boxCell hB 2 h2; have g3 := boxCell hB 3 h3; have g5 := boxCell hB 5 h5; have g6 := boxCell hB 6 h6; have g17 := boxCell hB 17 h17; have g18 := boxCell hB 18 h18; have g19 := boxCell hB 19 h19; have g20 := boxCell hB 20 h20; have g21 := boxCell hB 21 h21; have g22 := boxCell hB 22 h22; have g23 := boxCell hB 23 h23; have g24 := boxCell hB 24 h24; have g25 := boxCell hB 25 h25; have g26 := boxCell hB 26 h26; have g30 := boxCell hB 30 h30) | ((with_reducible refine wpLoadMid (op := ⟨some 91, _, _, _, _, _⟩) ?hw91 47 (.tmp 90) rfl w.heap.size 12 ?hx91 dd _ (rangeD hB hdd) Tryd.underlying47 ?hd91 hsz ?_); (case hw91 => rfl); (case hx91 => rfl); (case hd91 => rfl)) | (go_at_call 60; with_reducible refine (hd.out _).mono ?_; rintro e w2 ⟨rfl, hb2⟩; replace hB := hB.trans (hb2.mono hB.size); clear hb2; (try clear g0 g1 g2 g3 g5 g6 g17 g18 g19 g20 g21 g22 g23 g24 g25 g26 g30); have g17 := boxCell hB 17 h17; have g18 := boxCell hB 18 h18; have g19 := boxCell hB 19 h19; have g20 := boxCell hB 20 h20; have g21 := boxCell hB 21 h21; have g22 := boxCell hB 22 h22; have g23 := boxCell hB 23 h23; have g24 := boxCell hB 24 h24; have g25 := boxCell hB 25 h25; have g26 := boxCell hB 26 h26; have g30 := boxCell hB 30 h30) | (go_at_call 61; with_reducible refine (hy.out _).mono ?_; rintro e w2 ⟨rfl, hb2⟩; replace hB := hB.trans (hb2.mono hB.size); clear hb2; (try clear g17 g18 g19 g20 g21 g22 g23 g24 g25 g26 g30); have g17 := boxCell hB 17 h17; have g18 := boxCell hB 18 h18; have g19 := boxCell hB 19 h19; have g20 := boxCell hB 20 h20; have g21 := boxCell hB 21 h21; have g22 := boxCell hB 22 h22; have g23 := boxCell hB 23 h23; have g24 := boxCell hB 24 h24; have g25 := boxCell hB 25 h25; have g26 := boxCell hB 26 h26; have g30 := boxCell hB 30 h30) | (go_at_call 61; with_reducible refine (hz.out _).mono ?_; rintro e w2 ⟨rfl, hb2⟩; replace hB := hB.trans (hb2.mono hB.size); clear hb2))
  go_ret
  exact ⟨rfl, below1 hB⟩
end Go.Proofs.YtinaibebdacnmaaDoor

/- The reference's sound of an operation of a code. -/
set_option linter.unusedVariables false
namespace Go.Proofs.YtinaibebdacnmaaDoor
open Go.RowKit Go.Proofs.YtinaibebdacnmaaDoorW.PrintWords
attribute [local go_sem] run_store_float

theorem k2 (K R A : Bool) : (K && (R && A)) = (R && (A && K)) := by cases K <;> cases R <;> cases A <;> rfl
theorem k3 (K R A B : Bool) : (K && (R && (A && B))) = (R && (A && (B && K))) := by cases K <;> cases R <;> cases A <;> cases B <;> rfl
theorem k4 (K R A B Z : Bool) : (K && (R && (A && (B && Z)))) = (R && (A && (B && (K && Z)))) := by cases K <;> cases R <;> cases A <;> cases B <;> rfl
theorem sR1 (t a b c : Int) (ks : ByteArray) (km : Int) (v : Vt) (d : Dt) (f q : Bool) (hv : v.n < 18446744073709551616) (w : World) : Calls Tryd.prog 34 #[.agg (ocs ⟨1, t, a, b, c, ks, km, v, d, f, q⟩)] w fun e w' => e = .returned (.bool (snd ⟨1, t, a, b, c, ks, km, v, d, f, q⟩)) ∧ Below w.heap.size w w' := by
  exact sr1 (ocs ⟨1, t, a, b, c, ks, km, v, d, f, q⟩) t a b c km ks v.k v.b v.n v.s v.i (rg t) (gd v.k v.b v.n v.s v.i) w rfl rfl rfl rfl rfl rfl rfl (Fact.mk (rReg_c t)) (Fact.mk (rGood_c v.k v.b v.n v.s v.i hv))
theorem sR2 (t a b c : Int) (ks : ByteArray) (km : Int) (v : Vt) (d : Dt) (f q : Bool) (hv : v.n < 18446744073709551616) (w : World) : Calls Tryd.prog 34 #[.agg (ocs ⟨2, t, a, b, c, ks, km, v, d, f, q⟩)] w fun e w' => e = .returned (.bool (snd ⟨2, t, a, b, c, ks, km, v, d, f, q⟩)) ∧ Below w.heap.size w w' := by
  exact sr2 (ocs ⟨2, t, a, b, c, ks, km, v, d, f, q⟩) t a b c km ks (rg t) (rg a) w rfl rfl rfl (Fact.mk (rReg_c t)) (Fact.mk (rReg_c a))
theorem sR3 (t a b c : Int) (ks : ByteArray) (km : Int) (v : Vt) (d : Dt) (f q : Bool) (hv : v.n < 18446744073709551616) (w : World) : Calls Tryd.prog 34 #[.agg (ocs ⟨3, t, a, b, c, ks, km, v, d, f, q⟩)] w fun e w' => e = .returned (.bool (snd ⟨3, t, a, b, c, ks, km, v, d, f, q⟩)) ∧ Below w.heap.size w w' := by
  exact sr3 (ocs ⟨3, t, a, b, c, ks, km, v, d, f, q⟩) t a b c km ks (rg t) w rfl rfl (Fact.mk (rReg_c t))
theorem sR4 (t a b c : Int) (ks : ByteArray) (km : Int) (v : Vt) (d : Dt) (f q : Bool) (hv : v.n < 18446744073709551616) (w : World) : Calls Tryd.prog 34 #[.agg (ocs ⟨4, t, a, b, c, ks, km, v, d, f, q⟩)] w fun e w' => e = .returned (.bool (snd ⟨4, t, a, b, c, ks, km, v, d, f, q⟩)) ∧ Below w.heap.size w w' := by
  exact sr4 (ocs ⟨4, t, a, b, c, ks, km, v, d, f, q⟩) t a b c km ks (rg t) w rfl rfl rfl (Fact.mk (rReg_c t))
theorem sR5 (t a b c : Int) (ks : ByteArray) (km : Int) (v : Vt) (d : Dt) (f q : Bool) (hv : v.n < 18446744073709551616) (w : World) : Calls Tryd.prog 34 #[.agg (ocs ⟨5, t, a, b, c, ks, km, v, d, f, q⟩)] w fun e w' => e = .returned (.bool (snd ⟨5, t, a, b, c, ks, km, v, d, f, q⟩)) ∧ Below w.heap.size w w' := by
  exact sr5 (ocs ⟨5, t, a, b, c, ks, km, v, d, f, q⟩) t a b c km ks (rg t) w rfl rfl (Fact.mk (rReg_c t))
theorem sR6 (t a b c : Int) (ks : ByteArray) (km : Int) (v : Vt) (d : Dt) (f q : Bool) (hv : v.n < 18446744073709551616) (w : World) : Calls Tryd.prog 34 #[.agg (ocs ⟨6, t, a, b, c, ks, km, v, d, f, q⟩)] w fun e w' => e = .returned (.bool (snd ⟨6, t, a, b, c, ks, km, v, d, f, q⟩)) ∧ Below w.heap.size w w' := by
  exact sr6 (ocs ⟨6, t, a, b, c, ks, km, v, d, f, q⟩) t a b c km ks (rg t) w rfl rfl (Fact.mk (rReg_c t))
theorem sR7 (t a b c : Int) (ks : ByteArray) (km : Int) (v : Vt) (d : Dt) (f q : Bool) (hv : v.n < 18446744073709551616) (w : World) : Calls Tryd.prog 34 #[.agg (ocs ⟨7, t, a, b, c, ks, km, v, d, f, q⟩)] w fun e w' => e = .returned (.bool (snd ⟨7, t, a, b, c, ks, km, v, d, f, q⟩)) ∧ Below w.heap.size w w' := by
  exact sr7 (ocs ⟨7, t, a, b, c, ks, km, v, d, f, q⟩) t a b c km ks (rg t) (rg a) w rfl rfl rfl (Fact.mk (rReg_c t)) (Fact.mk (rReg_c a))
theorem sR8 (t a b c : Int) (ks : ByteArray) (km : Int) (v : Vt) (d : Dt) (f q : Bool) (hv : v.n < 18446744073709551616) (w : World) : Calls Tryd.prog 34 #[.agg (ocs ⟨8, t, a, b, c, ks, km, v, d, f, q⟩)] w fun e w' => e = .returned (.bool (snd ⟨8, t, a, b, c, ks, km, v, d, f, q⟩)) ∧ Below w.heap.size w w' := by
  exact sr8 (ocs ⟨8, t, a, b, c, ks, km, v, d, f, q⟩) t a b c km ks (rg t) (rg a) w rfl rfl rfl (Fact.mk (rReg_c t)) (Fact.mk (rReg_c a))
theorem sR9 (t a b c : Int) (ks : ByteArray) (km : Int) (v : Vt) (d : Dt) (f q : Bool) (hv : v.n < 18446744073709551616) (w : World) : Calls Tryd.prog 34 #[.agg (ocs ⟨9, t, a, b, c, ks, km, v, d, f, q⟩)] w fun e w' => e = .returned (.bool (snd ⟨9, t, a, b, c, ks, km, v, d, f, q⟩)) ∧ Below w.heap.size w w' := by
  exact sr9 (ocs ⟨9, t, a, b, c, ks, km, v, d, f, q⟩) t a b c km ks (rg t) (rg a) w rfl rfl rfl rfl (Fact.mk (rReg_c t)) (Fact.mk (rReg_c a))
theorem sR10 (t a b c : Int) (ks : ByteArray) (km : Int) (v : Vt) (d : Dt) (f q : Bool) (hv : v.n < 18446744073709551616) (w : World) : Calls Tryd.prog 34 #[.agg (ocs ⟨10, t, a, b, c, ks, km, v, d, f, q⟩)] w fun e w' => e = .returned (.bool (snd ⟨10, t, a, b, c, ks, km, v, d, f, q⟩)) ∧ Below w.heap.size w w' := by
  refine (sr10 (ocs ⟨10, t, a, b, c, ks, km, v, d, f, q⟩) t a b c km ks (rg t) (rg a) (gk ks km) w rfl rfl rfl rfl rfl (Fact.mk (rReg_c t)) (Fact.mk (rReg_c a)) (Fact.mk (keyGood_c ks km))).mono fun e w' h => ⟨?_, h.2⟩
  rw [h.1]; exact congrArg (fun z => Ending.returned (.bool z)) (by show _ = (rg t && (rg a && (gk ks km))); exact k2 _ _ _)
theorem sR11 (t a b c : Int) (ks : ByteArray) (km : Int) (v : Vt) (d : Dt) (f q : Bool) (hv : v.n < 18446744073709551616) (w : World) : Calls Tryd.prog 34 #[.agg (ocs ⟨11, t, a, b, c, ks, km, v, d, f, q⟩)] w fun e w' => e = .returned (.bool (snd ⟨11, t, a, b, c, ks, km, v, d, f, q⟩)) ∧ Below w.heap.size w w' := by
  refine (sr11 (ocs ⟨11, t, a, b, c, ks, km, v, d, f, q⟩) t a b c km ks (rg t) (rg a) (rg b) (gk ks km) w rfl rfl rfl rfl rfl rfl (Fact.mk (rReg_c t)) (Fact.mk (rReg_c a)) (Fact.mk (rReg_c b)) (Fact.mk (keyGood_c ks km))).mono fun e w' h => ⟨?_, h.2⟩
  rw [h.1]; exact congrArg (fun z => Ending.returned (.bool z)) (by show _ = (rg t && (rg a && (rg b && (gk ks km)))); exact k3 _ _ _ _)
theorem sR13 (t a b c : Int) (ks : ByteArray) (km : Int) (v : Vt) (d : Dt) (f q : Bool) (hv : v.n < 18446744073709551616) (w : World) : Calls Tryd.prog 34 #[.agg (ocs ⟨13, t, a, b, c, ks, km, v, d, f, q⟩)] w fun e w' => e = .returned (.bool (snd ⟨13, t, a, b, c, ks, km, v, d, f, q⟩)) ∧ Below w.heap.size w w' := by
  refine (sr13 (ocs ⟨13, t, a, b, c, ks, km, v, d, f, q⟩) t a b c km ks (rg t) (rg a) (gk ks km) w rfl rfl rfl rfl rfl (Fact.mk (rReg_c t)) (Fact.mk (rReg_c a)) (Fact.mk (keyGood_c ks km))).mono fun e w' h => ⟨?_, h.2⟩
  rw [h.1]; exact congrArg (fun z => Ending.returned (.bool z)) (by show _ = (rg t && (rg a && (gk ks km))); exact k2 _ _ _)
theorem sR14 (t a b c : Int) (ks : ByteArray) (km : Int) (v : Vt) (d : Dt) (f q : Bool) (hv : v.n < 18446744073709551616) (w : World) : Calls Tryd.prog 34 #[.agg (ocs ⟨14, t, a, b, c, ks, km, v, d, f, q⟩)] w fun e w' => e = .returned (.bool (snd ⟨14, t, a, b, c, ks, km, v, d, f, q⟩)) ∧ Below w.heap.size w w' := by
  refine (sr14 (ocs ⟨14, t, a, b, c, ks, km, v, d, f, q⟩) t a b c km ks (rg t) (rg a) (gk ks km) w rfl rfl rfl rfl rfl (Fact.mk (rReg_c t)) (Fact.mk (rReg_c a)) (Fact.mk (keyGood_c ks km))).mono fun e w' h => ⟨?_, h.2⟩
  rw [h.1]; exact congrArg (fun z => Ending.returned (.bool z)) (by show _ = (rg t && (rg a && (gk ks km))); exact k2 _ _ _)
theorem sR15 (t a b c : Int) (ks : ByteArray) (km : Int) (v : Vt) (d : Dt) (f q : Bool) (hv : v.n < 18446744073709551616) (w : World) : Calls Tryd.prog 34 #[.agg (ocs ⟨15, t, a, b, c, ks, km, v, d, f, q⟩)] w fun e w' => e = .returned (.bool (snd ⟨15, t, a, b, c, ks, km, v, d, f, q⟩)) ∧ Below w.heap.size w w' := by
  refine (sr15 (ocs ⟨15, t, a, b, c, ks, km, v, d, f, q⟩) t a b c km ks (rg t) (rg a) (gk ks km) w rfl rfl rfl rfl rfl (Fact.mk (rReg_c t)) (Fact.mk (rReg_c a)) (Fact.mk (keyGood_c ks km))).mono fun e w' h => ⟨?_, h.2⟩
  rw [h.1]; exact congrArg (fun z => Ending.returned (.bool z)) (by show _ = (rg t && (rg a && (gk ks km))); exact k2 _ _ _)
theorem sR16 (t a b c : Int) (ks : ByteArray) (km : Int) (v : Vt) (d : Dt) (f q : Bool) (hv : v.n < 18446744073709551616) (w : World) : Calls Tryd.prog 34 #[.agg (ocs ⟨16, t, a, b, c, ks, km, v, d, f, q⟩)] w fun e w' => e = .returned (.bool (snd ⟨16, t, a, b, c, ks, km, v, d, f, q⟩)) ∧ Below w.heap.size w w' := by
  exact sr16 (ocs ⟨16, t, a, b, c, ks, km, v, d, f, q⟩) t a b c km ks (rg t) (rg a) w rfl rfl rfl (Fact.mk (rReg_c t)) (Fact.mk (rReg_c a))
theorem sR17 (t a b c : Int) (ks : ByteArray) (km : Int) (v : Vt) (d : Dt) (f q : Bool) (hv : v.n < 18446744073709551616) (w : World) : Calls Tryd.prog 34 #[.agg (ocs ⟨17, t, a, b, c, ks, km, v, d, f, q⟩)] w fun e w' => e = .returned (.bool (snd ⟨17, t, a, b, c, ks, km, v, d, f, q⟩)) ∧ Below w.heap.size w w' := by
  exact sr17 (ocs ⟨17, t, a, b, c, ks, km, v, d, f, q⟩) t a b c km ks (rg t) (rg a) (rg b) w rfl rfl rfl rfl (Fact.mk (rReg_c t)) (Fact.mk (rReg_c a)) (Fact.mk (rReg_c b))
theorem sR18 (t a b c : Int) (ks : ByteArray) (km : Int) (v : Vt) (d : Dt) (f q : Bool) (hv : v.n < 18446744073709551616) (w : World) : Calls Tryd.prog 34 #[.agg (ocs ⟨18, t, a, b, c, ks, km, v, d, f, q⟩)] w fun e w' => e = .returned (.bool (snd ⟨18, t, a, b, c, ks, km, v, d, f, q⟩)) ∧ Below w.heap.size w w' := by
  exact sr18 (ocs ⟨18, t, a, b, c, ks, km, v, d, f, q⟩) t a b c km ks (rg t) (rg a) w rfl rfl rfl (Fact.mk (rReg_c t)) (Fact.mk (rReg_c a))
theorem sR19 (t a b c : Int) (ks : ByteArray) (km : Int) (v : Vt) (d : Dt) (f q : Bool) (hv : v.n < 18446744073709551616) (w : World) : Calls Tryd.prog 34 #[.agg (ocs ⟨19, t, a, b, c, ks, km, v, d, f, q⟩)] w fun e w' => e = .returned (.bool (snd ⟨19, t, a, b, c, ks, km, v, d, f, q⟩)) ∧ Below w.heap.size w w' := by
  exact sr19 (ocs ⟨19, t, a, b, c, ks, km, v, d, f, q⟩) t a b c km ks (rg t) (rg a) w rfl rfl rfl (Fact.mk (rReg_c t)) (Fact.mk (rReg_c a))
theorem sR20 (t a b c : Int) (ks : ByteArray) (km : Int) (v : Vt) (d : Dt) (f q : Bool) (hv : v.n < 18446744073709551616) (w : World) : Calls Tryd.prog 34 #[.agg (ocs ⟨20, t, a, b, c, ks, km, v, d, f, q⟩)] w fun e w' => e = .returned (.bool (snd ⟨20, t, a, b, c, ks, km, v, d, f, q⟩)) ∧ Below w.heap.size w w' := by
  exact sr20 (ocs ⟨20, t, a, b, c, ks, km, v, d, f, q⟩) t a b c km ks (rg t) (rg a) (rg b) (rg c) w rfl rfl rfl rfl rfl (Fact.mk (rReg_c t)) (Fact.mk (rReg_c a)) (Fact.mk (rReg_c b)) (Fact.mk (rReg_c c))
theorem sR21 (t a b c : Int) (ks : ByteArray) (km : Int) (v : Vt) (d : Dt) (f q : Bool) (hv : v.n < 18446744073709551616) (w : World) : Calls Tryd.prog 34 #[.agg (ocs ⟨21, t, a, b, c, ks, km, v, d, f, q⟩)] w fun e w' => e = .returned (.bool (snd ⟨21, t, a, b, c, ks, km, v, d, f, q⟩)) ∧ Below w.heap.size w w' := by
  exact sr21 (ocs ⟨21, t, a, b, c, ks, km, v, d, f, q⟩) t a b c km ks (rg t) (rg a) (rg b) w rfl rfl rfl rfl (Fact.mk (rReg_c t)) (Fact.mk (rReg_c a)) (Fact.mk (rReg_c b))
theorem sR22 (t a b c : Int) (ks : ByteArray) (km : Int) (v : Vt) (d : Dt) (f q : Bool) (hv : v.n < 18446744073709551616) (w : World) : Calls Tryd.prog 34 #[.agg (ocs ⟨22, t, a, b, c, ks, km, v, d, f, q⟩)] w fun e w' => e = .returned (.bool (snd ⟨22, t, a, b, c, ks, km, v, d, f, q⟩)) ∧ Below w.heap.size w w' := by
  exact sr22 (ocs ⟨22, t, a, b, c, ks, km, v, d, f, q⟩) t a b c km ks (rg t) (rg a) w rfl rfl rfl (Fact.mk (rReg_c t)) (Fact.mk (rReg_c a))
theorem sR23 (t a b c : Int) (ks : ByteArray) (km : Int) (v : Vt) (d : Dt) (f q : Bool) (hv : v.n < 18446744073709551616) (w : World) : Calls Tryd.prog 34 #[.agg (ocs ⟨23, t, a, b, c, ks, km, v, d, f, q⟩)] w fun e w' => e = .returned (.bool (snd ⟨23, t, a, b, c, ks, km, v, d, f, q⟩)) ∧ Below w.heap.size w w' := by
  exact sr23 (ocs ⟨23, t, a, b, c, ks, km, v, d, f, q⟩) t a b c km ks (rg t) (rg a) (rg b) w rfl rfl rfl rfl (Fact.mk (rReg_c t)) (Fact.mk (rReg_c a)) (Fact.mk (rReg_c b))
theorem sR24 (t a b c : Int) (ks : ByteArray) (km : Int) (v : Vt) (d : Dt) (f q : Bool) (hv : v.n < 18446744073709551616) (w : World) : Calls Tryd.prog 34 #[.agg (ocs ⟨24, t, a, b, c, ks, km, v, d, f, q⟩)] w fun e w' => e = .returned (.bool (snd ⟨24, t, a, b, c, ks, km, v, d, f, q⟩)) ∧ Below w.heap.size w w' := by
  exact sr24 (ocs ⟨24, t, a, b, c, ks, km, v, d, f, q⟩) t a b c km ks (rg t) (rg a) (rg b) (rg c) w rfl rfl rfl rfl rfl (Fact.mk (rReg_c t)) (Fact.mk (rReg_c a)) (Fact.mk (rReg_c b)) (Fact.mk (rReg_c c))

theorem sR12 (t a b c : Int) (ks : ByteArray) (km : Int) (v : Vt) (d : Dt) (hf : d.fin) (f q : Bool) (w : World) : Calls Tryd.prog 34 #[.agg (ocs ⟨12, t, a, b, c, ks, km, v, d, f, q⟩)] w fun e w' => e = .returned (.bool (snd ⟨12, t, a, b, c, ks, km, v, d, f, q⟩)) ∧ Below w.heap.size w w' := by
  have fin12 : ∀ e w', (e = Ending.returned (.bool (gk ks km && (rg t && (rg a && (rg b && (gD d && !(f && ((d.g.k != 0) || (d.s.k != 0))))))))) ∧ Below w.heap.size w w') → e = Ending.returned (.bool (snd ⟨12, t, a, b, c, ks, km, v, d, f, q⟩)) ∧ Below w.heap.size w w' := fun e w' h => ⟨by
    rw [h.1, k4]; rfl, h.2⟩
  by_cases hbad : (rg t && (rg a && (rg b && gk ks km))) = false
  · exact (sr12a (ocs ⟨12, t, a, b, c, ks, km, v, d, f, q⟩) t a b c km ks d (dcs d) (rg t) (rg a) (rg b) (gk ks km) (gD d) f (d.g.k != 0) (d.s.k != 0) w rfl rfl rfl rfl rfl rfl (ddO ⟨12, t, a, b, c, ks, km, v, d, f, q⟩) infoD (Fact.mk (rReg_c t)) (Fact.mk (rReg_c a)) (Fact.mk (rReg_c b)) (Fact.mk (keyGood_c ks km)) (Fact.mk (rGoodD_c d hf)) (Fact.mk (rThere_c d.g.k d.g.b d.g.n d.g.s d.g.i)) (Fact.mk (rThere_c d.s.k d.s.b d.s.n d.s.s d.s.i)) hbad).mono fin12
  · simp only [Bool.not_eq_false, Bool.and_eq_true] at hbad
    obtain ⟨eR, eA, eB, eK⟩ := hbad
    by_cases eD : gD d = false
    · exact (sr12b (ocs ⟨12, t, a, b, c, ks, km, v, d, f, q⟩) t a b c km ks d (dcs d) (rg t) (rg a) (rg b) (gk ks km) (gD d) f (d.g.k != 0) (d.s.k != 0) w rfl rfl rfl rfl rfl rfl rfl rfl rfl rfl rfl rfl rfl rfl rfl rfl rfl (ddO ⟨12, t, a, b, c, ks, km, v, d, f, q⟩) infoD (Fact.mk (rReg_c t)) (Fact.mk (rReg_c a)) (Fact.mk (rReg_c b)) (Fact.mk (keyGood_c ks km)) (Fact.mk (rGoodD_c d hf)) (Fact.mk (rThere_c d.g.k d.g.b d.g.n d.g.s d.g.i)) (Fact.mk (rThere_c d.s.k d.s.b d.s.n d.s.s d.s.i)) eR eA eB eK eD).mono fin12
    · have eD := Bool.not_eq_false _ ▸ eD
      by_cases eF : f = false
      · exact (sr12c (ocs ⟨12, t, a, b, c, ks, km, v, d, f, q⟩) t a b c km ks d (dcs d) (rg t) (rg a) (rg b) (gk ks km) (gD d) f (d.g.k != 0) (d.s.k != 0) w rfl rfl rfl rfl rfl rfl rfl rfl rfl rfl rfl rfl rfl rfl rfl rfl rfl (ddO ⟨12, t, a, b, c, ks, km, v, d, f, q⟩) infoD (Fact.mk (rReg_c t)) (Fact.mk (rReg_c a)) (Fact.mk (rReg_c b)) (Fact.mk (keyGood_c ks km)) (Fact.mk (rGoodD_c d hf)) (Fact.mk (rThere_c d.g.k d.g.b d.g.n d.g.s d.g.i)) (Fact.mk (rThere_c d.s.k d.s.b d.s.n d.s.s d.s.i)) eR eA eB eK eD eF).mono fin12
      · have eF := Bool.not_eq_false _ ▸ eF
        by_cases eY : (d.g.k != 0) = false
        · exact (sr12d (ocs ⟨12, t, a, b, c, ks, km, v, d, f, q⟩) t a b c km ks d (dcs d) (rg t) (rg a) (rg b) (gk ks km) (gD d) f (d.g.k != 0) (d.s.k != 0) w rfl rfl rfl rfl rfl rfl rfl rfl rfl rfl rfl rfl rfl rfl rfl rfl rfl (ddO ⟨12, t, a, b, c, ks, km, v, d, f, q⟩) infoD (Fact.mk (rReg_c t)) (Fact.mk (rReg_c a)) (Fact.mk (rReg_c b)) (Fact.mk (keyGood_c ks km)) (Fact.mk (rGoodD_c d hf)) (Fact.mk (rThere_c d.g.k d.g.b d.g.n d.g.s d.g.i)) (Fact.mk (rThere_c d.s.k d.s.b d.s.n d.s.s d.s.i)) eR eA eB eK eD eF eY).mono fin12
        · have eY := Bool.not_eq_false _ ▸ eY
          exact (sr12e (ocs ⟨12, t, a, b, c, ks, km, v, d, f, q⟩) t a b c km ks d (dcs d) (rg t) (rg a) (rg b) (gk ks km) (gD d) f (d.g.k != 0) (d.s.k != 0) w rfl rfl rfl rfl rfl rfl rfl rfl rfl rfl rfl rfl rfl rfl rfl rfl rfl (ddO ⟨12, t, a, b, c, ks, km, v, d, f, q⟩) infoD (Fact.mk (rReg_c t)) (Fact.mk (rReg_c a)) (Fact.mk (rReg_c b)) (Fact.mk (keyGood_c ks km)) (Fact.mk (rGoodD_c d hf)) (Fact.mk (rThere_c d.g.k d.g.b d.g.n d.g.s d.g.i)) (Fact.mk (rThere_c d.s.k d.s.b d.s.n d.s.s d.s.i)) eR eA eB eK eD eF eY).mono fin12
end Go.Proofs.YtinaibebdacnmaaDoor
