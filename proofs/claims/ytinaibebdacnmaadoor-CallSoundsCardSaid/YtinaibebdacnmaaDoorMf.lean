import Derived.Test.YtinaibebdacnmaaDoorMe
set_option linter.all false
/- Operations, code by code. -/
set_option linter.unusedVariables false
namespace Go.Proofs.YtinaibebdacnmaaDoor
open Go.RowKit Go.Proofs.YtinaibebdacnmaaDoorW.PrintWords
attribute [local go_sem] run_store_float
set_option maxRecDepth 100000 in
set_option maxHeartbeats 4000000 in
theorem sp1 (cs : Array Value) (t0 a b c km : Int) (ks : ByteArray) (vk : Int) (vb : Bool) (vn : Nat) (vs : ByteArray) (vi : Int) (R V : Bool) (w : World) (h0 : cs[0]? = some (.int .i64 1)) (h1 : cs[1]? = some (.int .i64 t0)) (h7 : cs[7]? = some (.int .i64 vk)) (h8 : cs[8]? = some (.bool vb)) (h9 : cs[9]? = some (.float .f64 vn)) (h10 : cs[10]? = some (.string vs)) (h11 : cs[11]? = some (.int .i64 vi)) (hr : Fact (∀ w', Calls Tryd.prog 54 #[.int .i64 t0] w' fun e w'' => e = .returned (.bool R) ∧ w' = w'')) (hv : Fact (∀ w', Below w.heap.size w w' → Calls Tryd.prog 27 #[.agg #[.int .i64 vk, .bool vb, .float .f64 vn, .string vs, .int .i64 vi]] w' fun e w'' => e = .returned (.int .i64 (bif V then 0 else 5)) ∧ Below w'.heap.size w' w'')) :
    Calls Tryd.prog 33 #[.agg cs] w fun e w' => e = .returned (.bool (R && V)) ∧ Below w.heap.size w w' := by
  have hs := Fact.mk (fun w' => (show Calls Tryd.prog 53 #[.int .i64 1] w' fun e w'' => e = .returned (.tuple #[.agg #[.bool false, .bool false, .bool false, .bool false], .bool true]) ∧ Below w'.heap.size w' w'' from shapes_c 1 (by decide) (by decide) w'))
  cases R with
  | false =>
    go_enter Tryd.func33, Tryd.ntmps33
    go_wp2_with (first | (go_at_call 53; with_reducible refine (hs.out _).mono ?_; rintro e w1 ⟨rfl, hb⟩; have hB1 := fun o => (below1 hb).alloc (below1 hb).size o; have g0 := boxO hb 0 h0; have g1 := boxO hb 1 h1; have g7 := boxO hb 7 h7; have g8 := boxO hb 8 h8; have g9 := boxO hb 9 h9; have g10 := boxO hb 10 h10; have g11 := boxO hb 11 h11) | (go_at_call 54; with_reducible refine (hr.out _).mono ?_; rintro e w' ⟨rfl, rfl⟩) | (go_at_call 27; with_reducible refine (hv.out _ (hB1 _)).mono ?_; rintro e w2 ⟨rfl, hb2⟩; have hB := boxP hb hb2))
    go_ret
    first | exact ⟨rfl, below1 hB⟩ | exact ⟨rfl, hB1 _⟩
  | true =>
    cases V with
    | false =>
      simp only [cond_true, cond_false] at hv
      go_enter Tryd.func33, Tryd.ntmps33
      go_wp2_with (first | (go_at_call 53; with_reducible refine (hs.out _).mono ?_; rintro e w1 ⟨rfl, hb⟩; have hB1 := fun o => (below1 hb).alloc (below1 hb).size o; have g0 := boxO hb 0 h0; have g1 := boxO hb 1 h1; have g7 := boxO hb 7 h7; have g8 := boxO hb 8 h8; have g9 := boxO hb 9 h9; have g10 := boxO hb 10 h10; have g11 := boxO hb 11 h11) | (go_at_call 54; with_reducible refine (hr.out _).mono ?_; rintro e w' ⟨rfl, rfl⟩) | (go_at_call 27; with_reducible refine (hv.out _ (hB1 _)).mono ?_; rintro e w2 ⟨rfl, hb2⟩; have hB := boxP hb hb2))
      go_ret
      first | exact ⟨rfl, below1 hB⟩ | exact ⟨rfl, hB1 _⟩
    | true =>
      simp only [cond_true, cond_false] at hv
      go_enter Tryd.func33, Tryd.ntmps33
      go_wp2_with (first | (go_at_call 53; with_reducible refine (hs.out _).mono ?_; rintro e w1 ⟨rfl, hb⟩; have hB1 := fun o => (below1 hb).alloc (below1 hb).size o; have g0 := boxO hb 0 h0; have g1 := boxO hb 1 h1; have g7 := boxO hb 7 h7; have g8 := boxO hb 8 h8; have g9 := boxO hb 9 h9; have g10 := boxO hb 10 h10; have g11 := boxO hb 11 h11) | (go_at_call 54; with_reducible refine (hr.out _).mono ?_; rintro e w' ⟨rfl, rfl⟩) | (go_at_call 27; with_reducible refine (hv.out _ (hB1 _)).mono ?_; rintro e w2 ⟨rfl, hb2⟩; have hB := boxP hb hb2))
      go_ret
      first | exact ⟨rfl, below1 hB⟩ | exact ⟨rfl, hB1 _⟩
set_option maxRecDepth 100000 in
set_option maxHeartbeats 4000000 in
theorem sp2 (cs : Array Value) (t0 a b c km : Int) (ks : ByteArray) (R A : Bool) (w : World) (h0 : cs[0]? = some (.int .i64 2)) (h1 : cs[1]? = some (.int .i64 t0)) (h2 : cs[2]? = some (.int .i64 a)) (hr : Fact (∀ w', Calls Tryd.prog 54 #[.int .i64 t0] w' fun e w'' => e = .returned (.bool R) ∧ w' = w'')) (ha : Fact (∀ w', Calls Tryd.prog 54 #[.int .i64 a] w' fun e w'' => e = .returned (.bool A) ∧ w' = w'')) :
    Calls Tryd.prog 33 #[.agg cs] w fun e w' => e = .returned (.bool (R && A)) ∧ Below w.heap.size w w' := by
  have hs := Fact.mk (fun w' => (show Calls Tryd.prog 53 #[.int .i64 2] w' fun e w'' => e = .returned (.tuple #[.agg #[.bool true, .bool false, .bool false, .bool false], .bool true]) ∧ Below w'.heap.size w' w'' from shapes_c 2 (by decide) (by decide) w'))
  cases R with
  | false =>
    go_enter Tryd.func33, Tryd.ntmps33
    go_wp2_with (first | (go_at_call 53; with_reducible refine (hs.out _).mono ?_; rintro e w1 ⟨rfl, hb⟩; have hB1 := fun o => (below1 hb).alloc (below1 hb).size o; have g0 := boxO hb 0 h0; have g1 := boxO hb 1 h1; have g2 := boxO hb 2 h2) | (go_at_call 54; with_reducible refine (hr.out _).mono ?_; rintro e w' ⟨rfl, rfl⟩) | (go_at_call 54; with_reducible refine (ha.out _).mono ?_; rintro e w' ⟨rfl, rfl⟩))
    go_ret
    first | exact ⟨rfl, below1 hB⟩ | exact ⟨rfl, hB1 _⟩
  | true =>
    cases A with
    | false =>
      go_enter Tryd.func33, Tryd.ntmps33
      go_wp2_with (first | (go_at_call 53; with_reducible refine (hs.out _).mono ?_; rintro e w1 ⟨rfl, hb⟩; have hB1 := fun o => (below1 hb).alloc (below1 hb).size o; have g0 := boxO hb 0 h0; have g1 := boxO hb 1 h1; have g2 := boxO hb 2 h2) | (go_at_call 54; with_reducible refine (hr.out _).mono ?_; rintro e w' ⟨rfl, rfl⟩) | (go_at_call 54; with_reducible refine (ha.out _).mono ?_; rintro e w' ⟨rfl, rfl⟩))
      go_ret
      first | exact ⟨rfl, below1 hB⟩ | exact ⟨rfl, hB1 _⟩
    | true =>
      go_enter Tryd.func33, Tryd.ntmps33
      go_wp2_with (first | (go_at_call 53; with_reducible refine (hs.out _).mono ?_; rintro e w1 ⟨rfl, hb⟩; have hB1 := fun o => (below1 hb).alloc (below1 hb).size o; have g0 := boxO hb 0 h0; have g1 := boxO hb 1 h1; have g2 := boxO hb 2 h2) | (go_at_call 54; with_reducible refine (hr.out _).mono ?_; rintro e w' ⟨rfl, rfl⟩) | (go_at_call 54; with_reducible refine (ha.out _).mono ?_; rintro e w' ⟨rfl, rfl⟩))
      go_ret
      first | exact ⟨rfl, below1 hB⟩ | exact ⟨rfl, hB1 _⟩
set_option maxRecDepth 100000 in
set_option maxHeartbeats 4000000 in
theorem sp3 (cs : Array Value) (t0 a b c km : Int) (ks : ByteArray) (R : Bool) (w : World) (h0 : cs[0]? = some (.int .i64 3)) (h1 : cs[1]? = some (.int .i64 t0)) (hr : Fact (∀ w', Calls Tryd.prog 54 #[.int .i64 t0] w' fun e w'' => e = .returned (.bool R) ∧ w' = w'')) :
    Calls Tryd.prog 33 #[.agg cs] w fun e w' => e = .returned (.bool (R)) ∧ Below w.heap.size w w' := by
  have hs := Fact.mk (fun w' => (show Calls Tryd.prog 53 #[.int .i64 3] w' fun e w'' => e = .returned (.tuple #[.agg #[.bool false, .bool false, .bool false, .bool false], .bool true]) ∧ Below w'.heap.size w' w'' from shapes_c 3 (by decide) (by decide) w'))
  cases R with
  | false =>
    go_enter Tryd.func33, Tryd.ntmps33
    go_wp2_with (first | (go_at_call 53; with_reducible refine (hs.out _).mono ?_; rintro e w1 ⟨rfl, hb⟩; have hB1 := fun o => (below1 hb).alloc (below1 hb).size o; have g0 := boxO hb 0 h0; have g1 := boxO hb 1 h1) | (go_at_call 54; with_reducible refine (hr.out _).mono ?_; rintro e w' ⟨rfl, rfl⟩))
    go_ret
    first | exact ⟨rfl, below1 hB⟩ | exact ⟨rfl, hB1 _⟩
  | true =>
    go_enter Tryd.func33, Tryd.ntmps33
    go_wp2_with (first | (go_at_call 53; with_reducible refine (hs.out _).mono ?_; rintro e w1 ⟨rfl, hb⟩; have hB1 := fun o => (below1 hb).alloc (below1 hb).size o; have g0 := boxO hb 0 h0; have g1 := boxO hb 1 h1) | (go_at_call 54; with_reducible refine (hr.out _).mono ?_; rintro e w' ⟨rfl, rfl⟩))
    go_ret
    first | exact ⟨rfl, below1 hB⟩ | exact ⟨rfl, hB1 _⟩
set_option maxRecDepth 100000 in
set_option maxHeartbeats 4000000 in
theorem sp4 (cs : Array Value) (t0 a b c km : Int) (ks : ByteArray) (R : Bool) (w : World) (h0 : cs[0]? = some (.int .i64 4)) (h1 : cs[1]? = some (.int .i64 t0)) (h2 : cs[2]? = some (.int .i64 a)) (hr : Fact (∀ w', Calls Tryd.prog 54 #[.int .i64 t0] w' fun e w'' => e = .returned (.bool R) ∧ w' = w'')) :
    Calls Tryd.prog 33 #[.agg cs] w fun e w' => e = .returned (.bool (R && decide (0 ≤ a))) ∧ Below w.heap.size w w' := by
  have hs := Fact.mk (fun w' => (show Calls Tryd.prog 53 #[.int .i64 4] w' fun e w'' => e = .returned (.tuple #[.agg #[.bool false, .bool false, .bool false, .bool false], .bool true]) ∧ Below w'.heap.size w' w'' from shapes_c 4 (by decide) (by decide) w'))
  cases R with
  | false =>
    go_enter Tryd.func33, Tryd.ntmps33
    go_wp2_with (first | (go_at_call 53; with_reducible refine (hs.out _).mono ?_; rintro e w1 ⟨rfl, hb⟩; have hB1 := fun o => (below1 hb).alloc (below1 hb).size o; have g0 := boxO hb 0 h0; have g1 := boxO hb 1 h1; have g2 := boxO hb 2 h2) | (go_at_call 54; with_reducible refine (hr.out _).mono ?_; rintro e w' ⟨rfl, rfl⟩))
    go_ret
    first | exact ⟨rfl, below1 hB⟩ | exact ⟨rfl, hB1 _⟩
  | true =>
    go_enter Tryd.func33, Tryd.ntmps33
    go_wp2_with (first | (go_at_call 53; with_reducible refine (hs.out _).mono ?_; rintro e w1 ⟨rfl, hb⟩; have hB1 := fun o => (below1 hb).alloc (below1 hb).size o; have g0 := boxO hb 0 h0; have g1 := boxO hb 1 h1; have g2 := boxO hb 2 h2) | (go_at_call 54; with_reducible refine (hr.out _).mono ?_; rintro e w' ⟨rfl, rfl⟩))
    go_ret
    first | exact ⟨rfl, below1 hB⟩ | exact ⟨rfl, hB1 _⟩
set_option maxRecDepth 100000 in
set_option maxHeartbeats 4000000 in
theorem sp5 (cs : Array Value) (t0 a b c km : Int) (ks : ByteArray) (R : Bool) (w : World) (h0 : cs[0]? = some (.int .i64 5)) (h1 : cs[1]? = some (.int .i64 t0)) (hr : Fact (∀ w', Calls Tryd.prog 54 #[.int .i64 t0] w' fun e w'' => e = .returned (.bool R) ∧ w' = w'')) :
    Calls Tryd.prog 33 #[.agg cs] w fun e w' => e = .returned (.bool (R)) ∧ Below w.heap.size w w' := by
  have hs := Fact.mk (fun w' => (show Calls Tryd.prog 53 #[.int .i64 5] w' fun e w'' => e = .returned (.tuple #[.agg #[.bool false, .bool false, .bool false, .bool false], .bool true]) ∧ Below w'.heap.size w' w'' from shapes_c 5 (by decide) (by decide) w'))
  cases R with
  | false =>
    go_enter Tryd.func33, Tryd.ntmps33
    go_wp2_with (first | (go_at_call 53; with_reducible refine (hs.out _).mono ?_; rintro e w1 ⟨rfl, hb⟩; have hB1 := fun o => (below1 hb).alloc (below1 hb).size o; have g0 := boxO hb 0 h0; have g1 := boxO hb 1 h1) | (go_at_call 54; with_reducible refine (hr.out _).mono ?_; rintro e w' ⟨rfl, rfl⟩))
    go_ret
    first | exact ⟨rfl, below1 hB⟩ | exact ⟨rfl, hB1 _⟩
  | true =>
    go_enter Tryd.func33, Tryd.ntmps33
    go_wp2_with (first | (go_at_call 53; with_reducible refine (hs.out _).mono ?_; rintro e w1 ⟨rfl, hb⟩; have hB1 := fun o => (below1 hb).alloc (below1 hb).size o; have g0 := boxO hb 0 h0; have g1 := boxO hb 1 h1) | (go_at_call 54; with_reducible refine (hr.out _).mono ?_; rintro e w' ⟨rfl, rfl⟩))
    go_ret
    first | exact ⟨rfl, below1 hB⟩ | exact ⟨rfl, hB1 _⟩
set_option maxRecDepth 100000 in
set_option maxHeartbeats 4000000 in
theorem sp6 (cs : Array Value) (t0 a b c km : Int) (ks : ByteArray) (R : Bool) (w : World) (h0 : cs[0]? = some (.int .i64 6)) (h1 : cs[1]? = some (.int .i64 t0)) (hr : Fact (∀ w', Calls Tryd.prog 54 #[.int .i64 t0] w' fun e w'' => e = .returned (.bool R) ∧ w' = w'')) :
    Calls Tryd.prog 33 #[.agg cs] w fun e w' => e = .returned (.bool (R)) ∧ Below w.heap.size w w' := by
  have hs := Fact.mk (fun w' => (show Calls Tryd.prog 53 #[.int .i64 6] w' fun e w'' => e = .returned (.tuple #[.agg #[.bool false, .bool false, .bool false, .bool false], .bool true]) ∧ Below w'.heap.size w' w'' from shapes_c 6 (by decide) (by decide) w'))
  cases R with
  | false =>
    go_enter Tryd.func33, Tryd.ntmps33
    go_wp2_with (first | (go_at_call 53; with_reducible refine (hs.out _).mono ?_; rintro e w1 ⟨rfl, hb⟩; have hB1 := fun o => (below1 hb).alloc (below1 hb).size o; have g0 := boxO hb 0 h0; have g1 := boxO hb 1 h1) | (go_at_call 54; with_reducible refine (hr.out _).mono ?_; rintro e w' ⟨rfl, rfl⟩))
    go_ret
    first | exact ⟨rfl, below1 hB⟩ | exact ⟨rfl, hB1 _⟩
  | true =>
    go_enter Tryd.func33, Tryd.ntmps33
    go_wp2_with (first | (go_at_call 53; with_reducible refine (hs.out _).mono ?_; rintro e w1 ⟨rfl, hb⟩; have hB1 := fun o => (below1 hb).alloc (below1 hb).size o; have g0 := boxO hb 0 h0; have g1 := boxO hb 1 h1) | (go_at_call 54; with_reducible refine (hr.out _).mono ?_; rintro e w' ⟨rfl, rfl⟩))
    go_ret
    first | exact ⟨rfl, below1 hB⟩ | exact ⟨rfl, hB1 _⟩
set_option maxRecDepth 100000 in
set_option maxHeartbeats 4000000 in
theorem sp7 (cs : Array Value) (t0 a b c km : Int) (ks : ByteArray) (R A : Bool) (w : World) (h0 : cs[0]? = some (.int .i64 7)) (h1 : cs[1]? = some (.int .i64 t0)) (h2 : cs[2]? = some (.int .i64 a)) (hr : Fact (∀ w', Calls Tryd.prog 54 #[.int .i64 t0] w' fun e w'' => e = .returned (.bool R) ∧ w' = w'')) (ha : Fact (∀ w', Calls Tryd.prog 54 #[.int .i64 a] w' fun e w'' => e = .returned (.bool A) ∧ w' = w'')) :
    Calls Tryd.prog 33 #[.agg cs] w fun e w' => e = .returned (.bool (R && A)) ∧ Below w.heap.size w w' := by
  have hs := Fact.mk (fun w' => (show Calls Tryd.prog 53 #[.int .i64 7] w' fun e w'' => e = .returned (.tuple #[.agg #[.bool true, .bool false, .bool false, .bool false], .bool true]) ∧ Below w'.heap.size w' w'' from shapes_c 7 (by decide) (by decide) w'))
  cases R with
  | false =>
    go_enter Tryd.func33, Tryd.ntmps33
    go_wp2_with (first | (go_at_call 53; with_reducible refine (hs.out _).mono ?_; rintro e w1 ⟨rfl, hb⟩; have hB1 := fun o => (below1 hb).alloc (below1 hb).size o; have g0 := boxO hb 0 h0; have g1 := boxO hb 1 h1; have g2 := boxO hb 2 h2) | (go_at_call 54; with_reducible refine (hr.out _).mono ?_; rintro e w' ⟨rfl, rfl⟩) | (go_at_call 54; with_reducible refine (ha.out _).mono ?_; rintro e w' ⟨rfl, rfl⟩))
    go_ret
    first | exact ⟨rfl, below1 hB⟩ | exact ⟨rfl, hB1 _⟩
  | true =>
    cases A with
    | false =>
      go_enter Tryd.func33, Tryd.ntmps33
      go_wp2_with (first | (go_at_call 53; with_reducible refine (hs.out _).mono ?_; rintro e w1 ⟨rfl, hb⟩; have hB1 := fun o => (below1 hb).alloc (below1 hb).size o; have g0 := boxO hb 0 h0; have g1 := boxO hb 1 h1; have g2 := boxO hb 2 h2) | (go_at_call 54; with_reducible refine (hr.out _).mono ?_; rintro e w' ⟨rfl, rfl⟩) | (go_at_call 54; with_reducible refine (ha.out _).mono ?_; rintro e w' ⟨rfl, rfl⟩))
      go_ret
      first | exact ⟨rfl, below1 hB⟩ | exact ⟨rfl, hB1 _⟩
    | true =>
      go_enter Tryd.func33, Tryd.ntmps33
      go_wp2_with (first | (go_at_call 53; with_reducible refine (hs.out _).mono ?_; rintro e w1 ⟨rfl, hb⟩; have hB1 := fun o => (below1 hb).alloc (below1 hb).size o; have g0 := boxO hb 0 h0; have g1 := boxO hb 1 h1; have g2 := boxO hb 2 h2) | (go_at_call 54; with_reducible refine (hr.out _).mono ?_; rintro e w' ⟨rfl, rfl⟩) | (go_at_call 54; with_reducible refine (ha.out _).mono ?_; rintro e w' ⟨rfl, rfl⟩))
      go_ret
      first | exact ⟨rfl, below1 hB⟩ | exact ⟨rfl, hB1 _⟩
set_option maxRecDepth 100000 in
set_option maxHeartbeats 4000000 in
theorem sp8 (cs : Array Value) (t0 a b c km : Int) (ks : ByteArray) (R A : Bool) (w : World) (h0 : cs[0]? = some (.int .i64 8)) (h1 : cs[1]? = some (.int .i64 t0)) (h2 : cs[2]? = some (.int .i64 a)) (hr : Fact (∀ w', Calls Tryd.prog 54 #[.int .i64 t0] w' fun e w'' => e = .returned (.bool R) ∧ w' = w'')) (ha : Fact (∀ w', Calls Tryd.prog 54 #[.int .i64 a] w' fun e w'' => e = .returned (.bool A) ∧ w' = w'')) :
    Calls Tryd.prog 33 #[.agg cs] w fun e w' => e = .returned (.bool (R && A)) ∧ Below w.heap.size w w' := by
  have hs := Fact.mk (fun w' => (show Calls Tryd.prog 53 #[.int .i64 8] w' fun e w'' => e = .returned (.tuple #[.agg #[.bool true, .bool false, .bool false, .bool false], .bool true]) ∧ Below w'.heap.size w' w'' from shapes_c 8 (by decide) (by decide) w'))
  cases R with
  | false =>
    go_enter Tryd.func33, Tryd.ntmps33
    go_wp2_with (first | (go_at_call 53; with_reducible refine (hs.out _).mono ?_; rintro e w1 ⟨rfl, hb⟩; have hB1 := fun o => (below1 hb).alloc (below1 hb).size o; have g0 := boxO hb 0 h0; have g1 := boxO hb 1 h1; have g2 := boxO hb 2 h2) | (go_at_call 54; with_reducible refine (hr.out _).mono ?_; rintro e w' ⟨rfl, rfl⟩) | (go_at_call 54; with_reducible refine (ha.out _).mono ?_; rintro e w' ⟨rfl, rfl⟩))
    go_ret
    first | exact ⟨rfl, below1 hB⟩ | exact ⟨rfl, hB1 _⟩
  | true =>
    cases A with
    | false =>
      go_enter Tryd.func33, Tryd.ntmps33
      go_wp2_with (first | (go_at_call 53; with_reducible refine (hs.out _).mono ?_; rintro e w1 ⟨rfl, hb⟩; have hB1 := fun o => (below1 hb).alloc (below1 hb).size o; have g0 := boxO hb 0 h0; have g1 := boxO hb 1 h1; have g2 := boxO hb 2 h2) | (go_at_call 54; with_reducible refine (hr.out _).mono ?_; rintro e w' ⟨rfl, rfl⟩) | (go_at_call 54; with_reducible refine (ha.out _).mono ?_; rintro e w' ⟨rfl, rfl⟩))
      go_ret
      first | exact ⟨rfl, below1 hB⟩ | exact ⟨rfl, hB1 _⟩
    | true =>
      go_enter Tryd.func33, Tryd.ntmps33
      go_wp2_with (first | (go_at_call 53; with_reducible refine (hs.out _).mono ?_; rintro e w1 ⟨rfl, hb⟩; have hB1 := fun o => (below1 hb).alloc (below1 hb).size o; have g0 := boxO hb 0 h0; have g1 := boxO hb 1 h1; have g2 := boxO hb 2 h2) | (go_at_call 54; with_reducible refine (hr.out _).mono ?_; rintro e w' ⟨rfl, rfl⟩) | (go_at_call 54; with_reducible refine (ha.out _).mono ?_; rintro e w' ⟨rfl, rfl⟩))
      go_ret
      first | exact ⟨rfl, below1 hB⟩ | exact ⟨rfl, hB1 _⟩
set_option maxRecDepth 100000 in
set_option maxHeartbeats 4000000 in
theorem sp9 (cs : Array Value) (t0 a b c km : Int) (ks : ByteArray) (R A : Bool) (w : World) (h0 : cs[0]? = some (.int .i64 9)) (h1 : cs[1]? = some (.int .i64 t0)) (h2 : cs[2]? = some (.int .i64 a)) (h3 : cs[3]? = some (.int .i64 b)) (hr : Fact (∀ w', Calls Tryd.prog 54 #[.int .i64 t0] w' fun e w'' => e = .returned (.bool R) ∧ w' = w'')) (ha : Fact (∀ w', Calls Tryd.prog 54 #[.int .i64 a] w' fun e w'' => e = .returned (.bool A) ∧ w' = w'')) :
    Calls Tryd.prog 33 #[.agg cs] w fun e w' => e = .returned (.bool (R && (A && decide (0 ≤ b)))) ∧ Below w.heap.size w w' := by
  have hs := Fact.mk (fun w' => (show Calls Tryd.prog 53 #[.int .i64 9] w' fun e w'' => e = .returned (.tuple #[.agg #[.bool true, .bool false, .bool false, .bool false], .bool true]) ∧ Below w'.heap.size w' w'' from shapes_c 9 (by decide) (by decide) w'))
  cases R with
  | false =>
    go_enter Tryd.func33, Tryd.ntmps33
    go_wp2_with (first | (go_at_call 53; with_reducible refine (hs.out _).mono ?_; rintro e w1 ⟨rfl, hb⟩; have hB1 := fun o => (below1 hb).alloc (below1 hb).size o; have g0 := boxO hb 0 h0; have g1 := boxO hb 1 h1; have g2 := boxO hb 2 h2; have g3 := boxO hb 3 h3) | (go_at_call 54; with_reducible refine (hr.out _).mono ?_; rintro e w' ⟨rfl, rfl⟩) | (go_at_call 54; with_reducible refine (ha.out _).mono ?_; rintro e w' ⟨rfl, rfl⟩))
    go_ret
    first | exact ⟨rfl, below1 hB⟩ | exact ⟨rfl, hB1 _⟩
  | true =>
    cases A with
    | false =>
      go_enter Tryd.func33, Tryd.ntmps33
      go_wp2_with (first | (go_at_call 53; with_reducible refine (hs.out _).mono ?_; rintro e w1 ⟨rfl, hb⟩; have hB1 := fun o => (below1 hb).alloc (below1 hb).size o; have g0 := boxO hb 0 h0; have g1 := boxO hb 1 h1; have g2 := boxO hb 2 h2; have g3 := boxO hb 3 h3) | (go_at_call 54; with_reducible refine (hr.out _).mono ?_; rintro e w' ⟨rfl, rfl⟩) | (go_at_call 54; with_reducible refine (ha.out _).mono ?_; rintro e w' ⟨rfl, rfl⟩))
      go_ret
      first | exact ⟨rfl, below1 hB⟩ | exact ⟨rfl, hB1 _⟩
    | true =>
      go_enter Tryd.func33, Tryd.ntmps33
      go_wp2_with (first | (go_at_call 53; with_reducible refine (hs.out _).mono ?_; rintro e w1 ⟨rfl, hb⟩; have hB1 := fun o => (below1 hb).alloc (below1 hb).size o; have g0 := boxO hb 0 h0; have g1 := boxO hb 1 h1; have g2 := boxO hb 2 h2; have g3 := boxO hb 3 h3) | (go_at_call 54; with_reducible refine (hr.out _).mono ?_; rintro e w' ⟨rfl, rfl⟩) | (go_at_call 54; with_reducible refine (ha.out _).mono ?_; rintro e w' ⟨rfl, rfl⟩))
      go_ret
      first | exact ⟨rfl, below1 hB⟩ | exact ⟨rfl, hB1 _⟩
end Go.Proofs.YtinaibebdacnmaaDoor

/- Operations, code by code. -/
set_option linter.unusedVariables false
namespace Go.Proofs.YtinaibebdacnmaaDoor
open Go.RowKit Go.Proofs.YtinaibebdacnmaaDoorW.PrintWords
attribute [local go_sem] run_store_float
set_option maxRecDepth 100000 in
set_option maxHeartbeats 4000000 in
theorem sp10 (cs : Array Value) (t0 a b c km : Int) (ks : ByteArray) (R A K : Bool) (w : World) (h0 : cs[0]? = some (.int .i64 10)) (h1 : cs[1]? = some (.int .i64 t0)) (h2 : cs[2]? = some (.int .i64 a)) (h5 : cs[5]? = some (.string ks)) (h6 : cs[6]? = some (.int .i64 km)) (hr : Fact (∀ w', Calls Tryd.prog 54 #[.int .i64 t0] w' fun e w'' => e = .returned (.bool R) ∧ w' = w'')) (ha : Fact (∀ w', Calls Tryd.prog 54 #[.int .i64 a] w' fun e w'' => e = .returned (.bool A) ∧ w' = w'')) (hk : Fact (∀ w', Below w.heap.size w w' → Calls Tryd.prog 55 #[.agg #[.string ks, .int .i64 km]] w' fun e w'' => e = .returned (.int .i64 (bif K then 0 else 5)) ∧ Below w'.heap.size w' w''))  :
    Calls Tryd.prog 33 #[.agg cs] w fun e w' => e = .returned (.bool (R && (A && K))) ∧ Below w.heap.size w w' := by
  have hs := Fact.mk (fun w' => (show Calls Tryd.prog 53 #[.int .i64 10] w' fun e w'' => e = .returned (.tuple #[.agg #[.bool true, .bool false, .bool false, .bool true], .bool true]) ∧ Below w'.heap.size w' w'' from shapes_c 10 (by decide) (by decide) w'))
  cases R with
  | false =>
    go_enter Tryd.func33, Tryd.ntmps33
    go_wp2_with (first | (go_at_call 53; with_reducible refine (hs.out _).mono ?_; rintro e w1 ⟨rfl, hb⟩; have hB1 := fun o => (below1 hb).alloc (below1 hb).size o; have g0 := boxO hb 0 h0; have g1 := boxO hb 1 h1; have g2 := boxO hb 2 h2; have g5 := boxO hb 5 h5; have g6 := boxO hb 6 h6) | (go_at_call 54; with_reducible refine (hr.out _).mono ?_; rintro e w' ⟨rfl, rfl⟩) | (go_at_call 54; with_reducible refine (ha.out _).mono ?_; rintro e w' ⟨rfl, rfl⟩) | (go_at_call 55; with_reducible refine (hk.out _ (hB1 _)).mono ?_; rintro e w2 ⟨rfl, hb2⟩; have hB := boxP hb hb2; clear g0 g1 g2 g5 g6; have g0 := boxCell hB 0 h0))
    go_ret
    first | exact ⟨rfl, below1 hB⟩ | exact ⟨rfl, hB1 _⟩
  | true =>
    cases A with
    | false =>
      go_enter Tryd.func33, Tryd.ntmps33
      go_wp2_with (first | (go_at_call 53; with_reducible refine (hs.out _).mono ?_; rintro e w1 ⟨rfl, hb⟩; have hB1 := fun o => (below1 hb).alloc (below1 hb).size o; have g0 := boxO hb 0 h0; have g1 := boxO hb 1 h1; have g2 := boxO hb 2 h2; have g5 := boxO hb 5 h5; have g6 := boxO hb 6 h6) | (go_at_call 54; with_reducible refine (hr.out _).mono ?_; rintro e w' ⟨rfl, rfl⟩) | (go_at_call 54; with_reducible refine (ha.out _).mono ?_; rintro e w' ⟨rfl, rfl⟩) | (go_at_call 55; with_reducible refine (hk.out _ (hB1 _)).mono ?_; rintro e w2 ⟨rfl, hb2⟩; have hB := boxP hb hb2; clear g0 g1 g2 g5 g6; have g0 := boxCell hB 0 h0))
      go_ret
      first | exact ⟨rfl, below1 hB⟩ | exact ⟨rfl, hB1 _⟩
    | true =>
      cases K with
      | false =>
        simp only [cond_true, cond_false] at hk
        go_enter Tryd.func33, Tryd.ntmps33
        go_wp2_with (first | (go_at_call 53; with_reducible refine (hs.out _).mono ?_; rintro e w1 ⟨rfl, hb⟩; have hB1 := fun o => (below1 hb).alloc (below1 hb).size o; have g0 := boxO hb 0 h0; have g1 := boxO hb 1 h1; have g2 := boxO hb 2 h2; have g5 := boxO hb 5 h5; have g6 := boxO hb 6 h6) | (go_at_call 54; with_reducible refine (hr.out _).mono ?_; rintro e w' ⟨rfl, rfl⟩) | (go_at_call 54; with_reducible refine (ha.out _).mono ?_; rintro e w' ⟨rfl, rfl⟩) | (go_at_call 55; with_reducible refine (hk.out _ (hB1 _)).mono ?_; rintro e w2 ⟨rfl, hb2⟩; have hB := boxP hb hb2; clear g0 g1 g2 g5 g6; have g0 := boxCell hB 0 h0))
        go_ret
        first | exact ⟨rfl, below1 hB⟩ | exact ⟨rfl, hB1 _⟩
      | true =>
        simp only [cond_true, cond_false] at hk
        go_enter Tryd.func33, Tryd.ntmps33
        go_wp2_with (first | (go_at_call 53; with_reducible refine (hs.out _).mono ?_; rintro e w1 ⟨rfl, hb⟩; have hB1 := fun o => (below1 hb).alloc (below1 hb).size o; have g0 := boxO hb 0 h0; have g1 := boxO hb 1 h1; have g2 := boxO hb 2 h2; have g5 := boxO hb 5 h5; have g6 := boxO hb 6 h6) | (go_at_call 54; with_reducible refine (hr.out _).mono ?_; rintro e w' ⟨rfl, rfl⟩) | (go_at_call 54; with_reducible refine (ha.out _).mono ?_; rintro e w' ⟨rfl, rfl⟩) | (go_at_call 55; with_reducible refine (hk.out _ (hB1 _)).mono ?_; rintro e w2 ⟨rfl, hb2⟩; have hB := boxP hb hb2; clear g0 g1 g2 g5 g6; have g0 := boxCell hB 0 h0))
        go_ret
        first | exact ⟨rfl, below1 hB⟩ | exact ⟨rfl, hB1 _⟩
set_option maxRecDepth 100000 in
set_option maxHeartbeats 4000000 in
theorem sp11 (cs : Array Value) (t0 a b c km : Int) (ks : ByteArray) (R A B K : Bool) (w : World) (h0 : cs[0]? = some (.int .i64 11)) (h1 : cs[1]? = some (.int .i64 t0)) (h2 : cs[2]? = some (.int .i64 a)) (h3 : cs[3]? = some (.int .i64 b)) (h5 : cs[5]? = some (.string ks)) (h6 : cs[6]? = some (.int .i64 km)) (hr : Fact (∀ w', Calls Tryd.prog 54 #[.int .i64 t0] w' fun e w'' => e = .returned (.bool R) ∧ w' = w'')) (ha : Fact (∀ w', Calls Tryd.prog 54 #[.int .i64 a] w' fun e w'' => e = .returned (.bool A) ∧ w' = w'')) (hb_ : Fact (∀ w', Calls Tryd.prog 54 #[.int .i64 b] w' fun e w'' => e = .returned (.bool B) ∧ w' = w'')) (hk : Fact (∀ w', Below w.heap.size w w' → Calls Tryd.prog 55 #[.agg #[.string ks, .int .i64 km]] w' fun e w'' => e = .returned (.int .i64 (bif K then 0 else 5)) ∧ Below w'.heap.size w' w''))  :
    Calls Tryd.prog 33 #[.agg cs] w fun e w' => e = .returned (.bool (R && (A && (B && K)))) ∧ Below w.heap.size w w' := by
  have hs := Fact.mk (fun w' => (show Calls Tryd.prog 53 #[.int .i64 11] w' fun e w'' => e = .returned (.tuple #[.agg #[.bool true, .bool true, .bool false, .bool true], .bool true]) ∧ Below w'.heap.size w' w'' from shapes_c 11 (by decide) (by decide) w'))
  cases R with
  | false =>
    go_enter Tryd.func33, Tryd.ntmps33
    go_wp2_with (first | (go_at_call 53; with_reducible refine (hs.out _).mono ?_; rintro e w1 ⟨rfl, hb⟩; have hB1 := fun o => (below1 hb).alloc (below1 hb).size o; have g0 := boxO hb 0 h0; have g1 := boxO hb 1 h1; have g2 := boxO hb 2 h2; have g3 := boxO hb 3 h3; have g5 := boxO hb 5 h5; have g6 := boxO hb 6 h6) | (go_at_call 54; with_reducible refine (hr.out _).mono ?_; rintro e w' ⟨rfl, rfl⟩) | (go_at_call 54; with_reducible refine (ha.out _).mono ?_; rintro e w' ⟨rfl, rfl⟩) | (go_at_call 54; with_reducible refine (hb_.out _).mono ?_; rintro e w' ⟨rfl, rfl⟩) | (go_at_call 55; with_reducible refine (hk.out _ (hB1 _)).mono ?_; rintro e w2 ⟨rfl, hb2⟩; have hB := boxP hb hb2; clear g0 g1 g2 g3 g5 g6; have g0 := boxCell hB 0 h0))
    go_ret
    first | exact ⟨rfl, below1 hB⟩ | exact ⟨rfl, hB1 _⟩
  | true =>
    cases A with
    | false =>
      go_enter Tryd.func33, Tryd.ntmps33
      go_wp2_with (first | (go_at_call 53; with_reducible refine (hs.out _).mono ?_; rintro e w1 ⟨rfl, hb⟩; have hB1 := fun o => (below1 hb).alloc (below1 hb).size o; have g0 := boxO hb 0 h0; have g1 := boxO hb 1 h1; have g2 := boxO hb 2 h2; have g3 := boxO hb 3 h3; have g5 := boxO hb 5 h5; have g6 := boxO hb 6 h6) | (go_at_call 54; with_reducible refine (hr.out _).mono ?_; rintro e w' ⟨rfl, rfl⟩) | (go_at_call 54; with_reducible refine (ha.out _).mono ?_; rintro e w' ⟨rfl, rfl⟩) | (go_at_call 54; with_reducible refine (hb_.out _).mono ?_; rintro e w' ⟨rfl, rfl⟩) | (go_at_call 55; with_reducible refine (hk.out _ (hB1 _)).mono ?_; rintro e w2 ⟨rfl, hb2⟩; have hB := boxP hb hb2; clear g0 g1 g2 g3 g5 g6; have g0 := boxCell hB 0 h0))
      go_ret
      first | exact ⟨rfl, below1 hB⟩ | exact ⟨rfl, hB1 _⟩
    | true =>
      cases B with
      | false =>
        go_enter Tryd.func33, Tryd.ntmps33
        go_wp2_with (first | (go_at_call 53; with_reducible refine (hs.out _).mono ?_; rintro e w1 ⟨rfl, hb⟩; have hB1 := fun o => (below1 hb).alloc (below1 hb).size o; have g0 := boxO hb 0 h0; have g1 := boxO hb 1 h1; have g2 := boxO hb 2 h2; have g3 := boxO hb 3 h3; have g5 := boxO hb 5 h5; have g6 := boxO hb 6 h6) | (go_at_call 54; with_reducible refine (hr.out _).mono ?_; rintro e w' ⟨rfl, rfl⟩) | (go_at_call 54; with_reducible refine (ha.out _).mono ?_; rintro e w' ⟨rfl, rfl⟩) | (go_at_call 54; with_reducible refine (hb_.out _).mono ?_; rintro e w' ⟨rfl, rfl⟩) | (go_at_call 55; with_reducible refine (hk.out _ (hB1 _)).mono ?_; rintro e w2 ⟨rfl, hb2⟩; have hB := boxP hb hb2; clear g0 g1 g2 g3 g5 g6; have g0 := boxCell hB 0 h0))
        go_ret
        first | exact ⟨rfl, below1 hB⟩ | exact ⟨rfl, hB1 _⟩
      | true =>
        cases K with
        | false =>
          simp only [cond_true, cond_false] at hk
          go_enter Tryd.func33, Tryd.ntmps33
          go_wp2_with (first | (go_at_call 53; with_reducible refine (hs.out _).mono ?_; rintro e w1 ⟨rfl, hb⟩; have hB1 := fun o => (below1 hb).alloc (below1 hb).size o; have g0 := boxO hb 0 h0; have g1 := boxO hb 1 h1; have g2 := boxO hb 2 h2; have g3 := boxO hb 3 h3; have g5 := boxO hb 5 h5; have g6 := boxO hb 6 h6) | (go_at_call 54; with_reducible refine (hr.out _).mono ?_; rintro e w' ⟨rfl, rfl⟩) | (go_at_call 54; with_reducible refine (ha.out _).mono ?_; rintro e w' ⟨rfl, rfl⟩) | (go_at_call 54; with_reducible refine (hb_.out _).mono ?_; rintro e w' ⟨rfl, rfl⟩) | (go_at_call 55; with_reducible refine (hk.out _ (hB1 _)).mono ?_; rintro e w2 ⟨rfl, hb2⟩; have hB := boxP hb hb2; clear g0 g1 g2 g3 g5 g6; have g0 := boxCell hB 0 h0))
          go_ret
          first | exact ⟨rfl, below1 hB⟩ | exact ⟨rfl, hB1 _⟩
        | true =>
          simp only [cond_true, cond_false] at hk
          go_enter Tryd.func33, Tryd.ntmps33
          go_wp2_with (first | (go_at_call 53; with_reducible refine (hs.out _).mono ?_; rintro e w1 ⟨rfl, hb⟩; have hB1 := fun o => (below1 hb).alloc (below1 hb).size o; have g0 := boxO hb 0 h0; have g1 := boxO hb 1 h1; have g2 := boxO hb 2 h2; have g3 := boxO hb 3 h3; have g5 := boxO hb 5 h5; have g6 := boxO hb 6 h6) | (go_at_call 54; with_reducible refine (hr.out _).mono ?_; rintro e w' ⟨rfl, rfl⟩) | (go_at_call 54; with_reducible refine (ha.out _).mono ?_; rintro e w' ⟨rfl, rfl⟩) | (go_at_call 54; with_reducible refine (hb_.out _).mono ?_; rintro e w' ⟨rfl, rfl⟩) | (go_at_call 55; with_reducible refine (hk.out _ (hB1 _)).mono ?_; rintro e w2 ⟨rfl, hb2⟩; have hB := boxP hb hb2; clear g0 g1 g2 g3 g5 g6; have g0 := boxCell hB 0 h0))
          go_ret
          first | exact ⟨rfl, below1 hB⟩ | exact ⟨rfl, hB1 _⟩
set_option maxRecDepth 100000 in
set_option maxHeartbeats 4000000 in
theorem sp13 (cs : Array Value) (t0 a b c km : Int) (ks : ByteArray) (R A K : Bool) (w : World) (h0 : cs[0]? = some (.int .i64 13)) (h1 : cs[1]? = some (.int .i64 t0)) (h2 : cs[2]? = some (.int .i64 a)) (h5 : cs[5]? = some (.string ks)) (h6 : cs[6]? = some (.int .i64 km)) (hr : Fact (∀ w', Calls Tryd.prog 54 #[.int .i64 t0] w' fun e w'' => e = .returned (.bool R) ∧ w' = w'')) (ha : Fact (∀ w', Calls Tryd.prog 54 #[.int .i64 a] w' fun e w'' => e = .returned (.bool A) ∧ w' = w'')) (hk : Fact (∀ w', Below w.heap.size w w' → Calls Tryd.prog 55 #[.agg #[.string ks, .int .i64 km]] w' fun e w'' => e = .returned (.int .i64 (bif K then 0 else 5)) ∧ Below w'.heap.size w' w''))  :
    Calls Tryd.prog 33 #[.agg cs] w fun e w' => e = .returned (.bool (R && (A && K))) ∧ Below w.heap.size w w' := by
  have hs := Fact.mk (fun w' => (show Calls Tryd.prog 53 #[.int .i64 13] w' fun e w'' => e = .returned (.tuple #[.agg #[.bool true, .bool false, .bool false, .bool true], .bool true]) ∧ Below w'.heap.size w' w'' from shapes_c 13 (by decide) (by decide) w'))
  cases R with
  | false =>
    go_enter Tryd.func33, Tryd.ntmps33
    go_wp2_with (first | (go_at_call 53; with_reducible refine (hs.out _).mono ?_; rintro e w1 ⟨rfl, hb⟩; have hB1 := fun o => (below1 hb).alloc (below1 hb).size o; have g0 := boxO hb 0 h0; have g1 := boxO hb 1 h1; have g2 := boxO hb 2 h2; have g5 := boxO hb 5 h5; have g6 := boxO hb 6 h6) | (go_at_call 54; with_reducible refine (hr.out _).mono ?_; rintro e w' ⟨rfl, rfl⟩) | (go_at_call 54; with_reducible refine (ha.out _).mono ?_; rintro e w' ⟨rfl, rfl⟩) | (go_at_call 55; with_reducible refine (hk.out _ (hB1 _)).mono ?_; rintro e w2 ⟨rfl, hb2⟩; have hB := boxP hb hb2; clear g0 g1 g2 g5 g6; have g0 := boxCell hB 0 h0))
    go_ret
    first | exact ⟨rfl, below1 hB⟩ | exact ⟨rfl, hB1 _⟩
  | true =>
    cases A with
    | false =>
      go_enter Tryd.func33, Tryd.ntmps33
      go_wp2_with (first | (go_at_call 53; with_reducible refine (hs.out _).mono ?_; rintro e w1 ⟨rfl, hb⟩; have hB1 := fun o => (below1 hb).alloc (below1 hb).size o; have g0 := boxO hb 0 h0; have g1 := boxO hb 1 h1; have g2 := boxO hb 2 h2; have g5 := boxO hb 5 h5; have g6 := boxO hb 6 h6) | (go_at_call 54; with_reducible refine (hr.out _).mono ?_; rintro e w' ⟨rfl, rfl⟩) | (go_at_call 54; with_reducible refine (ha.out _).mono ?_; rintro e w' ⟨rfl, rfl⟩) | (go_at_call 55; with_reducible refine (hk.out _ (hB1 _)).mono ?_; rintro e w2 ⟨rfl, hb2⟩; have hB := boxP hb hb2; clear g0 g1 g2 g5 g6; have g0 := boxCell hB 0 h0))
      go_ret
      first | exact ⟨rfl, below1 hB⟩ | exact ⟨rfl, hB1 _⟩
    | true =>
      cases K with
      | false =>
        simp only [cond_true, cond_false] at hk
        go_enter Tryd.func33, Tryd.ntmps33
        go_wp2_with (first | (go_at_call 53; with_reducible refine (hs.out _).mono ?_; rintro e w1 ⟨rfl, hb⟩; have hB1 := fun o => (below1 hb).alloc (below1 hb).size o; have g0 := boxO hb 0 h0; have g1 := boxO hb 1 h1; have g2 := boxO hb 2 h2; have g5 := boxO hb 5 h5; have g6 := boxO hb 6 h6) | (go_at_call 54; with_reducible refine (hr.out _).mono ?_; rintro e w' ⟨rfl, rfl⟩) | (go_at_call 54; with_reducible refine (ha.out _).mono ?_; rintro e w' ⟨rfl, rfl⟩) | (go_at_call 55; with_reducible refine (hk.out _ (hB1 _)).mono ?_; rintro e w2 ⟨rfl, hb2⟩; have hB := boxP hb hb2; clear g0 g1 g2 g5 g6; have g0 := boxCell hB 0 h0))
        go_ret
        first | exact ⟨rfl, below1 hB⟩ | exact ⟨rfl, hB1 _⟩
      | true =>
        simp only [cond_true, cond_false] at hk
        go_enter Tryd.func33, Tryd.ntmps33
        go_wp2_with (first | (go_at_call 53; with_reducible refine (hs.out _).mono ?_; rintro e w1 ⟨rfl, hb⟩; have hB1 := fun o => (below1 hb).alloc (below1 hb).size o; have g0 := boxO hb 0 h0; have g1 := boxO hb 1 h1; have g2 := boxO hb 2 h2; have g5 := boxO hb 5 h5; have g6 := boxO hb 6 h6) | (go_at_call 54; with_reducible refine (hr.out _).mono ?_; rintro e w' ⟨rfl, rfl⟩) | (go_at_call 54; with_reducible refine (ha.out _).mono ?_; rintro e w' ⟨rfl, rfl⟩) | (go_at_call 55; with_reducible refine (hk.out _ (hB1 _)).mono ?_; rintro e w2 ⟨rfl, hb2⟩; have hB := boxP hb hb2; clear g0 g1 g2 g5 g6; have g0 := boxCell hB 0 h0))
        go_ret
        first | exact ⟨rfl, below1 hB⟩ | exact ⟨rfl, hB1 _⟩
set_option maxRecDepth 100000 in
set_option maxHeartbeats 4000000 in
theorem sp14 (cs : Array Value) (t0 a b c km : Int) (ks : ByteArray) (R A K : Bool) (w : World) (h0 : cs[0]? = some (.int .i64 14)) (h1 : cs[1]? = some (.int .i64 t0)) (h2 : cs[2]? = some (.int .i64 a)) (h5 : cs[5]? = some (.string ks)) (h6 : cs[6]? = some (.int .i64 km)) (hr : Fact (∀ w', Calls Tryd.prog 54 #[.int .i64 t0] w' fun e w'' => e = .returned (.bool R) ∧ w' = w'')) (ha : Fact (∀ w', Calls Tryd.prog 54 #[.int .i64 a] w' fun e w'' => e = .returned (.bool A) ∧ w' = w'')) (hk : Fact (∀ w', Below w.heap.size w w' → Calls Tryd.prog 55 #[.agg #[.string ks, .int .i64 km]] w' fun e w'' => e = .returned (.int .i64 (bif K then 0 else 5)) ∧ Below w'.heap.size w' w''))  :
    Calls Tryd.prog 33 #[.agg cs] w fun e w' => e = .returned (.bool (R && (A && K))) ∧ Below w.heap.size w w' := by
  have hs := Fact.mk (fun w' => (show Calls Tryd.prog 53 #[.int .i64 14] w' fun e w'' => e = .returned (.tuple #[.agg #[.bool true, .bool false, .bool false, .bool true], .bool true]) ∧ Below w'.heap.size w' w'' from shapes_c 14 (by decide) (by decide) w'))
  cases R with
  | false =>
    go_enter Tryd.func33, Tryd.ntmps33
    go_wp2_with (first | (go_at_call 53; with_reducible refine (hs.out _).mono ?_; rintro e w1 ⟨rfl, hb⟩; have hB1 := fun o => (below1 hb).alloc (below1 hb).size o; have g0 := boxO hb 0 h0; have g1 := boxO hb 1 h1; have g2 := boxO hb 2 h2; have g5 := boxO hb 5 h5; have g6 := boxO hb 6 h6) | (go_at_call 54; with_reducible refine (hr.out _).mono ?_; rintro e w' ⟨rfl, rfl⟩) | (go_at_call 54; with_reducible refine (ha.out _).mono ?_; rintro e w' ⟨rfl, rfl⟩) | (go_at_call 55; with_reducible refine (hk.out _ (hB1 _)).mono ?_; rintro e w2 ⟨rfl, hb2⟩; have hB := boxP hb hb2; clear g0 g1 g2 g5 g6; have g0 := boxCell hB 0 h0))
    go_ret
    first | exact ⟨rfl, below1 hB⟩ | exact ⟨rfl, hB1 _⟩
  | true =>
    cases A with
    | false =>
      go_enter Tryd.func33, Tryd.ntmps33
      go_wp2_with (first | (go_at_call 53; with_reducible refine (hs.out _).mono ?_; rintro e w1 ⟨rfl, hb⟩; have hB1 := fun o => (below1 hb).alloc (below1 hb).size o; have g0 := boxO hb 0 h0; have g1 := boxO hb 1 h1; have g2 := boxO hb 2 h2; have g5 := boxO hb 5 h5; have g6 := boxO hb 6 h6) | (go_at_call 54; with_reducible refine (hr.out _).mono ?_; rintro e w' ⟨rfl, rfl⟩) | (go_at_call 54; with_reducible refine (ha.out _).mono ?_; rintro e w' ⟨rfl, rfl⟩) | (go_at_call 55; with_reducible refine (hk.out _ (hB1 _)).mono ?_; rintro e w2 ⟨rfl, hb2⟩; have hB := boxP hb hb2; clear g0 g1 g2 g5 g6; have g0 := boxCell hB 0 h0))
      go_ret
      first | exact ⟨rfl, below1 hB⟩ | exact ⟨rfl, hB1 _⟩
    | true =>
      cases K with
      | false =>
        simp only [cond_true, cond_false] at hk
        go_enter Tryd.func33, Tryd.ntmps33
        go_wp2_with (first | (go_at_call 53; with_reducible refine (hs.out _).mono ?_; rintro e w1 ⟨rfl, hb⟩; have hB1 := fun o => (below1 hb).alloc (below1 hb).size o; have g0 := boxO hb 0 h0; have g1 := boxO hb 1 h1; have g2 := boxO hb 2 h2; have g5 := boxO hb 5 h5; have g6 := boxO hb 6 h6) | (go_at_call 54; with_reducible refine (hr.out _).mono ?_; rintro e w' ⟨rfl, rfl⟩) | (go_at_call 54; with_reducible refine (ha.out _).mono ?_; rintro e w' ⟨rfl, rfl⟩) | (go_at_call 55; with_reducible refine (hk.out _ (hB1 _)).mono ?_; rintro e w2 ⟨rfl, hb2⟩; have hB := boxP hb hb2; clear g0 g1 g2 g5 g6; have g0 := boxCell hB 0 h0))
        go_ret
        first | exact ⟨rfl, below1 hB⟩ | exact ⟨rfl, hB1 _⟩
      | true =>
        simp only [cond_true, cond_false] at hk
        go_enter Tryd.func33, Tryd.ntmps33
        go_wp2_with (first | (go_at_call 53; with_reducible refine (hs.out _).mono ?_; rintro e w1 ⟨rfl, hb⟩; have hB1 := fun o => (below1 hb).alloc (below1 hb).size o; have g0 := boxO hb 0 h0; have g1 := boxO hb 1 h1; have g2 := boxO hb 2 h2; have g5 := boxO hb 5 h5; have g6 := boxO hb 6 h6) | (go_at_call 54; with_reducible refine (hr.out _).mono ?_; rintro e w' ⟨rfl, rfl⟩) | (go_at_call 54; with_reducible refine (ha.out _).mono ?_; rintro e w' ⟨rfl, rfl⟩) | (go_at_call 55; with_reducible refine (hk.out _ (hB1 _)).mono ?_; rintro e w2 ⟨rfl, hb2⟩; have hB := boxP hb hb2; clear g0 g1 g2 g5 g6; have g0 := boxCell hB 0 h0))
        go_ret
        first | exact ⟨rfl, below1 hB⟩ | exact ⟨rfl, hB1 _⟩
set_option maxRecDepth 100000 in
set_option maxHeartbeats 4000000 in
theorem sp15 (cs : Array Value) (t0 a b c km : Int) (ks : ByteArray) (R A K : Bool) (w : World) (h0 : cs[0]? = some (.int .i64 15)) (h1 : cs[1]? = some (.int .i64 t0)) (h2 : cs[2]? = some (.int .i64 a)) (h5 : cs[5]? = some (.string ks)) (h6 : cs[6]? = some (.int .i64 km)) (hr : Fact (∀ w', Calls Tryd.prog 54 #[.int .i64 t0] w' fun e w'' => e = .returned (.bool R) ∧ w' = w'')) (ha : Fact (∀ w', Calls Tryd.prog 54 #[.int .i64 a] w' fun e w'' => e = .returned (.bool A) ∧ w' = w'')) (hk : Fact (∀ w', Below w.heap.size w w' → Calls Tryd.prog 55 #[.agg #[.string ks, .int .i64 km]] w' fun e w'' => e = .returned (.int .i64 (bif K then 0 else 5)) ∧ Below w'.heap.size w' w''))  :
    Calls Tryd.prog 33 #[.agg cs] w fun e w' => e = .returned (.bool (R && (A && K))) ∧ Below w.heap.size w w' := by
  have hs := Fact.mk (fun w' => (show Calls Tryd.prog 53 #[.int .i64 15] w' fun e w'' => e = .returned (.tuple #[.agg #[.bool true, .bool false, .bool false, .bool true], .bool true]) ∧ Below w'.heap.size w' w'' from shapes_c 15 (by decide) (by decide) w'))
  cases R with
  | false =>
    go_enter Tryd.func33, Tryd.ntmps33
    go_wp2_with (first | (go_at_call 53; with_reducible refine (hs.out _).mono ?_; rintro e w1 ⟨rfl, hb⟩; have hB1 := fun o => (below1 hb).alloc (below1 hb).size o; have g0 := boxO hb 0 h0; have g1 := boxO hb 1 h1; have g2 := boxO hb 2 h2; have g5 := boxO hb 5 h5; have g6 := boxO hb 6 h6) | (go_at_call 54; with_reducible refine (hr.out _).mono ?_; rintro e w' ⟨rfl, rfl⟩) | (go_at_call 54; with_reducible refine (ha.out _).mono ?_; rintro e w' ⟨rfl, rfl⟩) | (go_at_call 55; with_reducible refine (hk.out _ (hB1 _)).mono ?_; rintro e w2 ⟨rfl, hb2⟩; have hB := boxP hb hb2; clear g0 g1 g2 g5 g6; have g0 := boxCell hB 0 h0))
    go_ret
    first | exact ⟨rfl, below1 hB⟩ | exact ⟨rfl, hB1 _⟩
  | true =>
    cases A with
    | false =>
      go_enter Tryd.func33, Tryd.ntmps33
      go_wp2_with (first | (go_at_call 53; with_reducible refine (hs.out _).mono ?_; rintro e w1 ⟨rfl, hb⟩; have hB1 := fun o => (below1 hb).alloc (below1 hb).size o; have g0 := boxO hb 0 h0; have g1 := boxO hb 1 h1; have g2 := boxO hb 2 h2; have g5 := boxO hb 5 h5; have g6 := boxO hb 6 h6) | (go_at_call 54; with_reducible refine (hr.out _).mono ?_; rintro e w' ⟨rfl, rfl⟩) | (go_at_call 54; with_reducible refine (ha.out _).mono ?_; rintro e w' ⟨rfl, rfl⟩) | (go_at_call 55; with_reducible refine (hk.out _ (hB1 _)).mono ?_; rintro e w2 ⟨rfl, hb2⟩; have hB := boxP hb hb2; clear g0 g1 g2 g5 g6; have g0 := boxCell hB 0 h0))
      go_ret
      first | exact ⟨rfl, below1 hB⟩ | exact ⟨rfl, hB1 _⟩
    | true =>
      cases K with
      | false =>
        simp only [cond_true, cond_false] at hk
        go_enter Tryd.func33, Tryd.ntmps33
        go_wp2_with (first | (go_at_call 53; with_reducible refine (hs.out _).mono ?_; rintro e w1 ⟨rfl, hb⟩; have hB1 := fun o => (below1 hb).alloc (below1 hb).size o; have g0 := boxO hb 0 h0; have g1 := boxO hb 1 h1; have g2 := boxO hb 2 h2; have g5 := boxO hb 5 h5; have g6 := boxO hb 6 h6) | (go_at_call 54; with_reducible refine (hr.out _).mono ?_; rintro e w' ⟨rfl, rfl⟩) | (go_at_call 54; with_reducible refine (ha.out _).mono ?_; rintro e w' ⟨rfl, rfl⟩) | (go_at_call 55; with_reducible refine (hk.out _ (hB1 _)).mono ?_; rintro e w2 ⟨rfl, hb2⟩; have hB := boxP hb hb2; clear g0 g1 g2 g5 g6; have g0 := boxCell hB 0 h0))
        go_ret
        first | exact ⟨rfl, below1 hB⟩ | exact ⟨rfl, hB1 _⟩
      | true =>
        simp only [cond_true, cond_false] at hk
        go_enter Tryd.func33, Tryd.ntmps33
        go_wp2_with (first | (go_at_call 53; with_reducible refine (hs.out _).mono ?_; rintro e w1 ⟨rfl, hb⟩; have hB1 := fun o => (below1 hb).alloc (below1 hb).size o; have g0 := boxO hb 0 h0; have g1 := boxO hb 1 h1; have g2 := boxO hb 2 h2; have g5 := boxO hb 5 h5; have g6 := boxO hb 6 h6) | (go_at_call 54; with_reducible refine (hr.out _).mono ?_; rintro e w' ⟨rfl, rfl⟩) | (go_at_call 54; with_reducible refine (ha.out _).mono ?_; rintro e w' ⟨rfl, rfl⟩) | (go_at_call 55; with_reducible refine (hk.out _ (hB1 _)).mono ?_; rintro e w2 ⟨rfl, hb2⟩; have hB := boxP hb hb2; clear g0 g1 g2 g5 g6; have g0 := boxCell hB 0 h0))
        go_ret
        first | exact ⟨rfl, below1 hB⟩ | exact ⟨rfl, hB1 _⟩
end Go.Proofs.YtinaibebdacnmaaDoor

/- Operations, code by code. -/
set_option linter.unusedVariables false
namespace Go.Proofs.YtinaibebdacnmaaDoor
open Go.RowKit Go.Proofs.YtinaibebdacnmaaDoorW.PrintWords
attribute [local go_sem] run_store_float
set_option maxRecDepth 100000 in
set_option maxHeartbeats 4000000 in
theorem sp16 (cs : Array Value) (t0 a b c km : Int) (ks : ByteArray) (R A : Bool) (w : World) (h0 : cs[0]? = some (.int .i64 16)) (h1 : cs[1]? = some (.int .i64 t0)) (h2 : cs[2]? = some (.int .i64 a)) (hr : Fact (∀ w', Calls Tryd.prog 54 #[.int .i64 t0] w' fun e w'' => e = .returned (.bool R) ∧ w' = w'')) (ha : Fact (∀ w', Calls Tryd.prog 54 #[.int .i64 a] w' fun e w'' => e = .returned (.bool A) ∧ w' = w'')) :
    Calls Tryd.prog 33 #[.agg cs] w fun e w' => e = .returned (.bool (R && A)) ∧ Below w.heap.size w w' := by
  have hs := Fact.mk (fun w' => (show Calls Tryd.prog 53 #[.int .i64 16] w' fun e w'' => e = .returned (.tuple #[.agg #[.bool true, .bool false, .bool false, .bool false], .bool true]) ∧ Below w'.heap.size w' w'' from shapes_c 16 (by decide) (by decide) w'))
  cases R with
  | false =>
    go_enter Tryd.func33, Tryd.ntmps33
    go_wp2_with (first | (go_at_call 53; with_reducible refine (hs.out _).mono ?_; rintro e w1 ⟨rfl, hb⟩; have hB1 := fun o => (below1 hb).alloc (below1 hb).size o; have g0 := boxO hb 0 h0; have g1 := boxO hb 1 h1; have g2 := boxO hb 2 h2) | (go_at_call 54; with_reducible refine (hr.out _).mono ?_; rintro e w' ⟨rfl, rfl⟩) | (go_at_call 54; with_reducible refine (ha.out _).mono ?_; rintro e w' ⟨rfl, rfl⟩))
    go_ret
    first | exact ⟨rfl, below1 hB⟩ | exact ⟨rfl, hB1 _⟩
  | true =>
    cases A with
    | false =>
      go_enter Tryd.func33, Tryd.ntmps33
      go_wp2_with (first | (go_at_call 53; with_reducible refine (hs.out _).mono ?_; rintro e w1 ⟨rfl, hb⟩; have hB1 := fun o => (below1 hb).alloc (below1 hb).size o; have g0 := boxO hb 0 h0; have g1 := boxO hb 1 h1; have g2 := boxO hb 2 h2) | (go_at_call 54; with_reducible refine (hr.out _).mono ?_; rintro e w' ⟨rfl, rfl⟩) | (go_at_call 54; with_reducible refine (ha.out _).mono ?_; rintro e w' ⟨rfl, rfl⟩))
      go_ret
      first | exact ⟨rfl, below1 hB⟩ | exact ⟨rfl, hB1 _⟩
    | true =>
      go_enter Tryd.func33, Tryd.ntmps33
      go_wp2_with (first | (go_at_call 53; with_reducible refine (hs.out _).mono ?_; rintro e w1 ⟨rfl, hb⟩; have hB1 := fun o => (below1 hb).alloc (below1 hb).size o; have g0 := boxO hb 0 h0; have g1 := boxO hb 1 h1; have g2 := boxO hb 2 h2) | (go_at_call 54; with_reducible refine (hr.out _).mono ?_; rintro e w' ⟨rfl, rfl⟩) | (go_at_call 54; with_reducible refine (ha.out _).mono ?_; rintro e w' ⟨rfl, rfl⟩))
      go_ret
      first | exact ⟨rfl, below1 hB⟩ | exact ⟨rfl, hB1 _⟩
set_option maxRecDepth 100000 in
set_option maxHeartbeats 4000000 in
theorem sp17 (cs : Array Value) (t0 a b c km : Int) (ks : ByteArray) (R A B : Bool) (w : World) (h0 : cs[0]? = some (.int .i64 17)) (h1 : cs[1]? = some (.int .i64 t0)) (h2 : cs[2]? = some (.int .i64 a)) (h3 : cs[3]? = some (.int .i64 b)) (hr : Fact (∀ w', Calls Tryd.prog 54 #[.int .i64 t0] w' fun e w'' => e = .returned (.bool R) ∧ w' = w'')) (ha : Fact (∀ w', Calls Tryd.prog 54 #[.int .i64 a] w' fun e w'' => e = .returned (.bool A) ∧ w' = w'')) (hb_ : Fact (∀ w', Calls Tryd.prog 54 #[.int .i64 b] w' fun e w'' => e = .returned (.bool B) ∧ w' = w'')) :
    Calls Tryd.prog 33 #[.agg cs] w fun e w' => e = .returned (.bool (R && (A && B))) ∧ Below w.heap.size w w' := by
  have hs := Fact.mk (fun w' => (show Calls Tryd.prog 53 #[.int .i64 17] w' fun e w'' => e = .returned (.tuple #[.agg #[.bool true, .bool true, .bool false, .bool false], .bool true]) ∧ Below w'.heap.size w' w'' from shapes_c 17 (by decide) (by decide) w'))
  cases R with
  | false =>
    go_enter Tryd.func33, Tryd.ntmps33
    go_wp2_with (first | (go_at_call 53; with_reducible refine (hs.out _).mono ?_; rintro e w1 ⟨rfl, hb⟩; have hB1 := fun o => (below1 hb).alloc (below1 hb).size o; have g0 := boxO hb 0 h0; have g1 := boxO hb 1 h1; have g2 := boxO hb 2 h2; have g3 := boxO hb 3 h3) | (go_at_call 54; with_reducible refine (hr.out _).mono ?_; rintro e w' ⟨rfl, rfl⟩) | (go_at_call 54; with_reducible refine (ha.out _).mono ?_; rintro e w' ⟨rfl, rfl⟩) | (go_at_call 54; with_reducible refine (hb_.out _).mono ?_; rintro e w' ⟨rfl, rfl⟩))
    go_ret
    first | exact ⟨rfl, below1 hB⟩ | exact ⟨rfl, hB1 _⟩
  | true =>
    cases A with
    | false =>
      go_enter Tryd.func33, Tryd.ntmps33
      go_wp2_with (first | (go_at_call 53; with_reducible refine (hs.out _).mono ?_; rintro e w1 ⟨rfl, hb⟩; have hB1 := fun o => (below1 hb).alloc (below1 hb).size o; have g0 := boxO hb 0 h0; have g1 := boxO hb 1 h1; have g2 := boxO hb 2 h2; have g3 := boxO hb 3 h3) | (go_at_call 54; with_reducible refine (hr.out _).mono ?_; rintro e w' ⟨rfl, rfl⟩) | (go_at_call 54; with_reducible refine (ha.out _).mono ?_; rintro e w' ⟨rfl, rfl⟩) | (go_at_call 54; with_reducible refine (hb_.out _).mono ?_; rintro e w' ⟨rfl, rfl⟩))
      go_ret
      first | exact ⟨rfl, below1 hB⟩ | exact ⟨rfl, hB1 _⟩
    | true =>
      cases B with
      | false =>
        go_enter Tryd.func33, Tryd.ntmps33
        go_wp2_with (first | (go_at_call 53; with_reducible refine (hs.out _).mono ?_; rintro e w1 ⟨rfl, hb⟩; have hB1 := fun o => (below1 hb).alloc (below1 hb).size o; have g0 := boxO hb 0 h0; have g1 := boxO hb 1 h1; have g2 := boxO hb 2 h2; have g3 := boxO hb 3 h3) | (go_at_call 54; with_reducible refine (hr.out _).mono ?_; rintro e w' ⟨rfl, rfl⟩) | (go_at_call 54; with_reducible refine (ha.out _).mono ?_; rintro e w' ⟨rfl, rfl⟩) | (go_at_call 54; with_reducible refine (hb_.out _).mono ?_; rintro e w' ⟨rfl, rfl⟩))
        go_ret
        first | exact ⟨rfl, below1 hB⟩ | exact ⟨rfl, hB1 _⟩
      | true =>
        go_enter Tryd.func33, Tryd.ntmps33
        go_wp2_with (first | (go_at_call 53; with_reducible refine (hs.out _).mono ?_; rintro e w1 ⟨rfl, hb⟩; have hB1 := fun o => (below1 hb).alloc (below1 hb).size o; have g0 := boxO hb 0 h0; have g1 := boxO hb 1 h1; have g2 := boxO hb 2 h2; have g3 := boxO hb 3 h3) | (go_at_call 54; with_reducible refine (hr.out _).mono ?_; rintro e w' ⟨rfl, rfl⟩) | (go_at_call 54; with_reducible refine (ha.out _).mono ?_; rintro e w' ⟨rfl, rfl⟩) | (go_at_call 54; with_reducible refine (hb_.out _).mono ?_; rintro e w' ⟨rfl, rfl⟩))
        go_ret
        first | exact ⟨rfl, below1 hB⟩ | exact ⟨rfl, hB1 _⟩
set_option maxRecDepth 100000 in
set_option maxHeartbeats 4000000 in
theorem sp18 (cs : Array Value) (t0 a b c km : Int) (ks : ByteArray) (R A : Bool) (w : World) (h0 : cs[0]? = some (.int .i64 18)) (h1 : cs[1]? = some (.int .i64 t0)) (h2 : cs[2]? = some (.int .i64 a)) (hr : Fact (∀ w', Calls Tryd.prog 54 #[.int .i64 t0] w' fun e w'' => e = .returned (.bool R) ∧ w' = w'')) (ha : Fact (∀ w', Calls Tryd.prog 54 #[.int .i64 a] w' fun e w'' => e = .returned (.bool A) ∧ w' = w'')) :
    Calls Tryd.prog 33 #[.agg cs] w fun e w' => e = .returned (.bool (R && A)) ∧ Below w.heap.size w w' := by
  have hs := Fact.mk (fun w' => (show Calls Tryd.prog 53 #[.int .i64 18] w' fun e w'' => e = .returned (.tuple #[.agg #[.bool true, .bool false, .bool false, .bool false], .bool true]) ∧ Below w'.heap.size w' w'' from shapes_c 18 (by decide) (by decide) w'))
  cases R with
  | false =>
    go_enter Tryd.func33, Tryd.ntmps33
    go_wp2_with (first | (go_at_call 53; with_reducible refine (hs.out _).mono ?_; rintro e w1 ⟨rfl, hb⟩; have hB1 := fun o => (below1 hb).alloc (below1 hb).size o; have g0 := boxO hb 0 h0; have g1 := boxO hb 1 h1; have g2 := boxO hb 2 h2) | (go_at_call 54; with_reducible refine (hr.out _).mono ?_; rintro e w' ⟨rfl, rfl⟩) | (go_at_call 54; with_reducible refine (ha.out _).mono ?_; rintro e w' ⟨rfl, rfl⟩))
    go_ret
    first | exact ⟨rfl, below1 hB⟩ | exact ⟨rfl, hB1 _⟩
  | true =>
    cases A with
    | false =>
      go_enter Tryd.func33, Tryd.ntmps33
      go_wp2_with (first | (go_at_call 53; with_reducible refine (hs.out _).mono ?_; rintro e w1 ⟨rfl, hb⟩; have hB1 := fun o => (below1 hb).alloc (below1 hb).size o; have g0 := boxO hb 0 h0; have g1 := boxO hb 1 h1; have g2 := boxO hb 2 h2) | (go_at_call 54; with_reducible refine (hr.out _).mono ?_; rintro e w' ⟨rfl, rfl⟩) | (go_at_call 54; with_reducible refine (ha.out _).mono ?_; rintro e w' ⟨rfl, rfl⟩))
      go_ret
      first | exact ⟨rfl, below1 hB⟩ | exact ⟨rfl, hB1 _⟩
    | true =>
      go_enter Tryd.func33, Tryd.ntmps33
      go_wp2_with (first | (go_at_call 53; with_reducible refine (hs.out _).mono ?_; rintro e w1 ⟨rfl, hb⟩; have hB1 := fun o => (below1 hb).alloc (below1 hb).size o; have g0 := boxO hb 0 h0; have g1 := boxO hb 1 h1; have g2 := boxO hb 2 h2) | (go_at_call 54; with_reducible refine (hr.out _).mono ?_; rintro e w' ⟨rfl, rfl⟩) | (go_at_call 54; with_reducible refine (ha.out _).mono ?_; rintro e w' ⟨rfl, rfl⟩))
      go_ret
      first | exact ⟨rfl, below1 hB⟩ | exact ⟨rfl, hB1 _⟩
set_option maxRecDepth 100000 in
set_option maxHeartbeats 4000000 in
theorem sp19 (cs : Array Value) (t0 a b c km : Int) (ks : ByteArray) (R A : Bool) (w : World) (h0 : cs[0]? = some (.int .i64 19)) (h1 : cs[1]? = some (.int .i64 t0)) (h2 : cs[2]? = some (.int .i64 a)) (hr : Fact (∀ w', Calls Tryd.prog 54 #[.int .i64 t0] w' fun e w'' => e = .returned (.bool R) ∧ w' = w'')) (ha : Fact (∀ w', Calls Tryd.prog 54 #[.int .i64 a] w' fun e w'' => e = .returned (.bool A) ∧ w' = w'')) :
    Calls Tryd.prog 33 #[.agg cs] w fun e w' => e = .returned (.bool (R && A)) ∧ Below w.heap.size w w' := by
  have hs := Fact.mk (fun w' => (show Calls Tryd.prog 53 #[.int .i64 19] w' fun e w'' => e = .returned (.tuple #[.agg #[.bool true, .bool false, .bool false, .bool false], .bool true]) ∧ Below w'.heap.size w' w'' from shapes_c 19 (by decide) (by decide) w'))
  cases R with
  | false =>
    go_enter Tryd.func33, Tryd.ntmps33
    go_wp2_with (first | (go_at_call 53; with_reducible refine (hs.out _).mono ?_; rintro e w1 ⟨rfl, hb⟩; have hB1 := fun o => (below1 hb).alloc (below1 hb).size o; have g0 := boxO hb 0 h0; have g1 := boxO hb 1 h1; have g2 := boxO hb 2 h2) | (go_at_call 54; with_reducible refine (hr.out _).mono ?_; rintro e w' ⟨rfl, rfl⟩) | (go_at_call 54; with_reducible refine (ha.out _).mono ?_; rintro e w' ⟨rfl, rfl⟩))
    go_ret
    first | exact ⟨rfl, below1 hB⟩ | exact ⟨rfl, hB1 _⟩
  | true =>
    cases A with
    | false =>
      go_enter Tryd.func33, Tryd.ntmps33
      go_wp2_with (first | (go_at_call 53; with_reducible refine (hs.out _).mono ?_; rintro e w1 ⟨rfl, hb⟩; have hB1 := fun o => (below1 hb).alloc (below1 hb).size o; have g0 := boxO hb 0 h0; have g1 := boxO hb 1 h1; have g2 := boxO hb 2 h2) | (go_at_call 54; with_reducible refine (hr.out _).mono ?_; rintro e w' ⟨rfl, rfl⟩) | (go_at_call 54; with_reducible refine (ha.out _).mono ?_; rintro e w' ⟨rfl, rfl⟩))
      go_ret
      first | exact ⟨rfl, below1 hB⟩ | exact ⟨rfl, hB1 _⟩
    | true =>
      go_enter Tryd.func33, Tryd.ntmps33
      go_wp2_with (first | (go_at_call 53; with_reducible refine (hs.out _).mono ?_; rintro e w1 ⟨rfl, hb⟩; have hB1 := fun o => (below1 hb).alloc (below1 hb).size o; have g0 := boxO hb 0 h0; have g1 := boxO hb 1 h1; have g2 := boxO hb 2 h2) | (go_at_call 54; with_reducible refine (hr.out _).mono ?_; rintro e w' ⟨rfl, rfl⟩) | (go_at_call 54; with_reducible refine (ha.out _).mono ?_; rintro e w' ⟨rfl, rfl⟩))
      go_ret
      first | exact ⟨rfl, below1 hB⟩ | exact ⟨rfl, hB1 _⟩
set_option maxRecDepth 100000 in
set_option maxHeartbeats 4000000 in
theorem sp20 (cs : Array Value) (t0 a b c km : Int) (ks : ByteArray) (R A B C : Bool) (w : World) (h0 : cs[0]? = some (.int .i64 20)) (h1 : cs[1]? = some (.int .i64 t0)) (h2 : cs[2]? = some (.int .i64 a)) (h3 : cs[3]? = some (.int .i64 b)) (h4 : cs[4]? = some (.int .i64 c)) (hr : Fact (∀ w', Calls Tryd.prog 54 #[.int .i64 t0] w' fun e w'' => e = .returned (.bool R) ∧ w' = w'')) (ha : Fact (∀ w', Calls Tryd.prog 54 #[.int .i64 a] w' fun e w'' => e = .returned (.bool A) ∧ w' = w'')) (hb_ : Fact (∀ w', Calls Tryd.prog 54 #[.int .i64 b] w' fun e w'' => e = .returned (.bool B) ∧ w' = w'')) (hc : Fact (∀ w', Calls Tryd.prog 54 #[.int .i64 c] w' fun e w'' => e = .returned (.bool C) ∧ w' = w'')) :
    Calls Tryd.prog 33 #[.agg cs] w fun e w' => e = .returned (.bool (R && (A && (B && C)))) ∧ Below w.heap.size w w' := by
  have hs := Fact.mk (fun w' => (show Calls Tryd.prog 53 #[.int .i64 20] w' fun e w'' => e = .returned (.tuple #[.agg #[.bool true, .bool true, .bool true, .bool false], .bool true]) ∧ Below w'.heap.size w' w'' from shapes_c 20 (by decide) (by decide) w'))
  cases R with
  | false =>
    go_enter Tryd.func33, Tryd.ntmps33
    go_wp2_with (first | (go_at_call 53; with_reducible refine (hs.out _).mono ?_; rintro e w1 ⟨rfl, hb⟩; have hB1 := fun o => (below1 hb).alloc (below1 hb).size o; have g0 := boxO hb 0 h0; have g1 := boxO hb 1 h1; have g2 := boxO hb 2 h2; have g3 := boxO hb 3 h3; have g4 := boxO hb 4 h4) | (go_at_call 54; with_reducible refine (hr.out _).mono ?_; rintro e w' ⟨rfl, rfl⟩) | (go_at_call 54; with_reducible refine (ha.out _).mono ?_; rintro e w' ⟨rfl, rfl⟩) | (go_at_call 54; with_reducible refine (hb_.out _).mono ?_; rintro e w' ⟨rfl, rfl⟩) | (go_at_call 54; with_reducible refine (hc.out _).mono ?_; rintro e w' ⟨rfl, rfl⟩))
    go_ret
    first | exact ⟨rfl, below1 hB⟩ | exact ⟨rfl, hB1 _⟩
  | true =>
    cases A with
    | false =>
      go_enter Tryd.func33, Tryd.ntmps33
      go_wp2_with (first | (go_at_call 53; with_reducible refine (hs.out _).mono ?_; rintro e w1 ⟨rfl, hb⟩; have hB1 := fun o => (below1 hb).alloc (below1 hb).size o; have g0 := boxO hb 0 h0; have g1 := boxO hb 1 h1; have g2 := boxO hb 2 h2; have g3 := boxO hb 3 h3; have g4 := boxO hb 4 h4) | (go_at_call 54; with_reducible refine (hr.out _).mono ?_; rintro e w' ⟨rfl, rfl⟩) | (go_at_call 54; with_reducible refine (ha.out _).mono ?_; rintro e w' ⟨rfl, rfl⟩) | (go_at_call 54; with_reducible refine (hb_.out _).mono ?_; rintro e w' ⟨rfl, rfl⟩) | (go_at_call 54; with_reducible refine (hc.out _).mono ?_; rintro e w' ⟨rfl, rfl⟩))
      go_ret
      first | exact ⟨rfl, below1 hB⟩ | exact ⟨rfl, hB1 _⟩
    | true =>
      cases B with
      | false =>
        go_enter Tryd.func33, Tryd.ntmps33
        go_wp2_with (first | (go_at_call 53; with_reducible refine (hs.out _).mono ?_; rintro e w1 ⟨rfl, hb⟩; have hB1 := fun o => (below1 hb).alloc (below1 hb).size o; have g0 := boxO hb 0 h0; have g1 := boxO hb 1 h1; have g2 := boxO hb 2 h2; have g3 := boxO hb 3 h3; have g4 := boxO hb 4 h4) | (go_at_call 54; with_reducible refine (hr.out _).mono ?_; rintro e w' ⟨rfl, rfl⟩) | (go_at_call 54; with_reducible refine (ha.out _).mono ?_; rintro e w' ⟨rfl, rfl⟩) | (go_at_call 54; with_reducible refine (hb_.out _).mono ?_; rintro e w' ⟨rfl, rfl⟩) | (go_at_call 54; with_reducible refine (hc.out _).mono ?_; rintro e w' ⟨rfl, rfl⟩))
        go_ret
        first | exact ⟨rfl, below1 hB⟩ | exact ⟨rfl, hB1 _⟩
      | true =>
        cases C with
        | false =>
          go_enter Tryd.func33, Tryd.ntmps33
          go_wp2_with (first | (go_at_call 53; with_reducible refine (hs.out _).mono ?_; rintro e w1 ⟨rfl, hb⟩; have hB1 := fun o => (below1 hb).alloc (below1 hb).size o; have g0 := boxO hb 0 h0; have g1 := boxO hb 1 h1; have g2 := boxO hb 2 h2; have g3 := boxO hb 3 h3; have g4 := boxO hb 4 h4) | (go_at_call 54; with_reducible refine (hr.out _).mono ?_; rintro e w' ⟨rfl, rfl⟩) | (go_at_call 54; with_reducible refine (ha.out _).mono ?_; rintro e w' ⟨rfl, rfl⟩) | (go_at_call 54; with_reducible refine (hb_.out _).mono ?_; rintro e w' ⟨rfl, rfl⟩) | (go_at_call 54; with_reducible refine (hc.out _).mono ?_; rintro e w' ⟨rfl, rfl⟩))
          go_ret
          first | exact ⟨rfl, below1 hB⟩ | exact ⟨rfl, hB1 _⟩
        | true =>
          go_enter Tryd.func33, Tryd.ntmps33
          go_wp2_with (first | (go_at_call 53; with_reducible refine (hs.out _).mono ?_; rintro e w1 ⟨rfl, hb⟩; have hB1 := fun o => (below1 hb).alloc (below1 hb).size o; have g0 := boxO hb 0 h0; have g1 := boxO hb 1 h1; have g2 := boxO hb 2 h2; have g3 := boxO hb 3 h3; have g4 := boxO hb 4 h4) | (go_at_call 54; with_reducible refine (hr.out _).mono ?_; rintro e w' ⟨rfl, rfl⟩) | (go_at_call 54; with_reducible refine (ha.out _).mono ?_; rintro e w' ⟨rfl, rfl⟩) | (go_at_call 54; with_reducible refine (hb_.out _).mono ?_; rintro e w' ⟨rfl, rfl⟩) | (go_at_call 54; with_reducible refine (hc.out _).mono ?_; rintro e w' ⟨rfl, rfl⟩))
          go_ret
          first | exact ⟨rfl, below1 hB⟩ | exact ⟨rfl, hB1 _⟩
set_option maxRecDepth 100000 in
set_option maxHeartbeats 4000000 in
theorem sp21 (cs : Array Value) (t0 a b c km : Int) (ks : ByteArray) (R A B : Bool) (w : World) (h0 : cs[0]? = some (.int .i64 21)) (h1 : cs[1]? = some (.int .i64 t0)) (h2 : cs[2]? = some (.int .i64 a)) (h3 : cs[3]? = some (.int .i64 b)) (hr : Fact (∀ w', Calls Tryd.prog 54 #[.int .i64 t0] w' fun e w'' => e = .returned (.bool R) ∧ w' = w'')) (ha : Fact (∀ w', Calls Tryd.prog 54 #[.int .i64 a] w' fun e w'' => e = .returned (.bool A) ∧ w' = w'')) (hb_ : Fact (∀ w', Calls Tryd.prog 54 #[.int .i64 b] w' fun e w'' => e = .returned (.bool B) ∧ w' = w'')) :
    Calls Tryd.prog 33 #[.agg cs] w fun e w' => e = .returned (.bool (R && (A && B))) ∧ Below w.heap.size w w' := by
  have hs := Fact.mk (fun w' => (show Calls Tryd.prog 53 #[.int .i64 21] w' fun e w'' => e = .returned (.tuple #[.agg #[.bool true, .bool true, .bool false, .bool false], .bool true]) ∧ Below w'.heap.size w' w'' from shapes_c 21 (by decide) (by decide) w'))
  cases R with
  | false =>
    go_enter Tryd.func33, Tryd.ntmps33
    go_wp2_with (first | (go_at_call 53; with_reducible refine (hs.out _).mono ?_; rintro e w1 ⟨rfl, hb⟩; have hB1 := fun o => (below1 hb).alloc (below1 hb).size o; have g0 := boxO hb 0 h0; have g1 := boxO hb 1 h1; have g2 := boxO hb 2 h2; have g3 := boxO hb 3 h3) | (go_at_call 54; with_reducible refine (hr.out _).mono ?_; rintro e w' ⟨rfl, rfl⟩) | (go_at_call 54; with_reducible refine (ha.out _).mono ?_; rintro e w' ⟨rfl, rfl⟩) | (go_at_call 54; with_reducible refine (hb_.out _).mono ?_; rintro e w' ⟨rfl, rfl⟩))
    go_ret
    first | exact ⟨rfl, below1 hB⟩ | exact ⟨rfl, hB1 _⟩
  | true =>
    cases A with
    | false =>
      go_enter Tryd.func33, Tryd.ntmps33
      go_wp2_with (first | (go_at_call 53; with_reducible refine (hs.out _).mono ?_; rintro e w1 ⟨rfl, hb⟩; have hB1 := fun o => (below1 hb).alloc (below1 hb).size o; have g0 := boxO hb 0 h0; have g1 := boxO hb 1 h1; have g2 := boxO hb 2 h2; have g3 := boxO hb 3 h3) | (go_at_call 54; with_reducible refine (hr.out _).mono ?_; rintro e w' ⟨rfl, rfl⟩) | (go_at_call 54; with_reducible refine (ha.out _).mono ?_; rintro e w' ⟨rfl, rfl⟩) | (go_at_call 54; with_reducible refine (hb_.out _).mono ?_; rintro e w' ⟨rfl, rfl⟩))
      go_ret
      first | exact ⟨rfl, below1 hB⟩ | exact ⟨rfl, hB1 _⟩
    | true =>
      cases B with
      | false =>
        go_enter Tryd.func33, Tryd.ntmps33
        go_wp2_with (first | (go_at_call 53; with_reducible refine (hs.out _).mono ?_; rintro e w1 ⟨rfl, hb⟩; have hB1 := fun o => (below1 hb).alloc (below1 hb).size o; have g0 := boxO hb 0 h0; have g1 := boxO hb 1 h1; have g2 := boxO hb 2 h2; have g3 := boxO hb 3 h3) | (go_at_call 54; with_reducible refine (hr.out _).mono ?_; rintro e w' ⟨rfl, rfl⟩) | (go_at_call 54; with_reducible refine (ha.out _).mono ?_; rintro e w' ⟨rfl, rfl⟩) | (go_at_call 54; with_reducible refine (hb_.out _).mono ?_; rintro e w' ⟨rfl, rfl⟩))
        go_ret
        first | exact ⟨rfl, below1 hB⟩ | exact ⟨rfl, hB1 _⟩
      | true =>
        go_enter Tryd.func33, Tryd.ntmps33
        go_wp2_with (first | (go_at_call 53; with_reducible refine (hs.out _).mono ?_; rintro e w1 ⟨rfl, hb⟩; have hB1 := fun o => (below1 hb).alloc (below1 hb).size o; have g0 := boxO hb 0 h0; have g1 := boxO hb 1 h1; have g2 := boxO hb 2 h2; have g3 := boxO hb 3 h3) | (go_at_call 54; with_reducible refine (hr.out _).mono ?_; rintro e w' ⟨rfl, rfl⟩) | (go_at_call 54; with_reducible refine (ha.out _).mono ?_; rintro e w' ⟨rfl, rfl⟩) | (go_at_call 54; with_reducible refine (hb_.out _).mono ?_; rintro e w' ⟨rfl, rfl⟩))
        go_ret
        first | exact ⟨rfl, below1 hB⟩ | exact ⟨rfl, hB1 _⟩
set_option maxRecDepth 100000 in
set_option maxHeartbeats 4000000 in
theorem sp22 (cs : Array Value) (t0 a b c km : Int) (ks : ByteArray) (R A : Bool) (w : World) (h0 : cs[0]? = some (.int .i64 22)) (h1 : cs[1]? = some (.int .i64 t0)) (h2 : cs[2]? = some (.int .i64 a)) (hr : Fact (∀ w', Calls Tryd.prog 54 #[.int .i64 t0] w' fun e w'' => e = .returned (.bool R) ∧ w' = w'')) (ha : Fact (∀ w', Calls Tryd.prog 54 #[.int .i64 a] w' fun e w'' => e = .returned (.bool A) ∧ w' = w'')) :
    Calls Tryd.prog 33 #[.agg cs] w fun e w' => e = .returned (.bool (R && A)) ∧ Below w.heap.size w w' := by
  have hs := Fact.mk (fun w' => (show Calls Tryd.prog 53 #[.int .i64 22] w' fun e w'' => e = .returned (.tuple #[.agg #[.bool true, .bool false, .bool false, .bool false], .bool true]) ∧ Below w'.heap.size w' w'' from shapes_c 22 (by decide) (by decide) w'))
  cases R with
  | false =>
    go_enter Tryd.func33, Tryd.ntmps33
    go_wp2_with (first | (go_at_call 53; with_reducible refine (hs.out _).mono ?_; rintro e w1 ⟨rfl, hb⟩; have hB1 := fun o => (below1 hb).alloc (below1 hb).size o; have g0 := boxO hb 0 h0; have g1 := boxO hb 1 h1; have g2 := boxO hb 2 h2) | (go_at_call 54; with_reducible refine (hr.out _).mono ?_; rintro e w' ⟨rfl, rfl⟩) | (go_at_call 54; with_reducible refine (ha.out _).mono ?_; rintro e w' ⟨rfl, rfl⟩))
    go_ret
    first | exact ⟨rfl, below1 hB⟩ | exact ⟨rfl, hB1 _⟩
  | true =>
    cases A with
    | false =>
      go_enter Tryd.func33, Tryd.ntmps33
      go_wp2_with (first | (go_at_call 53; with_reducible refine (hs.out _).mono ?_; rintro e w1 ⟨rfl, hb⟩; have hB1 := fun o => (below1 hb).alloc (below1 hb).size o; have g0 := boxO hb 0 h0; have g1 := boxO hb 1 h1; have g2 := boxO hb 2 h2) | (go_at_call 54; with_reducible refine (hr.out _).mono ?_; rintro e w' ⟨rfl, rfl⟩) | (go_at_call 54; with_reducible refine (ha.out _).mono ?_; rintro e w' ⟨rfl, rfl⟩))
      go_ret
      first | exact ⟨rfl, below1 hB⟩ | exact ⟨rfl, hB1 _⟩
    | true =>
      go_enter Tryd.func33, Tryd.ntmps33
      go_wp2_with (first | (go_at_call 53; with_reducible refine (hs.out _).mono ?_; rintro e w1 ⟨rfl, hb⟩; have hB1 := fun o => (below1 hb).alloc (below1 hb).size o; have g0 := boxO hb 0 h0; have g1 := boxO hb 1 h1; have g2 := boxO hb 2 h2) | (go_at_call 54; with_reducible refine (hr.out _).mono ?_; rintro e w' ⟨rfl, rfl⟩) | (go_at_call 54; with_reducible refine (ha.out _).mono ?_; rintro e w' ⟨rfl, rfl⟩))
      go_ret
      first | exact ⟨rfl, below1 hB⟩ | exact ⟨rfl, hB1 _⟩
set_option maxRecDepth 100000 in
set_option maxHeartbeats 4000000 in
theorem sp23 (cs : Array Value) (t0 a b c km : Int) (ks : ByteArray) (R A B : Bool) (w : World) (h0 : cs[0]? = some (.int .i64 23)) (h1 : cs[1]? = some (.int .i64 t0)) (h2 : cs[2]? = some (.int .i64 a)) (h3 : cs[3]? = some (.int .i64 b)) (hr : Fact (∀ w', Calls Tryd.prog 54 #[.int .i64 t0] w' fun e w'' => e = .returned (.bool R) ∧ w' = w'')) (ha : Fact (∀ w', Calls Tryd.prog 54 #[.int .i64 a] w' fun e w'' => e = .returned (.bool A) ∧ w' = w'')) (hb_ : Fact (∀ w', Calls Tryd.prog 54 #[.int .i64 b] w' fun e w'' => e = .returned (.bool B) ∧ w' = w'')) :
    Calls Tryd.prog 33 #[.agg cs] w fun e w' => e = .returned (.bool (R && (A && B))) ∧ Below w.heap.size w w' := by
  have hs := Fact.mk (fun w' => (show Calls Tryd.prog 53 #[.int .i64 23] w' fun e w'' => e = .returned (.tuple #[.agg #[.bool true, .bool true, .bool false, .bool false], .bool true]) ∧ Below w'.heap.size w' w'' from shapes_c 23 (by decide) (by decide) w'))
  cases R with
  | false =>
    go_enter Tryd.func33, Tryd.ntmps33
    go_wp2_with (first | (go_at_call 53; with_reducible refine (hs.out _).mono ?_; rintro e w1 ⟨rfl, hb⟩; have hB1 := fun o => (below1 hb).alloc (below1 hb).size o; have g0 := boxO hb 0 h0; have g1 := boxO hb 1 h1; have g2 := boxO hb 2 h2; have g3 := boxO hb 3 h3) | (go_at_call 54; with_reducible refine (hr.out _).mono ?_; rintro e w' ⟨rfl, rfl⟩) | (go_at_call 54; with_reducible refine (ha.out _).mono ?_; rintro e w' ⟨rfl, rfl⟩) | (go_at_call 54; with_reducible refine (hb_.out _).mono ?_; rintro e w' ⟨rfl, rfl⟩))
    go_ret
    first | exact ⟨rfl, below1 hB⟩ | exact ⟨rfl, hB1 _⟩
  | true =>
    cases A with
    | false =>
      go_enter Tryd.func33, Tryd.ntmps33
      go_wp2_with (first | (go_at_call 53; with_reducible refine (hs.out _).mono ?_; rintro e w1 ⟨rfl, hb⟩; have hB1 := fun o => (below1 hb).alloc (below1 hb).size o; have g0 := boxO hb 0 h0; have g1 := boxO hb 1 h1; have g2 := boxO hb 2 h2; have g3 := boxO hb 3 h3) | (go_at_call 54; with_reducible refine (hr.out _).mono ?_; rintro e w' ⟨rfl, rfl⟩) | (go_at_call 54; with_reducible refine (ha.out _).mono ?_; rintro e w' ⟨rfl, rfl⟩) | (go_at_call 54; with_reducible refine (hb_.out _).mono ?_; rintro e w' ⟨rfl, rfl⟩))
      go_ret
      first | exact ⟨rfl, below1 hB⟩ | exact ⟨rfl, hB1 _⟩
    | true =>
      cases B with
      | false =>
        go_enter Tryd.func33, Tryd.ntmps33
        go_wp2_with (first | (go_at_call 53; with_reducible refine (hs.out _).mono ?_; rintro e w1 ⟨rfl, hb⟩; have hB1 := fun o => (below1 hb).alloc (below1 hb).size o; have g0 := boxO hb 0 h0; have g1 := boxO hb 1 h1; have g2 := boxO hb 2 h2; have g3 := boxO hb 3 h3) | (go_at_call 54; with_reducible refine (hr.out _).mono ?_; rintro e w' ⟨rfl, rfl⟩) | (go_at_call 54; with_reducible refine (ha.out _).mono ?_; rintro e w' ⟨rfl, rfl⟩) | (go_at_call 54; with_reducible refine (hb_.out _).mono ?_; rintro e w' ⟨rfl, rfl⟩))
        go_ret
        first | exact ⟨rfl, below1 hB⟩ | exact ⟨rfl, hB1 _⟩
      | true =>
        go_enter Tryd.func33, Tryd.ntmps33
        go_wp2_with (first | (go_at_call 53; with_reducible refine (hs.out _).mono ?_; rintro e w1 ⟨rfl, hb⟩; have hB1 := fun o => (below1 hb).alloc (below1 hb).size o; have g0 := boxO hb 0 h0; have g1 := boxO hb 1 h1; have g2 := boxO hb 2 h2; have g3 := boxO hb 3 h3) | (go_at_call 54; with_reducible refine (hr.out _).mono ?_; rintro e w' ⟨rfl, rfl⟩) | (go_at_call 54; with_reducible refine (ha.out _).mono ?_; rintro e w' ⟨rfl, rfl⟩) | (go_at_call 54; with_reducible refine (hb_.out _).mono ?_; rintro e w' ⟨rfl, rfl⟩))
        go_ret
        first | exact ⟨rfl, below1 hB⟩ | exact ⟨rfl, hB1 _⟩
set_option maxRecDepth 100000 in
set_option maxHeartbeats 4000000 in
theorem sp24 (cs : Array Value) (t0 a b c km : Int) (ks : ByteArray) (R A B C : Bool) (w : World) (h0 : cs[0]? = some (.int .i64 24)) (h1 : cs[1]? = some (.int .i64 t0)) (h2 : cs[2]? = some (.int .i64 a)) (h3 : cs[3]? = some (.int .i64 b)) (h4 : cs[4]? = some (.int .i64 c)) (hr : Fact (∀ w', Calls Tryd.prog 54 #[.int .i64 t0] w' fun e w'' => e = .returned (.bool R) ∧ w' = w'')) (ha : Fact (∀ w', Calls Tryd.prog 54 #[.int .i64 a] w' fun e w'' => e = .returned (.bool A) ∧ w' = w'')) (hb_ : Fact (∀ w', Calls Tryd.prog 54 #[.int .i64 b] w' fun e w'' => e = .returned (.bool B) ∧ w' = w'')) (hc : Fact (∀ w', Calls Tryd.prog 54 #[.int .i64 c] w' fun e w'' => e = .returned (.bool C) ∧ w' = w'')) :
    Calls Tryd.prog 33 #[.agg cs] w fun e w' => e = .returned (.bool (R && (A && (B && C)))) ∧ Below w.heap.size w w' := by
  have hs := Fact.mk (fun w' => (show Calls Tryd.prog 53 #[.int .i64 24] w' fun e w'' => e = .returned (.tuple #[.agg #[.bool true, .bool true, .bool true, .bool false], .bool true]) ∧ Below w'.heap.size w' w'' from shapes_c 24 (by decide) (by decide) w'))
  cases R with
  | false =>
    go_enter Tryd.func33, Tryd.ntmps33
    go_wp2_with (first | (go_at_call 53; with_reducible refine (hs.out _).mono ?_; rintro e w1 ⟨rfl, hb⟩; have hB1 := fun o => (below1 hb).alloc (below1 hb).size o; have g0 := boxO hb 0 h0; have g1 := boxO hb 1 h1; have g2 := boxO hb 2 h2; have g3 := boxO hb 3 h3; have g4 := boxO hb 4 h4) | (go_at_call 54; with_reducible refine (hr.out _).mono ?_; rintro e w' ⟨rfl, rfl⟩) | (go_at_call 54; with_reducible refine (ha.out _).mono ?_; rintro e w' ⟨rfl, rfl⟩) | (go_at_call 54; with_reducible refine (hb_.out _).mono ?_; rintro e w' ⟨rfl, rfl⟩) | (go_at_call 54; with_reducible refine (hc.out _).mono ?_; rintro e w' ⟨rfl, rfl⟩))
    go_ret
    first | exact ⟨rfl, below1 hB⟩ | exact ⟨rfl, hB1 _⟩
  | true =>
    cases A with
    | false =>
      go_enter Tryd.func33, Tryd.ntmps33
      go_wp2_with (first | (go_at_call 53; with_reducible refine (hs.out _).mono ?_; rintro e w1 ⟨rfl, hb⟩; have hB1 := fun o => (below1 hb).alloc (below1 hb).size o; have g0 := boxO hb 0 h0; have g1 := boxO hb 1 h1; have g2 := boxO hb 2 h2; have g3 := boxO hb 3 h3; have g4 := boxO hb 4 h4) | (go_at_call 54; with_reducible refine (hr.out _).mono ?_; rintro e w' ⟨rfl, rfl⟩) | (go_at_call 54; with_reducible refine (ha.out _).mono ?_; rintro e w' ⟨rfl, rfl⟩) | (go_at_call 54; with_reducible refine (hb_.out _).mono ?_; rintro e w' ⟨rfl, rfl⟩) | (go_at_call 54; with_reducible refine (hc.out _).mono ?_; rintro e w' ⟨rfl, rfl⟩))
      go_ret
      first | exact ⟨rfl, below1 hB⟩ | exact ⟨rfl, hB1 _⟩
    | true =>
      cases B with
      | false =>
        go_enter Tryd.func33, Tryd.ntmps33
        go_wp2_with (first | (go_at_call 53; with_reducible refine (hs.out _).mono ?_; rintro e w1 ⟨rfl, hb⟩; have hB1 := fun o => (below1 hb).alloc (below1 hb).size o; have g0 := boxO hb 0 h0; have g1 := boxO hb 1 h1; have g2 := boxO hb 2 h2; have g3 := boxO hb 3 h3; have g4 := boxO hb 4 h4) | (go_at_call 54; with_reducible refine (hr.out _).mono ?_; rintro e w' ⟨rfl, rfl⟩) | (go_at_call 54; with_reducible refine (ha.out _).mono ?_; rintro e w' ⟨rfl, rfl⟩) | (go_at_call 54; with_reducible refine (hb_.out _).mono ?_; rintro e w' ⟨rfl, rfl⟩) | (go_at_call 54; with_reducible refine (hc.out _).mono ?_; rintro e w' ⟨rfl, rfl⟩))
        go_ret
        first | exact ⟨rfl, below1 hB⟩ | exact ⟨rfl, hB1 _⟩
      | true =>
        cases C with
        | false =>
          go_enter Tryd.func33, Tryd.ntmps33
          go_wp2_with (first | (go_at_call 53; with_reducible refine (hs.out _).mono ?_; rintro e w1 ⟨rfl, hb⟩; have hB1 := fun o => (below1 hb).alloc (below1 hb).size o; have g0 := boxO hb 0 h0; have g1 := boxO hb 1 h1; have g2 := boxO hb 2 h2; have g3 := boxO hb 3 h3; have g4 := boxO hb 4 h4) | (go_at_call 54; with_reducible refine (hr.out _).mono ?_; rintro e w' ⟨rfl, rfl⟩) | (go_at_call 54; with_reducible refine (ha.out _).mono ?_; rintro e w' ⟨rfl, rfl⟩) | (go_at_call 54; with_reducible refine (hb_.out _).mono ?_; rintro e w' ⟨rfl, rfl⟩) | (go_at_call 54; with_reducible refine (hc.out _).mono ?_; rintro e w' ⟨rfl, rfl⟩))
          go_ret
          first | exact ⟨rfl, below1 hB⟩ | exact ⟨rfl, hB1 _⟩
        | true =>
          go_enter Tryd.func33, Tryd.ntmps33
          go_wp2_with (first | (go_at_call 53; with_reducible refine (hs.out _).mono ?_; rintro e w1 ⟨rfl, hb⟩; have hB1 := fun o => (below1 hb).alloc (below1 hb).size o; have g0 := boxO hb 0 h0; have g1 := boxO hb 1 h1; have g2 := boxO hb 2 h2; have g3 := boxO hb 3 h3; have g4 := boxO hb 4 h4) | (go_at_call 54; with_reducible refine (hr.out _).mono ?_; rintro e w' ⟨rfl, rfl⟩) | (go_at_call 54; with_reducible refine (ha.out _).mono ?_; rintro e w' ⟨rfl, rfl⟩) | (go_at_call 54; with_reducible refine (hb_.out _).mono ?_; rintro e w' ⟨rfl, rfl⟩) | (go_at_call 54; with_reducible refine (hc.out _).mono ?_; rintro e w' ⟨rfl, rfl⟩))
          go_ret
          first | exact ⟨rfl, below1 hB⟩ | exact ⟨rfl, hB1 _⟩
end Go.Proofs.YtinaibebdacnmaaDoor

/- Operations, code by code. -/
set_option linter.unusedVariables false
namespace Go.Proofs.YtinaibebdacnmaaDoor
open Go.RowKit Go.Proofs.YtinaibebdacnmaaDoorW.PrintWords
attribute [local go_sem] run_store_float
set_option maxRecDepth 100000 in
set_option maxHeartbeats 4000000 in
theorem sp12a (cs : Array Value) (t0 a b c km : Int) (ks : ByteArray) (d : Dt) (dd : Array Value) (R A B K D F Q : Bool) (w : World) (h0 : cs[0]? = some (.int .i64 12)) (h1 : cs[1]? = some (.int .i64 t0)) (h2 : cs[2]? = some (.int .i64 a)) (h3 : cs[3]? = some (.int .i64 b)) (h5 : cs[5]? = some (.string ks)) (h6 : cs[6]? = some (.int .i64 km)) (hdd : ∀ q, q < dd.size → cs[12 + q]? = dd[q]?) (hsz : (Tryd.prog.info? 47).map (·.size) = some dd.size) (hr : Fact (∀ w', Calls Tryd.prog 54 #[.int .i64 t0] w' fun e w'' => e = .returned (.bool R) ∧ w' = w'')) (ha : Fact (∀ w', Calls Tryd.prog 54 #[.int .i64 a] w' fun e w'' => e = .returned (.bool A) ∧ w' = w'')) (hb_ : Fact (∀ w', Calls Tryd.prog 54 #[.int .i64 b] w' fun e w'' => e = .returned (.bool B) ∧ w' = w'')) (hk : Fact (∀ w', Below w.heap.size w w' → Calls Tryd.prog 55 #[.agg #[.string ks, .int .i64 km]] w' fun e w'' => e = .returned (.int .i64 (bif K then 0 else 5)) ∧ Below w'.heap.size w' w'')) (hd : Fact (∀ w', Below w.heap.size w w' → Calls Tryd.prog 56 #[.agg dd] w' fun e w'' => e = .returned (.int .i64 (bif D then 0 else 5)) ∧ Below w'.heap.size w' w'')) (hq : Fact (∀ w', Below w.heap.size w w' → Calls Tryd.prog 57 #[.agg dd] w' fun e w'' => e = .returned (.bool (D && Q)) ∧ Below w'.heap.size w' w''))  (hbad : (R && (A && (B && K))) = false) :
    Calls Tryd.prog 33 #[.agg cs] w fun e w' => e = .returned (.bool (R && (A && (B && (K && (D && !(F && Q))))))) ∧ Below w.heap.size w w' := by
  have hs := Fact.mk (fun w' => (show Calls Tryd.prog 53 #[.int .i64 12] w' fun e w'' => e = .returned (.tuple #[.agg #[.bool true, .bool true, .bool false, .bool true], .bool true]) ∧ Below w'.heap.size w' w'' from shapes_c 12 (by decide) (by decide) w'))
  cases R with
  | false =>
    go_enter Tryd.func33, Tryd.ntmps33
    go_wp2_with (first | (go_at_call 53; with_reducible refine (hs.out _).mono ?_; rintro e w1 ⟨rfl, hb⟩; have hB1 := fun o => (below1 hb).alloc (below1 hb).size o; have g0 := boxO hb 0 h0; have g1 := boxO hb 1 h1; have g2 := boxO hb 2 h2; have g3 := boxO hb 3 h3; have g5 := boxO hb 5 h5; have g6 := boxO hb 6 h6) | (go_at_call 54; with_reducible refine (hr.out _).mono ?_; rintro e w' ⟨rfl, rfl⟩) | (go_at_call 54; with_reducible refine (ha.out _).mono ?_; rintro e w' ⟨rfl, rfl⟩) | (go_at_call 54; with_reducible refine (hb_.out _).mono ?_; rintro e w' ⟨rfl, rfl⟩) | (go_at_call 55; with_reducible refine (hk.out _ (hB1 _)).mono ?_; rintro e w2 ⟨rfl, hb2⟩; have hB := boxP hb hb2; clear g0 g1 g2 g3 g5 g6; have g0 := boxCell hB 0 h0))
    go_ret
    first | exact ⟨rfl, below1 hB⟩ | exact ⟨rfl, hB1 _⟩
  | true =>
    cases A with
    | false =>
      go_enter Tryd.func33, Tryd.ntmps33
      go_wp2_with (first | (go_at_call 53; with_reducible refine (hs.out _).mono ?_; rintro e w1 ⟨rfl, hb⟩; have hB1 := fun o => (below1 hb).alloc (below1 hb).size o; have g0 := boxO hb 0 h0; have g1 := boxO hb 1 h1; have g2 := boxO hb 2 h2; have g3 := boxO hb 3 h3; have g5 := boxO hb 5 h5; have g6 := boxO hb 6 h6) | (go_at_call 54; with_reducible refine (hr.out _).mono ?_; rintro e w' ⟨rfl, rfl⟩) | (go_at_call 54; with_reducible refine (ha.out _).mono ?_; rintro e w' ⟨rfl, rfl⟩) | (go_at_call 54; with_reducible refine (hb_.out _).mono ?_; rintro e w' ⟨rfl, rfl⟩) | (go_at_call 55; with_reducible refine (hk.out _ (hB1 _)).mono ?_; rintro e w2 ⟨rfl, hb2⟩; have hB := boxP hb hb2; clear g0 g1 g2 g3 g5 g6; have g0 := boxCell hB 0 h0))
      go_ret
      first | exact ⟨rfl, below1 hB⟩ | exact ⟨rfl, hB1 _⟩
    | true =>
      cases B with
      | false =>
        go_enter Tryd.func33, Tryd.ntmps33
        go_wp2_with (first | (go_at_call 53; with_reducible refine (hs.out _).mono ?_; rintro e w1 ⟨rfl, hb⟩; have hB1 := fun o => (below1 hb).alloc (below1 hb).size o; have g0 := boxO hb 0 h0; have g1 := boxO hb 1 h1; have g2 := boxO hb 2 h2; have g3 := boxO hb 3 h3; have g5 := boxO hb 5 h5; have g6 := boxO hb 6 h6) | (go_at_call 54; with_reducible refine (hr.out _).mono ?_; rintro e w' ⟨rfl, rfl⟩) | (go_at_call 54; with_reducible refine (ha.out _).mono ?_; rintro e w' ⟨rfl, rfl⟩) | (go_at_call 54; with_reducible refine (hb_.out _).mono ?_; rintro e w' ⟨rfl, rfl⟩) | (go_at_call 55; with_reducible refine (hk.out _ (hB1 _)).mono ?_; rintro e w2 ⟨rfl, hb2⟩; have hB := boxP hb hb2; clear g0 g1 g2 g3 g5 g6; have g0 := boxCell hB 0 h0))
        go_ret
        first | exact ⟨rfl, below1 hB⟩ | exact ⟨rfl, hB1 _⟩
      | true =>
        cases K with
        | false =>
          simp only [cond_true, cond_false] at hk
          go_enter Tryd.func33, Tryd.ntmps33
          go_wp2_with (first | (go_at_call 53; with_reducible refine (hs.out _).mono ?_; rintro e w1 ⟨rfl, hb⟩; have hB1 := fun o => (below1 hb).alloc (below1 hb).size o; have g0 := boxO hb 0 h0; have g1 := boxO hb 1 h1; have g2 := boxO hb 2 h2; have g3 := boxO hb 3 h3; have g5 := boxO hb 5 h5; have g6 := boxO hb 6 h6) | (go_at_call 54; with_reducible refine (hr.out _).mono ?_; rintro e w' ⟨rfl, rfl⟩) | (go_at_call 54; with_reducible refine (ha.out _).mono ?_; rintro e w' ⟨rfl, rfl⟩) | (go_at_call 54; with_reducible refine (hb_.out _).mono ?_; rintro e w' ⟨rfl, rfl⟩) | (go_at_call 55; with_reducible refine (hk.out _ (hB1 _)).mono ?_; rintro e w2 ⟨rfl, hb2⟩; have hB := boxP hb hb2; clear g0 g1 g2 g3 g5 g6; have g0 := boxCell hB 0 h0))
          go_ret
          first | exact ⟨rfl, below1 hB⟩ | exact ⟨rfl, hB1 _⟩
        | true =>
          simp only [cond_true, cond_false] at hk
          exact absurd hbad (by decide)
set_option maxRecDepth 100000 in
set_option maxHeartbeats 4000000 in
theorem sp12b (cs : Array Value) (t0 a b c km : Int) (ks : ByteArray) (d : Dt) (dd : Array Value) (R A B K D F Q : Bool) (w : World) (h0 : cs[0]? = some (.int .i64 12)) (h1 : cs[1]? = some (.int .i64 t0)) (h2 : cs[2]? = some (.int .i64 a)) (h3 : cs[3]? = some (.int .i64 b)) (h5 : cs[5]? = some (.string ks)) (h6 : cs[6]? = some (.int .i64 km)) (h30 : cs[30]? = some (.bool F)) (hdd : ∀ q, q < dd.size → cs[12 + q]? = dd[q]?) (hsz : (Tryd.prog.info? 47).map (·.size) = some dd.size) (hr : Fact (∀ w', Calls Tryd.prog 54 #[.int .i64 t0] w' fun e w'' => e = .returned (.bool R) ∧ w' = w'')) (ha : Fact (∀ w', Calls Tryd.prog 54 #[.int .i64 a] w' fun e w'' => e = .returned (.bool A) ∧ w' = w'')) (hb_ : Fact (∀ w', Calls Tryd.prog 54 #[.int .i64 b] w' fun e w'' => e = .returned (.bool B) ∧ w' = w'')) (hk : Fact (∀ w', Below w.heap.size w w' → Calls Tryd.prog 55 #[.agg #[.string ks, .int .i64 km]] w' fun e w'' => e = .returned (.int .i64 (bif K then 0 else 5)) ∧ Below w'.heap.size w' w'')) (hd : Fact (∀ w', Below w.heap.size w w' → Calls Tryd.prog 56 #[.agg dd] w' fun e w'' => e = .returned (.int .i64 (bif D then 0 else 5)) ∧ Below w'.heap.size w' w'')) (hq : Fact (∀ w', Below w.heap.size w w' → Calls Tryd.prog 57 #[.agg dd] w' fun e w'' => e = .returned (.bool (D && Q)) ∧ Below w'.heap.size w' w'')) (eR : R = true) (eA : A = true) (eB : B = true) (eK : K = true) (eD : D = false) :
    Calls Tryd.prog 33 #[.agg cs] w fun e w' => e = .returned (.bool (R && (A && (B && (K && (D && !(F && Q))))))) ∧ Below w.heap.size w w' := by
  have hs := Fact.mk (fun w' => (show Calls Tryd.prog 53 #[.int .i64 12] w' fun e w'' => e = .returned (.tuple #[.agg #[.bool true, .bool true, .bool false, .bool true], .bool true]) ∧ Below w'.heap.size w' w'' from shapes_c 12 (by decide) (by decide) w'))
  obtain rfl : R = true := eR
  obtain rfl : A = true := eA
  obtain rfl : B = true := eB
  obtain rfl : K = true := eK
  simp only [cond_true, cond_false] at hk
  obtain rfl : D = false := eD
  simp only [cond_true, cond_false] at hd
  simp only [Bool.true_and, Bool.false_and] at hq
  cases F with
  | false =>
    go_enter Tryd.func33, Tryd.ntmps33
    go_wp2_with (first | (go_at_call 53; with_reducible refine (hs.out _).mono ?_; rintro e w1 ⟨rfl, hb⟩; have hB1 := fun o => (below1 hb).alloc (below1 hb).size o; have g0 := boxO hb 0 h0; have g1 := boxO hb 1 h1; have g2 := boxO hb 2 h2; have g3 := boxO hb 3 h3; have g5 := boxO hb 5 h5; have g6 := boxO hb 6 h6; have g30 := boxO hb 30 h30) | (go_at_call 54; with_reducible refine (hr.out _).mono ?_; rintro e w' ⟨rfl, rfl⟩) | (go_at_call 54; with_reducible refine (ha.out _).mono ?_; rintro e w' ⟨rfl, rfl⟩) | (go_at_call 54; with_reducible refine (hb_.out _).mono ?_; rintro e w' ⟨rfl, rfl⟩) | (go_at_call 55; with_reducible refine (hk.out _ (hB1 _)).mono ?_; rintro e w2 ⟨rfl, hb2⟩; have hB := boxP hb hb2; clear g0 g1 g2 g3 g5 g6 g30; have g0 := boxCell hB 0 h0; have g30 := boxCell hB 30 h30) | ((with_reducible refine wpLoadMid (op := ⟨some 80, _, _, _, _, _⟩) ?hw80 47 (.tmp 79) rfl w.heap.size 12 ?hx80 dd _ (rangeD hB hdd) Tryd.underlying47 ?hd80 hsz ?_); (case hw80 => rfl); (case hx80 => rfl); (case hd80 => rfl)) | ((with_reducible refine wpLoadMid (op := ⟨some 89, _, _, _, _, _⟩) ?hw89 47 (.tmp 88) rfl w.heap.size 12 ?hx89 dd _ (rangeD hB hdd) Tryd.underlying47 ?hd89 hsz ?_); (case hw89 => rfl); (case hx89 => rfl); (case hd89 => rfl)) | (go_at_call 56; with_reducible refine (hd.out _ (below1 hB)).mono ?_; rintro e w3 ⟨rfl, hb3⟩; replace hB := hB.trans (hb3.mono hB.size); clear g0 g30; have g0 := boxCell hB 0 h0; have g30 := boxCell hB 30 h30) | (go_at_call 57; with_reducible refine (hq.out _ (below1 hB)).mono ?_; rintro e w4 ⟨rfl, hb4⟩; replace hB := hB.trans (hb4.mono hB.size)))
    go_ret
    first | exact ⟨rfl, below1 hB⟩ | exact ⟨rfl, hB1 _⟩
  | true =>
    go_enter Tryd.func33, Tryd.ntmps33
    go_wp2_with (first | (go_at_call 53; with_reducible refine (hs.out _).mono ?_; rintro e w1 ⟨rfl, hb⟩; have hB1 := fun o => (below1 hb).alloc (below1 hb).size o; have g0 := boxO hb 0 h0; have g1 := boxO hb 1 h1; have g2 := boxO hb 2 h2; have g3 := boxO hb 3 h3; have g5 := boxO hb 5 h5; have g6 := boxO hb 6 h6; have g30 := boxO hb 30 h30) | (go_at_call 54; with_reducible refine (hr.out _).mono ?_; rintro e w' ⟨rfl, rfl⟩) | (go_at_call 54; with_reducible refine (ha.out _).mono ?_; rintro e w' ⟨rfl, rfl⟩) | (go_at_call 54; with_reducible refine (hb_.out _).mono ?_; rintro e w' ⟨rfl, rfl⟩) | (go_at_call 55; with_reducible refine (hk.out _ (hB1 _)).mono ?_; rintro e w2 ⟨rfl, hb2⟩; have hB := boxP hb hb2; clear g0 g1 g2 g3 g5 g6 g30; have g0 := boxCell hB 0 h0; have g30 := boxCell hB 30 h30) | ((with_reducible refine wpLoadMid (op := ⟨some 80, _, _, _, _, _⟩) ?hw80 47 (.tmp 79) rfl w.heap.size 12 ?hx80 dd _ (rangeD hB hdd) Tryd.underlying47 ?hd80 hsz ?_); (case hw80 => rfl); (case hx80 => rfl); (case hd80 => rfl)) | ((with_reducible refine wpLoadMid (op := ⟨some 89, _, _, _, _, _⟩) ?hw89 47 (.tmp 88) rfl w.heap.size 12 ?hx89 dd _ (rangeD hB hdd) Tryd.underlying47 ?hd89 hsz ?_); (case hw89 => rfl); (case hx89 => rfl); (case hd89 => rfl)) | (go_at_call 56; with_reducible refine (hd.out _ (below1 hB)).mono ?_; rintro e w3 ⟨rfl, hb3⟩; replace hB := hB.trans (hb3.mono hB.size); clear g0 g30; have g0 := boxCell hB 0 h0; have g30 := boxCell hB 30 h30) | (go_at_call 57; with_reducible refine (hq.out _ (below1 hB)).mono ?_; rintro e w4 ⟨rfl, hb4⟩; replace hB := hB.trans (hb4.mono hB.size)))
    go_ret
    first | exact ⟨rfl, below1 hB⟩ | exact ⟨rfl, hB1 _⟩
end Go.Proofs.YtinaibebdacnmaaDoor

/- Operations, code by code. -/
set_option linter.unusedVariables false
namespace Go.Proofs.YtinaibebdacnmaaDoor
open Go.RowKit Go.Proofs.YtinaibebdacnmaaDoorW.PrintWords
attribute [local go_sem] run_store_float
set_option maxRecDepth 100000 in
set_option maxHeartbeats 4000000 in
theorem sp12c (cs : Array Value) (t0 a b c km : Int) (ks : ByteArray) (d : Dt) (dd : Array Value) (R A B K D F Q : Bool) (w : World) (h0 : cs[0]? = some (.int .i64 12)) (h1 : cs[1]? = some (.int .i64 t0)) (h2 : cs[2]? = some (.int .i64 a)) (h3 : cs[3]? = some (.int .i64 b)) (h5 : cs[5]? = some (.string ks)) (h6 : cs[6]? = some (.int .i64 km)) (h30 : cs[30]? = some (.bool F)) (hdd : ∀ q, q < dd.size → cs[12 + q]? = dd[q]?) (hsz : (Tryd.prog.info? 47).map (·.size) = some dd.size) (hr : Fact (∀ w', Calls Tryd.prog 54 #[.int .i64 t0] w' fun e w'' => e = .returned (.bool R) ∧ w' = w'')) (ha : Fact (∀ w', Calls Tryd.prog 54 #[.int .i64 a] w' fun e w'' => e = .returned (.bool A) ∧ w' = w'')) (hb_ : Fact (∀ w', Calls Tryd.prog 54 #[.int .i64 b] w' fun e w'' => e = .returned (.bool B) ∧ w' = w'')) (hk : Fact (∀ w', Below w.heap.size w w' → Calls Tryd.prog 55 #[.agg #[.string ks, .int .i64 km]] w' fun e w'' => e = .returned (.int .i64 (bif K then 0 else 5)) ∧ Below w'.heap.size w' w'')) (hd : Fact (∀ w', Below w.heap.size w w' → Calls Tryd.prog 56 #[.agg dd] w' fun e w'' => e = .returned (.int .i64 (bif D then 0 else 5)) ∧ Below w'.heap.size w' w'')) (hq : Fact (∀ w', Below w.heap.size w w' → Calls Tryd.prog 57 #[.agg dd] w' fun e w'' => e = .returned (.bool (D && Q)) ∧ Below w'.heap.size w' w'')) (eR : R = true) (eA : A = true) (eB : B = true) (eK : K = true) (eD : D = true) (eF : F = false) :
    Calls Tryd.prog 33 #[.agg cs] w fun e w' => e = .returned (.bool (R && (A && (B && (K && (D && !(F && Q))))))) ∧ Below w.heap.size w w' := by
  have hs := Fact.mk (fun w' => (show Calls Tryd.prog 53 #[.int .i64 12] w' fun e w'' => e = .returned (.tuple #[.agg #[.bool true, .bool true, .bool false, .bool true], .bool true]) ∧ Below w'.heap.size w' w'' from shapes_c 12 (by decide) (by decide) w'))
  obtain rfl : R = true := eR
  obtain rfl : A = true := eA
  obtain rfl : B = true := eB
  obtain rfl : K = true := eK
  simp only [cond_true, cond_false] at hk
  obtain rfl : D = true := eD
  simp only [cond_true, cond_false] at hd
  simp only [Bool.true_and, Bool.false_and] at hq
  obtain rfl : F = false := eF
  go_enter Tryd.func33, Tryd.ntmps33
  go_wp2_with (first | (go_at_call 53; with_reducible refine (hs.out _).mono ?_; rintro e w1 ⟨rfl, hb⟩; have hB1 := fun o => (below1 hb).alloc (below1 hb).size o; have g0 := boxO hb 0 h0; have g1 := boxO hb 1 h1; have g2 := boxO hb 2 h2; have g3 := boxO hb 3 h3; have g5 := boxO hb 5 h5; have g6 := boxO hb 6 h6; have g30 := boxO hb 30 h30) | (go_at_call 54; with_reducible refine (hr.out _).mono ?_; rintro e w' ⟨rfl, rfl⟩) | (go_at_call 54; with_reducible refine (ha.out _).mono ?_; rintro e w' ⟨rfl, rfl⟩) | (go_at_call 54; with_reducible refine (hb_.out _).mono ?_; rintro e w' ⟨rfl, rfl⟩) | (go_at_call 55; with_reducible refine (hk.out _ (hB1 _)).mono ?_; rintro e w2 ⟨rfl, hb2⟩; have hB := boxP hb hb2; clear g0 g1 g2 g3 g5 g6 g30; have g0 := boxCell hB 0 h0; have g30 := boxCell hB 30 h30) | ((with_reducible refine wpLoadMid (op := ⟨some 80, _, _, _, _, _⟩) ?hw80 47 (.tmp 79) rfl w.heap.size 12 ?hx80 dd _ (rangeD hB hdd) Tryd.underlying47 ?hd80 hsz ?_); (case hw80 => rfl); (case hx80 => rfl); (case hd80 => rfl)) | ((with_reducible refine wpLoadMid (op := ⟨some 89, _, _, _, _, _⟩) ?hw89 47 (.tmp 88) rfl w.heap.size 12 ?hx89 dd _ (rangeD hB hdd) Tryd.underlying47 ?hd89 hsz ?_); (case hw89 => rfl); (case hx89 => rfl); (case hd89 => rfl)) | (go_at_call 56; with_reducible refine (hd.out _ (below1 hB)).mono ?_; rintro e w3 ⟨rfl, hb3⟩; replace hB := hB.trans (hb3.mono hB.size); clear g0 g30; have g0 := boxCell hB 0 h0; have g30 := boxCell hB 30 h30) | (go_at_call 57; with_reducible refine (hq.out _ (below1 hB)).mono ?_; rintro e w4 ⟨rfl, hb4⟩; replace hB := hB.trans (hb4.mono hB.size)))
  go_ret
  first | exact ⟨rfl, below1 hB⟩ | exact ⟨rfl, hB1 _⟩
set_option maxRecDepth 100000 in
set_option maxHeartbeats 4000000 in
theorem sp12d (cs : Array Value) (t0 a b c km : Int) (ks : ByteArray) (d : Dt) (dd : Array Value) (R A B K D F Q : Bool) (w : World) (h0 : cs[0]? = some (.int .i64 12)) (h1 : cs[1]? = some (.int .i64 t0)) (h2 : cs[2]? = some (.int .i64 a)) (h3 : cs[3]? = some (.int .i64 b)) (h5 : cs[5]? = some (.string ks)) (h6 : cs[6]? = some (.int .i64 km)) (h30 : cs[30]? = some (.bool F)) (hdd : ∀ q, q < dd.size → cs[12 + q]? = dd[q]?) (hsz : (Tryd.prog.info? 47).map (·.size) = some dd.size) (hr : Fact (∀ w', Calls Tryd.prog 54 #[.int .i64 t0] w' fun e w'' => e = .returned (.bool R) ∧ w' = w'')) (ha : Fact (∀ w', Calls Tryd.prog 54 #[.int .i64 a] w' fun e w'' => e = .returned (.bool A) ∧ w' = w'')) (hb_ : Fact (∀ w', Calls Tryd.prog 54 #[.int .i64 b] w' fun e w'' => e = .returned (.bool B) ∧ w' = w'')) (hk : Fact (∀ w', Below w.heap.size w w' → Calls Tryd.prog 55 #[.agg #[.string ks, .int .i64 km]] w' fun e w'' => e = .returned (.int .i64 (bif K then 0 else 5)) ∧ Below w'.heap.size w' w'')) (hd : Fact (∀ w', Below w.heap.size w w' → Calls Tryd.prog 56 #[.agg dd] w' fun e w'' => e = .returned (.int .i64 (bif D then 0 else 5)) ∧ Below w'.heap.size w' w'')) (hq : Fact (∀ w', Below w.heap.size w w' → Calls Tryd.prog 57 #[.agg dd] w' fun e w'' => e = .returned (.bool (D && Q)) ∧ Below w'.heap.size w' w'')) (eR : R = true) (eA : A = true) (eB : B = true) (eK : K = true) (eD : D = true) (eF : F = true) :
    Calls Tryd.prog 33 #[.agg cs] w fun e w' => e = .returned (.bool (R && (A && (B && (K && (D && !(F && Q))))))) ∧ Below w.heap.size w w' := by
  have hs := Fact.mk (fun w' => (show Calls Tryd.prog 53 #[.int .i64 12] w' fun e w'' => e = .returned (.tuple #[.agg #[.bool true, .bool true, .bool false, .bool true], .bool true]) ∧ Below w'.heap.size w' w'' from shapes_c 12 (by decide) (by decide) w'))
  obtain rfl : R = true := eR
  obtain rfl : A = true := eA
  obtain rfl : B = true := eB
  obtain rfl : K = true := eK
  simp only [cond_true, cond_false] at hk
  obtain rfl : D = true := eD
  simp only [cond_true, cond_false] at hd
  simp only [Bool.true_and, Bool.false_and] at hq
  obtain rfl : F = true := eF
  go_enter Tryd.func33, Tryd.ntmps33
  go_wp2_with (first | (go_at_call 53; with_reducible refine (hs.out _).mono ?_; rintro e w1 ⟨rfl, hb⟩; have hB1 := fun o => (below1 hb).alloc (below1 hb).size o; have g0 := boxO hb 0 h0; have g1 := boxO hb 1 h1; have g2 := boxO hb 2 h2; have g3 := boxO hb 3 h3; have g5 := boxO hb 5 h5; have g6 := boxO hb 6 h6; have g30 := boxO hb 30 h30) | (go_at_call 54; with_reducible refine (hr.out _).mono ?_; rintro e w' ⟨rfl, rfl⟩) | (go_at_call 54; with_reducible refine (ha.out _).mono ?_; rintro e w' ⟨rfl, rfl⟩) | (go_at_call 54; with_reducible refine (hb_.out _).mono ?_; rintro e w' ⟨rfl, rfl⟩) | (go_at_call 55; with_reducible refine (hk.out _ (hB1 _)).mono ?_; rintro e w2 ⟨rfl, hb2⟩; have hB := boxP hb hb2; clear g0 g1 g2 g3 g5 g6 g30; have g0 := boxCell hB 0 h0; have g30 := boxCell hB 30 h30) | ((with_reducible refine wpLoadMid (op := ⟨some 80, _, _, _, _, _⟩) ?hw80 47 (.tmp 79) rfl w.heap.size 12 ?hx80 dd _ (rangeD hB hdd) Tryd.underlying47 ?hd80 hsz ?_); (case hw80 => rfl); (case hx80 => rfl); (case hd80 => rfl)) | ((with_reducible refine wpLoadMid (op := ⟨some 89, _, _, _, _, _⟩) ?hw89 47 (.tmp 88) rfl w.heap.size 12 ?hx89 dd _ (rangeD hB hdd) Tryd.underlying47 ?hd89 hsz ?_); (case hw89 => rfl); (case hx89 => rfl); (case hd89 => rfl)) | (go_at_call 56; with_reducible refine (hd.out _ (below1 hB)).mono ?_; rintro e w3 ⟨rfl, hb3⟩; replace hB := hB.trans (hb3.mono hB.size); clear g0 g30; have g0 := boxCell hB 0 h0; have g30 := boxCell hB 30 h30) | (go_at_call 57; with_reducible refine (hq.out _ (below1 hB)).mono ?_; rintro e w4 ⟨rfl, hb4⟩; replace hB := hB.trans (hb4.mono hB.size)))
  go_ret
  first | exact ⟨rfl, below1 hB⟩ | exact ⟨rfl, hB1 _⟩
end Go.Proofs.YtinaibebdacnmaaDoor

/- call.sound of an operation of a code. -/
set_option linter.unusedVariables false
namespace Go.Proofs.YtinaibebdacnmaaDoor
open Go.RowKit Go.Proofs.YtinaibebdacnmaaDoorW.PrintWords
attribute [local go_sem] run_store_float

theorem sP1 (t a b c : Int) (ks : ByteArray) (km : Int) (v : Vt) (d : Dt) (f q : Bool) (w : World) (HT : Tabs w) : Calls Tryd.prog 33 #[.agg (ocs ⟨1, t, a, b, c, ks, km, v, d, f, q⟩)] w fun e w' => e = .returned (.bool (snd ⟨1, t, a, b, c, ks, km, v, d, f, q⟩)) ∧ Below w.heap.size w w' := by
  have hv := Fact.mk (fun w' (h : Below w.heap.size w w') => valI v.k v.b v.n v.s v.i w' (HT.below h))
  exact sp1 (ocs ⟨1, t, a, b, c, ks, km, v, d, f, q⟩) t a b c km ks v.k v.b v.n v.s v.i (rg t) (gd v.k v.b v.n v.s v.i) w rfl rfl rfl rfl rfl rfl rfl (Fact.mk (reg_c t)) hv
theorem sP2 (t a b c : Int) (ks : ByteArray) (km : Int) (v : Vt) (d : Dt) (f q : Bool) (w : World) (HT : Tabs w) : Calls Tryd.prog 33 #[.agg (ocs ⟨2, t, a, b, c, ks, km, v, d, f, q⟩)] w fun e w' => e = .returned (.bool (snd ⟨2, t, a, b, c, ks, km, v, d, f, q⟩)) ∧ Below w.heap.size w w' := by
  exact sp2 (ocs ⟨2, t, a, b, c, ks, km, v, d, f, q⟩) t a b c km ks (rg t) (rg a) w rfl rfl rfl (Fact.mk (reg_c t)) (Fact.mk (reg_c a))
theorem sP3 (t a b c : Int) (ks : ByteArray) (km : Int) (v : Vt) (d : Dt) (f q : Bool) (w : World) (HT : Tabs w) : Calls Tryd.prog 33 #[.agg (ocs ⟨3, t, a, b, c, ks, km, v, d, f, q⟩)] w fun e w' => e = .returned (.bool (snd ⟨3, t, a, b, c, ks, km, v, d, f, q⟩)) ∧ Below w.heap.size w w' := by
  exact sp3 (ocs ⟨3, t, a, b, c, ks, km, v, d, f, q⟩) t a b c km ks (rg t) w rfl rfl (Fact.mk (reg_c t))
theorem sP4 (t a b c : Int) (ks : ByteArray) (km : Int) (v : Vt) (d : Dt) (f q : Bool) (w : World) (HT : Tabs w) : Calls Tryd.prog 33 #[.agg (ocs ⟨4, t, a, b, c, ks, km, v, d, f, q⟩)] w fun e w' => e = .returned (.bool (snd ⟨4, t, a, b, c, ks, km, v, d, f, q⟩)) ∧ Below w.heap.size w w' := by
  exact sp4 (ocs ⟨4, t, a, b, c, ks, km, v, d, f, q⟩) t a b c km ks (rg t) w rfl rfl rfl (Fact.mk (reg_c t))
theorem sP5 (t a b c : Int) (ks : ByteArray) (km : Int) (v : Vt) (d : Dt) (f q : Bool) (w : World) (HT : Tabs w) : Calls Tryd.prog 33 #[.agg (ocs ⟨5, t, a, b, c, ks, km, v, d, f, q⟩)] w fun e w' => e = .returned (.bool (snd ⟨5, t, a, b, c, ks, km, v, d, f, q⟩)) ∧ Below w.heap.size w w' := by
  exact sp5 (ocs ⟨5, t, a, b, c, ks, km, v, d, f, q⟩) t a b c km ks (rg t) w rfl rfl (Fact.mk (reg_c t))
theorem sP6 (t a b c : Int) (ks : ByteArray) (km : Int) (v : Vt) (d : Dt) (f q : Bool) (w : World) (HT : Tabs w) : Calls Tryd.prog 33 #[.agg (ocs ⟨6, t, a, b, c, ks, km, v, d, f, q⟩)] w fun e w' => e = .returned (.bool (snd ⟨6, t, a, b, c, ks, km, v, d, f, q⟩)) ∧ Below w.heap.size w w' := by
  exact sp6 (ocs ⟨6, t, a, b, c, ks, km, v, d, f, q⟩) t a b c km ks (rg t) w rfl rfl (Fact.mk (reg_c t))
theorem sP7 (t a b c : Int) (ks : ByteArray) (km : Int) (v : Vt) (d : Dt) (f q : Bool) (w : World) (HT : Tabs w) : Calls Tryd.prog 33 #[.agg (ocs ⟨7, t, a, b, c, ks, km, v, d, f, q⟩)] w fun e w' => e = .returned (.bool (snd ⟨7, t, a, b, c, ks, km, v, d, f, q⟩)) ∧ Below w.heap.size w w' := by
  exact sp7 (ocs ⟨7, t, a, b, c, ks, km, v, d, f, q⟩) t a b c km ks (rg t) (rg a) w rfl rfl rfl (Fact.mk (reg_c t)) (Fact.mk (reg_c a))
theorem sP8 (t a b c : Int) (ks : ByteArray) (km : Int) (v : Vt) (d : Dt) (f q : Bool) (w : World) (HT : Tabs w) : Calls Tryd.prog 33 #[.agg (ocs ⟨8, t, a, b, c, ks, km, v, d, f, q⟩)] w fun e w' => e = .returned (.bool (snd ⟨8, t, a, b, c, ks, km, v, d, f, q⟩)) ∧ Below w.heap.size w w' := by
  exact sp8 (ocs ⟨8, t, a, b, c, ks, km, v, d, f, q⟩) t a b c km ks (rg t) (rg a) w rfl rfl rfl (Fact.mk (reg_c t)) (Fact.mk (reg_c a))
theorem sP9 (t a b c : Int) (ks : ByteArray) (km : Int) (v : Vt) (d : Dt) (f q : Bool) (w : World) (HT : Tabs w) : Calls Tryd.prog 33 #[.agg (ocs ⟨9, t, a, b, c, ks, km, v, d, f, q⟩)] w fun e w' => e = .returned (.bool (snd ⟨9, t, a, b, c, ks, km, v, d, f, q⟩)) ∧ Below w.heap.size w w' := by
  exact sp9 (ocs ⟨9, t, a, b, c, ks, km, v, d, f, q⟩) t a b c km ks (rg t) (rg a) w rfl rfl rfl rfl (Fact.mk (reg_c t)) (Fact.mk (reg_c a))
theorem sP10 (t a b c : Int) (ks : ByteArray) (km : Int) (v : Vt) (d : Dt) (f q : Bool) (w : World) (HT : Tabs w) : Calls Tryd.prog 33 #[.agg (ocs ⟨10, t, a, b, c, ks, km, v, d, f, q⟩)] w fun e w' => e = .returned (.bool (snd ⟨10, t, a, b, c, ks, km, v, d, f, q⟩)) ∧ Below w.heap.size w w' := by
  have hk := Fact.mk (fun w' (h : Below w.heap.size w w') => keyI ks km w' (HT.below h))
  exact sp10 (ocs ⟨10, t, a, b, c, ks, km, v, d, f, q⟩) t a b c km ks (rg t) (rg a) (gk ks km) w rfl rfl rfl rfl rfl (Fact.mk (reg_c t)) (Fact.mk (reg_c a)) hk
theorem sP11 (t a b c : Int) (ks : ByteArray) (km : Int) (v : Vt) (d : Dt) (f q : Bool) (w : World) (HT : Tabs w) : Calls Tryd.prog 33 #[.agg (ocs ⟨11, t, a, b, c, ks, km, v, d, f, q⟩)] w fun e w' => e = .returned (.bool (snd ⟨11, t, a, b, c, ks, km, v, d, f, q⟩)) ∧ Below w.heap.size w w' := by
  have hk := Fact.mk (fun w' (h : Below w.heap.size w w') => keyI ks km w' (HT.below h))
  exact sp11 (ocs ⟨11, t, a, b, c, ks, km, v, d, f, q⟩) t a b c km ks (rg t) (rg a) (rg b) (gk ks km) w rfl rfl rfl rfl rfl rfl (Fact.mk (reg_c t)) (Fact.mk (reg_c a)) (Fact.mk (reg_c b)) hk
theorem sP13 (t a b c : Int) (ks : ByteArray) (km : Int) (v : Vt) (d : Dt) (f q : Bool) (w : World) (HT : Tabs w) : Calls Tryd.prog 33 #[.agg (ocs ⟨13, t, a, b, c, ks, km, v, d, f, q⟩)] w fun e w' => e = .returned (.bool (snd ⟨13, t, a, b, c, ks, km, v, d, f, q⟩)) ∧ Below w.heap.size w w' := by
  have hk := Fact.mk (fun w' (h : Below w.heap.size w w') => keyI ks km w' (HT.below h))
  exact sp13 (ocs ⟨13, t, a, b, c, ks, km, v, d, f, q⟩) t a b c km ks (rg t) (rg a) (gk ks km) w rfl rfl rfl rfl rfl (Fact.mk (reg_c t)) (Fact.mk (reg_c a)) hk
theorem sP14 (t a b c : Int) (ks : ByteArray) (km : Int) (v : Vt) (d : Dt) (f q : Bool) (w : World) (HT : Tabs w) : Calls Tryd.prog 33 #[.agg (ocs ⟨14, t, a, b, c, ks, km, v, d, f, q⟩)] w fun e w' => e = .returned (.bool (snd ⟨14, t, a, b, c, ks, km, v, d, f, q⟩)) ∧ Below w.heap.size w w' := by
  have hk := Fact.mk (fun w' (h : Below w.heap.size w w') => keyI ks km w' (HT.below h))
  exact sp14 (ocs ⟨14, t, a, b, c, ks, km, v, d, f, q⟩) t a b c km ks (rg t) (rg a) (gk ks km) w rfl rfl rfl rfl rfl (Fact.mk (reg_c t)) (Fact.mk (reg_c a)) hk
theorem sP15 (t a b c : Int) (ks : ByteArray) (km : Int) (v : Vt) (d : Dt) (f q : Bool) (w : World) (HT : Tabs w) : Calls Tryd.prog 33 #[.agg (ocs ⟨15, t, a, b, c, ks, km, v, d, f, q⟩)] w fun e w' => e = .returned (.bool (snd ⟨15, t, a, b, c, ks, km, v, d, f, q⟩)) ∧ Below w.heap.size w w' := by
  have hk := Fact.mk (fun w' (h : Below w.heap.size w w') => keyI ks km w' (HT.below h))
  exact sp15 (ocs ⟨15, t, a, b, c, ks, km, v, d, f, q⟩) t a b c km ks (rg t) (rg a) (gk ks km) w rfl rfl rfl rfl rfl (Fact.mk (reg_c t)) (Fact.mk (reg_c a)) hk
theorem sP16 (t a b c : Int) (ks : ByteArray) (km : Int) (v : Vt) (d : Dt) (f q : Bool) (w : World) (HT : Tabs w) : Calls Tryd.prog 33 #[.agg (ocs ⟨16, t, a, b, c, ks, km, v, d, f, q⟩)] w fun e w' => e = .returned (.bool (snd ⟨16, t, a, b, c, ks, km, v, d, f, q⟩)) ∧ Below w.heap.size w w' := by
  exact sp16 (ocs ⟨16, t, a, b, c, ks, km, v, d, f, q⟩) t a b c km ks (rg t) (rg a) w rfl rfl rfl (Fact.mk (reg_c t)) (Fact.mk (reg_c a))
theorem sP17 (t a b c : Int) (ks : ByteArray) (km : Int) (v : Vt) (d : Dt) (f q : Bool) (w : World) (HT : Tabs w) : Calls Tryd.prog 33 #[.agg (ocs ⟨17, t, a, b, c, ks, km, v, d, f, q⟩)] w fun e w' => e = .returned (.bool (snd ⟨17, t, a, b, c, ks, km, v, d, f, q⟩)) ∧ Below w.heap.size w w' := by
  exact sp17 (ocs ⟨17, t, a, b, c, ks, km, v, d, f, q⟩) t a b c km ks (rg t) (rg a) (rg b) w rfl rfl rfl rfl (Fact.mk (reg_c t)) (Fact.mk (reg_c a)) (Fact.mk (reg_c b))
theorem sP18 (t a b c : Int) (ks : ByteArray) (km : Int) (v : Vt) (d : Dt) (f q : Bool) (w : World) (HT : Tabs w) : Calls Tryd.prog 33 #[.agg (ocs ⟨18, t, a, b, c, ks, km, v, d, f, q⟩)] w fun e w' => e = .returned (.bool (snd ⟨18, t, a, b, c, ks, km, v, d, f, q⟩)) ∧ Below w.heap.size w w' := by
  exact sp18 (ocs ⟨18, t, a, b, c, ks, km, v, d, f, q⟩) t a b c km ks (rg t) (rg a) w rfl rfl rfl (Fact.mk (reg_c t)) (Fact.mk (reg_c a))
theorem sP19 (t a b c : Int) (ks : ByteArray) (km : Int) (v : Vt) (d : Dt) (f q : Bool) (w : World) (HT : Tabs w) : Calls Tryd.prog 33 #[.agg (ocs ⟨19, t, a, b, c, ks, km, v, d, f, q⟩)] w fun e w' => e = .returned (.bool (snd ⟨19, t, a, b, c, ks, km, v, d, f, q⟩)) ∧ Below w.heap.size w w' := by
  exact sp19 (ocs ⟨19, t, a, b, c, ks, km, v, d, f, q⟩) t a b c km ks (rg t) (rg a) w rfl rfl rfl (Fact.mk (reg_c t)) (Fact.mk (reg_c a))
theorem sP20 (t a b c : Int) (ks : ByteArray) (km : Int) (v : Vt) (d : Dt) (f q : Bool) (w : World) (HT : Tabs w) : Calls Tryd.prog 33 #[.agg (ocs ⟨20, t, a, b, c, ks, km, v, d, f, q⟩)] w fun e w' => e = .returned (.bool (snd ⟨20, t, a, b, c, ks, km, v, d, f, q⟩)) ∧ Below w.heap.size w w' := by
  exact sp20 (ocs ⟨20, t, a, b, c, ks, km, v, d, f, q⟩) t a b c km ks (rg t) (rg a) (rg b) (rg c) w rfl rfl rfl rfl rfl (Fact.mk (reg_c t)) (Fact.mk (reg_c a)) (Fact.mk (reg_c b)) (Fact.mk (reg_c c))
theorem sP21 (t a b c : Int) (ks : ByteArray) (km : Int) (v : Vt) (d : Dt) (f q : Bool) (w : World) (HT : Tabs w) : Calls Tryd.prog 33 #[.agg (ocs ⟨21, t, a, b, c, ks, km, v, d, f, q⟩)] w fun e w' => e = .returned (.bool (snd ⟨21, t, a, b, c, ks, km, v, d, f, q⟩)) ∧ Below w.heap.size w w' := by
  exact sp21 (ocs ⟨21, t, a, b, c, ks, km, v, d, f, q⟩) t a b c km ks (rg t) (rg a) (rg b) w rfl rfl rfl rfl (Fact.mk (reg_c t)) (Fact.mk (reg_c a)) (Fact.mk (reg_c b))
theorem sP22 (t a b c : Int) (ks : ByteArray) (km : Int) (v : Vt) (d : Dt) (f q : Bool) (w : World) (HT : Tabs w) : Calls Tryd.prog 33 #[.agg (ocs ⟨22, t, a, b, c, ks, km, v, d, f, q⟩)] w fun e w' => e = .returned (.bool (snd ⟨22, t, a, b, c, ks, km, v, d, f, q⟩)) ∧ Below w.heap.size w w' := by
  exact sp22 (ocs ⟨22, t, a, b, c, ks, km, v, d, f, q⟩) t a b c km ks (rg t) (rg a) w rfl rfl rfl (Fact.mk (reg_c t)) (Fact.mk (reg_c a))
theorem sP23 (t a b c : Int) (ks : ByteArray) (km : Int) (v : Vt) (d : Dt) (f q : Bool) (w : World) (HT : Tabs w) : Calls Tryd.prog 33 #[.agg (ocs ⟨23, t, a, b, c, ks, km, v, d, f, q⟩)] w fun e w' => e = .returned (.bool (snd ⟨23, t, a, b, c, ks, km, v, d, f, q⟩)) ∧ Below w.heap.size w w' := by
  exact sp23 (ocs ⟨23, t, a, b, c, ks, km, v, d, f, q⟩) t a b c km ks (rg t) (rg a) (rg b) w rfl rfl rfl rfl (Fact.mk (reg_c t)) (Fact.mk (reg_c a)) (Fact.mk (reg_c b))
theorem sP24 (t a b c : Int) (ks : ByteArray) (km : Int) (v : Vt) (d : Dt) (f q : Bool) (w : World) (HT : Tabs w) : Calls Tryd.prog 33 #[.agg (ocs ⟨24, t, a, b, c, ks, km, v, d, f, q⟩)] w fun e w' => e = .returned (.bool (snd ⟨24, t, a, b, c, ks, km, v, d, f, q⟩)) ∧ Below w.heap.size w w' := by
  exact sp24 (ocs ⟨24, t, a, b, c, ks, km, v, d, f, q⟩) t a b c km ks (rg t) (rg a) (rg b) (rg c) w rfl rfl rfl rfl rfl (Fact.mk (reg_c t)) (Fact.mk (reg_c a)) (Fact.mk (reg_c b)) (Fact.mk (reg_c c))

theorem sP12 (t a b c : Int) (ks : ByteArray) (km : Int) (v : Vt) (d : Dt) (hf : d.fin) (f q : Bool) (w : World) (HT : Tabs w) : Calls Tryd.prog 33 #[.agg (ocs ⟨12, t, a, b, c, ks, km, v, d, f, q⟩)] w fun e w' => e = .returned (.bool (snd ⟨12, t, a, b, c, ks, km, v, d, f, q⟩)) ∧ Below w.heap.size w w' := by
  have hk := Fact.mk (fun w' (h : Below w.heap.size w w') => keyI ks km w' (HT.below h))
  have hd := Fact.mk (fun w' (h : Below w.heap.size w w') => dI d hf w' (HT.below h))
  have hq := Fact.mk (fun w' (h : Below w.heap.size w w') => accessor_c d hf w' (HT.below h))
  by_cases hbad : (rg t && (rg a && (rg b && gk ks km))) = false
  · exact sp12a (ocs ⟨12, t, a, b, c, ks, km, v, d, f, q⟩) t a b c km ks d (dcs d) (rg t) (rg a) (rg b) (gk ks km) (gD d) f (acc d) w rfl rfl rfl rfl rfl rfl (ddO ⟨12, t, a, b, c, ks, km, v, d, f, q⟩) infoD (Fact.mk (reg_c t)) (Fact.mk (reg_c a)) (Fact.mk (reg_c b)) hk hd hq hbad
  · simp only [Bool.not_eq_false, Bool.and_eq_true] at hbad
    obtain ⟨eR, eA, eB, eK⟩ := hbad
    by_cases eD : gD d = false
    · exact sp12b (ocs ⟨12, t, a, b, c, ks, km, v, d, f, q⟩) t a b c km ks d (dcs d) (rg t) (rg a) (rg b) (gk ks km) (gD d) f (acc d) w rfl rfl rfl rfl rfl rfl rfl (ddO ⟨12, t, a, b, c, ks, km, v, d, f, q⟩) infoD (Fact.mk (reg_c t)) (Fact.mk (reg_c a)) (Fact.mk (reg_c b)) hk hd hq eR eA eB eK eD
    · have eD := Bool.not_eq_false _ ▸ eD
      by_cases eF : f = false
      · exact sp12c (ocs ⟨12, t, a, b, c, ks, km, v, d, f, q⟩) t a b c km ks d (dcs d) (rg t) (rg a) (rg b) (gk ks km) (gD d) f (acc d) w rfl rfl rfl rfl rfl rfl rfl (ddO ⟨12, t, a, b, c, ks, km, v, d, f, q⟩) infoD (Fact.mk (reg_c t)) (Fact.mk (reg_c a)) (Fact.mk (reg_c b)) hk hd hq eR eA eB eK eD eF
      · have eF := Bool.not_eq_false _ ▸ eF
        exact sp12d (ocs ⟨12, t, a, b, c, ks, km, v, d, f, q⟩) t a b c km ks d (dcs d) (rg t) (rg a) (rg b) (gk ks km) (gD d) f (acc d) w rfl rfl rfl rfl rfl rfl rfl (ddO ⟨12, t, a, b, c, ks, km, v, d, f, q⟩) infoD (Fact.mk (reg_c t)) (Fact.mk (reg_c a)) (Fact.mk (reg_c b)) hk hd hq eR eA eB eK eD eF
end Go.Proofs.YtinaibebdacnmaaDoor
