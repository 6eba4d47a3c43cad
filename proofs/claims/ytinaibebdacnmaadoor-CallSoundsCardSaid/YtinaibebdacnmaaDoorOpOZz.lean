import Derived.Test.YtinaibebdacnmaaDoorMd
set_option linter.all false
/- The reference's Good of a descriptor: its walks. -/
namespace Go.Proofs.YtinaibebdacnmaaDoor
open Go.RowKit Go.Proofs.YtinaibebdacnmaaDoorW.PrintWords
attribute [local go_sem] run_store_float
set_option maxRecDepth 100000 in
set_option maxHeartbeats 8000000 in
theorem rgd2 (d : Dt) (w : World) (G N2 S2 T1 T2 T3 X Y Z U R : Bool) (n0 : Fact (∀ w', Calls Tryd.prog 85 #[VV d.v.k d.v.b d.v.n d.v.s d.v.i] w' fun e w'' => e = .returned (.bool true) ∧ Below w'.heap.size w' w'')) (n1 : Fact (∀ w', Calls Tryd.prog 85 #[VV d.g.k d.g.b d.g.n d.g.s d.g.i] w' fun e w'' => e = .returned (.bool false) ∧ Below w'.heap.size w' w'')) (n2 : Fact (∀ w', Calls Tryd.prog 85 #[VV d.s.k d.s.b d.s.n d.s.s d.s.i] w' fun e w'' => e = .returned (.bool N2) ∧ Below w'.heap.size w' w'')) (g0 : Fact (∀ w', Calls Tryd.prog 22 #[VV d.v.k d.v.b d.v.n d.v.s d.v.i] w' fun e w'' => e = .returned (.bool G) ∧ Below w'.heap.size w' w'')) (s1 : Fact (∀ w', Calls Tryd.prog 86 #[VV d.g.k d.g.b d.g.n d.g.s d.g.i] w' fun e w'' => e = .returned (.bool true) ∧ Below w'.heap.size w' w'')) (s2 : Fact (∀ w', Calls Tryd.prog 86 #[VV d.s.k d.s.b d.s.n d.s.s d.s.i] w' fun e w'' => e = .returned (.bool S2) ∧ Below w'.heap.size w' w'')) (t1 : Fact (∀ w', Calls Tryd.prog 87 #[.int .i64 d.w] w' fun e w'' => e = .returned (.bool T1) ∧ w' = w'')) (t2 : Fact (∀ w', Calls Tryd.prog 87 #[.int .i64 d.e] w' fun e w'' => e = .returned (.bool T2) ∧ w' = w'')) (t3 : Fact (∀ w', Calls Tryd.prog 87 #[.int .i64 d.c] w' fun e w'' => e = .returned (.bool T3) ∧ w' = w'')) (e1 : Fact (∀ w', Calls Tryd.prog 61 #[VV d.g.k d.g.b d.g.n d.g.s d.g.i] w' fun e w'' => e = .returned (.bool Y) ∧ Below w'.heap.size w' w'')) (e2 : Fact (∀ w', Calls Tryd.prog 61 #[VV d.s.k d.s.b d.s.n d.s.s d.s.i] w' fun e w'' => e = .returned (.bool Z) ∧ Below w'.heap.size w' w'')) (e3 : Fact (∀ w', Calls Tryd.prog 61 #[VV d.v.k d.v.b d.v.n d.v.s d.v.i] w' fun e w'' => e = .returned (.bool X) ∧ Below w'.heap.size w' w'')) (hU : (d.w != 0) = U) (hR : R = (((true || G) && ((false || true) && ((N2 || S2) && (T1 && (T2 && T3))))) && !((X || U) && (Y || Z)))) : Calls Tryd.prog 60 #[DD d] w fun e w' => e = .returned (.bool R) ∧ Below w.heap.size w w' := by
  unfold VV DD at *
  have hB := Below.refl (w.alloc (.cells #[.int .i64 d.v.k, .bool d.v.b, .float .f64 d.v.n, .string d.v.s, .int .i64 d.v.i, .int .i64 d.g.k, .bool d.g.b, .float .f64 d.g.n, .string d.g.s, .int .i64 d.g.i, .int .i64 d.s.k, .bool d.s.b, .float .f64 d.s.n, .string d.s.s, .int .i64 d.s.i, .int .i64 d.w, .int .i64 d.e, .int .i64 d.c] 47)).heap.size (w.alloc (.cells #[.int .i64 d.v.k, .bool d.v.b, .float .f64 d.v.n, .string d.v.s, .int .i64 d.v.i, .int .i64 d.g.k, .bool d.g.b, .float .f64 d.g.n, .string d.g.s, .int .i64 d.g.i, .int .i64 d.s.k, .bool d.s.b, .float .f64 d.s.n, .string d.s.s, .int .i64 d.s.i, .int .i64 d.w, .int .i64 d.e, .int .i64 d.c] 47))
  obtain ⟨a0, a1, a2, a3, a4⟩ := dcV hB
  cases N2
  cases S2
  rotate_left
  cases T1
  rotate_left
  cases T2
  rotate_left
  cases T3
  rotate_left
  cases X
  cases U
  rotate_left
  cases Y
  cases Z
  rotate_left
  rotate_left
  rotate_left
  cases Y
  cases Z
  rotate_left
  rotate_left
  rotate_left
  cases T1
  rotate_left
  cases T2
  rotate_left
  cases T3
  rotate_left
  cases X
  cases U
  rotate_left
  cases Y
  cases Z
  rotate_left
  rotate_left
  rotate_left
  cases Y
  cases Z
  rotate_left
  rotate_left
  rotate_left
  all_goals
    first | rw [show R = false from hR] | rw [show R = true from hR]
    clear hR R
    go_enter Tryd.func60, Tryd.ntmps60
    go_wp2_with (first | (go_at_call 85; with_reducible refine (n0.out _).mono ?_; rintro e w' ⟨rfl, hb⟩; replace hB := hB.trans (hb.mono hB.size); clear hb; (try clear a0 a1 a2 a3 a4); (try clear b0 b1 b2 b3 b4); (try clear q0 q1 q2 q3 q4); (try clear r0 r1 r2); obtain ⟨a0, a1, a2, a3, a4⟩ := dcV hB; obtain ⟨b0, b1, b2, b3, b4⟩ := dcG hB) | (go_at_call 85; with_reducible refine (n1.out _).mono ?_; rintro e w' ⟨rfl, hb⟩; replace hB := hB.trans (hb.mono hB.size); clear hb; (try clear a0 a1 a2 a3 a4); (try clear b0 b1 b2 b3 b4); (try clear q0 q1 q2 q3 q4); (try clear r0 r1 r2); obtain ⟨b0, b1, b2, b3, b4⟩ := dcG hB; obtain ⟨q0, q1, q2, q3, q4⟩ := dcS hB) | (go_at_call 85; with_reducible refine (n2.out _).mono ?_; rintro e w' ⟨rfl, hb⟩; replace hB := hB.trans (hb.mono hB.size); clear hb; (try clear a0 a1 a2 a3 a4); (try clear b0 b1 b2 b3 b4); (try clear q0 q1 q2 q3 q4); (try clear r0 r1 r2); obtain ⟨q0, q1, q2, q3, q4⟩ := dcS hB; obtain ⟨r0, r1, r2⟩ := dcW hB; obtain ⟨a0, a1, a2, a3, a4⟩ := dcV hB) | (go_at_call 22; with_reducible refine (g0.out _).mono ?_; rintro e w' ⟨rfl, hb⟩; replace hB := hB.trans (hb.mono hB.size); clear hb; (try clear a0 a1 a2 a3 a4); (try clear b0 b1 b2 b3 b4); (try clear q0 q1 q2 q3 q4); (try clear r0 r1 r2); obtain ⟨b0, b1, b2, b3, b4⟩ := dcG hB) | (go_at_call 86; with_reducible refine (s1.out _).mono ?_; rintro e w' ⟨rfl, hb⟩; replace hB := hB.trans (hb.mono hB.size); clear hb; (try clear a0 a1 a2 a3 a4); (try clear b0 b1 b2 b3 b4); (try clear q0 q1 q2 q3 q4); (try clear r0 r1 r2); obtain ⟨q0, q1, q2, q3, q4⟩ := dcS hB) | (go_at_call 86; with_reducible refine (s2.out _).mono ?_; rintro e w' ⟨rfl, hb⟩; replace hB := hB.trans (hb.mono hB.size); clear hb; (try clear a0 a1 a2 a3 a4); (try clear b0 b1 b2 b3 b4); (try clear q0 q1 q2 q3 q4); (try clear r0 r1 r2); obtain ⟨r0, r1, r2⟩ := dcW hB; obtain ⟨a0, a1, a2, a3, a4⟩ := dcV hB) | (go_at_call 87; with_reducible refine (t1.out _).mono ?_; rintro e w' ⟨rfl, rfl⟩) | (go_at_call 87; with_reducible refine (t2.out _).mono ?_; rintro e w' ⟨rfl, rfl⟩) | (go_at_call 87; with_reducible refine (t3.out _).mono ?_; rintro e w' ⟨rfl, rfl⟩) | (go_at_call 61; with_reducible refine (e3.out _).mono ?_; rintro e w' ⟨rfl, hb⟩; replace hB := hB.trans (hb.mono hB.size); clear hb; (try clear a0 a1 a2 a3 a4); (try clear b0 b1 b2 b3 b4); (try clear q0 q1 q2 q3 q4); (try clear r0 r1 r2); obtain ⟨r0, r1, r2⟩ := dcW hB; obtain ⟨b0, b1, b2, b3, b4⟩ := dcG hB) | (go_at_call 61; with_reducible refine (e1.out _).mono ?_; rintro e w' ⟨rfl, hb⟩; replace hB := hB.trans (hb.mono hB.size); clear hb; (try clear a0 a1 a2 a3 a4); (try clear b0 b1 b2 b3 b4); (try clear q0 q1 q2 q3 q4); (try clear r0 r1 r2); obtain ⟨q0, q1, q2, q3, q4⟩ := dcS hB) | (go_at_call 61; with_reducible refine (e2.out _).mono ?_; rintro e w' ⟨rfl, hb⟩; replace hB := hB.trans (hb.mono hB.size); clear hb; (try clear a0 a1 a2 a3 a4); (try clear b0 b1 b2 b3 b4); (try clear q0 q1 q2 q3 q4); (try clear r0 r1 r2)))
    go_ret
    exact ⟨rfl, below1 hB⟩
end Go.Proofs.YtinaibebdacnmaaDoor
