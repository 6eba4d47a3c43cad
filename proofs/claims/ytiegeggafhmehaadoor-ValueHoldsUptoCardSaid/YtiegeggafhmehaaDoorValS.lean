/- The reference's Zero, Equal and Truth: what each call comes to. -/
import Derived.Test.YtiegeggafhmehaaDoorValR
namespace Go.Proofs.YtiegeggafhmehaaDoor
open Go.RowKit Go.Proofs.YtiegeggafhmehaaDoorW.PrintWords
attribute [local go_sem] run_store_float

theorem ordB (n : Nat) (h : n < 18446744073709551616) : (FloatKind.f64.format.order n 0 == some .eq) = decide (Fl.sz n = 0) := by
  have h1 := (ord0 n h).trans (sz0 n h).symm
  rw [Bool.eq_iff_iff, beq_iff_eq, h1, decide_eq_true_eq]
theorem hv_zero (k : Int) (b : Bool) (n : Nat) (s : ByteArray) (i : Int) (k' : Int) (b' : Bool) (n' : Nat) (s' : ByteArray) (i' : Int) : (hv (Fl.same n n') k b n s i k' b' n' s' i' || (decide (k = 4) && (decide (k' = 4) && (decide (Fl.sz n = 0) && decide (Fl.sz n' = 0))))) = hv (Fl.same0 n n') k b n s i k' b' n' s' i' := by
  unfold hv Fl.same0
  by_cases h : k = 4
  · by_cases h' : k' = 4
    · simp [h, h']
      rfl
    · simp [h, h']
  · simp [h]
set_option maxRecDepth 100000 in
set_option maxHeartbeats 800000 in
theorem rZero_c (k : Int) (b : Bool) (n : Nat) (s : ByteArray) (i : Int) (k' : Int) (b' : Bool) (n' : Nat) (s' : ByteArray) (i' : Int) (hn : n < 18446744073709551616) (hn' : n' < 18446744073709551616) (w : World) :
    Calls Tryd.prog 48 #[VV k b n s i, VV k' b' n' s' i'] w fun e w' => e = .returned (.bool (hv (Fl.same0 n n') k b n s i k' b' n' s' i')) ∧ Below w.heap.size w w' := by
  have hi := Fact.mk (fun w => is_c k b n s i k' b' n' s' i' hn hn' w)
  have hz := Fact.mk (hv_zero k b n s i k' b' n' s' i')
  have o1 := Fact.mk ((ord0 n hn).trans (sz0 n hn).symm)
  have o2 := Fact.mk (ordB n' hn')
  generalize hv (Fl.same n n') k b n s i k' b' n' s' i' = R at *
  generalize hv (Fl.same0 n n') k b n s i k' b' n' s' i' = R0 at *
  unfold VV at *
  cases R
  all_goals
    go_enter Tryd.func48, Tryd.ntmps48
    go_wp2_with (go_at_call 47; refine (hi.out _).mono ?_; rintro e w1 ⟨rfl, hb⟩; obtain ⟨hv, hr, hbw⟩ := two5 hb; obtain ⟨c0, c1, c2, c3, c4, _⟩ := facts5 hr; obtain ⟨d0, d1, d2, d3, d4, _⟩ := facts5 hv)
    all_goals
      go_ret
      refine ⟨ret_b ?_, hbw⟩
      have p := hz.out
      have p1 := o1.out
      have p2 := o2.out
      clear hi hz o1 o2 hbw hb hv hr c0 c1 c2 c3 c4 d0 d1 d2 d3 d4
      rw [← p]
      first | (simp_all; done) | (rw [Bool.eq_iff_iff]; simp_all; done)
set_option maxRecDepth 100000 in
set_option maxHeartbeats 800000 in
theorem rEqual_c (k : Int) (b : Bool) (n : Nat) (s : ByteArray) (i : Int) (k' : Int) (b' : Bool) (n' : Nat) (s' : ByteArray) (i' : Int) (hn : n < 18446744073709551616) (hn' : n' < 18446744073709551616) (w : World) :
    Calls Tryd.prog 49 #[VV k b n s i, VV k' b' n' s' i'] w fun e w' => e = .returned (.bool (hv (Fl.same0 n n') k b n s i k' b' n' s' i' && !(decide (k = 4) && Fl.isNan n))) ∧ Below w.heap.size w w' := by
  have hi := Fact.mk (fun w => rZero_c k b n s i k' b' n' s' i' hn hn' w)
  have o1 := Fact.mk (ord_nn n)
  generalize hv (Fl.same0 n n') k b n s i k' b' n' s' i' = R at *
  unfold VV at *
  cases R
  all_goals
    go_enter Tryd.func49, Tryd.ntmps49
    go_wp2_with (go_at_call 48; refine (hi.out _).mono ?_; rintro e w1 ⟨rfl, hb⟩; obtain ⟨hv, hr, hbw⟩ := two5 hb; obtain ⟨c0, c1, c2, c3, c4, _⟩ := facts5 hr; obtain ⟨d0, d1, d2, d3, d4, _⟩ := facts5 hv)
    all_goals
      go_ret
      refine ⟨ret_b ?_, hbw⟩
      have p1 := o1.out
      clear hi o1 hbw hb hv hr c0 c1 c2 c3 c4 d0 d1 d2 d3 d4
      first | rfl | (simp_all; done) | (rw [Bool.eq_iff_iff]; simp_all; done)

set_option maxRecDepth 100000 in
theorem rTruth1_c (b : Bool) (n : Nat) (s : ByteArray) (i : Int) (hn : n < 18446744073709551616) (w : World) :
    Calls Tryd.prog 46 #[VV 1 b n s i] w fun e w' => e = .returned (.bool (false)) ∧ Below w.heap.size w w' := by
  have o1 := Fact.mk (ord_nn n)
  have o2 := Fact.mk (ord0 n hn)
  unfold VV
  go_enter Tryd.func46, Tryd.ntmps46
  go_wp2
  all_goals
    go_ret
    refine ⟨ret_b ?_, (Below.refl _ _).alloc (Nat.le_refl _) _⟩
    have p1 := o1.out
    have p2 := o2.out
    first | rfl | (simp_all; done) | (rw [Bool.eq_iff_iff]; simp_all; done)

set_option maxRecDepth 100000 in
theorem rTruth2_c (b : Bool) (n : Nat) (s : ByteArray) (i : Int) (hn : n < 18446744073709551616) (w : World) :
    Calls Tryd.prog 46 #[VV 2 b n s i] w fun e w' => e = .returned (.bool (false)) ∧ Below w.heap.size w w' := by
  have o1 := Fact.mk (ord_nn n)
  have o2 := Fact.mk (ord0 n hn)
  unfold VV
  go_enter Tryd.func46, Tryd.ntmps46
  go_wp2
  all_goals
    go_ret
    refine ⟨ret_b ?_, (Below.refl _ _).alloc (Nat.le_refl _) _⟩
    have p1 := o1.out
    have p2 := o2.out
    first | rfl | (simp_all; done) | (rw [Bool.eq_iff_iff]; simp_all; done)

set_option maxRecDepth 100000 in
theorem rTruth3_c (b : Bool) (n : Nat) (s : ByteArray) (i : Int) (hn : n < 18446744073709551616) (w : World) :
    Calls Tryd.prog 46 #[VV 3 b n s i] w fun e w' => e = .returned (.bool (b)) ∧ Below w.heap.size w w' := by
  have o1 := Fact.mk (ord_nn n)
  have o2 := Fact.mk (ord0 n hn)
  unfold VV
  go_enter Tryd.func46, Tryd.ntmps46
  go_wp2
  all_goals
    go_ret
    refine ⟨ret_b ?_, (Below.refl _ _).alloc (Nat.le_refl _) _⟩
    have p1 := o1.out
    have p2 := o2.out
    first | rfl | (simp_all; done) | (rw [Bool.eq_iff_iff]; simp_all; done)

set_option maxRecDepth 100000 in
theorem rTruth4_c (b : Bool) (n : Nat) (s : ByteArray) (i : Int) (hn : n < 18446744073709551616) (w : World) :
    Calls Tryd.prog 46 #[VV 4 b n s i] w fun e w' => e = .returned (.bool (!Fl.isNan n && !(decide (n = 0) || decide (n = 9223372036854775808)))) ∧ Below w.heap.size w w' := by
  have o1 := Fact.mk (ord_nn n)
  have o2 := Fact.mk (ord0 n hn)
  unfold VV
  go_enter Tryd.func46, Tryd.ntmps46
  go_wp2
  all_goals
    go_ret
    refine ⟨ret_b ?_, (Below.refl _ _).alloc (Nat.le_refl _) _⟩
    have p1 := o1.out
    have p2 := o2.out
    first | rfl | (simp_all; done) | (rw [Bool.eq_iff_iff]; simp_all; done)

set_option maxRecDepth 100000 in
theorem rTruth5_c (b : Bool) (n : Nat) (s : ByteArray) (i : Int) (hn : n < 18446744073709551616) (w : World) :
    Calls Tryd.prog 46 #[VV 5 b n s i] w fun e w' => e = .returned (.bool (decide (s.toList ≠ []))) ∧ Below w.heap.size w w' := by
  have o1 := Fact.mk (ord_nn n)
  have o2 := Fact.mk (ord0 n hn)
  unfold VV
  go_enter Tryd.func46, Tryd.ntmps46
  go_wp2
  all_goals
    go_ret
    refine ⟨ret_b ?_, (Below.refl _ _).alloc (Nat.le_refl _) _⟩
    have p1 := o1.out
    have p2 := o2.out
    first | rfl | (simp_all; done) | (rw [Bool.eq_iff_iff]; simp_all; done)

set_option maxRecDepth 100000 in
theorem rTruth0_c (k : Int) (b : Bool) (n : Nat) (s : ByteArray) (i : Int) (h1 : k ≠ 1) (h2 : k ≠ 2) (h3 : k ≠ 3) (h4 : k ≠ 4) (h5 : k ≠ 5) (w : World) :
    Calls Tryd.prog 46 #[VV k b n s i] w fun e w' => e = .returned (.bool true) ∧ Below w.heap.size w w' := by
  unfold VV
  go_enter Tryd.func46, Tryd.ntmps46
  go_wp2
  go_ret
  exact ⟨rfl, (Below.refl _ _).alloc (Nat.le_refl _) _⟩
theorem rTruth_c (k : Int) (b : Bool) (n : Nat) (s : ByteArray) (i : Int) (hn : n < 18446744073709551616) (w : World) :
    Calls Tryd.prog 46 #[VV k b n s i] w fun e w' => e = .returned (.bool (tv k b n s)) ∧ Below w.heap.size w w' := by
  by_cases h1 : k = 1
  · subst h1; exact rTruth1_c b n s i hn w
  by_cases h2 : k = 2
  · subst h2; exact rTruth2_c b n s i hn w
  by_cases h3 : k = 3
  · subst h3; exact rTruth3_c b n s i hn w
  by_cases h4 : k = 4
  · subst h4; exact rTruth4_c b n s i hn w
  by_cases h5 : k = 5
  · subst h5; exact rTruth5_c b n s i hn w
  refine (rTruth0_c k b n s i h1 h2 h3 h4 h5 w).mono fun e w' ⟨he, hb⟩ => ⟨?_, hb⟩
  rw [he]; unfold tv
  rw [if_neg h1, if_neg h2, if_neg h3, if_neg h4, if_neg h5]
end Go.Proofs.YtiegeggafhmehaaDoor
