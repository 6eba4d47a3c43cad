/- The reference's Good: what it comes to. -/
import Derived.Test.YtinaibebdacnmaaDoorValC
import Derived.Test.YtinaibebdacnmaaDoorFloat
import Derived.Test.YtinaibebdacnmaaDoorPureOv
namespace Go.Proofs.YtinaibebdacnmaaDoor
open Go.RowKit Go.Proofs.YtinaibebdacnmaaDoorW.PrintWords
attribute [local go_sem] run_store_float

theorem ord0 (n : Nat) (h : n < 18446744073709551616) : FloatKind.f64.format.order n 0 = some .eq ↔ (n = 0 ∨ n = 9223372036854775808) := by
  have e := Fl.order_beq n 0
  have z : Fl.isNan 0 = false := by decide
  have q : Fl.pos 0 = 0 := by decide
  rw [z, q] at e
  have e2 : (FloatKind.f64.format.order n 0 = some .eq) ↔ ((Ieee.double.order n 0 == some .eq) = true) := by rw [beq_iff_eq]; rfl
  rw [e2, e]
  simp only [Bool.not_false, Bool.and_true, Bool.and_eq_true, Bool.not_eq_true', decide_eq_true_eq]
  unfold Fl.isNan Fl.pos Fl.sz Fl.sg Fl.inf
  constructor
  · rintro ⟨_, h2⟩
    split at h2 <;> omega
  · rintro (rfl | rfl) <;> decide

theorem minus_c (n : Nat) (h : n < 18446744073709551616) (w : World) : Calls Tryd.prog 46 #[.float .f64 n] w fun e w' => e = .returned (.bool (decide (n = 9223372036854775808))) ∧ w' = w := by
  have ho := ord0 n h
  by_cases h0 : n = 0
  · subst h0
    have hq : ∀ w, (binOp .quo 30 (.float .f64 4607182418800017408) (.float .f64 0)).run Tryd.prog w = .ok (.float .f64 9218868437227405312) w := fun w => by kernel_rfl
    have h1 : FloatKind.f64.format.order 0 0 = some .eq := by decide
    have h2 : FloatKind.f64.format.order 9218868437227405312 0 = some .gt := by decide
    clear ho h
    go_enter Tryd.func46, Tryd.ntmps46
    go_wp2
    go_ret
    exact ⟨rfl, rfl⟩
  · by_cases h1 : n = 9223372036854775808
    · subst h1
      have hq : ∀ w, (binOp .quo 30 (.float .f64 4607182418800017408) (.float .f64 9223372036854775808)).run Tryd.prog w = .ok (.float .f64 18442240474082181120) w := fun w => by kernel_rfl
      have h1 : FloatKind.f64.format.order 9223372036854775808 0 = some .eq := by decide
      have h2 : FloatKind.f64.format.order 18442240474082181120 0 = some .lt := by decide
      clear ho h h0
      go_enter Tryd.func46, Tryd.ntmps46
      go_wp2
      go_ret
      exact ⟨rfl, rfl⟩
    · have h2 : ¬ FloatKind.f64.format.order n 0 = some .eq := fun e => (ho.1 e).elim h0 h1
      have h3 := Fact.mk h1
      clear ho h h0 h1
      go_enter Tryd.func46, Tryd.ntmps46
      go_wp2
      go_ret
      exact ⟨by rw [decide_eq_false h3.out]; rfl, rfl⟩
theorem ret_bool' {a b : Bool} (h : a = b) : Ending.returned (.bool a) = .returned (.bool b) := by rw [h]

set_option maxRecDepth 100000 in
theorem rGood1_c (b : Bool) (n : Nat) (s : ByteArray) (i : Int) (h : n < 18446744073709551616) (w : World) :
    Calls Tryd.prog 22 #[VV 1 b n s i] w fun e w' => e = .returned (.bool (!b && (decide (s.toList = []) && (decide (i = 0) && decide (n = 0))))) ∧ Below w.heap.size w w' := by
  unfold VV
  go_enter Tryd.func22, Tryd.ntmps22
  go_wp2_with ((go_at_call 46; refine (minus_c _ h _).mono ?_; rintro e w1 ⟨rfl, rfl⟩))
  all_goals
    go_ret
    refine ⟨ret_bool' ?_, (Below.refl _ _).alloc (Nat.le_refl _) _⟩
    have ho := ord0 n h
    first | (simp_all; done) | (rw [Bool.eq_iff_iff]; simp_all; done) | (rw [Bool.eq_iff_iff]; simp_all; omega)
set_option maxRecDepth 100000 in
theorem rGood2_c (b : Bool) (n : Nat) (s : ByteArray) (i : Int) (h : n < 18446744073709551616) (w : World) :
    Calls Tryd.prog 22 #[VV 2 b n s i] w fun e w' => e = .returned (.bool (!b && (decide (s.toList = []) && (decide (i = 0) && decide (n = 0))))) ∧ Below w.heap.size w w' := by
  unfold VV
  go_enter Tryd.func22, Tryd.ntmps22
  go_wp2_with ((go_at_call 46; refine (minus_c _ h _).mono ?_; rintro e w1 ⟨rfl, rfl⟩))
  all_goals
    go_ret
    refine ⟨ret_bool' ?_, (Below.refl _ _).alloc (Nat.le_refl _) _⟩
    have ho := ord0 n h
    first | (simp_all; done) | (rw [Bool.eq_iff_iff]; simp_all; done) | (rw [Bool.eq_iff_iff]; simp_all; omega)
set_option maxRecDepth 100000 in
theorem rGood3_c (b : Bool) (n : Nat) (s : ByteArray) (i : Int) (h : n < 18446744073709551616) (w : World) :
    Calls Tryd.prog 22 #[VV 3 b n s i] w fun e w' => e = .returned (.bool (decide (s.toList = []) && (decide (i = 0) && decide (n = 0)))) ∧ Below w.heap.size w w' := by
  unfold VV
  go_enter Tryd.func22, Tryd.ntmps22
  go_wp2_with ((go_at_call 46; refine (minus_c _ h _).mono ?_; rintro e w1 ⟨rfl, rfl⟩))
  all_goals
    go_ret
    refine ⟨ret_bool' ?_, (Below.refl _ _).alloc (Nat.le_refl _) _⟩
    have ho := ord0 n h
    first | (simp_all; done) | (rw [Bool.eq_iff_iff]; simp_all; done) | (rw [Bool.eq_iff_iff]; simp_all; omega)
set_option maxRecDepth 100000 in
theorem rGood4_c (b : Bool) (n : Nat) (s : ByteArray) (i : Int) (h : n < 18446744073709551616) (w : World) :
    Calls Tryd.prog 22 #[VV 4 b n s i] w fun e w' => e = .returned (.bool (!b && (decide (s.toList = []) && decide (i = 0)))) ∧ Below w.heap.size w w' := by
  unfold VV
  go_enter Tryd.func22, Tryd.ntmps22
  go_wp2_with ((go_at_call 46; refine (minus_c _ h _).mono ?_; rintro e w1 ⟨rfl, rfl⟩))
  all_goals
    go_ret
    refine ⟨ret_bool' ?_, (Below.refl _ _).alloc (Nat.le_refl _) _⟩
    have ho := ord0 n h
    first | (simp_all; done) | (rw [Bool.eq_iff_iff]; simp_all; done) | (rw [Bool.eq_iff_iff]; simp_all; omega)
set_option maxRecDepth 100000 in
theorem rGood5_c (b : Bool) (n : Nat) (s : ByteArray) (i : Int) (h : n < 18446744073709551616) (w : World) :
    Calls Tryd.prog 22 #[VV 5 b n s i] w fun e w' => e = .returned (.bool ((decide ((s.size : Int) ≤ 1048576) && (Pt.all s).2) && (!b && (decide (i = 0) && decide (n = 0))))) ∧ Below w.heap.size w w' := by
  unfold VV
  have hbb0 : True := trivial
  have hV := Fact.mk (fun (K : Nat) (hs : (s.size : Int) ≤ 1048576) (hK : 40 + 9 * s.size ≤ K) => PR.Valid_eq s (by omega) K hK)
  have hval := Fact.mk (PR.all_val s)
  go_enter Tryd.func22, Tryd.ntmps22
  go_wp2_with (first | (go_at_call 46; refine (minus_c _ h _).mono ?_; rintro e w1 ⟨rfl, rfl⟩) | (go_at_call 47; refine (U.cameoref01_Valid.calls (40 + 9 * s.size) s _ _ (hV.out _ (by assumption) (Nat.le_refl _))).mono ?_; rintro e w1 ⟨rfl, hb⟩; have hbb := below1 hb))
  all_goals
    go_ret
    refine ⟨ret_bool' ?_, by first | exact hbb | exact (Below.refl _ _).alloc (Nat.le_refl _) _⟩
    have ho := ord0 n h
    have hv := hval.out
    clear hV hval
    first | (simp_all; done) | (rw [Bool.eq_iff_iff]; simp_all; done) | (rw [Bool.eq_iff_iff]; simp_all; omega)
set_option maxRecDepth 100000 in
theorem rGood6_c (b : Bool) (n : Nat) (s : ByteArray) (i : Int) (h : n < 18446744073709551616) (w : World) :
    Calls Tryd.prog 22 #[VV 6 b n s i] w fun e w' => e = .returned (.bool ((decide (1 ≤ i) && decide (i ≤ 65536)) && (!b && (decide (s.toList = []) && decide (n = 0))))) ∧ Below w.heap.size w w' := by
  unfold VV
  go_enter Tryd.func22, Tryd.ntmps22
  go_wp2_with ((go_at_call 46; refine (minus_c _ h _).mono ?_; rintro e w1 ⟨rfl, rfl⟩))
  all_goals
    go_ret
    refine ⟨ret_bool' ?_, (Below.refl _ _).alloc (Nat.le_refl _) _⟩
    have ho := ord0 n h
    first | (simp_all; done) | (rw [Bool.eq_iff_iff]; simp_all; done) | (rw [Bool.eq_iff_iff]; simp_all; omega)
set_option maxRecDepth 100000 in
theorem rGood7_c (b : Bool) (n : Nat) (s : ByteArray) (i : Int) (h : n < 18446744073709551616) (w : World) :
    Calls Tryd.prog 22 #[VV 7 b n s i] w fun e w' => e = .returned (.bool ((decide (1 ≤ i) && decide (i ≤ 65536)) && (!b && (decide (s.toList = []) && decide (n = 0))))) ∧ Below w.heap.size w w' := by
  unfold VV
  go_enter Tryd.func22, Tryd.ntmps22
  go_wp2_with ((go_at_call 46; refine (minus_c _ h _).mono ?_; rintro e w1 ⟨rfl, rfl⟩))
  all_goals
    go_ret
    refine ⟨ret_bool' ?_, (Below.refl _ _).alloc (Nat.le_refl _) _⟩
    have ho := ord0 n h
    first | (simp_all; done) | (rw [Bool.eq_iff_iff]; simp_all; done) | (rw [Bool.eq_iff_iff]; simp_all; omega)
set_option maxRecDepth 100000 in
theorem rGood0_c (k : Int) (b : Bool) (n : Nat) (s : ByteArray) (i : Int) (hk : ¬ (1 ≤ k ∧ k ≤ 7)) (w : World) :
    Calls Tryd.prog 22 #[VV k b n s i] w fun e w' => e = .returned (.bool false) ∧ Below w.heap.size w w' := by
  unfold VV
  by_cases h1 : k < 1
  · clear hk
    go_enter Tryd.func22, Tryd.ntmps22
    go_wp2
    go_ret
    exact ⟨rfl, (Below.refl _ _).alloc (Nat.le_refl _) _⟩
  · have h2 : 7 < k := by omega
    clear hk
    go_enter Tryd.func22, Tryd.ntmps22
    go_wp2
    go_ret
    exact ⟨rfl, (Below.refl _ _).alloc (Nat.le_refl _) _⟩
end Go.Proofs.YtinaibebdacnmaaDoor
