/- The reference's Is, Zero, Equal and Truth: what each call comes to. -/
import Derived.Test.YtiegeggafhmehaaDoorValT
import Derived.Deep.QuietTactic
import Derived.BigQuiet
namespace Go.Proofs.YtiegeggafhmehaaDoor
open Go.RowKit Go.Proofs.YtiegeggafhmehaaDoorW.PrintWords
attribute [local go_sem] run_store_float

theorem ord_eq (a b : Nat) : FloatKind.f64.format.order a b = some .eq ↔ (Fl.isNan a = false ∧ Fl.isNan b = false ∧ Fl.pos a = Fl.pos b) := by
  have e := Fl.order_beq a b
  have e2 : (FloatKind.f64.format.order a b = some .eq) ↔ ((Ieee.double.order a b == some .eq) = true) := by rw [beq_iff_eq]; rfl
  rw [e2, e]
  simp [and_assoc]
theorem sz0 (a : Nat) (h : a < 18446744073709551616) : Fl.sz a = 0 ↔ (a = 0 ∨ a = 9223372036854775808) := by unfold Fl.sz; omega
/-- SameValue of two numbers that are numbers. -/
theorem same_minus (a b : Nat) (ha : a < 18446744073709551616) (hb : b < 18446744073709551616) (na : Fl.isNan a = false) (nb : Fl.isNan b = false) :
    (Fl.pos a = Fl.pos b ∧ (a = 9223372036854775808 ↔ b = 9223372036854775808)) ↔ Fl.same a b = true := by
  unfold Fl.same
  rw [na, nb, Fl.pos_eq_iff, sz0 a ha, sz0 b hb]
  simp only [Bool.and_self, Bool.false_or, beq_iff_eq]
  constructor
  · rintro ⟨⟨h1, h2⟩ | ⟨h1, h2⟩, h3⟩
    · exact Fl.word_ext ha hb h1 h2
    · omega
  · rintro rfl
    exact ⟨.inl ⟨rfl, rfl⟩, Iff.rfl⟩

theorem below_drewN_ {B : Nat} {a w : World} (h : Below B a w) : ∀ q, Below B a (w.drewN q)
  | 0 => h
  | q + 1 => (below_drewN_ h q).drew
theorem ret_b {a b : Bool} (h : a = b) : Ending.returned (.bool a) = .returned (.bool b) := by rw [h]

set_option maxRecDepth 100000 in
set_option maxHeartbeats 800000 in
theorem isn_c (b : Bool) (n : Nat) (s : ByteArray) (i : Int) (b' : Bool) (n' : Nat) (s' : ByteArray) (i' : Int) (hn : n < 18446744073709551616) (hn' : n' < 18446744073709551616) (w : World) :
    Calls Tryd.prog 47 #[VV 4 b n s i, VV 4 b' n' s' i'] w fun e w' => e = .returned (.bool (Fl.same n n')) ∧ Below w.heap.size w w' := by
  have hHB := below2 w (.cells #[.int .i64 4, .bool b, .float .f64 n, .string s, .int .i64 i] 42) (.cells #[.int .i64 4, .bool b', .float .f64 n', .string s', .int .i64 i'] 42)
  have q1 := Fact.mk (ord_nn n)
  have q2 := Fact.mk (ord_nn n')
  have q3 := Fact.mk (ord_eq n n')
  unfold VV
  by_cases c1 : FloatKind.f64.format.order n n = some .eq
  · by_cases c2 : FloatKind.f64.format.order n' n' = some .eq
    · have na := q1.out.1 c1
      have nb := q2.out.1 c2
      have q4 := Fact.mk (same_minus n n' hn hn' na nb)
      cases c3 : (FloatKind.f64.format.order n n' == some .eq)
      · have c3' : ¬ FloatKind.f64.format.order n n' = some .eq := by simpa using c3
        have q5 := Fact.mk (show Fl.same n n' = false from by
          rw [Bool.eq_false_iff]; intro e
          exact c3' (q3.out.2 ⟨na, nb, (q4.out.2 e).1⟩))
        clear c3'
        go_enter Tryd.func47, Tryd.ntmps47
        go_wp2
        go_quiet ((go_at_call 91; exact Calls.quiet_of_same (minus_c _ (by assumption) _)))
        go_wp2
        go_ret
        exact ⟨ret_b (by rw [q5.out]), below_drewN_ (below2 _ _ _) _⟩
      · have c3' : FloatKind.f64.format.order n n' = some .eq := by simpa using c3
        have hp := Fact.mk (q3.out.1 c3').2.2
        clear c3
        go_enter Tryd.func47, Tryd.ntmps47
        go_wp2
        go_quiet ((go_at_call 91; exact Calls.quiet_of_same (minus_c _ (by assumption) _)))
        go_wp2
        go_ret
        refine ⟨ret_b ?_, below_drewN_ (below2 _ _ _) _⟩
        rw [Bool.eq_iff_iff, ← q4.out]
        simp only [hp.out, true_and, beq_iff_eq, decide_eq_decide]
    · have na := q1.out.1 c1
      have nb : Fl.isNan n' = true := by cases h : Fl.isNan n' with
        | true => rfl
        | false => exact absurd (q2.out.2 h) c2
      have q5 := Fact.mk (show Fl.same n n' = false from by
        unfold Fl.same; rw [na, nb]
        have : n ≠ n' := by rintro rfl; rw [na] at nb; cases nb
        simp [this])
      have c2' : (FloatKind.f64.format.order n' n' != some .eq) = true := by simpa using c2
      clear c2
      go_enter Tryd.func47, Tryd.ntmps47
      go_wp2
      all_goals
        go_ret
        exact ⟨ret_b (by rw [q5.out]), below2 _ _ _⟩
  · have na : Fl.isNan n = true := by cases h : Fl.isNan n with
      | true => rfl
      | false => exact absurd (q1.out.2 h) c1
    have q5 := Fact.mk (show Fl.same n n' = Fl.isNan n' from by
      unfold Fl.same; rw [na]
      by_cases e : n = n'
      · subst e; rw [na]; simp
      · simp [e])
    go_enter Tryd.func47, Tryd.ntmps47
    go_wp2
    all_goals
      go_ret
      refine ⟨ret_b ?_, below2 _ _ _⟩
      rw [q5.out]
      have q2o := q2.out
      first | (simp_all; done) | (rw [Bool.eq_iff_iff]; simp_all; done) | (cases hh : Fl.isNan n' <;> simp_all)
set_option maxRecDepth 100000 in
set_option maxHeartbeats 800000 in
theorem iso_c (k : Int) (b : Bool) (n : Nat) (s : ByteArray) (i : Int) (k' : Int) (b' : Bool) (n' : Nat) (s' : ByteArray) (i' : Int) (hk : ¬ (k = 4 ∧ k' = 4)) (w : World) :
    Calls Tryd.prog 47 #[VV k b n s i, VV k' b' n' s' i'] w fun e w' => e = .returned (.bool (decide (k = k') && (b == b') && decide (s.toList = s'.toList) && decide (i = i'))) ∧ Below w.heap.size w w' := by
  have hHB := below2 w (.cells #[.int .i64 k, .bool b, .float .f64 n, .string s, .int .i64 i] 42) (.cells #[.int .i64 k', .bool b', .float .f64 n', .string s', .int .i64 i'] 42)
  unfold VV
  by_cases hkk : k = k'
  · subst hkk
    have h4 : ¬ k = 4 := fun e => hk ⟨e, e⟩
    clear hk
    go_enter Tryd.func47, Tryd.ntmps47
    go_wp2
    all_goals
      go_ret
      refine ⟨ret_b ?_, below2 _ _ _⟩
      first | (simp_all; done) | (rw [Bool.eq_iff_iff]; simp_all; done)
  · clear hk
    go_enter Tryd.func47, Tryd.ntmps47
    go_wp2
    all_goals
      go_ret
      refine ⟨ret_b ?_, below2 _ _ _⟩
      first | (simp_all; done) | (rw [Bool.eq_iff_iff]; simp_all; done)
theorem is_c (k : Int) (b : Bool) (n : Nat) (s : ByteArray) (i : Int) (k' : Int) (b' : Bool) (n' : Nat) (s' : ByteArray) (i' : Int) (hn : n < 18446744073709551616) (hn' : n' < 18446744073709551616) (w : World) :
    Calls Tryd.prog 47 #[VV k b n s i, VV k' b' n' s' i'] w fun e w' => e = .returned (.bool (hv (Fl.same n n') k b n s i k' b' n' s' i')) ∧ Below w.heap.size w w' := by
  by_cases h4 : k = 4
  · subst h4
    by_cases h4' : k' = 4
    · subst h4'
      refine (isn_c b n s i b' n' s' i' hn hn' w).mono fun e w' ⟨he, hb⟩ => ⟨?_, hb⟩
      rw [he]; simp [hv]
    · refine (iso_c 4 b n s i k' b' n' s' i' (fun h => h4' h.2) w).mono fun e w' ⟨he, hb⟩ => ⟨?_, hb⟩
      rw [he]; refine ret_b ?_
      have : ¬ (4 : Int) = k' := fun e => h4' e.symm
      simp [hv, h4', this]
  · refine (iso_c k b n s i k' b' n' s' i' (fun h => h4 h.1) w).mono fun e w' ⟨he, hb⟩ => ⟨?_, hb⟩
    rw [he]; refine ret_b ?_
    simp [hv, h4]
end Go.Proofs.YtiegeggafhmehaaDoor
