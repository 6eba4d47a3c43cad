/- Same, Same0, Equal, Less of the program and of the reference: each pair comes to one plain function of the bits. -/
import Derived.Test.YtiegeggafhmehaaBase
import Derived.Deep.QuietTactic
import Derived.BigQuiet
namespace Go.Proofs.Ytiegeggafhmehaa
open Go.RowKit

theorem pSame_c (a b : Nat) (ha : a < 18446744073709551616) (hb : b < 18446744073709551616) (w : World) :
    Calls Try.prog 8 #[.float .f64 a, .float .f64 b] w fun e w' => e = .returned (.bool (Fl.same a b)) ∧ w = w' := by
  cases na : Fl.isNan a <;> cases nb : Fl.isNan b
  · have hs := Fl.Hd.mk (Fl.same_num ha hb na nb)
    cases ho : (FloatKind.f64.format.order a b == some .eq)
    all_goals
      go_enter Try.func8, Try.ntmps8
      go_wp2_with (first | (go_at_call 22; refine (isNaN_c _ _).mono ?_; rintro e w' ⟨rfl, rfl⟩) | (go_at_call 25; refine (signbit_c _ (by assumption) _).mono ?_; rintro e w' ⟨rfl, rfl⟩))
      go_ret
      refine ⟨ret_bool ?_, rfl⟩
      rw [← hs.out, ← Fl.fmt, ho]; rfl
  all_goals
    have hs := Fl.Hd.mk (Fl.same_nan (a := a) (b := b) (by rw [na, nb]; rfl))
    go_enter Try.func8, Try.ntmps8
    go_wp2_with (first | (go_at_call 22; refine (isNaN_c _ _).mono ?_; rintro e w' ⟨rfl, rfl⟩))
    go_ret
    refine ⟨ret_bool ?_, rfl⟩
    rw [← hs.out, na, nb]; rfl

theorem pEqual_c (a b : Nat) (w : World) :
    Calls Try.prog 12 #[.float .f64 a, .float .f64 b] w fun e w' => e = .returned (.bool (Fl.equal a b)) ∧ w = w' := by
  go_enter Try.func12, Try.ntmps12
  go_wp2
  go_ret
  exact ⟨ret_bool (Fl.order_beq a b), rfl⟩

theorem pSame0_c (a b : Nat) (ha : a < 18446744073709551616) (hb : b < 18446744073709551616) (w : World) :
    Calls Try.prog 10 #[.float .f64 a, .float .f64 b] w fun e w' => e = .returned (.bool (Fl.same0 a b)) ∧ w = w' := by
  have hs := Fl.Hd.mk (Fl.same0_or ha hb)
  have ho := Fl.Hd.mk (Fl.order_beq a b)
  cases h1 : Fl.same a b
  all_goals
    go_enter Try.func10, Try.ntmps10
    go_wp2_with (first | (go_at_call 8; refine (pSame_c _ _ (by assumption) (by assumption) _).mono ?_; rintro e w' ⟨rfl, rfl⟩))
    go_ret
    refine ⟨ret_bool ?_, rfl⟩
    rw [← hs.out, h1]
    first | rfl | exact ho.out

theorem pLess_c (a b : Nat) (w : World) :
    Calls Try.prog 6 #[.float .f64 a, .float .f64 b] w fun e w' => e = .returned (.tuple #[.bool (Fl.less a b), .bool (!Fl.isNan a && !Fl.isNan b)]) ∧ w = w' := by
  have ho := Fl.Hd.mk (Fl.order_lt a b)
  cases na : Fl.isNan a <;> cases nb : Fl.isNan b
  all_goals
    go_enter Try.func6, Try.ntmps6
    go_wp2_with (first | (go_at_call 22; refine (isNaN_c _ _).mono ?_; rintro e w' ⟨rfl, rfl⟩))
    go_ret2
    refine ⟨ret_bool2 ?_ rfl, rfl⟩
    first | (exact ho.out) | (unfold Fl.less; rw [na, nb]; rfl)

theorem rSame_c (a b : Nat) (ha : a < 18446744073709551616) (hb : b < 18446744073709551616) (w : World) :
    Calls Try.prog 9 #[.float .f64 a, .float .f64 b] w fun e w' => e = .returned (.bool (Fl.same a b)) ∧ w = w' := by
  have hb1 := run_bits a
  have hb2 := run_bits b
  cases na : Fl.isNan a <;> cases nb : Fl.isNan b
  all_goals
    go_enter Try.func9, Try.ntmps9
    go_wp2_with (first | (go_at_call 23; refine (nan_c _ (by assumption) _).mono ?_; rintro e w' ⟨rfl, rfl⟩))
    go_ret
    refine ⟨ret_bool ?_, rfl⟩
    unfold Fl.same
    rw [na, nb]
    first | rfl | exact Fl.int_beq a b

theorem rSame0_c (a b : Nat) (ha : a < 18446744073709551616) (hb : b < 18446744073709551616) (w : World) :
    Calls Try.prog 11 #[.float .f64 a, .float .f64 b] w fun e w' => e = .returned (.bool (Fl.same0 a b)) ∧ w = w' := by
  cases h1 : Fl.same a b <;> cases h2 : (((Fl.sz a : Nat) : Int) == 0)
  all_goals
    go_enter Try.func11, Try.ntmps11
    go_wp2_with (first | (go_at_call 9; refine (rSame_c _ _ (by assumption) (by assumption) _).mono ?_; rintro e w' ⟨rfl, rfl⟩) | (go_at_call 27; refine (size_c _ (by assumption) _).mono ?_; rintro e w' ⟨rfl, rfl⟩))
    go_ret
    refine ⟨ret_bool ?_, rfl⟩
    unfold Fl.same0
    rw [h1]
    rw [Fl.int_beq0] at h2
    rw [h2]
    first | rfl | exact Fl.int_beq0 _

theorem rEqual_c (a b : Nat) (ha : a < 18446744073709551616) (hb : b < 18446744073709551616) (w : World) :
    Calls Try.prog 13 #[.float .f64 a, .float .f64 b] w fun e w' => e = .returned (.bool (Fl.equal a b)) ∧ w = w' := by
  have hs := Fl.Hd.mk (Fl.equal_same0 ha hb)
  cases na : Fl.isNan a <;> cases nb : Fl.isNan b
  all_goals
    go_enter Try.func13, Try.ntmps13
    go_wp2_with (first | (go_at_call 23; refine (nan_c _ (by assumption) _).mono ?_; rintro e w' ⟨rfl, rfl⟩) | (go_at_call 11; refine (rSame0_c _ _ (by assumption) (by assumption) _).mono ?_; rintro e w' ⟨rfl, rfl⟩))
    go_ret
    refine ⟨ret_bool ?_, rfl⟩
    rw [← hs.out, na, nb]
    rfl

theorem place_c (a : Nat) (h : a < 18446744073709551616) (w : World) : Calls Try.prog 24 #[.float .f64 a] w fun e w' => e = .returned (.int .i64 (Fl.pos a)) ∧ w = w' := by
  cases hs : Fl.sg a
  all_goals
    go_enter Try.func24, Try.ntmps24
    go_wp2_with (first | (go_at_call 30; refine (negative_c _ (by assumption) _).mono ?_; rintro e w' ⟨rfl, rfl⟩) | (go_at_call 27; refine (size_c _ (by assumption) _).mono ?_; rintro e w' ⟨rfl, rfl⟩))
    go_ret
    refine ⟨ret_int ?_, rfl⟩
    have hz := Fl.sz_lt a
    unfold Fl.pos
    rw [hs]
    simp [wrap64]
    try omega

theorem rLess_c (a b : Nat) (ha : a < 18446744073709551616) (hb : b < 18446744073709551616) (w : World) :
    Calls Try.prog 7 #[.float .f64 a, .float .f64 b] w fun e w' => e = .returned (.tuple #[.bool (Fl.less a b), .bool (!Fl.isNan a && !Fl.isNan b)]) ∧ w = w' := by
  cases na : Fl.isNan a <;> cases nb : Fl.isNan b
  all_goals
    go_enter Try.func7, Try.ntmps7
    go_wp2_with (first | (go_at_call 23; refine (nan_c _ (by assumption) _).mono ?_; rintro e w' ⟨rfl, rfl⟩) | (go_at_call 24; refine (place_c _ (by assumption) _).mono ?_; rintro e w' ⟨rfl, rfl⟩))
    go_ret2
    refine ⟨ret_bool2 ?_ rfl, rfl⟩
    unfold Fl.less; rw [na, nb]; rfl

theorem float_c (n : Nat) (w : World) : Calls Try.prog 5 #[.int .u64 n] w fun e w' => e = .returned (.float .f64 n) ∧ w = w' := by
  have hb := run_frombits n
  rw [Int.toNat_natCast] at hb
  go_enter Try.func5, Try.ntmps5
  go_wp2
  go_ret
  exact ⟨rfl, rfl⟩

theorem law_compares (a b : Nat) (ha : a < 18446744073709551616) (hb : b < 18446744073709551616) (w : World) :
    Calls Try.prog 3 #[.int .u64 a, .int .u64 b] w fun e w' => e = .returned (.bool true) ∧ w = w' := by
  go_enter Try.func3, Try.ntmps3
  go_wp2_with (first | (go_at_call 5; refine (float_c _ _).mono ?_; rintro e w' ⟨rfl, rfl⟩) | (go_at_call 6; refine (pLess_c _ _ _).mono ?_; rintro e w' ⟨rfl, rfl⟩) | (go_at_call 7; refine (rLess_c _ _ (by assumption) (by assumption) _).mono ?_; rintro e w' ⟨rfl, rfl⟩) | (go_at_call 8; refine (pSame_c _ _ (by assumption) (by assumption) _).mono ?_; rintro e w' ⟨rfl, rfl⟩) | (go_at_call 9; refine (rSame_c _ _ (by assumption) (by assumption) _).mono ?_; rintro e w' ⟨rfl, rfl⟩) | (go_at_call 10; refine (pSame0_c _ _ (by assumption) (by assumption) _).mono ?_; rintro e w' ⟨rfl, rfl⟩) | (go_at_call 11; refine (rSame0_c _ _ (by assumption) (by assumption) _).mono ?_; rintro e w' ⟨rfl, rfl⟩) | (go_at_call 12; refine (pEqual_c _ _ _).mono ?_; rintro e w' ⟨rfl, rfl⟩) | (go_at_call 13; refine (rEqual_c _ _ (by assumption) (by assumption) _).mono ?_; rintro e w' ⟨rfl, rfl⟩))
  go_ret
  exact ⟨rfl, rfl⟩

end Go.Proofs.Ytiegeggafhmehaa
