/- The law NumberDivides. -/
import Derived.Test.YtmcibofnanbhpaaRemC
namespace Go.Proofs.Ytmcibofnanbhpaa
open Go.RowKit

namespace Fl
theorem u32_bd (x : Nat) : 0 ≤ u32 x ∧ u32 x < 4294967296 := by unfold u32; split <;> omega
end Fl

theorem int32_c (x : Nat) (hx : x < 18446744073709551616) (w : World) : Calls Try.prog 17 #[.float .f64 x] w fun e w' => e = .returned (.int .i32 (wrap32 (Fl.u32 x))) ∧ w = w' := by
  have hU := Fl.Hd.mk (uint32_c x hx)
  generalize Fl.u32 x = U at *
  go_enter Try.func17, Try.ntmps17
  go_wp2_with (go_at_call 18; refine (hU.out _).mono ?_; rintro e w' ⟨rfl, rfl⟩)
  go_ret
  exact ⟨rfl, rfl⟩
theorem rem_c (x y : Nat) (hx : x < 18446744073709551616) (hy : y < 18446744073709551616) (w : World) : Calls Try.prog 8 #[.float .f64 x, .float .f64 y] w fun e w' => e = .returned (.float .f64 (Fl.fmod 9221120237041090561 x y)) ∧ w = w' := by
  have hM := Fl.Hd.mk (mod_c x y hx hy)
  generalize Fl.fmod 9221120237041090561 x y = R at *
  go_enter Try.func8, Try.ntmps8
  go_wp2_with (go_at_call 34; refine (hM.out _).mono ?_; rintro e w' ⟨rfl, rfl⟩)
  go_ret
  exact ⟨rfl, rfl⟩
theorem shl_c (x y : Nat) (hx : x < 18446744073709551616) (hy : y < 18446744073709551616) (w : World) : Calls Try.prog 10 #[.float .f64 x, .float .f64 y] w fun e w' => e = .returned (.int .i32 (wrap32 (wrap32 (Fl.u32 x) * 2 ^ (Fl.u32 y % 32).toNat))) ∧ w = w' := by
  have hU := Fl.Hd.mk (uint32_c y hy)
  have hI := Fl.Hd.mk (int32_c x hx)
  have b2 := Fl.u32_bd y
  generalize Fl.u32 y = V at *
  generalize wrap32 (Fl.u32 x) = U at *
  go_enter Try.func10, Try.ntmps10
  go_wp2_with (first | (go_at_call 18; refine (hU.out _).mono ?_; rintro e w' ⟨rfl, rfl⟩) | (go_at_call 17; refine (hI.out _).mono ?_; rintro e w' ⟨rfl, rfl⟩))
  go_ret
  exact ⟨rfl, rfl⟩
theorem shr_c (x y : Nat) (hx : x < 18446744073709551616) (hy : y < 18446744073709551616) (w : World) : Calls Try.prog 11 #[.float .f64 x, .float .f64 y] w fun e w' => e = .returned (.int .i32 (wrap32 (Fl.u32 x) / 2 ^ (Fl.u32 y % 32).toNat)) ∧ w = w' := by
  have hU := Fl.Hd.mk (uint32_c y hy)
  have hI := Fl.Hd.mk (int32_c x hx)
  have b2 := Fl.u32_bd y
  generalize Fl.u32 y = V at *
  generalize wrap32 (Fl.u32 x) = U at *
  go_enter Try.func11, Try.ntmps11
  go_wp2_with (first | (go_at_call 18; refine (hU.out _).mono ?_; rintro e w' ⟨rfl, rfl⟩) | (go_at_call 17; refine (hI.out _).mono ?_; rintro e w' ⟨rfl, rfl⟩))
  go_ret
  exact ⟨rfl, rfl⟩
theorem ushr_c (x y : Nat) (hx : x < 18446744073709551616) (hy : y < 18446744073709551616) (w : World) : Calls Try.prog 12 #[.float .f64 x, .float .f64 y] w fun e w' => e = .returned (.int .u32 (Fl.u32 x / 2 ^ (Fl.u32 y % 32).toNat)) ∧ w = w' := by
  have hU := Fl.Hd.mk (uint32_c y hy)
  have hI := Fl.Hd.mk (uint32_c x hx)
  have b2 := Fl.u32_bd y
  have b1 := Fl.u32_bd x
  generalize Fl.u32 y = V at *
  generalize Fl.u32 x = U at *
  go_enter Try.func12, Try.ntmps12
  go_wp2_with (go_at_call 18; first | ((with_reducible refine (hI.out _).mono ?_); rintro e w' ⟨rfl, rfl⟩) | ((with_reducible refine (hU.out _).mono ?_); rintro e w' ⟨rfl, rfl⟩))
  go_ret
  exact ⟨rfl, rfl⟩
theorem rSame_c (a b : Nat) (ha : a < 18446744073709551616) (hb : b < 18446744073709551616) (w : World) :
    Calls Try.prog 33 #[.float .f64 a, .float .f64 b] w fun e w' => e = .returned (.bool (Fl.same a b)) ∧ w = w' := by
  have hb1 := run_bits a
  have hb2 := run_bits b
  cases na : Fl.isNan a <;> cases nb : Fl.isNan b
  all_goals
    go_enter Try.func33, Try.ntmps33
    go_wp2_with (first | (go_at_call 35; refine (nan_c _ (by assumption) _).mono ?_; rintro e w' ⟨rfl, rfl⟩))
    go_ret
    refine ⟨ret_bool ?_, rfl⟩
    unfold Fl.same
    rw [na, nb]
    first | rfl | exact Fl.int_beq a b
theorem alike_c (a b : Nat) (ha : a < 18446744073709551616) (hb : b < 18446744073709551616) (w : World) :
    Calls Try.prog 7 #[.float .f64 a, .float .f64 b] w fun e w' => e = .returned (.bool (Fl.same a b)) ∧ w = w' := by
  have h := Fl.Hd.mk (rSame_c a b ha hb)
  generalize Fl.same a b = S at *
  go_enter Try.func7, Try.ntmps7
  go_wp2_with (go_at_call 33; refine (h.out _).mono ?_; rintro e w' ⟨rfl, rfl⟩)
  go_ret
  exact ⟨rfl, rfl⟩
theorem float_c (n : Nat) (w : World) : Calls Try.prog 5 #[.int .u64 n] w fun e w' => e = .returned (.float .f64 n) ∧ w = w' := by
  have hb := run_frombits n
  go_enter Try.func5, Try.ntmps5
  go_wp2
  go_ret
  exact ⟨ret_float rfl, rfl⟩

namespace Fl
theorem shl_wrap (U P : Int) : wrap32 (wrap32 U * P) = wrap32 (U * P % 4294967296) := by
  obtain ⟨j, hj⟩ : ∃ j : Int, wrap32 U = U + 4294967296 * j := ⟨(wrap32 U - U) / 4294967296, by unfold wrap32; omega⟩
  rw [hj, Int.add_mul, Int.mul_assoc]
  generalize U * P = X
  generalize j * P = Y
  unfold wrap32
  omega
theorem rho_lt (x y : Nat) (hx : x < inf) : rho (V x % V y) < inf := by
  by_cases h : y ≤ x
  · have hv := V_lt_iff.2 hx
    have hle := Nat.mod_le (V x) (V y)
    by_cases h0 : y = 0
    · subst h0; rw [V_zero, Nat.mod_zero, rho_eq rfl]; exact hx
    · have hm := Nat.mod_lt (M x * 2 ^ (E x - E y)) (M_pos (show 0 < y by omega))
      have := M_lt y
      have e := mod_place x y h
      obtain ⟨r, hr, hrv⟩ := rep (M x * 2 ^ (E x - E y) % M y) (E y) (by omega) (by rw [← e]; omega)
      rw [e, rho_eq hrv]; exact hr
  · rw [Nat.mod_eq_of_lt (V_lt_iff.2 (by omega)), rho_eq rfl]; exact hx
theorem fmod_lt (nn x y : Nat) (hn : nn < 18446744073709551616) (hx : x < 18446744073709551616) : fmod nn x y < 18446744073709551616 := by
  unfold fmod
  split
  · exact hn
  · split
    · exact hx
    · rename_i hb _
      have h : sz x < inf := by
        unfold bad isNan at hb
        simp at hb
        omega
      have := rho_lt (sz x) (sz y) h
      exact mk_lt _ (inf63 this)
end Fl

set_option maxRecDepth 100000 in
theorem law_divides (a b : Nat) (ha : a < 18446744073709551616) (hb : b < 18446744073709551616) (w : World) :
    Calls Try.prog 3 #[.int .u64 a, .int .u64 b] w fun e w' => e = .returned (.bool true) ∧ w = w' := by
  have f1 := Fl.Hd.mk (float_c a)
  have f2 := Fl.Hd.mk (float_c b)
  have g1 := Fl.Hd.mk (modulo_c a ha)
  have g2 := Fl.Hd.mk (modulo_c b hb)
  have r1 := Fl.Hd.mk (rem_c a b ha hb)
  have r2 := Fl.Hd.mk (rRem_c a b ha hb)
  have al := alike_c (Fl.fmod 9221120237041090561 a b) (Fl.fmod 9218868437227405313 a b) (Fl.fmod_lt _ _ _ (by decide) ha) (Fl.fmod_lt _ _ _ (by decide) ha)
  rw [Fl.fmod_same _ _ a b (by decide) (by decide)] at al
  have al := Fl.Hd.mk al
  have s1 := Fl.Hd.mk (shl_c a b ha hb)
  have s2 := Fl.Hd.mk (shr_c a b ha hb)
  have s3 := Fl.Hd.mk (ushr_c a b ha hb)
  have b1 := Fl.u32_bd a
  have b2 := Fl.u32_bd b
  generalize Fl.fmod 9221120237041090561 a b = R1 at *
  generalize Fl.fmod 9218868437227405313 a b = R2 at *
  generalize Fl.u32 a = U at *
  generalize Fl.u32 b = V at *
  have q := Fl.shl_wrap U (2 ^ (V % 32).toNat)
  go_enter Try.func3, Try.ntmps3
  go_wp2_with (first | (go_at_call 5; first | ((with_reducible refine (f1.out _).mono ?_); rintro e w' ⟨rfl, rfl⟩) | ((with_reducible refine (f2.out _).mono ?_); rintro e w' ⟨rfl, rfl⟩)) | (go_at_call 6; first | ((with_reducible refine (g1.out _).mono ?_); rintro e w' ⟨⟨n1, rfl, hn1, hn2, hn3⟩, rfl⟩) | ((with_reducible refine (g2.out _).mono ?_); rintro e w' ⟨⟨n2, rfl, hn4, hn5, hn6⟩, rfl⟩)) | (go_at_call 8; refine (r1.out _).mono ?_; rintro e w' ⟨rfl, rfl⟩) | (go_at_call 9; refine (r2.out _).mono ?_; rintro e w' ⟨rfl, rfl⟩) | (go_at_call 7; refine (al.out _).mono ?_; rintro e w' ⟨rfl, rfl⟩) | (go_at_call 10; refine (s1.out _).mono ?_; rintro e w' ⟨rfl, rfl⟩) | (go_at_call 11; refine (s2.out _).mono ?_; rintro e w' ⟨rfl, rfl⟩) | (go_at_call 12; refine (s3.out _).mono ?_; rintro e w' ⟨rfl, rfl⟩))
  go_ret
  exact ⟨rfl, rfl⟩
end Go.Proofs.Ytmcibofnanbhpaa
