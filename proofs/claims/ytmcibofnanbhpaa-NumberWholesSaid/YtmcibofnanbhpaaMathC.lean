/- Functions of package math on floats: what each call comes to. -/
import Derived.Test.YtmcibofnanbhpaaBase
import Derived.Test.YtmcibofnanbhpaaFlM
import Derived.Outline
import Derived.Laws.FloatArith
namespace Go.Proofs.Ytmcibofnanbhpaa
open Go.RowKit

theorem abs_c (a : Nat) (h : a < 18446744073709551616) (w : World) : Calls Try.prog 54 #[.float .f64 a] w fun e w' => e = .returned (.float .f64 (Fl.sz a)) ∧ w = w' := by
  have hb := run_bits a
  have hf := run_frombits (Fl.sz a)
  have hn := Fl.andNot_sign a h
  go_enter Try.func54, Try.ntmps54
  go_wp2
  go_ret
  exact ⟨ret_float (by omega), rfl⟩

theorem mathNaN_c (w : World) : Calls Try.prog 53 #[] w fun e w' => e = .returned (.float .f64 9221120237041090561) ∧ w = w' := by
  have hf := run_frombits 9221120237041090561
  go_enter Try.func53, Try.ntmps53
  go_wp2
  go_ret
  exact ⟨rfl, rfl⟩

theorem ret_fi {a b : Nat} {c d : Int} (h : a = b) (h2 : c = d) : Ending.returned (.tuple #[.float .f64 a, .int .i64 c]) = .returned (.tuple #[.float .f64 b, .int .i64 d]) := by rw [h, h2]
theorem sz_idem (a : Nat) : Fl.sz (Fl.sz a) = Fl.sz a := by unfold Fl.sz; omega
theorem sg_sz (a : Nat) : Fl.sg (Fl.sz a) = false := by
  have := Fl.sz_lt a
  exact Fl.sg_mk false (r := Fl.sz a) this
theorem isNan_sz (a : Nat) : Fl.isNan (Fl.sz a) = Fl.isNan a := by unfold Fl.isNan; rw [sz_idem]
theorem pos_sz (a : Nat) : Fl.pos (Fl.sz a) = Fl.sz a := by unfold Fl.pos; rw [sz_idem, sg_sz]; rfl

theorem isInf_c (a : Nat) (h : a < 18446744073709551616) (w : World) : Calls Try.prog 50 #[.float .f64 a, .int .i64 0] w fun e w' => e = .returned (.bool (decide (Fl.sz a = Fl.inf))) ∧ w = w' := by
  go_enter Try.func50, Try.ntmps50
  go_wp2_with (go_at_call 54; refine (abs_c _ h _).mono ?_; rintro e w' ⟨rfl, rfl⟩)
  go_ret
  refine ⟨ret_bool ?_, rfl⟩
  refine (Fl.order_gt (Fl.sz a) 9218868437227405311).trans ?_
  rw [isNan_sz, pos_sz, show Fl.isNan 9218868437227405311 = false by decide, show Fl.pos 9218868437227405311 = 9218868437227405311 by decide]
  unfold Fl.isNan Fl.inf
  rw [Bool.eq_iff_iff]; simp; omega

theorem pFinite_c (a : Nat) (h : a < 18446744073709551616) (w : World) : Calls Try.prog 41 #[.float .f64 a] w fun e w' => e = .returned (.bool (decide (Fl.sz a < Fl.inf))) ∧ w = w' := by
  have e : (!Fl.isNan a && !decide (Fl.sz a = Fl.inf)) = decide (Fl.sz a < Fl.inf) := by unfold Fl.isNan; rw [Bool.eq_iff_iff]; simp; omega
  rw [← e]
  clear e
  have hI := Fl.Hd.mk (isInf_c a h)
  generalize decide (Fl.sz a = Fl.inf) = I at *
  cases hn : Fl.isNan a
  all_goals
    go_enter Try.func41, Try.ntmps41
    go_wp2_with (first | (go_at_call 39; refine (isNaN_c _ _).mono ?_; rintro e w' ⟨rfl, rfl⟩) | (go_at_call 50; refine (hI.out _).mono ?_; rintro e w' ⟨rfl, rfl⟩))
    go_ret
    exact ⟨by first | rfl | (cases I <;> rfl), rfl⟩

theorem normalize_c (a : Nat) (h : a < 18446744073709551616) (h0 : 0 < Fl.sz a) (hi : Fl.sz a < Fl.inf) (w : World) : Calls Try.prog 62 #[.float .f64 a] w fun e w' => e = .returned (.tuple #[.float .f64 (Fl.mk (Fl.sg a) (Fl.nz (Fl.sz a))), .int .i64 (-(Fl.kz (Fl.sz a) : Int))]) ∧ w = w' := by
  have ho := Fl.Hd.mk (Fl.order_lt (Fl.sz a) 4503599627370496)
  rw [isNan_sz, pos_sz, show Fl.isNan 4503599627370496 = false by decide, show Fl.pos 4503599627370496 = 4503599627370496 by decide, show Fl.isNan a = false by unfold Fl.isNan; rw [decide_eq_false_iff_not]; omega] at ho
  by_cases hlt : Fl.sz a < 4503599627370496
  · have hop : ∀ w, (binOp .mul 23 (.float .f64 a) (.float .f64 4841369599423283200)).run Try.prog w = .ok (.float .f64 (Fl.mk (Fl.sg a) (Fl.nz (Fl.sz a)))) w := fun w => run_float_arith w .mul 23 .f64 a _ _ (Fl.norm_mul a h h0 hlt)
    have hk : Fl.kz (Fl.sz a) = 52 := by unfold Fl.kz; rw [if_pos hlt]
    have ho2 : (FloatKind.f64.format.order (Fl.sz a) 4503599627370496 == some Ordering.lt) = true := by rw [Fl.fmt, ho.out]; simp; omega
    rw [hk]
    generalize Fl.mk (Fl.sg a) (Fl.nz (Fl.sz a)) = R at *
    clear ho hlt hk
    go_enter Try.func62, Try.ntmps62
    go_wp2_with (go_at_call 54; refine (abs_c _ h _).mono ?_; rintro e w' ⟨rfl, rfl⟩)
    go_ret2
    exact ⟨rfl, rfl⟩
  · have hk : Fl.kz (Fl.sz a) = 0 := by unfold Fl.kz; rw [if_neg hlt]
    have hn : Fl.nz (Fl.sz a) = Fl.sz a := by unfold Fl.nz; rw [if_neg hlt]
    have ho2 : (FloatKind.f64.format.order (Fl.sz a) 4503599627370496 == some Ordering.lt) = false := by rw [Fl.fmt, ho.out]; simp; omega
    rw [hk, hn, Fl.mk_eta h]
    clear ho hlt hk hn
    go_enter Try.func62, Try.ntmps62
    go_wp2_with (go_at_call 54; refine (abs_c _ h _).mono ?_; rintro e w' ⟨rfl, rfl⟩)
    go_ret2
    exact ⟨rfl, rfl⟩

theorem frexp0_c (a : Nat) (ha : 0 < a) (hi : a < Fl.inf) (w : World) : Calls Try.prog 59 #[.float .f64 a] w fun e w' => e = .returned (.tuple #[.float .f64 (4602678819172646912 + Fl.nz a % 4503599627370496), .int .i64 (Fl.fx a - 1021)]) ∧ w = w' := by
  have hz : Fl.sz a = a := by unfold Fl.sz; unfold Fl.inf at hi; omega
  have hg : Fl.sg a = false := Fl.sg_mk false (r := a) (by unfold Fl.inf at hi; omega)
  have hlt : a < 18446744073709551616 := by unfold Fl.inf at hi; omega
  have hN := normalize_c a hlt (by rw [hz]; exact ha) (by rw [hz]; exact hi)
  have hI := isInf_c a hlt
  have hM := isNaN_c a
  have hnan : Fl.isNan a = false := by unfold Fl.isNan; rw [hz, decide_eq_false_iff_not]; omega
  rw [hz, hg] at hN
  rw [hz, decide_eq_false (by omega)] at hI
  rw [hnan] at hM
  have ho := Fl.order_beq a 0
  rw [hnan, show Fl.isNan 0 = false by decide, show Fl.pos 0 = 0 by decide] at ho
  have hp : Fl.pos a = a := by unfold Fl.pos; rw [hz, hg]; rfl
  rw [hp] at ho
  have ho2 : (FloatKind.f64.format.order a 0 == some Ordering.eq) = false := by rw [Fl.fmt, ho]; simp; omega
  have n1 := Fl.nz_ge ha
  have n2 := Fl.nz_lt ha hi
  have k1 := Fl.kz_le a
  have hE : (Fl.E (Fl.nz a) : Int) = (Fl.nz a : Int) / 4503599627370496 - 1 := by unfold Fl.E; omega
  have hmk : Fl.mk false (Fl.nz a) = Fl.nz a := rfl
  have hfx : Fl.fx a = (Fl.nz a : Int) / 4503599627370496 - 1 - Fl.kz a := by unfold Fl.fx; rw [hE]
  rw [hmk] at hN
  rw [hfx]
  unfold Fl.inf at n2
  generalize Fl.nz a = n at *
  generalize Fl.kz a = k at *
  have hb := run_bits n
  have hf := run_frombits ((n : Int) % 4503599627370496 + 4602678819172646912)
  have b1 := Fl.and_exp ((n : Int) / 4503599627370496) (by omega)
  have b2 := Fl.andNot_exp (n : Int) (by omega)
  have b3 := Fl.or_join 4602678819172646912 ((n : Int) % 4503599627370496) (by omega) (by omega) (by omega)
  have hN := Fl.Hd.mk hN
  have hI := Fl.Hd.mk hI
  have hM := Fl.Hd.mk hM
  clear hz hg hlt hnan ho hp hE hmk hfx
  go_enter Try.func59, Try.ntmps59
  go_wp2_with (first | (go_at_call 39; refine (hM.out _).mono ?_; rintro e w' ⟨rfl, rfl⟩) | (go_at_call 50; refine (hI.out _).mono ?_; rintro e w' ⟨rfl, rfl⟩) | (go_at_call 62; refine (hN.out _).mono ?_; rintro e w' ⟨rfl, rfl⟩))
  go_ret2
  exact ⟨ret_fi (Nat.add_comm _ _) (by omega), rfl⟩
theorem frexp_c (a : Nat) (ha : 0 < a) (hi : a < Fl.inf) (w : World) : Calls Try.prog 55 #[.float .f64 a] w fun e w' => e = .returned (.tuple #[.float .f64 (4602678819172646912 + Fl.nz a % 4503599627370496), .int .i64 (Fl.fx a - 1021)]) ∧ w = w' := by
  go_enter Try.func55, Try.ntmps55
  go_wp2_with (go_at_call 59; refine (frexp0_c a ha hi _).mono ?_; rintro e w' ⟨rfl, rfl⟩)
  go_ret2
  exact ⟨rfl, rfl⟩
/-- Of an infinity. -/
theorem frexpI_c (w : World) : Calls Try.prog 55 #[.float .f64 9218868437227405312] w fun e w' => e = .returned (.tuple #[.float .f64 9218868437227405312, .int .i64 0]) ∧ w = w' := by
  have hI := Fl.Hd.mk (isInf_c 9218868437227405312 (by decide))
  have ho2 : (FloatKind.f64.format.order 9218868437227405312 0 == some Ordering.eq) = false := by decide
  have h0 : Fl.Hd (Calls Try.prog 59 #[.float .f64 9218868437227405312] w fun e w' => e = .returned (.tuple #[.float .f64 9218868437227405312, .int .i64 0]) ∧ w = w') := ⟨by
    rw [show decide (Fl.sz 9218868437227405312 = Fl.inf) = true by decide] at hI
    go_enter Try.func59, Try.ntmps59
    go_wp2_with (go_at_call 50; refine (hI.out _).mono ?_; rintro e w' ⟨rfl, rfl⟩)
    go_ret2
    exact ⟨rfl, rfl⟩⟩
  clear ho2 hI
  go_enter Try.func55, Try.ntmps55
  go_wp2_with (go_at_call 59; refine h0.out.mono ?_; rintro e w' ⟨rfl, rfl⟩)
  go_ret2
  exact ⟨rfl, rfl⟩

theorem ldexp0_c (y n c : Nat) (hy : 0 < y) (hyi : y < Fl.inf) (hc : c < Fl.inf) (hv : Fl.V c = Fl.V y * 2 ^ n) (w : World) : Calls Try.prog 61 #[.float .f64 y, .int .i64 n] w fun e w' => e = .returned (.float .f64 c) ∧ w = w' := by
  have hz : Fl.sz y = y := by unfold Fl.sz; unfold Fl.inf at hyi; omega
  have hg : Fl.sg y = false := Fl.sg_mk false (r := y) (by unfold Fl.inf at hyi; omega)
  have hlt : y < 18446744073709551616 := by unfold Fl.inf at hyi; omega
  have hN := normalize_c y hlt (by rw [hz]; exact hy) (by rw [hz]; exact hyi)
  have hI := isInf_c y hlt
  have hM := isNaN_c y
  have hnan : Fl.isNan y = false := by unfold Fl.isNan; rw [hz, decide_eq_false_iff_not]; omega
  rw [hz, hg] at hN
  rw [hz, decide_eq_false (by omega)] at hI
  rw [hnan] at hM
  have ho := Fl.order_beq y 0
  rw [hnan, show Fl.isNan 0 = false by decide, show Fl.pos 0 = 0 by decide] at ho
  have hp : Fl.pos y = y := by unfold Fl.pos; rw [hz, hg]; rfl
  rw [hp] at ho
  have ho2 : (FloatKind.f64.format.order y 0 == some Ordering.eq) = false := by rw [Fl.fmt, ho]; simp; omega
  have n1 := Fl.nz_ge hy
  have n2 := Fl.nz_lt hy hyi
  have k1 := Fl.kz_le y
  obtain ⟨l1, l2, l3, l4⟩ := Fl.ldexp_word y n c hy hyi hc hv
  have hE : (Fl.E (Fl.nz y) : Int) = (Fl.nz y : Int) / 4503599627370496 - 1 := by unfold Fl.E; omega
  have hmk : Fl.mk false (Fl.nz y) = Fl.nz y := rfl
  have hfx : Fl.fx y = (Fl.nz y : Int) / 4503599627370496 - 1 - Fl.kz y := by unfold Fl.fx; rw [hE]
  rw [hmk] at hN
  rw [hfx] at l1 l2 l3 l4
  unfold Fl.inf at n2
  have hc2 : c < 9218868437227405312 := hc
  clear hv hc
  generalize Fl.nz y = N at *
  generalize Fl.kz y = k at *
  have hb := run_bits N
  have hN := Fl.Hd.mk hN
  have hI := Fl.Hd.mk hI
  have hM := Fl.Hd.mk hM
  clear hz hg hlt hnan ho hp hE hmk hfx
  have b1 : Go.bits .and .i64 ((N : Int) / 4503599627370496) 2047 = (N : Int) / 4503599627370496 := by
    have := bits_mask .i64 63 (by decide) (fun n h0 h1 => by rw [IntKind.wrap_i64]; omega) 11 (by decide) ((N : Int) / 4503599627370496) (by omega) (by omega)
    refine Eq.trans this ?_
    omega
  by_cases hd : (N : Int) / 4503599627370496 - 1 - k + n - 1022 < -1022
  · obtain ⟨x, hx1, hx2, hx3, hx4⟩ := l3 hd
    clear l3 l4
    have b2 := Fl.andNot_exp (N : Int) (by omega)
    have b3 : Go.bits .or .u64 ((N : Int) % 4503599627370496) (((n : Int) + -(k : Int) + ((N : Int) / 4503599627370496 - 1023) + 53 + 1023) * 4503599627370496) = (x : Int) := by
      refine (Fl.or_join _ _ (by omega) (by omega) (by omega)).trans ?_
      omega
    have hf := run_frombits (x : Int)
    have hm : ∀ w, (binOp .mul 23 (.float .f64 4368491638549381120) (.float .f64 x)).run Try.prog w = .ok (.float .f64 c) w := fun w => run_float_arith w .mul 23 .f64 _ _ _ hx4
    have hx5 : x < 9218868437227405312 := hx2
    clear hx1 hx2 hx4
    go_enter Try.func61, Try.ntmps61
    go_wp2_with (first | (go_at_call 39; refine (hM.out _).mono ?_; rintro e w' ⟨rfl, rfl⟩) | (go_at_call 50; refine (hI.out _).mono ?_; rintro e w' ⟨rfl, rfl⟩) | (go_at_call 62; refine (hN.out _).mono ?_; rintro e w' ⟨rfl, rfl⟩))
    go_ret
    exact ⟨rfl, rfl⟩
  · obtain ⟨hx1, hx4⟩ := l4 (by omega)
    clear l3 l4
    have b2 := Fl.andNot_exp (N : Int) (by omega)
    have b3 : Go.bits .or .u64 ((N : Int) % 4503599627370496) (((n : Int) + -(k : Int) + ((N : Int) / 4503599627370496 - 1023) + 1023) * 4503599627370496) = (c : Int) := by
      refine (Fl.or_join _ _ (by omega) (by omega) (by omega)).trans ?_
      omega
    have hf := run_frombits (c : Int)
    have hm : ∀ w, (binOp .mul 23 (.float .f64 4607182418800017408) (.float .f64 c)).run Try.prog w = .ok (.float .f64 c) w := fun w => run_float_arith w .mul 23 .f64 _ _ _ hx4
    clear hx1 hx4
    go_enter Try.func61, Try.ntmps61
    go_wp2_with (first | (go_at_call 39; refine (hM.out _).mono ?_; rintro e w' ⟨rfl, rfl⟩) | (go_at_call 50; refine (hI.out _).mono ?_; rintro e w' ⟨rfl, rfl⟩) | (go_at_call 62; refine (hN.out _).mono ?_; rintro e w' ⟨rfl, rfl⟩))
    go_ret
    exact ⟨rfl, rfl⟩
theorem ldexp_c (y n c : Nat) (hy : 0 < y) (hyi : y < Fl.inf) (hc : c < Fl.inf) (hv : Fl.V c = Fl.V y * 2 ^ n) (w : World) : Calls Try.prog 56 #[.float .f64 y, .int .i64 n] w fun e w' => e = .returned (.float .f64 c) ∧ w = w' := by
  have h := Fl.Hd.mk (ldexp0_c y n c hy hyi hc hv)
  clear hv
  go_enter Try.func56, Try.ntmps56
  go_wp2_with (go_at_call 61; refine (h.out _).mono ?_; rintro e w' ⟨rfl, rfl⟩)
  go_ret
  exact ⟨rfl, rfl⟩
end Go.Proofs.Ytmcibofnanbhpaa
