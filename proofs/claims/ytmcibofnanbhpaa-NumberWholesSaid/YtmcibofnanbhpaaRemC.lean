/- The reference's Rem and Modulo: what each call comes to. -/
import Derived.Test.YtmcibofnanbhpaaRefC
set_option exponentiation.threshold 3000
namespace Go.Proofs.Ytmcibofnanbhpaa
open Go.RowKit

namespace Fl
theorem E_mono {a b : Nat} (h : a ≤ b) : E a ≤ E b := by unfold E; omega
theorem E_le {a : Nat} (h : a < inf) : E a ≤ 2045 := by unfold E inf at *; omega
theorem M_pos {a : Nat} (h : 0 < a) : 0 < M a := by unfold M; split <;> omega
/-- The rest, over the lower one's place. -/
theorem mod_place (X Y : Nat) (h : Y ≤ X) : V X % V Y = (M X * 2 ^ (E X - E Y)) % M Y * 2 ^ E Y := by
  have hE := E_mono h
  have e : V X = M X * 2 ^ (E X - E Y) * 2 ^ E Y := by rw [V_eq, Nat.mul_assoc, ← Nat.pow_add]; congr 2; omega
  rw [e, V_eq Y, Nat.mul_mod_mul_right]
theorem pow_mod_zero {a j d n : Nat} (h : j ≤ d) (h0 : a * 2 ^ j % n = 0) : a * 2 ^ d % n = 0 := by
  obtain ⟨k, rfl⟩ := Nat.exists_eq_add_of_le h
  rw [Nat.pow_add, ← Nat.mul_assoc, Nat.mul_mod, h0]; simp
end Fl

set_option maxRecDepth 100000 in
theorem rRemN_c (x y : Nat) (hx : x < 18446744073709551616) (hy : y < 18446744073709551616) (hb : Fl.bad x y = true) (w : World) :
    Calls Try.prog 9 #[.float .f64 x, .float .f64 y] w fun e w' => e = .returned (.float .f64 9218868437227405313) ∧ w = w' := by
  have hNx := nan_c x hx
  have hNy := nan_c y hy
  have hSx := Fl.Hd.mk (size_c x hx)
  have hSy := Fl.Hd.mk (size_c y hy)
  have q1 : (((Fl.sz y : Nat) : Int) == 0) = decide (Fl.sz y = 0) := by rw [Bool.eq_iff_iff]; simp
  have q2 : (((Fl.sz x : Nat) : Int) == 9218868437227405312) = decide (Fl.sz x = Fl.inf) := by unfold Fl.inf; rw [Bool.eq_iff_iff]; simp; omega
  have hS := Fl.Hd.mk (signed_c 9218868437227405313 (by decide) false)
  have HNx := Fl.Hd.mk hNx
  have HNy := Fl.Hd.mk hNy
  clear hNx hNy
  unfold Fl.bad at hb
  generalize decide (Fl.sz y = 0) = b1 at *
  generalize decide (Fl.sz x = Fl.inf) = b2 at *
  generalize Fl.isNan x = b3 at *
  generalize Fl.isNan y = b4 at *
  generalize Fl.sz x = X at *
  generalize Fl.sz y = Y at *
  cases b1 <;> cases b2 <;> cases b3 <;> cases b4 <;> first | exact absurd hb (by decide) | skip
  all_goals
    clear hb
    go_enter Try.func9, Try.ntmps9
    go_wp2_with (first | (go_at_call 35; first | ((with_reducible refine (HNx.out _).mono ?_); rintro e w' ⟨rfl, rfl⟩) | ((with_reducible refine (HNy.out _).mono ?_); rintro e w' ⟨rfl, rfl⟩)) | (go_at_call 31; first | ((with_reducible refine (hSx.out _).mono ?_); rintro e w' ⟨rfl, rfl⟩) | ((with_reducible refine (hSy.out _).mono ?_); rintro e w' ⟨rfl, rfl⟩)) | (go_at_call 36; refine (hS.out _).mono ?_; rintro e w' ⟨rfl, rfl⟩))
    go_ret
    exact ⟨rfl, rfl⟩

set_option maxRecDepth 100000 in
theorem rRemX_c (x y : Nat) (hx : x < 18446744073709551616) (hy : y < 18446744073709551616) (hxi : Fl.sz x < Fl.inf) (hy0 : 0 < Fl.sz y) (hyi : Fl.sz y ≤ Fl.inf) (hc : Fl.sz y = Fl.inf ∨ Fl.sz x < Fl.sz y) (w : World) :
    Calls Try.prog 9 #[.float .f64 x, .float .f64 y] w fun e w' => e = .returned (.float .f64 x) ∧ w = w' := by
  have hNx := nan_c x hx
  have hNy := nan_c y hy
  have hSx := Fl.Hd.mk (size_c x hx)
  have hSy := Fl.Hd.mk (size_c y hy)
  have nx : Fl.isNan x = false := by unfold Fl.isNan; rw [decide_eq_false_iff_not]; omega
  have ny : Fl.isNan y = false := by unfold Fl.isNan; rw [decide_eq_false_iff_not]; omega
  rw [nx] at hNx
  rw [ny] at hNy
  have q1 : (((Fl.sz y : Nat) : Int) == 0) = false := by rw [beq_eq_false_iff_ne]; omega
  have q2 : (((Fl.sz x : Nat) : Int) == 9218868437227405312) = false := by unfold Fl.inf at hxi; rw [beq_eq_false_iff_ne]; omega
  have q3 : (((Fl.sz y : Nat) : Int) == 9218868437227405312) = true ∨ ((((Fl.sz y : Nat) : Int) == 9218868437227405312) = false ∧ decide (Fl.sz x < Fl.sz y) = true) := by
    unfold Fl.inf at *
    by_cases h : Fl.sz y = 9218868437227405312
    · rw [h]; exact .inl rfl
    · exact .inr ⟨by rw [beq_eq_false_iff_ne]; omega, decide_eq_true (by omega)⟩
  have HNx := Fl.Hd.mk hNx
  have HNy := Fl.Hd.mk hNy
  clear hNx hNy hc nx ny
  generalize Fl.sz x = X at *
  generalize Fl.sz y = Y at *
  clear hxi hyi hy0
  rcases q3 with q3 | ⟨q3, q4⟩
  all_goals
    go_enter Try.func9, Try.ntmps9
    go_wp2_with (first | (go_at_call 35; first | ((with_reducible refine (HNx.out _).mono ?_); rintro e w' ⟨rfl, rfl⟩) | ((with_reducible refine (HNy.out _).mono ?_); rintro e w' ⟨rfl, rfl⟩)) | (go_at_call 31; first | ((with_reducible refine (hSx.out _).mono ?_); rintro e w' ⟨rfl, rfl⟩) | ((with_reducible refine (hSy.out _).mono ?_); rintro e w' ⟨rfl, rfl⟩)))
    go_ret
    exact ⟨rfl, rfl⟩

set_option maxHeartbeats 1000000 in
set_option maxRecDepth 100000 in
theorem rRemL_c (x y : Nat) (hx : x < 18446744073709551616) (hy : y < 18446744073709551616) (hxi : Fl.sz x < Fl.inf) (hy0 : 0 < Fl.sz y) (hle : Fl.sz y ≤ Fl.sz x) (w : World) :
    Calls Try.prog 9 #[.float .f64 x, .float .f64 y] w fun e w' => e = .returned (.float .f64 (Fl.mk (Fl.sg x) (Fl.rho (Fl.V (Fl.sz x) % Fl.V (Fl.sz y))))) ∧ w = w' := by
  rw [Fl.mod_place _ _ hle]
  have hNx := nan_c x hx
  have hNy := nan_c y hy
  have hSx := Fl.Hd.mk (size_c x hx)
  have hSy := Fl.Hd.mk (size_c y hy)
  have hPx := Fl.Hd.mk (parts_c (Fl.sz x) (Fl.inf63 hxi))
  have hPy := Fl.Hd.mk (parts_c (Fl.sz y) (Fl.inf63 (by omega)))
  have hGx := Fl.Hd.mk (negative_c x hx)
  have nx : Fl.isNan x = false := by unfold Fl.isNan; rw [decide_eq_false_iff_not]; omega
  have ny : Fl.isNan y = false := by unfold Fl.isNan; rw [decide_eq_false_iff_not]; omega
  rw [nx] at hNx
  rw [ny] at hNy
  have HNx := Fl.Hd.mk hNx
  have HNy := Fl.Hd.mk hNy
  have q1 : (((Fl.sz y : Nat) : Int) == 0) = false := by rw [beq_eq_false_iff_ne]; omega
  have q2 : (((Fl.sz x : Nat) : Int) == 9218868437227405312) = false := by unfold Fl.inf at hxi; rw [beq_eq_false_iff_ne]; omega
  have q3 : (((Fl.sz y : Nat) : Int) == 9218868437227405312) = false := by unfold Fl.inf at hxi; rw [beq_eq_false_iff_ne]; omega
  have q4 : decide (Fl.sz x < Fl.sz y) = false := decide_eq_false (by omega)
  have e1 := Fl.E_mono hle
  have e2 := Fl.E_le hxi
  have m1 := Fl.M_lt (Fl.sz x)
  have m2 := Fl.M_lt (Fl.sz y)
  have m3 := Fl.M_pos hy0
  have q5 : decide (((Fl.E (Fl.sz x) : Int) - 1074) < ((Fl.E (Fl.sz y) : Int) - 1074)) = false := decide_eq_false (by omega)
  have q6 : decide (Fl.E (Fl.sz x) < Fl.E (Fl.sz y)) = false := decide_eq_false (by omega)
  generalize hRes : Fl.mk (Fl.sg x) (Fl.rho (Fl.M (Fl.sz x) * 2 ^ (Fl.E (Fl.sz x) - Fl.E (Fl.sz y)) % Fl.M (Fl.sz y) * 2 ^ Fl.E (Fl.sz y))) = Res
  have hRes := Fl.Hd.mk hRes
  clear hNx hNy nx ny hxi hy0 hle
  generalize Fl.M (Fl.sz x) = m at *
  generalize Fl.M (Fl.sz y) = n at *
  generalize Fl.E (Fl.sz x) = ex at *
  generalize Fl.E (Fl.sz y) = ey at *
  generalize Fl.sz x = X at *
  generalize Fl.sz y = Y at *
  generalize Fl.sg x = s at *
  have m4 := Fl.Hd.mk m1
  have m5 := Fl.Hd.mk m2
  have m6 := Fl.Hd.mk m3
  have hmod : IntKind.u64.wrap ((m : Int).tmod n) = ((m % n : Nat) : Int) := by
    rw [Int.tmod_eq_emod_of_nonneg (by omega)]
    have := Nat.mod_lt m m3
    rw [← Int.natCast_emod]
    exact IntWalk.u64_in _ (by omega)
  have hnz : ((n : Int) == 0) = false := by rw [beq_eq_false_iff_ne]; omega
  clear m1 m2
  go_enter Try.func9, Try.ntmps9
  go_wp2_with (first | (go_at_call 35; first | ((with_reducible refine (HNx.out _).mono ?_); rintro e w' ⟨rfl, rfl⟩) | ((with_reducible refine (HNy.out _).mono ?_); rintro e w' ⟨rfl, rfl⟩)) | (go_at_call 31; first | ((with_reducible refine (hSx.out _).mono ?_); rintro e w' ⟨rfl, rfl⟩) | ((with_reducible refine (hSy.out _).mono ?_); rintro e w' ⟨rfl, rfl⟩)) | (go_at_call 30; first | ((with_reducible refine (hPx.out _).mono ?_); rintro e w' ⟨rfl, rfl⟩) | ((with_reducible refine (hPy.out _).mono ?_); rintro e w' ⟨rfl, rfl⟩)))
  go_loop [9, 10] (fun v9 v10 => ∃ a i : Nat, v9 = .int .u64 (a : Nat) ∧ v10 = .int .i64 ((i : Int) - 1074) ∧ ey ≤ i ∧ i ≤ ex ∧ Fl.Hd (a = m * 2 ^ (i - ey) % n)) (fun _ v10 => (ex - 1074 - intOf v10).toNat)
  case atStart => exact ⟨m % n, ey, by go_num, rfl, by omega, by omega, ⟨by simp⟩⟩
  case round =>
    obtain ⟨a, i, rfl, rfl, hi1, hi2, ha⟩ := hrel
    have han : a < n := by rw [ha.out]; exact Nat.mod_lt _ m6.out
    have ha53 : a < 9007199254740992 := by have := m5.out; omega
    by_cases hgo : i < ex ∧ 0 < a
    · obtain ⟨g1, g2⟩ := hgo
      have t1 : (i : Int) < ex := by omega
      have t2 : (0 : Int) < a := by omega
      have t3 : (i : Int) - 1074 < (ex : Int) - 1074 := by omega
      have ha3 := Fl.Hd.mk han
      have ha4 := Fl.Hd.mk ha53
      have bb : (a : Int) ≤ 9007199254740991 := by omega
      clear han ha53
      go_wp2
      go_round
      case rel => exact ⟨a * 2 % n, i + 1, by go_num, by rw [show (((i + 1 : Nat) : Int) - 1074) = (i : Int) - 1074 + 1 by omega], by omega, by omega, ⟨by rw [ha.out, show i + 1 - ey = (i - ey) + 1 by omega, Nat.pow_succ, ← Nat.mul_assoc, Nat.mod_mul_mod]⟩⟩
      case measure => simp [intOf]; omega
    · have hfin : a = m * 2 ^ (ex - ey) % n := by
        by_cases h : i < ex
        · have h0 : a = 0 := by omega
          rw [h0]; symm
          exact Fl.pow_mod_zero (j := i - ey) (by omega) (by rw [← ha.out, h0])
        · have : i = ex := by omega
          rw [ha.out, this]
      have hP := pack_c a ey ha53 (by omega) s
      rw [hfin, hRes.out, ← hfin] at hP
      have hP := Fl.Hd.mk hP
      have t1 : (decide (i < ex) = false) ∨ (decide (i < ex) = true ∧ a = 0) := by
        by_cases h : i < ex
        · exact .inr ⟨decide_eq_true h, by omega⟩
        · exact .inl (decide_eq_false h)
      clear hgo han ha53 hfin
      rcases t1 with t1 | ⟨t1, h0⟩
      · go_wp2_with (first | (go_at_call 32; refine (hGx.out _).mono ?_; rintro e w' ⟨rfl, rfl⟩) | (go_at_call 37; refine (hP.out _).mono ?_; rintro e w' ⟨rfl, rfl⟩))
        go_ret
        exact ⟨rfl, rfl⟩
      · subst h0
        go_wp2_with (first | (go_at_call 32; refine (hGx.out _).mono ?_; rintro e w' ⟨rfl, rfl⟩) | (go_at_call 37; refine (hP.out _).mono ?_; rintro e w' ⟨rfl, rfl⟩))
        go_ret
        exact ⟨rfl, rfl⟩

theorem rRem_c (x y : Nat) (hx : x < 18446744073709551616) (hy : y < 18446744073709551616) (w : World) :
    Calls Try.prog 9 #[.float .f64 x, .float .f64 y] w fun e w' => e = .returned (.float .f64 (Fl.fmod 9218868437227405313 x y)) ∧ w = w' := by
  unfold Fl.fmod
  by_cases hb : Fl.bad x y = true
  · rw [if_pos hb]; exact rRemN_c x y hx hy hb w
  · rw [if_neg hb]
    have h : 0 < Fl.sz y ∧ Fl.sz x < Fl.inf ∧ Fl.sz y ≤ Fl.inf := by
      unfold Fl.bad Fl.isNan at hb
      simp at hb
      omega
    by_cases hi : Fl.sz y = Fl.inf
    · rw [if_pos hi]; exact rRemX_c x y hx hy h.2.1 h.1 h.2.2 (.inl hi) w
    · rw [if_neg hi]
      by_cases h0 : Fl.sz x < Fl.sz y
      · refine (rRemX_c x y hx hy h.2.1 h.1 h.2.2 (.inr h0) w).mono fun e w' ⟨he, hw⟩ => ⟨?_, hw⟩
        rw [he, Nat.mod_eq_of_lt (Fl.V_lt_iff.2 h0), Fl.rho_eq rfl, Fl.mk_eta hx]
      · exact rRemL_c x y hx hy h.2.1 h.1 (by omega) w

namespace Fl
theorem fmod_same (n1 n2 x y : Nat) (h1 : isNan n1 = true) (h2 : isNan n2 = true) : same (fmod n1 x y) (fmod n2 x y) = true := by
  unfold fmod
  by_cases hb : bad x y = true
  · rw [if_pos hb, if_pos hb]; unfold same; rw [h1, h2]; rfl
  · rw [if_neg hb, if_neg hb]; unfold same; simp
end Fl

namespace Fl
theorem w64 (n : Int) : IntKind.u64.wrap n = n % 18446744073709551616 := by simp [IntKind.wrap, IntKind.bits, IntKind.signed]
theorem wp_low {m k : Nat} (hm : (m : Int) ≤ 9007199254740991) (hk : k ≤ 1010) : m * 2 ^ k / 2 ^ 1074 = 0 := by
  apply Nat.div_eq_of_lt
  have h1 : m < 2 ^ 53 := by simp only [Nat.reducePow]; omega
  have h2 : m * 2 ^ k < 2 ^ 53 * 2 ^ k := Nat.mul_lt_mul_of_pos_right h1 (Nat.two_pow_pos k)
  rw [← Nat.pow_add] at h2
  have h3 : 2 ^ (53 + k) ≤ 2 ^ 1074 := Nat.pow_le_pow_right (by decide) (by omega)
  omega
theorem wp_mid {m k : Nat} (hk : k ≤ 1074) : m * 2 ^ k / 2 ^ 1074 = m / 2 ^ (1074 - k) := by
  have e : 2 ^ 1074 = 2 ^ (1074 - k) * 2 ^ k := by rw [← Nat.pow_add]; congr 1; omega
  rw [e, Nat.mul_div_mul_right _ _ (Nat.two_pow_pos k)]
theorem wp_high {m k : Nat} (hk : 1074 ≤ k) : m * 2 ^ k / 2 ^ 1074 = m * 2 ^ (k - 1074) := by
  have e : m * 2 ^ k = m * 2 ^ (k - 1074) * 2 ^ 1074 := by rw [Nat.mul_assoc, ← Nat.pow_add]; congr 2; omega
  rw [e, Nat.mul_div_cancel _ (Nat.two_pow_pos 1074)]
theorem wp_far (m k : Nat) (hk : 1138 ≤ k) : m * 2 ^ (k - 1074) % 18446744073709551616 = 0 := by
  have e : m * 2 ^ (k - 1074) = m * 2 ^ (k - 1138) * 2 ^ 64 := by
    have h : k - 1074 = (k - 1138) + 64 := by omega
    rw [h, Nat.pow_add, ← Nat.mul_assoc]
  rw [e]
  exact Nat.mul_mod_left _ _
end Fl

set_option maxRecDepth 100000 in
theorem modulo_c (x : Nat) (hx : x < 18446744073709551616) (w : World) :
    Calls Try.prog 6 #[.float .f64 x] w fun e w' => (∃ n : Int, e = .returned (.int .u64 n) ∧ 0 ≤ n ∧ n < 18446744073709551616 ∧ n % 4294967296 = Fl.u32 x) ∧ w = w' := by
  have hF := Fl.Hd.mk (finite_c x hx)
  by_cases h : Fl.sz x < Fl.inf
  · rw [decide_eq_true h] at hF
    have hS := Fl.Hd.mk (size_c x hx)
    have hP := Fl.Hd.mk (parts_c (Fl.sz x) (Fl.inf63 h))
    have hG := Fl.Hd.mk (negative_c x hx)
    have e2 := Fl.E_le h
    have m1 := Fl.M_lt (Fl.sz x)
    have hu : Fl.u32 x = (if Fl.sg x then -(Fl.wp (Fl.sz x) : Int) else Fl.wp (Fl.sz x)) % 4294967296 := by unfold Fl.u32; rw [if_pos h]
    have hw : Fl.wp (Fl.sz x) = Fl.M (Fl.sz x) * 2 ^ Fl.E (Fl.sz x) / 2 ^ 1074 := by unfold Fl.wp; rw [Fl.V_eq]
    have hu := Fl.Hd.mk hu
    have hw := Fl.Hd.mk hw
    generalize Fl.u32 x = U at *
    generalize Fl.wp (Fl.sz x) = W at *
    generalize Fl.M (Fl.sz x) = m at *
    generalize Fl.E (Fl.sz x) = k at *
    generalize Fl.sz x = X at *
    generalize Fl.sg x = s at *
    have bb : (m : Int) ≤ 9007199254740991 := by omega
    clear m1 h
    cases s
    all_goals
      by_cases c1 : k ≤ 1010
      · have d1 : (k : Int) - 1074 ≤ -64 := by omega
        go_enter Try.func6, Try.ntmps6
        go_wp2_with (first | (go_at_call 29; refine (hF.out _).mono ?_; rintro e w' ⟨rfl, rfl⟩) | (go_at_call 31; refine (hS.out _).mono ?_; rintro e w' ⟨rfl, rfl⟩) | (go_at_call 30; refine (hP.out _).mono ?_; rintro e w' ⟨rfl, rfl⟩) | (go_at_call 32; refine (hG.out _).mono ?_; rintro e w' ⟨rfl, rfl⟩))
        all_goals
          go_ret
          refine ⟨⟨_, rfl, by decide, by decide, ?_⟩, rfl⟩
          rw [hu.out, hw.out, Fl.wp_low bb c1]; first | rfl | (simp; done)
      · by_cases c2 : k < 1074
        · have d1 : -64 < (k : Int) - 1074 := by omega
          have d2 : (k : Int) - 1074 < 0 := by omega
          go_enter Try.func6, Try.ntmps6
          go_wp2_with (first | (go_at_call 29; refine (hF.out _).mono ?_; rintro e w' ⟨rfl, rfl⟩) | (go_at_call 31; refine (hS.out _).mono ?_; rintro e w' ⟨rfl, rfl⟩) | (go_at_call 30; refine (hP.out _).mono ?_; rintro e w' ⟨rfl, rfl⟩) | (go_at_call 32; refine (hG.out _).mono ?_; rintro e w' ⟨rfl, rfl⟩))
          all_goals
            go_ret
            have hW : W = m / 2 ^ (1074 - k) := by rw [hw.out, Fl.wp_mid (by omega)]
            have hn : (-((k : Int) - 1074)).toNat = 1074 - k := by omega
            have hq : (m : Int) / 2 ^ (1074 - k) = (W : Int) := by rw [hW]; push_cast; rfl
            have hWm : W ≤ m := by rw [hW]; exact Nat.div_le_self _ _
            have hu' := hu.out
            rw [hn, hq]
            simp only [if_true, if_false, Bool.false_eq_true] at hu'
            refine ⟨⟨_, rfl, ?_, ?_, ?_⟩, rfl⟩ <;> ((try rw [Fl.w64]); omega)
        · have hW : W = m * 2 ^ (k - 1074) := by rw [hw.out, Fl.wp_high (by omega)]
          by_cases c3 : k < 1138
          · have d1 : ¬ (k : Int) - 1074 < 0 := by omega
            have d2 : (k : Int) - 1074 < 64 := by omega
            go_enter Try.func6, Try.ntmps6
            go_wp2_with (first | (go_at_call 29; refine (hF.out _).mono ?_; rintro e w' ⟨rfl, rfl⟩) | (go_at_call 31; refine (hS.out _).mono ?_; rintro e w' ⟨rfl, rfl⟩) | (go_at_call 30; refine (hP.out _).mono ?_; rintro e w' ⟨rfl, rfl⟩) | (go_at_call 32; refine (hG.out _).mono ?_; rintro e w' ⟨rfl, rfl⟩))
            all_goals
              go_ret
              have hq : (m : Int) * 2 ^ (k - 1074) = (W : Int) := by rw [hW]; push_cast; rfl
              have hu' := hu.out
              rw [hq]
              simp only [if_true, if_false, Bool.false_eq_true] at hu'
              refine ⟨⟨_, rfl, ?_, ?_, ?_⟩, rfl⟩ <;> ((try rw [Fl.w64]); (try rw [Fl.w64]); omega)
          · have d1 : 64 ≤ (k : Int) - 1074 := by omega
            go_enter Try.func6, Try.ntmps6
            go_wp2_with (first | (go_at_call 29; refine (hF.out _).mono ?_; rintro e w' ⟨rfl, rfl⟩) | (go_at_call 31; refine (hS.out _).mono ?_; rintro e w' ⟨rfl, rfl⟩) | (go_at_call 30; refine (hP.out _).mono ?_; rintro e w' ⟨rfl, rfl⟩) | (go_at_call 32; refine (hG.out _).mono ?_; rintro e w' ⟨rfl, rfl⟩))
            all_goals
              go_ret
              refine ⟨⟨_, rfl, by decide, by decide, ?_⟩, rfl⟩
              have hdv := Fl.wp_far m k (by omega)
              rw [← hW] at hdv
              have hu' := hu.out
              simp only [if_true, if_false, Bool.false_eq_true] at hu'
              rw [hu']; omega
  · rw [decide_eq_false h] at hF
    have hu : Fl.u32 x = 0 := by unfold Fl.u32; rw [if_neg h]
    clear h
    have hu := Fl.Hd.mk hu
    go_enter Try.func6, Try.ntmps6
    go_wp2_with (first | (go_at_call 29; refine (hF.out _).mono ?_; rintro e w' ⟨rfl, rfl⟩))
    go_ret
    exact ⟨⟨0, rfl, by omega, by omega, by rw [hu.out]; rfl⟩, rfl⟩
end Go.Proofs.Ytmcibofnanbhpaa
