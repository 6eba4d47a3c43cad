/- The reference's Parts, signed, pack, Rem, Modulo: what each call comes to. -/
import Derived.Test.YtmcibofnanbhpaaIntC
namespace Go.Proofs.Ytmcibofnanbhpaa
open Go.RowKit

theorem ret_ii {k : IntKind} {a b c d : Int} (h : a = b) (h2 : c = d) : Ending.returned (.tuple #[.int k a, .int .i64 c]) = .returned (.tuple #[.int k b, .int .i64 d]) := by rw [h, h2]

theorem parts_c (r : Nat) (h : r < 9223372036854775808) (w : World) : Calls Try.prog 30 #[.int .u64 r] w fun e w' => e = .returned (.tuple #[.int .u64 (Fl.M r), .int .i64 ((Fl.E r : Int) - 1074)]) ∧ w = w' := by
  have b1 := Fl.and_frac (r : Int) (by omega)
  have b2 := Fl.and_exp ((r : Int) / 4503599627370496) (by omega)
  by_cases hlt : r < 4503599627370496
  · have e1 : Fl.M r = r := by unfold Fl.M; rw [if_pos hlt]
    have e2 := Fl.E_low hlt
    have z : ((r : Int) / 4503599627370496 % 2048 == 0) = true := by rw [beq_iff_eq]; omega
    rw [e1, e2]
    clear e1 e2
    go_enter Try.func30, Try.ntmps30
    go_wp2
    go_ret2
    exact ⟨ret_ii (by omega) rfl, rfl⟩
  · have e1 : Fl.M r = 4503599627370496 + r % 4503599627370496 := by unfold Fl.M; rw [if_neg hlt]
    have e2 : Fl.E r = r / 4503599627370496 - 1 := rfl
    have z : ((r : Int) / 4503599627370496 % 2048 == 0) = false := by rw [beq_eq_false_iff_ne]; omega
    have b3 := Fl.or_join 4503599627370496 ((r : Int) % 4503599627370496) (by omega) (by omega) (by omega)
    rw [e1, e2]
    clear e1 e2
    go_enter Try.func30, Try.ntmps30
    go_wp2
    go_ret2
    exact ⟨ret_ii (by omega) (by omega), rfl⟩

theorem signed_c (b : Nat) (h : b < 9223372036854775808) (s : Bool) (w : World) : Calls Try.prog 36 #[.int .u64 b, .bool s] w fun e w' => e = .returned (.float .f64 (Fl.mk s b)) ∧ w = w' := by
  have b3 := Fl.or_sign (b : Int) (by omega)
  cases s
  · have hf := run_frombits (b : Int)
    clear b3
    go_enter Try.func36, Try.ntmps36
    go_wp2
    go_ret
    exact ⟨ret_float rfl, rfl⟩
  · have hf := run_frombits ((b : Int) + 9223372036854775808)
    go_enter Try.func36, Try.ntmps36
    go_wp2
    go_ret
    exact ⟨ret_float (by unfold Fl.mk; simp; omega), rfl⟩

set_option maxRecDepth 100000 in
theorem pack_c (m k : Nat) (hm : m < 9007199254740992) (hk : k ≤ 2045) (s : Bool) (w : World) : Calls Try.prog 37 #[.int .u64 m, .int .i64 ((k : Int) - 1074), .bool s] w fun e w' => e = .returned (.float .f64 (Fl.mk s (Fl.rho (m * 2 ^ k)))) ∧ w = w' := by
  by_cases h0 : m = 0
  · subst h0
    have hr : Fl.rho (0 * 2 ^ k) = 0 := Fl.rho_eq (by rw [Fl.V_zero]; simp)
    rw [hr]
    clear hr
    go_enter Try.func37, Try.ntmps37
    go_wp2_with (go_at_call 36; refine (signed_c 0 (by decide) s _).mono ?_; rintro e w' ⟨rfl, rfl⟩)
    go_ret
    exact ⟨rfl, rfl⟩
  · have hz : ((m : Int) == 0) = false := by rw [beq_eq_false_iff_ne]; omega
    have hfin : ∀ z : Nat, Fl.V z = m * 2 ^ k → Fl.rho (m * 2 ^ k) = z := fun z h => Fl.rho_eq h
    have hfin := Fl.Hd.mk hfin
    generalize Fl.rho (m * 2 ^ k) = R at *
    have hV : ∃ V0, V0 = m * 2 ^ k := ⟨_, rfl⟩
    obtain ⟨V0, hV0⟩ := hV
    rw [← hV0] at hfin
    have hV0 := Fl.Hd.mk hV0
    have hm0 : 0 < m := by omega
    clear h0
    go_enter Try.func37, Try.ntmps37
    go_wp2
    go_loop [0, 1] (fun v0 v1 => ∃ m' k' : Nat, v0 = .int .u64 (m' : Nat) ∧ v1 = .int .i64 ((k' : Int) - 1074) ∧ 0 < m' ∧ m' < 9007199254740992 ∧ k' ≤ 2045 ∧ Fl.Hd (V0 = m' * 2 ^ k')) (fun _ v1 => (intOf v1 + 1074).toNat)
    case atStart => exact ⟨m, k, rfl, rfl, hm0, hm, hk, hV0⟩
    case round =>
      obtain ⟨m', k', rfl, rfl, hp', hm', hk', hv'⟩ := hrel
      by_cases hgo : m' < 4503599627370496 ∧ 0 < k'
      · obtain ⟨g1, g2⟩ := hgo
        have t1 : (m' : Int) < 4503599627370496 := by omega
        have t2 : -1074 < (k' : Int) - 1074 := by omega
        go_wp2
        go_round
        case rel => exact ⟨m' * 2, k' - 1, by go_num, by rw [show (((k' - 1 : Nat) : Int) - 1074) = (k' : Int) - 1074 - 1 by omega], by omega, by omega, by omega, ⟨by rw [hv'.out, Nat.mul_assoc, ← Nat.pow_succ', show (k' - 1).succ = k' by omega]⟩⟩
        case measure => simp [intOf]; omega
      · have t3 : (m' : Int) < 9007199254740992 := by omega
        have t4 : decide ((9007199254740992 : Int) ≤ (m' : Int)) = false := decide_eq_false (by omega)
        have hp2 := Fl.Hd.mk hp'
        have hm2 := Fl.Hd.mk hm'
        have hk2 := Fl.Hd.mk hk'
        by_cases hlt : m' < 4503599627370496
        · have hk0 : k' = 0 := by omega
          have t1 : (m' : Int) < 4503599627370496 := by omega
          have t2 : ¬ -1074 < (k' : Int) - 1074 := by omega
          have hR := Fl.Hd.mk (hfin.out m' (by rw [hv'.out, hk0]; unfold Fl.V; rw [if_pos hlt]; simp))
          clear hgo hk0
          have hS := Fl.Hd.mk (signed_c m' (by omega) s)
          clear hp' hm' hk'
          go_wp2
          refine wp_loop_rounds 1 ?_
          rw [rounds_succ]
          go_wp2_with (go_at_call 36; refine (hS.out _).mono ?_; rintro e w' ⟨rfl, rfl⟩)
          go_ret
          exact ⟨ret_float (by rw [hR.out]), rfl⟩
        · have t1 : 4503599627370496 ≤ (m' : Int) := by omega
          have e := Fl.EM k' m' (by omega) hm'
          have hR := Fl.Hd.mk (hfin.out (k' * 4503599627370496 + m') (by rw [hv'.out, Fl.V_eq, e.1, e.2]))
          have b1 := Fl.and_frac (m' : Int) (by omega)
          have b2 := Fl.or_join' (((k' : Int) - 1074 + 1075) * 4503599627370496) ((m' : Int) % 4503599627370496) (by omega) (by omega) (by omega)
          have b3 : ((k' : Int) - 1074 + 1075) * 4503599627370496 + (m' : Int) % 4503599627370496 = ((k' * 4503599627370496 + m' : Nat) : Int) := by omega
          rw [b3] at b2
          have hS := Fl.Hd.mk (signed_c (k' * 4503599627370496 + m') (by omega) s)
          generalize k' * 4503599627370496 + m' = Z at *
          have t5 : (k' : Int) ≤ 2045 := by omega
          have t6 : decide ((m' : Int) < 4503599627370496) = false := decide_eq_false (by omega)
          clear hgo e b3 hm' hp' hk' hlt t1
          go_wp2
          refine wp_loop_rounds 1 ?_
          rw [rounds_succ]
          go_wp2_with (go_at_call 36; refine (hS.out _).mono ?_; rintro e w' ⟨rfl, rfl⟩)
          go_ret
          exact ⟨ret_float (by rw [hR.out]), rfl⟩
end Go.Proofs.Ytmcibofnanbhpaa
