/- Clamp8 of the reference, by decimal digits. -/
import Derived.Test.YtmcibofnanbhpaaClaC
import Derived.Test.YtmcibofnanbhpaaExaE
set_option exponentiation.threshold 3000
set_option linter.unusedVariables false
namespace Go.Proofs.Ytmcibofnanbhpaa
open Go.RowKit

namespace Fl
theorem scale (m n p f : Int) : m * f * 10 - (2 * n + 1) * 5 * (p * f) = (2 * m - (2 * n + 1) * p) * (5 * f) := by
  rw [Int.sub_mul]
  congr 1
  · rw [Int.mul_assoc, Int.mul_assoc 2 m, Int.mul_comm f 10, show (10 : Int) = 2 * 5 from rfl, Int.mul_assoc 2 5 f, Int.mul_left_comm m 2]
  · rw [Int.mul_assoc (2 * n + 1) 5, Int.mul_assoc (2 * n + 1) p, Int.mul_left_comm 5 p f]
/-- The comparison of the number with what lies between two whole numbers. -/
theorem half (m n : Int) (K : Nat) : Exa.sgn (m * 5 ^ K * 10 ^ 1 - (2 * n + 1) * 5 ^ 1 * 10 ^ K) = Exa.sgn (2 * m - (2 * n + 1) * 2 ^ K) := by
  have e : (10 : Int) ^ K = 2 ^ K * 5 ^ K := by rw [← Int.mul_pow]; rfl
  rw [e, Int.pow_one, Int.pow_one, scale]
  have := Exa.sgn_mul (2 * m - (2 * n + 1) * 2 ^ K) 0 (5 * 5 ^ K) (Int.mul_pos (by decide) (Int.pow_pos (by decide)))
  rw [Int.zero_mul, Int.sub_zero, Int.sub_zero] at this
  exact this
/-- The reference's answer from that comparison. -/
theorem near_cases (r : Nat) (hE : E r ≤ 1073) :
    (Exa.sgn (2 * (M r : Int) - (2 * (wp r : Int) + 1) * 2 ^ (1074 - E r)) = 1 ∧ near r = wp r + 1) ∨
    (Exa.sgn (2 * (M r : Int) - (2 * (wp r : Int) + 1) * 2 ^ (1074 - E r)) = 0 ∧ wp r % 2 = 1 ∧ near r = wp r + 1) ∨
    (Exa.sgn (2 * (M r : Int) - (2 * (wp r : Int) + 1) * 2 ^ (1074 - E r)) = 0 ∧ wp r % 2 = 0 ∧ near r = wp r) ∨
    (Exa.sgn (2 * (M r : Int) - (2 * (wp r : Int) + 1) * 2 ^ (1074 - E r)) = -1 ∧ near r = wp r) := by
  rw [wp_eq2 (by omega)]
  unfold near
  have hp := Nat.two_pow_pos (1074 - E r)
  have ec : (2 : Int) ^ (1074 - E r) = ((2 ^ (1074 - E r) : Nat) : Int) := by push_cast; rfl
  rw [ec]
  generalize 2 ^ (1074 - E r) = p at *
  generalize M r = m at *
  have hd : m = p * (m / p) + m % p := (Nat.div_add_mod m p).symm
  have hl := Nat.mod_lt m hp
  have em : 2 * (m : Int) - (2 * ((m / p : Nat) : Int) + 1) * (p : Int) = 2 * ((m % p : Nat) : Int) - (p : Int) := by
    have h2 : (m : Int) = (p : Int) * ((m / p : Nat) : Int) + ((m % p : Nat) : Int) := by exact_mod_cast hd
    rw [Int.add_mul, Int.mul_assoc, Int.mul_comm ((m / p : Nat) : Int) (p : Int)]
    generalize (p : Int) * ((m / p : Nat) : Int) = z at *
    omega
  rw [em]
  generalize m / p = q at *
  generalize m % p = s at *
  unfold Exa.sgn
  by_cases h1 : p < 2 * s
  · exact .inl ⟨by rw [if_neg (by omega), if_neg (by omega)], by rw [if_pos (.inl h1)]⟩
  · by_cases h2 : p = 2 * s
    · by_cases h3 : q % 2 = 1
      · exact .inr (.inl ⟨by rw [if_neg (by omega), if_pos (by omega)], h3, by rw [if_pos (.inr ⟨h2, h3⟩)]⟩)
      · exact .inr (.inr (.inl ⟨by rw [if_neg (by omega), if_pos (by omega)], by omega, by rw [if_neg (by omega)]; rfl⟩))
    · exact .inr (.inr (.inr ⟨by rw [if_pos (by omega)], by rw [if_neg (by omega)]; rfl⟩))
end Fl

theorem says_below {m : Int} {K : Nat} {w w' : World} {v : Value} (h : Exa.ExactSays m K w v) (hb : Below w.heap.size w w') : Exa.ExactSays m K w' v := by
  obtain ⟨l, r, f, t, d, b, e, c, ⟨A, cc, hv, q, k⟩⟩ := h
  exact ⟨l, r, f, t, d, b, e, c, ⟨A, cc, hv, q, Go.Proofs.YtmcibofnanbhpaaW.PrintWords.Kd.C_below k hb⟩⟩
open Exa in
/-- Compare of what two calls of Exact give. -/
theorem compare_c {m n : Int} {K1 K2 : Nat} {w : World} {v1 v2 : Value} (h1 : ExactSays m K1 w v1) (h2 : ExactSays n K2 w v2) (h0 : 0 < n * 5 ^ K2) :
    Calls Try.prog 43 #[v1, v2] w fun e w' => e = .returned (.int .i64 (Exa.sgn (m * 5 ^ K1 * 10 ^ K2 - n * 5 ^ K2 * 10 ^ K1))) ∧ Below w.heap.size w w' := by
  obtain ⟨l1, r1, f1, t1, d1, b1, e1, c1, ⟨A1, cc1, rfl, q1, k1⟩⟩ := h1
  obtain ⟨l2, r2, f2, t2, d2, b2, e2, c2, ⟨A2, cc2, rfl, q2, k2⟩⟩ := h2
  have hne : ¬ f2 = t2 := by
    intro he
    have hz : pd l2 l2.length 0 = 0 := by
      have hr := c2.pd
      rw [← hr]
      refine pd_zero _ _ _ fun j _ => rd_out ?_
      rw [c2.len]; omega
    omega
  obtain ⟨k, hk⟩ := cmp_all c1 c2 d1 d2 b1 b2 _ _ e1 e2 h0 (if f1 = t1 then 0 else (l1.length : Int) - K1 - f1) (if f2 = t2 then 0 else (l2.length : Int) - K2 - f2) (fun h => by rw [if_neg (by omega)]) (by rw [if_neg hne])
  exact PNumberWholes.cameoref02_Compare.calls k A1 cc1 r1 _ A2 cc2 r2 _ _ w k1 q1 k2 q2 hk
set_option maxHeartbeats 1000000 in
set_option maxRecDepth 100000 in
theorem rClamp_c (x : Nat) (hx : x < 18446744073709551616) (w : World) :
    Calls Try.prog 24 #[.float .f64 x] w fun e w' => e = .returned (.int .i64 (Fl.clamp x)) ∧ Below w.heap.size w w' := by
  have hN := Fl.Hd.mk (nan_c x hx)
  have hS := Fl.Hd.mk (size_c x hx)
  have hG := Fl.Hd.mk (negative_c x hx)
  have hW := whole_c x hx
  unfold Fl.clamp
  cases hn : Fl.isNan x
  · cases hs : Fl.sg x
    · rw [hn] at hN; rw [hs] at hG
      rw [if_neg (by simp)]
      rcases Fl.ask x with ⟨a1, a2⟩ | ⟨a1, a2, a3⟩ | ⟨a1, a2⟩
      · rw [if_pos (by omega)]
        rw [a1] at hW
        have hW := Fl.Hd.mk hW
        clear a2
        go_enter Try.func24, Try.ntmps24
        go_wp2_with (first | (go_at_call 35; refine (hN.out _).mono ?_; rintro e w' ⟨rfl, rfl⟩) | (go_at_call 31; refine (hS.out _).mono ?_; rintro e w' ⟨rfl, rfl⟩) | (go_at_call 32; refine (hG.out _).mono ?_; rintro e w' ⟨rfl, rfl⟩) | (go_at_call 38; refine (hW.out _).mono ?_; rintro e w' ⟨rfl, rfl⟩))
        go_ret
        exact ⟨rfl, Below.refl _ _⟩
      · rw [if_pos (by omega)]
        rw [a1] at hW
        simp only [if_true] at hW
        have hW := Fl.Hd.mk hW
        have c1 : decide (255 ≤ (Fl.wp (Fl.sz x) : Int)) = true := decide_eq_true (by omega)
        have c1n : decide (255 ≤ Fl.wp (Fl.sz x)) = true := decide_eq_true (by omega)
        clear a3
        generalize Fl.wp (Fl.sz x) = W at *
        go_enter Try.func24, Try.ntmps24
        go_wp2_with (first | (go_at_call 35; refine (hN.out _).mono ?_; rintro e w' ⟨rfl, rfl⟩) | (go_at_call 31; refine (hS.out _).mono ?_; rintro e w' ⟨rfl, rfl⟩) | (go_at_call 32; refine (hG.out _).mono ?_; rintro e w' ⟨rfl, rfl⟩) | (go_at_call 38; refine (hW.out _).mono ?_; rintro e w' ⟨rfl, rfl⟩))
        go_ret
        exact ⟨rfl, Below.refl _ _⟩
      · rw [a1] at hW
        simp only [if_true] at hW
        have hW := Fl.Hd.mk hW
        by_cases hb : 255 ≤ Fl.wp (Fl.sz x)
        · rw [if_pos hb]
          have c1 : decide (255 ≤ (Fl.wp (Fl.sz x) : Int)) = true := decide_eq_true (by omega)
          have c1n : decide (255 ≤ Fl.wp (Fl.sz x)) = true := decide_eq_true (by omega)
          clear hb
          generalize Fl.wp (Fl.sz x) = W at *
          go_enter Try.func24, Try.ntmps24
          go_wp2_with (first | (go_at_call 35; refine (hN.out _).mono ?_; rintro e w' ⟨rfl, rfl⟩) | (go_at_call 31; refine (hS.out _).mono ?_; rintro e w' ⟨rfl, rfl⟩) | (go_at_call 32; refine (hG.out _).mono ?_; rintro e w' ⟨rfl, rfl⟩) | (go_at_call 38; refine (hW.out _).mono ?_; rintro e w' ⟨rfl, rfl⟩))
          go_ret
          exact ⟨rfl, Below.refl _ _⟩
        · rw [if_neg hb]
          have hE : Fl.E (Fl.sz x) ≤ 1073 := by
            apply Nat.le_of_not_lt
            intro hc
            have hr : 4503599627370496 ≤ Fl.sz x := by unfold Fl.E at hc; omega
            have h1 := Fl.M_ge hr
            rw [Fl.wp_eq, Fl.wp_high (by omega)] at hb
            have h2 : Fl.M (Fl.sz x) * 1 ≤ Fl.M (Fl.sz x) * 2 ^ (Fl.E (Fl.sz x) - 1074) := Nat.mul_le_mul_left _ (Nat.two_pow_pos _)
            omega
          have hP := Fl.Hd.mk (parts_c (Fl.sz x) (Fl.sz_lt x))
          have hcs := Fl.near_cases (Fl.sz x) hE
          have hM := Fl.M_lt (Fl.sz x)
          have ek : ((Fl.E (Fl.sz x) : Int) - 1074) = -((1074 - Fl.E (Fl.sz x) : Nat) : Int) := by omega
          rw [ek] at hP
          have hX1 := Fl.Hd.mk (Exa.exact_c (Fl.M (Fl.sz x) : Int) (1074 - Fl.E (Fl.sz x)) (by omega) (by omega) (by omega) (by omega))
          have hX2 := Fl.Hd.mk (Exa.exact_c (2 * (Fl.wp (Fl.sz x) : Int) + 1) 1 (by omega) (by omega) (by omega) (by omega))
          have hC := Fl.Hd.mk (fun (w : World) (v1 v2 : Value) (h1 : Exa.ExactSays (Fl.M (Fl.sz x) : Int) (1074 - Fl.E (Fl.sz x)) w v1) (h2 : Exa.ExactSays (2 * (Fl.wp (Fl.sz x) : Int) + 1) 1 w v2) => compare_c (w := w) h1 h2 (by rw [Int.pow_one]; omega))
          rw [Fl.half] at hC
          rw [show (-((1 : Nat) : Int)) = -1 from rfl] at hX2
          have c1 : decide (255 ≤ (Fl.wp (Fl.sz x) : Int)) = false := decide_eq_false (by omega)
          have c1n : decide (255 ≤ Fl.wp (Fl.sz x)) = false := decide_eq_false (by omega)
          have wb : (Fl.wp (Fl.sz x) : Int) < 255 := by omega
          generalize Fl.near (Fl.sz x) = R at *
          generalize Fl.wp (Fl.sz x) = W at *
          generalize Fl.M (Fl.sz x) = m at *
          generalize 1074 - Fl.E (Fl.sz x) = K at *
          generalize Exa.sgn (2 * (m : Int) - (2 * (W : Int) + 1) * 2 ^ K) = S at *
          clear hb hE hM ek
          have fin : ∀ {w1 w2 w3 : World}, Below w.heap.size w w1 → Below w1.heap.size w1 w2 → Below w2.heap.size w2 w3 → Below w.heap.size w w3 := fun h1 h2 h3 => Go.Proofs.YtmcibofnanbhpaaW.PrintWords.below_step (Go.Proofs.YtmcibofnanbhpaaW.PrintWords.below_step h1 h2) h3
          rcases hcs with ⟨rfl, rfl⟩ | ⟨rfl, d2, rfl⟩ | ⟨rfl, d2, rfl⟩ | ⟨rfl, rfl⟩
          · go_enter Try.func24, Try.ntmps24
            go_wp2_with (first | (go_at_call 35; refine (hN.out _).mono ?_; rintro e w' ⟨rfl, rfl⟩) | (go_at_call 31; refine (hS.out _).mono ?_; rintro e w' ⟨rfl, rfl⟩) | (go_at_call 32; refine (hG.out _).mono ?_; rintro e w' ⟨rfl, rfl⟩) | (go_at_call 38; refine (hW.out _).mono ?_; rintro e w' ⟨rfl, rfl⟩) | (go_at_call 30; refine (hP.out _).mono ?_; rintro e w' ⟨rfl, rfl⟩) | (go_at_call 44; first | ((with_reducible refine (hX1.out _).mono ?_); rintro e w1 ⟨v1, rfl, hs1, hb1⟩) | ((with_reducible refine (hX2.out _).mono ?_); rintro e w2 ⟨v2, rfl, hs2, hb2⟩)) | (go_at_call 43; refine (hC.out _ _ _ (says_below hs1 hb2) hs2).mono ?_; rintro e w3 ⟨rfl, hb3⟩))
            go_ret
            exact ⟨ret_int (by first | rfl | (push_cast; rfl)), fin hb1 hb2 hb3⟩
          · have d3 : ((W : Int) % 2 == 1) = true := by rw [beq_iff_eq]; omega
            go_enter Try.func24, Try.ntmps24
            go_wp2_with (first | (go_at_call 35; refine (hN.out _).mono ?_; rintro e w' ⟨rfl, rfl⟩) | (go_at_call 31; refine (hS.out _).mono ?_; rintro e w' ⟨rfl, rfl⟩) | (go_at_call 32; refine (hG.out _).mono ?_; rintro e w' ⟨rfl, rfl⟩) | (go_at_call 38; refine (hW.out _).mono ?_; rintro e w' ⟨rfl, rfl⟩) | (go_at_call 30; refine (hP.out _).mono ?_; rintro e w' ⟨rfl, rfl⟩) | (go_at_call 44; first | ((with_reducible refine (hX1.out _).mono ?_); rintro e w1 ⟨v1, rfl, hs1, hb1⟩) | ((with_reducible refine (hX2.out _).mono ?_); rintro e w2 ⟨v2, rfl, hs2, hb2⟩)) | (go_at_call 43; refine (hC.out _ _ _ (says_below hs1 hb2) hs2).mono ?_; rintro e w3 ⟨rfl, hb3⟩))
            go_ret
            exact ⟨ret_int (by first | rfl | (push_cast; rfl)), fin hb1 hb2 hb3⟩
          · have d3 : ((R : Int) % 2 == 1) = false := by rw [beq_eq_false_iff_ne]; omega
            go_enter Try.func24, Try.ntmps24
            go_wp2_with (first | (go_at_call 35; refine (hN.out _).mono ?_; rintro e w' ⟨rfl, rfl⟩) | (go_at_call 31; refine (hS.out _).mono ?_; rintro e w' ⟨rfl, rfl⟩) | (go_at_call 32; refine (hG.out _).mono ?_; rintro e w' ⟨rfl, rfl⟩) | (go_at_call 38; refine (hW.out _).mono ?_; rintro e w' ⟨rfl, rfl⟩) | (go_at_call 30; refine (hP.out _).mono ?_; rintro e w' ⟨rfl, rfl⟩) | (go_at_call 44; first | ((with_reducible refine (hX1.out _).mono ?_); rintro e w1 ⟨v1, rfl, hs1, hb1⟩) | ((with_reducible refine (hX2.out _).mono ?_); rintro e w2 ⟨v2, rfl, hs2, hb2⟩)) | (go_at_call 43; refine (hC.out _ _ _ (says_below hs1 hb2) hs2).mono ?_; rintro e w3 ⟨rfl, hb3⟩))
            go_ret
            exact ⟨ret_int (by first | rfl | (push_cast; rfl)), fin hb1 hb2 hb3⟩
          · go_enter Try.func24, Try.ntmps24
            go_wp2_with (first | (go_at_call 35; refine (hN.out _).mono ?_; rintro e w' ⟨rfl, rfl⟩) | (go_at_call 31; refine (hS.out _).mono ?_; rintro e w' ⟨rfl, rfl⟩) | (go_at_call 32; refine (hG.out _).mono ?_; rintro e w' ⟨rfl, rfl⟩) | (go_at_call 38; refine (hW.out _).mono ?_; rintro e w' ⟨rfl, rfl⟩) | (go_at_call 30; refine (hP.out _).mono ?_; rintro e w' ⟨rfl, rfl⟩) | (go_at_call 44; first | ((with_reducible refine (hX1.out _).mono ?_); rintro e w1 ⟨v1, rfl, hs1, hb1⟩) | ((with_reducible refine (hX2.out _).mono ?_); rintro e w2 ⟨v2, rfl, hs2, hb2⟩)) | (go_at_call 43; refine (hC.out _ _ _ (says_below hs1 hb2) hs2).mono ?_; rintro e w3 ⟨rfl, hb3⟩))
            go_ret
            exact ⟨ret_int (by first | rfl | (push_cast; rfl)), fin hb1 hb2 hb3⟩
    · rw [hn] at hN; rw [hs] at hG
      rw [if_pos (by simp)]
      clear hW
      go_enter Try.func24, Try.ntmps24
      go_wp2_with (first | (go_at_call 35; refine (hN.out _).mono ?_; rintro e w' ⟨rfl, rfl⟩) | (go_at_call 31; refine (hS.out _).mono ?_; rintro e w' ⟨rfl, rfl⟩) | (go_at_call 32; refine (hG.out _).mono ?_; rintro e w' ⟨rfl, rfl⟩))
      go_ret
      exact ⟨rfl, Below.refl _ _⟩
  · rw [hn] at hN
    rw [if_pos (by simp)]
    clear hW
    go_enter Try.func24, Try.ntmps24
    go_wp2_with (first | (go_at_call 35; refine (hN.out _).mono ?_; rintro e w' ⟨rfl, rfl⟩) | (go_at_call 31; refine (hS.out _).mono ?_; rintro e w' ⟨rfl, rfl⟩) | (go_at_call 32; refine (hG.out _).mono ?_; rintro e w' ⟨rfl, rfl⟩))
    go_ret
    exact ⟨rfl, Below.refl _ _⟩
end Go.Proofs.Ytmcibofnanbhpaa
