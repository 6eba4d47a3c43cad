/- The reference's Radix: what a call comes to. -/
import Derived.Test.YtinaibebdacnmaaDoorRadJ
import Derived.Test.YtinaibebdacnmaaDoorWhoC
set_option exponentiation.threshold 3000
set_option linter.unusedVariables false
namespace Go.Proofs.YtinaibebdacnmaaDoor
open Go.RowKit

namespace Fl
theorem whl_high {r : Nat} (h : 1074 ≤ E r) : whl r = true := by
  unfold whl
  rw [wp_eq, wp_high h, V_eq, Nat.mul_assoc, ← Nat.pow_add]
  exact decide_eq_true (by congr 2; omega)
theorem whl_zero {r : Nat} (h : M r = 0) : whl r = true := by
  unfold whl
  rw [wp_eq, V_eq, h, Nat.zero_mul, Nat.zero_div, Nat.zero_mul]; rfl
theorem whl_low {r : Nat} (h : E r ≤ 1010) (h0 : M r ≠ 0) : whl r = false := by
  have hm := M_lt r
  unfold whl
  rw [wp_eq, wp_low (by omega) h, V_eq, Nat.zero_mul]
  have := Nat.mul_pos (Nat.pos_of_ne_zero h0) (Nat.two_pow_pos (E r))
  exact decide_eq_false (by omega)
theorem whl_mid {r : Nat} (h : E r < 1074) : whl r = decide (M r = M r / 2 ^ (1074 - E r) * 2 ^ (1074 - E r)) := by
  have e : 2 ^ 1074 = 2 ^ (1074 - E r) * 2 ^ E r := by rw [← Nat.pow_add]; congr 1; omega
  unfold whl
  rw [wp_eq, wp_mid (by omega), V_eq, e, ← Nat.mul_assoc]
  congr 1
  exact propext ⟨fun h => Nat.eq_of_mul_eq_mul_right (Nat.two_pow_pos _) h, fun h => by rw [← h]⟩
end Fl

set_option maxHeartbeats 1000000 in
set_option maxRecDepth 100000 in
theorem isWhole_c (x : Nat) (hx : x < 18446744073709551616) (w : World) : Calls Tryd.prog 41 #[.float .f64 x] w fun e w' => e = .returned (.bool (Fl.whl (Fl.sz x))) ∧ w = w' := by
  have hS := Fl.Hd.mk (size_c x hx)
  have hP := Fl.Hd.mk (parts_c (Fl.sz x) (Fl.sz_lt x))
  have m1 := Fl.M_lt (Fl.sz x)
  by_cases c1 : 1074 ≤ Fl.E (Fl.sz x)
  · rw [Fl.whl_high c1]
    have d1 : decide ((0 : Int) ≤ (Fl.E (Fl.sz x) : Int) - 1074) = true := decide_eq_true (by omega)
    have d2 : (0 : Int) ≤ (Fl.E (Fl.sz x) : Int) - 1074 := by omega
    clear m1 c1
    generalize Fl.M (Fl.sz x) = m at *
    generalize Fl.E (Fl.sz x) = k at *
    go_enter Tryd.func41, Tryd.ntmps41
    go_wp2_with (first | (go_at_call 67; refine (hS.out _).mono ?_; rintro e w' ⟨rfl, rfl⟩) | (go_at_call 68; refine (hP.out _).mono ?_; rintro e w' ⟨rfl, rfl⟩))
    go_ret
    exact ⟨rfl, rfl⟩
  · have d1 : decide ((0 : Int) ≤ (Fl.E (Fl.sz x) : Int) - 1074) = false := decide_eq_false (by omega)
    by_cases c2 : Fl.M (Fl.sz x) = 0
    · rw [Fl.whl_zero c2]
      rw [c2] at hP
      have d2 : ¬ (0 : Int) ≤ (Fl.E (Fl.sz x) : Int) - 1074 := by omega
      clear m1 c1 c2
      generalize Fl.E (Fl.sz x) = k at *
      go_enter Tryd.func41, Tryd.ntmps41
      go_wp2_with (first | (go_at_call 67; refine (hS.out _).mono ?_; rintro e w' ⟨rfl, rfl⟩) | (go_at_call 68; refine (hP.out _).mono ?_; rintro e w' ⟨rfl, rfl⟩))
      go_ret
      exact ⟨rfl, rfl⟩
    · have q1 : ((Fl.M (Fl.sz x) : Int) == 0) = false := by rw [beq_eq_false_iff_ne]; omega
      have q2 : (Fl.M (Fl.sz x) == 0) = false := by rw [beq_eq_false_iff_ne]; exact c2
      by_cases c3 : Fl.E (Fl.sz x) ≤ 1010
      · rw [Fl.whl_low c3 c2]
        have d2 : ¬ (0 : Int) ≤ (Fl.E (Fl.sz x) : Int) - 1074 := by omega
        have d3 : decide ((-64 : Int) < (Fl.E (Fl.sz x) : Int) - 1074) = false := decide_eq_false (by omega)
        have d4 : ¬ (-64 : Int) < (Fl.E (Fl.sz x) : Int) - 1074 := by omega
        clear m1 c1 c2
        generalize Fl.M (Fl.sz x) = m at *
        generalize Fl.E (Fl.sz x) = k at *
        go_enter Tryd.func41, Tryd.ntmps41
        go_wp2_with (first | (go_at_call 67; refine (hS.out _).mono ?_; rintro e w' ⟨rfl, rfl⟩) | (go_at_call 68; refine (hP.out _).mono ?_; rintro e w' ⟨rfl, rfl⟩))
        go_ret
        exact ⟨rfl, rfl⟩
      · rw [Fl.whl_mid (by omega)]
        have ek : ((Fl.E (Fl.sz x) : Int) - 1074) = -((1074 - Fl.E (Fl.sz x) : Nat) : Int) := by omega
        rw [ek] at hP
        have hl : Fl.M (Fl.sz x) / 2 ^ (1074 - Fl.E (Fl.sz x)) * 2 ^ (1074 - Fl.E (Fl.sz x)) ≤ Fl.M (Fl.sz x) := Nat.div_mul_le_self _ _
        have j1 : 1 ≤ 1074 - Fl.E (Fl.sz x) ∧ 1074 - Fl.E (Fl.sz x) < 64 := by omega
        clear c1 c2 c3 d1 ek
        generalize Fl.M (Fl.sz x) = m at *
        generalize 1074 - Fl.E (Fl.sz x) = j at *
        have d1 : decide ((0 : Int) ≤ -(j : Int)) = false := decide_eq_false (by omega)
        have d2 : ¬ (0 : Int) ≤ -(j : Int) := by omega
        have d3 : decide ((-64 : Int) < -(j : Int)) = true := decide_eq_true (by omega)
        have d5 : (-64 : Int) < -(j : Int) := by omega
        have d6 : (j : Int) < 64 := by omega
        have d7 : ¬ (j : Int) < 0 := by omega
        have bb : (m : Int) ≤ 9007199254740991 := by omega
        have ht : (m : Int) / 2 ^ j = ((m / 2 ^ j : Nat) : Int) := by push_cast; rfl
        have hle : m / 2 ^ j ≤ m := Nat.div_le_self _ _
        generalize m / 2 ^ j = t at *
        have bt : (t : Int) ≤ 9007199254740991 := by omega
        have hw : IntKind.u64.wrap ((t : Int) * 2 ^ j) = ((t * 2 ^ j : Nat) : Int) := by
          have e : (t : Int) * 2 ^ j = ((t * 2 ^ j : Nat) : Int) := by push_cast; rfl
          rw [e]; exact IntWalk.u64_in _ (by generalize t * 2 ^ j = z at *; omega)
        have hw := Fl.Hd.mk hw
        clear hle
        clear m1 hl j1
        go_enter Tryd.func41, Tryd.ntmps41
        go_wp2_with (first | (go_at_call 67; refine (hS.out _).mono ?_; rintro e w' ⟨rfl, rfl⟩) | (go_at_call 68; refine (hP.out _).mono ?_; rintro e w' ⟨rfl, rfl⟩))
        go_ret
        refine ⟨ret_bool ?_, rfl⟩
        have e : (t : Int) * 2 ^ j = ((t * 2 ^ j : Nat) : Int) := by push_cast; rfl
        rw [e, Bool.eq_iff_iff, beq_iff_eq, decide_eq_true_iff]
        generalize t * 2 ^ j = z
        omega

theorem sign_c (x : Nat) (hx : x < 18446744073709551616) (w : World) : Calls Tryd.prog 43 #[.float .f64 x] w fun e w' => e = .returned (.string (if Fl.sg x = true ∧ 0 < Fl.sz x then ⟨#[45]⟩ else ⟨#[]⟩)) ∧ w = w' := by
  have hS := Fl.Hd.mk (size_c x hx)
  have hG := Fl.Hd.mk (negative_c x hx)
  cases hs : Fl.sg x
  · rw [hs] at hG
    rw [if_neg (by simp)]
    go_enter Tryd.func43, Tryd.ntmps43
    go_wp2_with (first | (go_at_call 67; refine (hS.out _).mono ?_; rintro e w' ⟨rfl, rfl⟩) | (go_at_call 69; refine (hG.out _).mono ?_; rintro e w' ⟨rfl, rfl⟩))
    go_ret
    exact ⟨rfl, rfl⟩
  · rw [hs] at hG
    by_cases h0 : 0 < Fl.sz x
    · rw [if_pos ⟨rfl, h0⟩]
      have d1 : decide (0 < Fl.sz x) = true := decide_eq_true h0
      have d2 : decide ((0 : Int) < (Fl.sz x : Int)) = true := decide_eq_true (by omega)
      generalize Fl.sz x = S at *
      clear h0
      go_enter Tryd.func43, Tryd.ntmps43
      go_wp2_with (first | (go_at_call 67; refine (hS.out _).mono ?_; rintro e w' ⟨rfl, rfl⟩) | (go_at_call 69; refine (hG.out _).mono ?_; rintro e w' ⟨rfl, rfl⟩))
      go_ret
      exact ⟨rfl, rfl⟩
    · rw [if_neg (by simp; omega)]
      have d1 : decide (0 < Fl.sz x) = false := decide_eq_false h0
      have d2 : decide ((0 : Int) < (Fl.sz x : Int)) = false := decide_eq_false (by omega)
      generalize Fl.sz x = S at *
      clear h0
      go_enter Tryd.func43, Tryd.ntmps43
      go_wp2_with (first | (go_at_call 67; refine (hS.out _).mono ?_; rintro e w' ⟨rfl, rfl⟩) | (go_at_call 69; refine (hG.out _).mono ?_; rintro e w' ⟨rfl, rfl⟩))
      go_ret
      exact ⟨rfl, rfl⟩

theorem wp_big2 {r : Nat} (h : 1085 < Fl.E r) : 9007199254740991 < Fl.wp r := by
  have hr : 4503599627370496 ≤ r := by unfold Fl.E at h; omega
  have h1 := Fl.M_ge hr
  rw [Fl.wp_eq, Fl.wp_high (by omega)]
  have h2 : 2 ^ 12 ≤ 2 ^ (Fl.E r - 1074) := Nat.pow_le_pow_right (by decide) (by omega)
  have h3 : 4503599627370496 * 2 ^ 12 ≤ Fl.M r * 2 ^ (Fl.E r - 1074) := Nat.mul_le_mul h1 h2
  omega
theorem add_str (x y : ByteArray) (h : x.size + y.size ≤ 1000000) : ∀ W, (Op.stringOp .add x y).run Tryd.prog W = .ok (.string (x ++ y)) W := by
  intro W
  have hmax : IntKind.i64.max = 9223372036854775807 := by decide
  unfold Op.stringOp
  simp only []
  rw [if_neg (by rw [hmax]; omega)]
  rfl
theorem len_small {n l n0 : Nat} (h : n * 2 ^ l ≤ n0) (hn : n ≠ 0) (h0 : ¬ 9007199254740991 < n0) : l ≤ 53 := by
  apply Nat.le_of_not_lt
  intro hc
  have h1 : 2 ^ 54 ≤ 2 ^ l := Nat.pow_le_pow_right (by decide) (by omega)
  have h2 : 1 * 2 ^ l ≤ n * 2 ^ l := Nat.mul_le_mul_right _ (by omega)
  have h3 : (2 : Nat) ^ 54 = 18014398509481984 := by decide
  omega
theorem len_step {n l n0 b : Nat} (h : n * 2 ^ l ≤ n0) (hb : 2 ≤ b) : n / b * 2 ^ (l + 1) ≤ n0 := by
  have h1 : n / b * 2 ≤ n := Nat.le_trans (Nat.mul_le_mul_left _ hb) (Nat.div_mul_le_self n b)
  have h2 : n / b * 2 * 2 ^ l ≤ n * 2 ^ l := Nat.mul_le_mul_right _ h1
  rw [Nat.pow_succ, Nat.mul_comm (2 ^ l) 2, ← Nat.mul_assoc]
  omega
namespace Rad
theorem piece : ∀ r : Nat, r < 36 → letters.extract r (r + 1) = ⟨#[ch r]⟩ := by decide +kernel
theorem cons_ba (c : UInt8) (ds : List UInt8) : (⟨#[c]⟩ : ByteArray) ++ ⟨ds.toArray⟩ = ⟨(c :: ds).toArray⟩ := by
  apply ByteArray.ext
  simp
theorem rdig_zero (b : Nat) (hb : 2 ≤ b) (n : Nat) : rdig b n = (if n / b = 0 then [] else rdig b (n / b)) ++ [ch (n % b)] := by
  by_cases h : n < b
  · rw [rdig_low h, Nat.div_eq_of_lt h, if_pos rfl, Nat.mod_eq_of_lt h]; rfl
  · rw [rdig_step (by omega) hb, if_neg]
    have := Nat.div_pos (show b ≤ n by omega) (by omega)
    omega
theorem quo_code (n b : Nat) (hb : 0 < b) (hn : n ≤ 9007199254740991) : ∃ q r : Nat, q = n / b ∧ r = n % b ∧ (n : Int) / (b : Int) = (q : Int) ∧ IntKind.u64.wrap (q : Int) = (q : Int) ∧ Int.tmod (n : Int) (b : Int) = (r : Int) ∧ (n : Int) % (b : Int) = (r : Int) := by
  have h1 : n / b ≤ n := Nat.div_le_self _ _
  refine ⟨n / b, n % b, rfl, rfl, (Int.natCast_ediv n b).symm, ?_, ?_, (Int.natCast_emod n b).symm⟩
  · generalize n / b = q at *; exact IntWalk.u64_in _ (by omega)
  · rw [Int.tmod_eq_emod_of_nonneg (by omega)]; exact (Int.natCast_emod n b).symm
end Rad

set_option maxHeartbeats 2000000 in
set_option maxRecDepth 100000 in
theorem rRadix_c (x : Nat) (hx : x < 18446744073709551616) (b : Nat) (h : ¬ radBad x b) (w : World) :
    Calls Tryd.prog 19 #[.float .f64 x, .int .i64 b] w fun e w' => e = .returned (.tuple #[.string ⟨(Rad.rtxt b (radN x)).toArray⟩, .int .i64 0]) ∧ Below w.heap.size w w' := by
  unfold radBad at h
  simp only [not_or] at h
  obtain ⟨g1, g2, g3, g4, g5⟩ := h
  have hF := finite_c x hx
  have b1d := decide_eq_false g1
  have b2d := decide_eq_false g2
  have b1n : decide (b < 2) = false := decide_eq_false (by omega)
  have b2n : decide (36 < b) = false := decide_eq_false (by omega)
  have hlt : Fl.sz x < Fl.inf := by omega
  rw [decide_eq_true hlt] at hF
  have hF := Fl.Hd.mk hF
  have b4 : Fl.whl (Fl.sz x) = true := by cases h : Fl.whl (Fl.sz x) <;> simp [h] at g4 ⊢
  have hWh := isWhole_c x hx
  rw [b4] at hWh
  have hWh := Fl.Hd.mk hWh
  have hfit : Fl.fits (Fl.sz x) = true := by
    cases hf : Fl.fits (Fl.sz x)
    · have := wp_big2 (show 1085 < Fl.E (Fl.sz x) by unfold Fl.fits at hf; simpa using hf)
      omega
    · rfl
  have hW := whole_c x hx
  rw [hfit] at hW
  simp only [if_true] at hW
  have hW := Fl.Hd.mk hW
  have hSg := sign_c x hx
  have hsz : 0 < Fl.sz x ↔ 0 < Fl.wp (Fl.sz x) := by
    have e := of_decide_eq_true b4
    constructor
    · intro h0
      apply Nat.pos_of_ne_zero
      intro hc
      rw [hc, Nat.zero_mul, ← Fl.V_zero] at e
      have := Fl.V_inj.1 e
      omega
    · intro h0
      apply Nat.pos_of_ne_zero
      intro hc
      rw [hc] at h0 e
      rw [Fl.V_zero] at e
      have := Nat.mul_pos h0 (Nat.two_pow_pos 1074)
      omega
  have hN : Rad.rtxt b (radN x) = (if Fl.sg x = true ∧ 0 < Fl.sz x then [45] else []) ++ Rad.rdig b (Fl.wp (Fl.sz x)) := by
    unfold Rad.rtxt radN
    cases Fl.sg x
    · simp
    · simp only [eq_self, if_true, true_and, hsz]
      rw [show (-(Fl.wp (Fl.sz x) : Int)).natAbs = Fl.wp (Fl.sz x) by omega]
      congr 1
      by_cases h0 : 0 < Fl.wp (Fl.sz x)
      · rw [if_pos (by omega), if_pos h0]
      · rw [if_neg (by omega), if_neg h0]
  rw [hN]
  rw [show (if Fl.sg x = true ∧ 0 < Fl.sz x then (⟨#[45]⟩ : ByteArray) else ⟨#[]⟩) = ⟨(if Fl.sg x = true ∧ 0 < Fl.sz x then [45] else [] : List UInt8).toArray⟩ by split <;> rfl] at hSg
  have hSg := Fl.Hd.mk hSg
  have HSG := Fl.Hd.mk (show (if Fl.sg x = true ∧ 0 < Fl.sz x then [45] else [] : List UInt8).length ≤ 1 by split <;> simp)
  generalize (if Fl.sg x = true ∧ 0 < Fl.sz x then [45] else [] : List UInt8) = SG at *
  have d1 : decide (9007199254740991 < (Fl.wp (Fl.sz x) : Int)) = false := decide_eq_false (by omega)
  have d1n : decide (9007199254740991 < Fl.wp (Fl.sz x)) = false := decide_eq_false g5
  have hb0 : 0 < b := by omega
  have hb2 : 2 ≤ b := by omega
  have hb36 : (b : Int) ≤ 36 := by omega
  have bz : ((b : Int) == 0) = false := by rw [beq_eq_false_iff_ne]; omega
  have bzn : (b == 0) = false := by rw [beq_eq_false_iff_ne]; omega
  generalize Fl.wp (Fl.sz x) = n0 at *
  clear hN hsz hfit b4 hlt g1 g2 g3 g4
  obtain ⟨q, r, hq, hr, e1, e2, e3, e4⟩ := Rad.quo_code n0 b hb0 (by omega)
  have r1 : (r : Int) < 36 := by have := Nat.mod_lt n0 hb0; omega
  have r2 : r < 36 := by omega
  have hX := Rad.piece r r2
  have HQ := Fl.Hd.mk hq
  have HR := Fl.Hd.mk hr
  have G5 := Fl.Hd.mk g5
  clear hq hr g5
  go_enter Tryd.func19, Tryd.ntmps19
  go_wp2_with (first | (go_at_call 40; refine (hF.out _).mono ?_; rintro e w' ⟨rfl, rfl⟩) | (go_at_call 41; refine (hWh.out _).mono ?_; rintro e w' ⟨rfl, rfl⟩) | (go_at_call 42; refine (hW.out _).mono ?_; rintro e w' ⟨rfl, rfl⟩))
  have hu1 : IntKind.u64.wrap (b : Int) = (b : Int) := IntWalk.u64_in _ (by omega)
  have hr1 : IntKind.u64.wrap ((r : Int) + 1) = (r : Int) + 1 := IntWalk.u64_in _ (by omega)
  have hbne : ¬ (b : Int) = 0 := by omega
  have hs0 : (0 : Int) ≤ (r : Int) := by omega
  have hs1 : (r : Int) ≤ (r : Int) + 1 := by omega
  have hs2 : (r : Int) + 1 ≤ 36 := by omega
  go_quiet (fail)
  go_wp2
  go_loopg [6, 9] q (fun kq v6 v9 w' => ∃ (n : Nat) (ds : List UInt8), v6 = .int .u64 (n : Int) ∧ v9 = .string ⟨ds.toArray⟩ ∧ Fl.Hd (n ≤ kq ∧ n ≤ 9007199254740991 ∧ Rad.rdig b n0 = (if n = 0 then [] else Rad.rdig b n) ++ ds) ∧ Fl.Hd (n * 2 ^ ds.length ≤ n0 ∧ ds.length ≤ 60) ∧ Fl.Hd (Below w.heap.size w w'))
  case atStart =>
    exact ⟨q, [Rad.ch r], rfl, rfl, ⟨Nat.le_refl _, by rw [HQ.out]; exact Nat.le_trans (Nat.div_le_self _ _) (by have := G5.out; omega), by rw [Rad.rdig_zero b hb2 n0, ← HQ.out, ← HR.out]⟩, ⟨by rw [HQ.out]; exact len_step (l := 0) (by omega) hb2, by simp⟩, ⟨Go.Proofs.YtinaibebdacnmaaDoorW.PrintWords.pw_below_drewN (Below.refl _ _) _⟩⟩
  case round =>
    clear e1 e2 e3 e4 r1 r2 hX HQ HR hr1 hs0 hs1 hs2
    obtain ⟨n, ds, rfl, rfl, HI, HL, HB⟩ := hrel
    by_cases c0 : n = 0
    · subst c0
      have HD := HI.out.2.2
      rw [if_pos rfl, List.nil_append] at HD
      have HD := Fl.Hd.mk HD
      have hadd := add_str ⟨SG.toArray⟩ ⟨ds.toArray⟩ (by show SG.toArray.size + ds.toArray.size ≤ _; have := HL.out.2; have := HSG.out; simp; omega)
      clear HI
      go_wp2_with (go_at_call 43; refine (hSg.out _).mono ?_; rintro e w' ⟨rfl, rfl⟩)
      go_ret2
      refine ⟨ret_se _ _ _ _ ?_ rfl, HB.out⟩
      rw [HD.out]
      apply ByteArray.ext
      simp
    · have c0b : decide ((0 : Int) < (n : Int)) = true := decide_eq_true (by omega)
      have c0n : decide (0 < n) = true := decide_eq_true (by omega)
      obtain ⟨q, r, hq, hr, e1, e2, e3, e4⟩ := Rad.quo_code n b hb0 HI.out.2.1
      have r1 : (r : Int) < 36 := by have := Nat.mod_lt n hb0; omega
      have r2 : r < 36 := by omega
      have hX := Rad.piece r r2
      have hr1 : IntKind.u64.wrap ((r : Int) + 1) = (r : Int) + 1 := IntWalk.u64_in _ (by omega)
      have hs0 : (0 : Int) ≤ (r : Int) := by omega
      have hs1 : (r : Int) ≤ (r : Int) + 1 := by omega
      have hs2 : (r : Int) + 1 ≤ 36 := by omega
      have HQ := Fl.Hd.mk hq
      have HR := Fl.Hd.mk hr
      clear hq hr
      have hl53 := len_small HL.out.1 c0 G5.out
      have hadd := add_str ⟨#[Rad.ch r]⟩ ⟨ds.toArray⟩ (by show 1 + ds.toArray.size ≤ _; simp; omega)
      have HL3 := Fl.Hd.mk (show n / b * 2 ^ (ds.length + 1) ≤ n0 ∧ ds.length + 1 ≤ 60 from ⟨len_step HL.out.1 hb2, by omega⟩)
      clear hl53
      cases gk with
      | zero => exact absurd HI.out.1 (by omega)
      | succ k1 =>
      go_wp2
      go_quiet (fail)
      go_wp2
      go_roundg k1
      case measure => omega
      case rel =>
        refine ⟨q, Rad.ch r :: ds, rfl, by (try rw [← Rad.cons_ba]) <;> (try rfl), ⟨?_, ?_, ?_⟩, ⟨by rw [HQ.out]; exact HL3.out⟩, ⟨Go.Proofs.YtinaibebdacnmaaDoorW.PrintWords.pw_below_drewN HB.out _⟩⟩
        · have := HI.out.1
          have h2 : n / b < n := Nat.div_lt_self (by omega) (by omega)
          rw [HQ.out]; omega
        · rw [HQ.out]; exact Nat.le_trans (Nat.div_le_self _ _) HI.out.2.1
        · rw [HI.out.2.2, if_neg c0, Rad.rdig_zero b hb2 n, ← HQ.out, ← HR.out, List.append_assoc]; rfl
end Go.Proofs.YtinaibebdacnmaaDoor
