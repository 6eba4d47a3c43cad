/- Whole numbers, fewer bits, lengths and indexes: what each call comes to, of the program and of the reference. -/
import Derived.Test.YtinaibebdacnmaaDoorDivLaw
set_option exponentiation.threshold 3000
namespace Go.Proofs.YtinaibebdacnmaaDoor
open Go.RowKit

namespace Fl
theorem wp_pos {r : Nat} (h : 4607182418800017408 ≤ r) : 0 < wp r := by
  unfold wp
  have := V_le_iff.2 h
  rw [V_one] at this
  exact Nat.div_pos this (Nat.two_pow_pos _)
theorem wp_eq (x : Nat) : wp x = M x * 2 ^ E x / 2 ^ 1074 := by unfold wp; rw [V_eq]
/-- So far a whole part goes into 64 bits. -/
def fits (r : Nat) : Bool := decide (E r ≤ 1085)
end Fl

theorem ret_ib {k : IntKind} {a b : Int} {c d : Bool} (h : a = b) (h2 : c = d) : Ending.returned (.tuple #[.int k a, .bool c]) = .returned (.tuple #[.int k b, .bool d]) := by rw [h, h2]

set_option maxRecDepth 100000 in
theorem whole_c (x : Nat) (hx : x < 18446744073709551616) (w : World) :
    Calls Tryd.prog 42 #[.float .f64 x] w fun e w' => e = .returned (.tuple #[.int .u64 (if Fl.fits (Fl.sz x) = true then (Fl.wp (Fl.sz x) : Int) else 0), .bool (Fl.fits (Fl.sz x))]) ∧ w = w' := by
  have hS := Fl.Hd.mk (size_c x hx)
  have hP := Fl.Hd.mk (parts_c (Fl.sz x) (Fl.sz_lt x))
  have m1 := Fl.M_lt (Fl.sz x)
  have hw := Fl.Hd.mk (Fl.wp_eq (Fl.sz x))
  unfold Fl.fits
  have ek : ∃ k, k = Fl.E (Fl.sz x) := ⟨_, rfl⟩
  have hkb : Fl.E (Fl.sz x) ≤ 2047 := by have := Fl.sz_lt x; unfold Fl.E; omega
  generalize Fl.wp (Fl.sz x) = W at *
  generalize Fl.M (Fl.sz x) = m at *
  generalize Fl.E (Fl.sz x) = k at *
  generalize Fl.sz x = X at *
  have bb : (m : Int) ≤ 9007199254740991 := by omega
  clear m1 ek
  have mid : ∀ (R : Int) (B : Bool), (if decide (k ≤ 1085) = true then (W : Int) else 0) = R → decide (k ≤ 1085) = B → (Calls Tryd.prog 42 #[.float .f64 x] w fun e w' => e = .returned (.tuple #[.int .u64 R, .bool B]) ∧ w = w') → Calls Tryd.prog 42 #[.float .f64 x] w fun e w' => e = .returned (.tuple #[.int .u64 (if decide (k ≤ 1085) = true then (W : Int) else 0), .bool (decide (k ≤ 1085))]) ∧ w = w' := by
    intro R B h1 h2 h3; rw [h1, h2]; exact h3
  by_cases c1 : k ≤ 1010
  · refine mid 0 true ?_ (decide_eq_true (by omega)) ?_
    · rw [if_pos (decide_eq_true (by omega)), hw.out, Fl.wp_low bb c1]; rfl
    have d1 : (k : Int) - 1074 ≤ -64 := by omega
    clear hw mid hkb
    go_enter Tryd.func42, Tryd.ntmps42
    go_wp2_with (first | (go_at_call 67; refine (hS.out _).mono ?_; rintro e w' ⟨rfl, rfl⟩) | (go_at_call 68; refine (hP.out _).mono ?_; rintro e w' ⟨rfl, rfl⟩))
    go_ret2
    exact ⟨rfl, rfl⟩
  · by_cases c2 : k < 1074
    · have hW : W = m / 2 ^ (1074 - k) := by rw [hw.out, Fl.wp_mid (by omega)]
      refine mid W true (if_pos (decide_eq_true (by omega))) (decide_eq_true (by omega)) ?_
      have d1 : -64 < (k : Int) - 1074 := by omega
      have d2 : (k : Int) - 1074 < 0 := by omega
      have hn : (-((k : Int) - 1074)).toNat = 1074 - k := by omega
      have hq : (m : Int) / 2 ^ (1074 - k) = (W : Int) := by rw [hW]; push_cast; rfl
      have hq := Fl.Hd.mk hq
      have hn := Fl.Hd.mk hn
      clear hw mid hkb hW
      go_enter Tryd.func42, Tryd.ntmps42
      go_wp2_with (first | (go_at_call 67; refine (hS.out _).mono ?_; rintro e w' ⟨rfl, rfl⟩) | (go_at_call 68; refine (hP.out _).mono ?_; rintro e w' ⟨rfl, rfl⟩))
      go_ret2
      exact ⟨by first | rfl | exact ret_ib (by rw [hn.out, hq.out]) rfl, rfl⟩
    · have hW : W = m * 2 ^ (k - 1074) := by rw [hw.out, Fl.wp_high (by omega)]
      by_cases c3 : k ≤ 1085
      · refine mid W true (if_pos (decide_eq_true (by omega))) (decide_eq_true (by omega)) ?_
        have d1 : ¬ (k : Int) - 1074 < 0 := by omega
        have d2 : (k : Int) - 1074 ≤ 11 := by omega
        have d3 : -64 < (k : Int) - 1074 := by omega
        have hp : 2 ^ (k - 1074) ≤ 2 ^ 11 := Nat.pow_le_pow_right (by decide) (by omega)
        have hb : m * 2 ^ (k - 1074) ≤ 9007199254740991 * 2048 := Nat.mul_le_mul (by omega) hp
        have hq : (m : Int) * 2 ^ (k - 1074) = (W : Int) := by rw [hW]; push_cast; rfl
        have hq2 : IntKind.u64.wrap (W : Int) = W := IntWalk.u64_in _ (by omega)
        have hq := Fl.Hd.mk hq
        have hq2 := Fl.Hd.mk hq2
        clear hw mid hkb hW hp hb
        go_enter Tryd.func42, Tryd.ntmps42
        go_wp2_with (first | (go_at_call 67; refine (hS.out _).mono ?_; rintro e w' ⟨rfl, rfl⟩) | (go_at_call 68; refine (hP.out _).mono ?_; rintro e w' ⟨rfl, rfl⟩))
        go_ret2
        exact ⟨by first | rfl | exact ret_ib (by first | rw [hq.out, hq2.out] | rw [hq2.out]) rfl, rfl⟩
      · refine mid 0 false (if_neg (by simp; omega)) (decide_eq_false (by omega)) ?_
        have d1 : ¬ (k : Int) - 1074 < 0 := by omega
        have d2 : 11 < (k : Int) - 1074 := by omega
        have d3 : -64 < (k : Int) - 1074 := by omega
        clear hw mid hkb hW
        go_enter Tryd.func42, Tryd.ntmps42
        go_wp2_with (first | (go_at_call 67; refine (hS.out _).mono ?_; rintro e w' ⟨rfl, rfl⟩) | (go_at_call 68; refine (hP.out _).mono ?_; rintro e w' ⟨rfl, rfl⟩))
        go_ret2
        exact ⟨rfl, rfl⟩

namespace Fl
theorem wp_zero_iff (r : Nat) : wp r = 0 ↔ r < 4607182418800017408 := by
  constructor
  · intro h
    apply Nat.lt_of_not_le
    intro hc
    have := wp_pos hc
    omega
  · exact wp_zero
theorem M_zero {r : Nat} (h : M r = 0) : r = 0 := by unfold M at h; split at h <;> omega
theorem integer_high {x : Nat} (hx : x < 18446744073709551616) (hn : isNan x = false) (hE : 1074 ≤ E (sz x)) : integer x = x := by
  have hle : sz x ≤ inf := by unfold isNan at hn; simp at hn; exact hn
  have h1 : ¬ sz x < 4607182418800017408 := by unfold E at hE; omega
  unfold integer
  rw [if_neg (by rw [hn]; simp; omega)]
  split
  · rfl
  · have e : wp (sz x) * 2 ^ 1074 = V (sz x) := by
      rw [wp_eq, wp_high hE, V_eq, Nat.mul_assoc, ← Nat.pow_add]; congr 2; omega
    rw [e, rho_eq rfl, mk_eta hx]
end Fl

end Go.Proofs.YtinaibebdacnmaaDoor
