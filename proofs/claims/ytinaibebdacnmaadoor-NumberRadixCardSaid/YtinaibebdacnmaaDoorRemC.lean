/- The reference's Rem and Modulo: what each call comes to. -/
import Derived.Test.YtinaibebdacnmaaDoorRefC
set_option exponentiation.threshold 3000
namespace Go.Proofs.YtinaibebdacnmaaDoor
open Go.RowKit

namespace Fl
theorem E_mono {a b : Nat} (h : a ≤ b) : E a ≤ E b := by unfold E; omega
theorem E_le {a : Nat} (h : a < inf) : E a ≤ 2045 := by unfold E inf at *; omega
theorem M_pos {a : Nat} (h : 0 < a) : 0 < M a := by unfold M; split <;> omega
/-- The rest, over the lower one's place. -/
theorem mod_place (X Y : Nat) (h : Y ≤ X) : V X % V Y = (M X * 2 ^ (E X - E Y)) % M Y * 2 ^ E Y := by
  have hE := E_mono h
  have e : V X = M X * 2 ^ (E X - E Y) * 2 ^ E Y := by rw [V_eq, Nat.mul_assoc, ← Nat.pow_add]; congr 2; omega
  rw [e, V_eq Y, Nat.mul_mod_mul_right]
theorem pow_mod_zero {a j d n : Nat} (h : j ≤ d) (h0 : a * 2 ^ j % n = 0) : a * 2 ^ d % n = 0 := by
  obtain ⟨k, rfl⟩ := Nat.exists_eq_add_of_le h
  rw [Nat.pow_add, ← Nat.mul_assoc, Nat.mul_mod, h0]; simp
end Fl

namespace Fl
theorem fmod_same (n1 n2 x y : Nat) (h1 : isNan n1 = true) (h2 : isNan n2 = true) : same (fmod n1 x y) (fmod n2 x y) = true := by
  unfold fmod
  by_cases hb : bad x y = true
  · rw [if_pos hb, if_pos hb]; unfold same; rw [h1, h2]; rfl
  · rw [if_neg hb, if_neg hb]; unfold same; simp
end Fl

namespace Fl
theorem w64 (n : Int) : IntKind.u64.wrap n = n % 18446744073709551616 := by simp [IntKind.wrap, IntKind.bits, IntKind.signed]
theorem wp_low {m k : Nat} (hm : (m : Int) ≤ 9007199254740991) (hk : k ≤ 1010) : m * 2 ^ k / 2 ^ 1074 = 0 := by
  apply Nat.div_eq_of_lt
  have h1 : m < 2 ^ 53 := by simp only [Nat.reducePow]; omega
  have h2 : m * 2 ^ k < 2 ^ 53 * 2 ^ k := Nat.mul_lt_mul_of_pos_right h1 (Nat.two_pow_pos k)
  rw [← Nat.pow_add] at h2
  have h3 : 2 ^ (53 + k) ≤ 2 ^ 1074 := Nat.pow_le_pow_right (by decide) (by omega)
  omega
theorem wp_mid {m k : Nat} (hk : k ≤ 1074) : m * 2 ^ k / 2 ^ 1074 = m / 2 ^ (1074 - k) := by
  have e : 2 ^ 1074 = 2 ^ (1074 - k) * 2 ^ k := by rw [← Nat.pow_add]; congr 1; omega
  rw [e, Nat.mul_div_mul_right _ _ (Nat.two_pow_pos k)]
theorem wp_high {m k : Nat} (hk : 1074 ≤ k) : m * 2 ^ k / 2 ^ 1074 = m * 2 ^ (k - 1074) := by
  have e : m * 2 ^ k = m * 2 ^ (k - 1074) * 2 ^ 1074 := by rw [Nat.mul_assoc, ← Nat.pow_add]; congr 2; omega
  rw [e, Nat.mul_div_cancel _ (Nat.two_pow_pos 1074)]
theorem wp_far (m k : Nat) (hk : 1138 ≤ k) : m * 2 ^ (k - 1074) % 18446744073709551616 = 0 := by
  have e : m * 2 ^ (k - 1074) = m * 2 ^ (k - 1138) * 2 ^ 64 := by
    have h : k - 1074 = (k - 1138) + 64 := by omega
    rw [h, Nat.pow_add, ← Nat.mul_assoc]
  rw [e]
  exact Nat.mul_mod_left _ _
end Fl

end Go.Proofs.YtinaibebdacnmaaDoor
