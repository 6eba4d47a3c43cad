/- Lengths, indexes, and whole numbers of fewer bits: what each call comes to. -/
import Derived.Test.YtmcibofnanbhpaaWhoC
set_option exponentiation.threshold 3000
namespace Go.Proofs.Ytmcibofnanbhpaa
open Go.RowKit

namespace Fl
/-- As a length; as an index, and its error. -/
def len (x : Nat) : Int := if isNan x = true ∨ sg x = true then 0 else if 9007199254740991 < wp (sz x) then 9007199254740991 else wp (sz x)
def idx (x : Nat) : Int := if isNan x = true then 0 else if 9007199254740991 < wp (sz x) ∨ (sg x = true ∧ 0 < wp (sz x)) then 0 else wp (sz x)
def idxE (x : Nat) : Int := if isNan x = true then 0 else if 9007199254740991 < wp (sz x) ∨ (sg x = true ∧ 0 < wp (sz x)) then 7 else 0
theorem V_ms : V 4845873199050653695 = 9007199254740991 * 2 ^ 1074 := by
  rw [V_eq, show E 4845873199050653695 = 1075 - 1 by decide, show M 4845873199050653695 = 9007199254740991 by decide]
theorem E_inf : E inf = 2046 := by decide
theorem wp_big {r : Nat} (h : 1085 < E r) : 9007199254740991 < wp r := by
  have hr : 4503599627370496 ≤ r := by unfold E at h; omega
  have h1 := M_ge hr
  rw [wp_eq, wp_high (by omega)]
  have h2 : 2 ^ 12 ≤ 2 ^ (E r - 1074) := Nat.pow_le_pow_right (by decide) (by omega)
  have h3 : 4503599627370496 * 2 ^ 12 ≤ M r * 2 ^ (E r - 1074) := Nat.mul_le_mul h1 h2
  omega

theorem order_mk (s : Bool) (t b : Nat) (ht : t ≤ inf) (hb : isNan b = false) : FloatKind.f64.format.order (mk s t) b = some (compare (if s then -(t : Int) else t) (pos b)) := by
  have ht2 : t < 9223372036854775808 := by unfold inf at ht; omega
  have m1 := sz_mk s ht2
  have m2 := sg_mk s ht2
  have hn : isNan (mk s t) = false := by unfold isNan; rw [m1, decide_eq_false_iff_not]; omega
  rw [fmt, order_eq, hn, hb]
  unfold pos
  rw [m1, m2]
  rfl

/-- How the whole part stands to nought and to the greatest safe number. -/
theorem len_cases (x : Nat) (hx : x < 18446744073709551616) :
    (FloatKind.f64.format.order (integer x) 0 = some .eq ∧ FloatKind.f64.format.order (integer x) 4845873199050653695 = some .lt ∧ floatToIntVal .f64 (integer x) .i64 = some 0 ∧ len x = 0 ∧ idx x = 0 ∧ idxE x = 0) ∨
    (FloatKind.f64.format.order (integer x) 0 = some .lt ∧ len x = 0 ∧ idx x = 0 ∧ idxE x = 7) ∨
    (FloatKind.f64.format.order (integer x) 0 = some .gt ∧ FloatKind.f64.format.order (integer x) 4845873199050653695 = some .gt ∧ len x = 9007199254740991 ∧ idx x = 0 ∧ idxE x = 7) ∨
    (FloatKind.f64.format.order (integer x) 0 = some .gt ∧ (FloatKind.f64.format.order (integer x) 4845873199050653695 = some .lt ∨ FloatKind.f64.format.order (integer x) 4845873199050653695 = some .eq) ∧ ∃ n : Int, floatToIntVal .f64 (integer x) .i64 = some n ∧ len x = n ∧ idx x = n ∧ idxE x = 0) := by
  have n0 : isNan 0 = false := by decide
  have nm : isNan 4845873199050653695 = false := by decide
  have p0 : pos 0 = 0 := by decide
  have pm : pos 4845873199050653695 = 4845873199050653695 := by decide
  -- the whole part is a word with a sign
  have word : ∃ s t, integer x = mk s t ∧ t ≤ inf ∧ ((isNan x = true ∧ t = 0) ∨ (isNan x = false ∧ ((sz x = inf ∧ t = inf ∧ s = sg x) ∨ (t < inf ∧ V t = wp (sz x) * 2 ^ 1074 ∧ (0 < wp (sz x) → s = sg x))))) := by
    unfold integer
    cases hn : isNan x
    · have hle : sz x ≤ inf := by unfold isNan at hn; simp at hn; exact hn
      by_cases hs : sz x < 4607182418800017408
      · rw [if_pos (.inr hs)]
        exact ⟨false, 0, rfl, by decide, .inr ⟨rfl, .inr ⟨by decide, by rw [V_zero, wp_zero hs, Nat.zero_mul], fun h0 => by rw [wp_zero hs] at h0; omega⟩⟩⟩
      · rw [if_neg (by simp; omega)]
        by_cases hi : sz x = inf
        · rw [if_pos hi]
          exact ⟨sg x, inf, by have := mk_eta hx; rw [hi] at this; exact this.symm, Nat.le_refl _, .inr ⟨rfl, .inl ⟨hi, rfl, rfl⟩⟩⟩
        · rw [if_neg hi]
          obtain ⟨t, ht, hv⟩ := trunc_rep (r := sz x) (by omega)
          exact ⟨sg x, t, by rw [rho_eq hv], by omega, .inr ⟨rfl, .inr ⟨ht, hv, fun _ => rfl⟩⟩⟩
    · rw [if_pos (.inl rfl)]
      exact ⟨false, 0, rfl, by decide, .inl ⟨rfl, rfl⟩⟩
  obtain ⟨s, t, e, ht, hc⟩ := word
  have o1 := order_mk s t 0 ht n0
  have o2 := order_mk s t 4845873199050653695 ht nm
  rw [p0, cmp_int] at o1
  rw [pm, cmp_int] at o2
  rw [e, o1, o2]
  have ht2 : t < 9223372036854775808 := by unfold inf at ht; omega
  have m1 := sz_mk s ht2
  have m2 := sg_mk s ht2
  have zero : t = 0 → floatToIntVal .f64 (mk s t) .i64 = some 0 := by
    intro h0
    have := toInt_eq (mk s t) 0 (by rw [m1, h0]; decide) (by rw [m1, h0, V_zero, Nat.zero_mul]) (by decide)
    rw [this]; cases sg (mk s t) <;> rfl
  unfold len idx idxE
  rcases hc with ⟨hn, h0⟩ | ⟨hn, ⟨hi, h0, hs⟩ | ⟨hlt, hv, hs⟩⟩
  · have z := zero h0
    subst h0
    rw [z, hn]
    refine .inl ⟨?_, ?_, rfl, by simp, by simp, by simp⟩ <;> cases s <;> rfl
  · have hb : 9007199254740991 < wp (sz x) := by rw [hi]; exact wp_big (by rw [E_inf]; decide)
    rw [hn, ← hs]
    subst h0
    cases s
    · refine .inr (.inr (.inl ⟨?_, ?_, by simp [hb], by simp [hb], by simp [hb]⟩)) <;> (unfold inf; rfl)
    · refine .inr (.inl ⟨?_, by simp, by simp [hb], by simp [hb]⟩)
      unfold inf; rfl
  · by_cases hw : wp (sz x) = 0
    · have h0 : t = 0 := V_inj.1 (by rw [hv, hw, V_zero, Nat.zero_mul])
      have z := zero h0
      subst h0
      rw [z, hn, hw]
      refine .inl ⟨?_, ?_, rfl, by simp, by simp, by simp⟩ <;> cases s <;> rfl
    · have hs' := hs (by omega)
      have hwp : 0 < wp (sz x) := by omega
      have ht0 : 0 < t := by
        apply Nat.pos_of_ne_zero
        intro h0
        rw [h0, V_zero] at hv
        have := Nat.mul_pos hwp (Nat.two_pow_pos 1074)
        omega
      rw [hn, ← hs']
      cases s
      · have hcmp : 4845873199050653695 < t ↔ 9007199254740991 < wp (sz x) := by
          rw [← V_lt_iff, V_ms, hv]
          exact ⟨fun h => Nat.lt_of_mul_lt_mul_right h, fun h => Nat.mul_lt_mul_of_pos_right h (Nat.two_pow_pos _)⟩
        by_cases hb : 9007199254740991 < wp (sz x)
        · have h1 := hcmp.2 hb
          refine .inr (.inr (.inl ⟨?_, ?_, by simp [hb], by simp [hb], by simp [hb]⟩))
          · rw [if_neg (by simp only [Bool.false_eq_true, if_false]; omega), if_neg (by simp only [Bool.false_eq_true, if_false]; omega)]
          · rw [if_neg (by simp only [Bool.false_eq_true, if_false]; omega), if_neg (by simp only [Bool.false_eq_true, if_false]; omega)]
        · have h1 : ¬ 4845873199050653695 < t := fun h => hb (hcmp.1 h)
          have hI := toInt_eq (mk false t) (wp (sz x)) (by rw [m1]; exact hlt) (by rw [m1]; exact hv) (by omega)
          rw [m2] at hI
          refine .inr (.inr (.inr ⟨?_, ?_, wp (sz x), ?_, by simp [hb], by simp [hb], by simp [hb]⟩))
          · rw [if_neg (by simp only [Bool.false_eq_true, if_false]; omega), if_neg (by simp only [Bool.false_eq_true, if_false]; omega)]
          · simp only [Bool.false_eq_true, if_false]
            by_cases he : t = 4845873199050653695
            · rw [if_neg (by omega), if_pos (by omega)]; exact .inr rfl
            · rw [if_pos (by omega)]; exact .inl rfl
          · rw [hI]; simp
      · refine .inr (.inl ⟨?_, by simp, by simp [hwp], by simp [hwp]⟩)
        simp only [if_true]
        rw [if_pos (by omega)]
end Fl
end Go.Proofs.Ytmcibofnanbhpaa
