/- Plain facts on binary floating point words: how two words compare. No program in sight. -/
import Derived.Laws.FloatArith
import Derived.Laws.BitsAllLaws
import Derived.RowKit
namespace Go.Proofs.YtnknfffldgkgcaaGreatDoor.Fl
open Ieee Go.RowKit

/-- A fact laid aside, so that no walk rewrites by it. -/
structure Hd (p : Prop) : Prop where
  out : p

/-- The size of a word: its bits without the sign. -/
def sz (b : Nat) : Nat := b % 9223372036854775808
/-- Is the sign bit set? -/
def sg (b : Nat) : Bool := b / 9223372036854775808 % 2 == 1
def inf : Nat := 9218868437227405312
def isNan (b : Nat) : Bool := decide (inf < sz b)
/-- Where a word stands among all. -/
def pos (b : Nat) : Int := if sg b then -(sz b : Int) else (sz b : Int)

/-- The magnitude of a size in units of the least one. -/
def V (r : Nat) : Nat := if r < 4503599627370496 then r else (4503599627370496 + r % 4503599627370496) * 2 ^ (r / 4503599627370496 - 1)

theorem binade_d : Ieee.double.binade = 4503599627370496 := by decide
theorem sw_d : Ieee.double.signWeight = 9223372036854775808 := by decide
theorem ir_d : Ieee.double.infRung = 9218868437227405312 := by decide
theorem lp_d : Ieee.double.leastPlace = -1074 := by decide
theorem fb_d : Ieee.double.fractionBits = 52 := rfl
theorem fmt : FloatKind.f64.format = Ieee.double := rfl

theorem read_eq (b : Nat) : Ieee.double.read b =
    if sz b < 4503599627370496 then .number (sg b) (sz b) (-1074)
    else if sz b < inf then .number (sg b) (4503599627370496 + sz b % 4503599627370496) (-1074 + (sz b / 4503599627370496 - 1 : Nat))
    else if sz b = inf then .infinity (sg b) else .nan (sg b) (sz b - inf) := by
  unfold Format.read
  simp only [binade_d, sw_d, ir_d, lp_d, sz, sg, inf]
  rfl

theorem V_lt_succ_binade (r : Nat) (h : 4503599627370496 ≤ r) : V r < 4503599627370496 * 2 ^ (r / 4503599627370496) := by
  have hE : r / 4503599627370496 ≠ 0 := by omega
  obtain ⟨e, he⟩ := Nat.exists_eq_succ_of_ne_zero hE
  unfold V
  rw [if_neg (by omega), he]
  simp only [Nat.succ_eq_add_one, Nat.add_sub_cancel]
  rw [Nat.pow_succ]
  have hm : r % 4503599627370496 < 4503599627370496 := Nat.mod_lt _ (by decide)
  have hp : 0 < 2 ^ e := Nat.two_pow_pos e
  generalize 2 ^ e = p at *
  have : (4503599627370496 + r % 4503599627370496) * p < 9007199254740992 * p := Nat.mul_lt_mul_of_pos_right (by omega) hp
  omega

theorem V_ge_binade (r : Nat) (h : 4503599627370496 ≤ r) : 4503599627370496 * 2 ^ (r / 4503599627370496 - 1) ≤ V r := by
  unfold V
  rw [if_neg (by omega)]
  exact Nat.mul_le_mul_right _ (by omega)

theorem V_lt {r s : Nat} (h : r < s) : V r < V s := by
  by_cases hs : s < 4503599627370496
  · unfold V; rw [if_pos (by omega), if_pos hs]; exact h
  · by_cases hr : r < 4503599627370496
    · have := V_ge_binade s (by omega)
      have hp : 0 < 2 ^ (s / 4503599627370496 - 1) := Nat.two_pow_pos _
      have e : V r = r := by unfold V; rw [if_pos hr]
      rw [e]
      generalize 2 ^ (s / 4503599627370496 - 1) = p at *
      omega
    · by_cases hE : r / 4503599627370496 = s / 4503599627370496
      · unfold V
        rw [if_neg hr, if_neg hs, hE]
        exact Nat.mul_lt_mul_of_pos_right (by omega) (Nat.two_pow_pos _)
      · have h1 := V_lt_succ_binade r (by omega)
        have h2 := V_ge_binade s (by omega)
        have h3 : 2 ^ (r / 4503599627370496) ≤ 2 ^ (s / 4503599627370496 - 1) := Nat.pow_le_pow_right (by decide) (by omega)
        omega

theorem V_lt_iff {r s : Nat} : V r < V s ↔ r < s := by
  constructor
  · intro h
    by_cases hrs : r < s
    · exact hrs
    · rcases Nat.lt_or_eq_of_le (Nat.le_of_not_lt hrs) with h1 | h1
      · have := V_lt h1; omega
      · subst h1; omega
  · exact V_lt

theorem V_inj {r s : Nat} : V r = V s ↔ r = s := by
  constructor
  · intro h
    rcases Nat.lt_trichotomy r s with h1 | h1 | h1
    · have := V_lt h1; omega
    · exact h1
    · have := V_lt h1; omega
  · intro h; rw [h]

/-- What a finite word reads as: its magnitude and the place of it, as one number. -/
theorem read_fin (b : Nat) (h : sz b < inf) : ∃ m k : Nat, Ieee.double.read b = .number (sg b) m (-1074 + (k : Int)) ∧ m * 2 ^ k = V (sz b) := by
  rw [read_eq]
  by_cases h1 : sz b < 4503599627370496
  · rw [if_pos h1]
    refine ⟨sz b, 0, by simp, ?_⟩
    unfold V; rw [if_pos h1]; simp
  · rw [if_neg h1, if_pos h]
    refine ⟨_, _, rfl, ?_⟩
    unfold V; rw [if_neg h1]

theorem cmp_int (a b : Int) : compare a b = if a < b then .lt else if a = b then .eq else .gt := rfl

theorem signed_eq (s : Bool) (m k : Nat) : signed s m k = if s then -((m * 2 ^ k : Nat) : Int) else ((m * 2 ^ k : Nat) : Int) := by
  unfold signed; rw [Nat.shiftLeft_eq]

theorem cmp_scale (a b : Int) (p : Nat) (hp : 0 < p) : compare (a * (p : Int)) (b * (p : Int)) = compare a b := by
  have hp' : (0 : Int) < (p : Int) := by omega
  rw [cmp_int, cmp_int]
  have e1 : a * (p : Int) < b * (p : Int) ↔ a < b := Int.mul_lt_mul_right hp'
  have e2 : a * (p : Int) = b * (p : Int) ↔ a = b := Int.mul_eq_mul_right_iff (by omega)
  simp only [e1, e2]

theorem order_num (s t : Bool) (m n i j : Nat) :
    (Datum.number s m (-1074 + (i : Int))).order (.number t n (-1074 + (j : Int))) =
      some (compare (if s then -((m * 2 ^ i : Nat) : Int) else ((m * 2 ^ i : Nat) : Int)) (if t then -((n * 2 ^ j : Nat) : Int) else ((n * 2 ^ j : Nat) : Int))) := by
  unfold Datum.order
  simp only [signed_eq]
  congr 1
  have hb : min (-1074 + (i : Int)) (-1074 + (j : Int)) = -1074 + ((min i j : Nat) : Int) := by omega
  rw [hb]
  have e1 : (-1074 + (i : Int) - (-1074 + ((min i j : Nat) : Int))).toNat = i - min i j := by omega
  have e2 : (-1074 + (j : Int) - (-1074 + ((min i j : Nat) : Int))).toNat = j - min i j := by omega
  rw [e1, e2]
  have f1 : m * 2 ^ i = m * 2 ^ (i - min i j) * 2 ^ (min i j) := by
    rw [Nat.mul_assoc, ← Nat.pow_add]; congr 2; omega
  have f2 : n * 2 ^ j = n * 2 ^ (j - min i j) * 2 ^ (min i j) := by
    rw [Nat.mul_assoc, ← Nat.pow_add]; congr 2; omega
  rw [← cmp_scale _ _ (2 ^ min i j) (Nat.two_pow_pos _)]
  rw [f1, f2]
  cases s <;> cases t <;> simp [Int.natCast_mul, Int.neg_mul]

/-- How two words compare. -/
theorem order_eq (a b : Nat) : Ieee.double.order a b = if isNan a || isNan b then none else some (compare (pos a) (pos b)) := by
  unfold Format.order
  by_cases ha : sz a < inf
  · have na : isNan a = false := by simp [isNan]; omega
    obtain ⟨m, i, e1, v1⟩ := read_fin a ha
    by_cases hb : sz b < inf
    · have nb : isNan b = false := by simp [isNan]; omega
      obtain ⟨n, j, e2, v2⟩ := read_fin b hb
      rw [e1, e2, order_num, v1, v2, na, nb]
      simp only [Bool.or_self, Bool.false_eq_true, if_false]
      congr 1
      unfold pos
      have h1 := @V_lt_iff (sz a) (sz b)
      have h2 := @V_lt_iff (sz b) (sz a)
      have h3 := @V_inj (sz a) (sz b)
      have h4 := @V_lt_iff 0 (sz a)
      have h5 := @V_lt_iff 0 (sz b)
      have h0 : V 0 = 0 := by unfold V; simp
      rw [h0] at h4 h5
      generalize V (sz a) = p at *
      generalize V (sz b) = q at *
      cases sg a <;> cases sg b <;> simp only [if_true, if_false, Bool.false_eq_true, cmp_int] <;>
        (split <;> split <;> (try rfl) <;> (try (split <;> (try split) <;> (try rfl))) <;> (exfalso; omega))
    · rw [e1]
      by_cases hbi : sz b = inf
      · have nb : isNan b = false := by simp [isNan]; omega
        have e2 : Ieee.double.read b = .infinity (sg b) := by
          rw [read_eq, if_neg (by unfold inf at *; omega), if_neg hb, if_pos hbi]
        rw [e2, na, nb]
        simp only [Datum.order, Bool.or_self, Bool.false_eq_true, if_false, cmp_int]
        congr 1
        unfold pos
        cases sg a <;> cases sg b <;> simp only [if_true, if_false, Bool.false_eq_true] <;>
          (split <;> (try rfl) <;> (try (split <;> (try rfl))) <;> (exfalso; unfold inf at *; omega))
      · have nb : isNan b = true := by simp [isNan]; omega
        have e2 : Ieee.double.read b = .nan (sg b) (sz b - inf) := by
          rw [read_eq, if_neg (by unfold inf at *; omega), if_neg hb, if_neg hbi]
        rw [e2, nb]
        simp [Datum.order]
  · by_cases hai : sz a = inf
    · have na : isNan a = false := by simp [isNan]; omega
      have e1 : Ieee.double.read a = .infinity (sg a) := by
        rw [read_eq, if_neg (by unfold inf at *; omega), if_neg ha, if_pos hai]
      rw [e1]
      by_cases hb : sz b < inf
      · have nb : isNan b = false := by simp [isNan]; omega
        obtain ⟨n, j, e2, v2⟩ := read_fin b hb
        rw [e2, na, nb]
        simp only [Datum.order, Bool.or_self, Bool.false_eq_true, if_false, cmp_int]
        congr 1
        unfold pos
        cases sg a <;> cases sg b <;> simp only [if_true, if_false, Bool.false_eq_true] <;>
          (split <;> (try rfl) <;> (try (split <;> (try rfl))) <;> (exfalso; unfold inf at *; omega))
      · by_cases hbi : sz b = inf
        · have nb : isNan b = false := by simp [isNan]; omega
          have e2 : Ieee.double.read b = .infinity (sg b) := by
            rw [read_eq, if_neg (by unfold inf at *; omega), if_neg hb, if_pos hbi]
          rw [e2, na, nb]
          simp only [Datum.order, Bool.or_self, Bool.false_eq_true, if_false]
          congr 1
          unfold pos
          rw [hai, hbi]
          cases sg a <;> cases sg b <;> decide
        · have nb : isNan b = true := by simp [isNan]; omega
          have e2 : Ieee.double.read b = .nan (sg b) (sz b - inf) := by
            rw [read_eq, if_neg (by unfold inf at *; omega), if_neg hb, if_neg hbi]
          rw [e2, nb]
          simp [Datum.order]
    · have na : isNan a = true := by simp [isNan]; omega
      have e1 : Ieee.double.read a = .nan (sg a) (sz a - inf) := by
        rw [read_eq, if_neg (by unfold inf at *; omega), if_neg ha, if_neg hai]
      rw [e1, na]
      simp [Datum.order]

theorem order_nan {a b : Nat} (h : (isNan a || isNan b) = true) : Ieee.double.order a b = none := by rw [order_eq, if_pos h]

theorem order_lt (a b : Nat) : (Ieee.double.order a b == some .lt) = (!isNan a && !isNan b && decide (pos a < pos b)) := by
  rw [order_eq, cmp_int]
  cases isNan a <;> cases isNan b <;> simp
  split
  · simp_all
  · split <;> simp_all

theorem order_gt (a b : Nat) : (Ieee.double.order a b == some .gt) = (!isNan a && !isNan b && decide (pos b < pos a)) := by
  rw [order_eq, cmp_int]
  cases isNan a <;> cases isNan b <;> simp
  split
  · simp_all; omega
  · split <;> simp_all; omega

theorem order_beq (a b : Nat) : (Ieee.double.order a b == some .eq) = (!isNan a && !isNan b && decide (pos a = pos b)) := by
  rw [order_eq, cmp_int]
  cases isNan a <;> cases isNan b <;> simp
  split
  · simp_all; omega
  · split <;> simp_all

theorem order_self (a : Nat) : (Ieee.double.order a a != some .eq) = isNan a := by
  rw [bne, order_beq]; simp

theorem order_self' (a : Nat) : (Ieee.double.order a a == some .eq) = !isNan a := by
  rw [order_beq]; simp

/-- Without the sign. -/
theorem andNot_sign (a : Nat) (h : a < 18446744073709551616) : bits .andNot .u64 (a : Int) 9223372036854775808 = (sz a : Int) := by
  rw [u64_andNot _ _ (by omega) (by omega) (by decide) (by decide)]
  have e : (18446744073709551615 - (9223372036854775808 : Int).toNat : Nat) = 2 ^ 63 - 1 := by decide
  rw [e, Int.toNat_natCast, Nat.and_two_pow_sub_one_eq_mod]
  rfl

theorem sg_shift (a : Nat) (h : a < 18446744073709551616) : ((a : Int) / 9223372036854775808 == 1) = sg a := by
  have h1 : a / 9223372036854775808 = 0 ∨ a / 9223372036854775808 = 1 := by omega
  unfold sg
  rcases h1 with e | e
  · have : (a : Int) / 9223372036854775808 = 0 := by omega
    rw [e, this]; rfl
  · have : (a : Int) / 9223372036854775808 = 1 := by omega
    rw [e, this]; rfl

theorem sg_wrap (a : Nat) (h : a < 18446744073709551616) : decide (wrap64 (a : Int) < 0) = sg a := by
  have h1 : a / 9223372036854775808 = 0 ∨ a / 9223372036854775808 = 1 := by omega
  unfold sg
  rcases h1 with e | e
  · rw [e]; exact decide_eq_false (by unfold wrap64; omega)
  · rw [e]; exact decide_eq_true (by unfold wrap64; omega)

theorem nan_gt (a : Nat) : decide (9218868437227405312 < (sz a : Int)) = isNan a := by
  unfold isNan inf
  by_cases h : 9218868437227405312 < sz a
  · rw [decide_eq_true h]; exact decide_eq_true (by omega)
  · rw [decide_eq_false h]; exact decide_eq_false (by omega)

theorem fin_lt (a : Nat) : decide ((sz a : Int) < 9218868437227405312) = decide (sz a < inf) := by
  unfold inf
  by_cases h : sz a < 9218868437227405312
  · rw [decide_eq_true h]; exact decide_eq_true (by omega)
  · rw [decide_eq_false h]; exact decide_eq_false (by omega)

/-- SameValue of two numbers. -/
def same (a b : Nat) : Bool := (isNan a && isNan b) || a == b
/-- SameValueZero. -/
def same0 (a b : Nat) : Bool := same a b || (sz a == 0 && sz b == 0)
/-- '=='. -/
def equal (a b : Nat) : Bool := !isNan a && !isNan b && decide (pos a = pos b)
def less (a b : Nat) : Bool := !isNan a && !isNan b && decide (pos a < pos b)

theorem word_ext {a b : Nat} (ha : a < 18446744073709551616) (hb : b < 18446744073709551616) (h : sz a = sz b) (hs : sg a = sg b) : a = b := by
  unfold sz at h; unfold sg at hs
  have h1 : a / 9223372036854775808 = 0 ∨ a / 9223372036854775808 = 1 := by omega
  have h2 : b / 9223372036854775808 = 0 ∨ b / 9223372036854775808 = 1 := by omega
  rcases h1 with e1 | e1 <;> rcases h2 with e2 | e2 <;> rw [e1, e2] at hs <;> first | omega | (exact absurd hs (by decide))

theorem same_num {a b : Nat} (ha : a < 18446744073709551616) (hb : b < 18446744073709551616) (na : isNan a = false) (nb : isNan b = false) :
    ((Ieee.double.order a b == some .eq) && (sg a == sg b)) = same a b := by
  rw [order_beq, na, nb]
  simp only [same, na, nb, Bool.not_false, Bool.true_and, Bool.and_self, Bool.false_or]
  rw [Bool.eq_iff_iff]
  simp only [Bool.and_eq_true, decide_eq_true_eq, beq_iff_eq]
  constructor
  · rintro ⟨h1, h2⟩
    refine word_ext ha hb ?_ h2
    unfold pos at h1
    rw [h2] at h1
    split at h1 <;> omega
  · rintro rfl
    exact ⟨rfl, rfl⟩

theorem same_nan {a b : Nat} (h : (isNan a || isNan b) = true) : (isNan a && isNan b) = same a b := by
  unfold same
  by_cases e : a = b
  · subst e; cases hh : isNan a <;> simp [hh] at h ⊢
  · have : (a == b) = false := by simpa using e
    rw [this]; simp

theorem pos_eq_iff {a b : Nat} : pos a = pos b ↔ (sz a = sz b ∧ sg a = sg b) ∨ (sz a = 0 ∧ sz b = 0) := by
  unfold pos
  cases sg a <;> cases sg b <;> simp <;> omega

theorem equal_same0 {a b : Nat} (ha : a < 18446744073709551616) (hb : b < 18446744073709551616) : (!isNan a && !isNan b && same0 a b) = equal a b := by
  unfold equal same0 same
  cases isNan a <;> cases isNan b <;> simp
  rw [Bool.eq_iff_iff]
  simp only [Bool.or_eq_true, Bool.and_eq_true, decide_eq_true_eq, beq_iff_eq, pos_eq_iff]
  constructor
  · rintro (rfl | h)
    · exact .inl ⟨rfl, rfl⟩
    · exact .inr h
  · rintro (⟨h1, h2⟩ | h)
    · exact .inl (word_ext ha hb h1 h2)
    · exact .inr h

theorem nan_of_sz0 {a : Nat} (h : sz a = 0) : isNan a = false := by unfold isNan inf; rw [h]; rfl

theorem same0_or {a b : Nat} (ha : a < 18446744073709551616) (hb : b < 18446744073709551616) : (same a b || equal a b) = same0 a b := by
  rw [← equal_same0 ha hb]
  unfold same0
  by_cases e : sz a = 0 ∧ sz b = 0
  · rw [nan_of_sz0 e.1, nan_of_sz0 e.2]; simp
  · have : (sz a == 0 && sz b == 0) = false := by
      cases h : (sz a == 0 && sz b == 0)
      · rfl
      · simp at h; exact absurd h e
    rw [this]
    cases same a b <;> cases isNan a <;> cases isNan b <;> rfl

theorem int_beq (a b : Nat) : ((a : Int) == (b : Int)) = (a == b) := by
  rw [Bool.eq_iff_iff]; simp only [beq_iff_eq]; omega

theorem int_beq0 (a : Nat) : ((a : Int) == 0) = (a == 0) := int_beq a 0

theorem sz_lt (a : Nat) : sz a < 9223372036854775808 := Nat.mod_lt _ (by decide)

end Go.Proofs.YtnknfffldgkgcaaGreatDoor.Fl
