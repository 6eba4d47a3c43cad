/- Plain facts on binary floating point words: what is exact. No program in sight. -/
import Derived.Test.YtinaibebdacnmaaDoorFloat
import GoSem.Op.Unary
set_option exponentiation.threshold 3000
namespace Go.Proofs.YtinaibebdacnmaaDoor.Fl
open Ieee Go.RowKit

/-- The place of a size's last digit. -/
def E (r : Nat) : Nat := r / 4503599627370496 - 1
/-- A size's digits. -/
def M (r : Nat) : Nat := if r < 4503599627370496 then r else 4503599627370496 + r % 4503599627370496

theorem V_eq (r : Nat) : V r = M r * 2 ^ E r := by
  unfold V M E
  split
  · rename_i h
    have : r / 4503599627370496 = 0 := by omega
    rw [this]; simp
  · rfl
theorem M_lt (r : Nat) : M r < 9007199254740992 := by unfold M; split <;> omega
theorem M_ge {r : Nat} (h : 4503599627370496 ≤ r) : 4503599627370496 ≤ M r := by unfold M; split <;> omega
theorem rung_eq (r : Nat) : E r * 4503599627370496 + M r = r := by unfold E M; split <;> omega
theorem E_low {r : Nat} (h : r < 4503599627370496) : E r = 0 := by unfold E; omega

theorem V_zero : V 0 = 0 := by unfold V; simp
theorem V_pos {r : Nat} (h : 0 < r) : 0 < V r := by
  have := V_lt h; rw [V_zero] at this; exact this
theorem V_le_iff {r s : Nat} : V r ≤ V s ↔ r ≤ s := by
  have := @V_lt_iff s r; omega

theorem log2_mul_pow (n d : Nat) (h : n ≠ 0) : (n * 2 ^ d).log2 = n.log2 + d := by
  have hp : n * 2 ^ d ≠ 0 := Nat.mul_ne_zero h (Nat.pos_iff_ne_zero.1 (Nat.two_pow_pos d))
  apply Nat.le_antisymm
  · have h1 : n < 2 ^ (n.log2 + 1) := Nat.lt_log2_self
    have h2 : n * 2 ^ d < 2 ^ (n.log2 + 1 + d) := by
      rw [Nat.pow_add 2 (n.log2 + 1) d]; exact Nat.mul_lt_mul_of_pos_right h1 (Nat.two_pow_pos d)
    have := (Nat.log2_lt hp).2 h2
    omega
  · apply (Nat.le_log2 hp).2
    rw [Nat.pow_add]
    exact Nat.mul_le_mul_right _ (Nat.log2_self_le h)

theorem cut_exact (way : Toward) (neg : Bool) (n d : Nat) : way.cut neg (n * 2 ^ d) d = n := by
  unfold Toward.cut
  simp only [Nat.shiftLeft_eq, Nat.one_mul]
  by_cases h : n = 0
  · subst h; cases way <;> simp
  · have hl := log2_mul_pow n d h
    have hm : min d ((n * 2 ^ d).log2 + 2) = d := by omega
    rw [hm]
    have hp := Nat.two_pow_pos d
    have h1 : n * 2 ^ d / 2 ^ d = n := Nat.mul_div_cancel _ hp
    have h2 : n * 2 ^ d % 2 ^ d = 0 := Nat.mul_mod_left _ _
    rw [h1, h2]
    cases way <;> simp <;> omega

theorem cut_zero (neg : Bool) (n d : Nat) : Toward.cut .zero neg n d = n / 2 ^ d := by
  unfold Toward.cut
  simp only [Nat.shiftLeft_eq, Nat.one_mul, Bool.toNat_false, Nat.add_zero]
  by_cases h : d ≤ n.log2 + 2
  · rw [Nat.min_eq_left h]
  · rw [Nat.min_eq_right (by omega)]
    have h1 : n < 2 ^ (n.log2 + 1) := Nat.lt_log2_self
    have h2 : 2 ^ (n.log2 + 1) ≤ 2 ^ (n.log2 + 2) := Nat.pow_le_pow_right (by decide) (by omega)
    have h3 : 2 ^ (n.log2 + 1) ≤ 2 ^ d := Nat.pow_le_pow_right (by decide) (by omega)
    rw [Nat.div_eq_of_lt (by omega), Nat.div_eq_of_lt (by omega)]

theorem log2_M {r : Nat} (h : 4503599627370496 ≤ r) : (M r).log2 = 52 := by
  have h1 := M_ge h
  have h2 := M_lt r
  have h0 : M r ≠ 0 := by omega
  apply Nat.le_antisymm
  · have := (Nat.log2_lt (k := 53) h0).2 (by simpa using h2); omega
  · exact (Nat.le_log2 (k := 52) h0).2 (by simpa using h1)

/-- A word with a sign. -/
def mk (s : Bool) (r : Nat) : Nat := if s then 9223372036854775808 + r else r
theorem word_mk (s : Bool) (r : Nat) : Ieee.double.word s r = mk s r := by unfold Format.word mk; rw [sw_d]
theorem sz_mk (s : Bool) {r : Nat} (h : r < 9223372036854775808) : sz (mk s r) = r := by unfold sz mk; cases s <;> simp <;> omega
theorem sg_mk (s : Bool) {r : Nat} (h : r < 9223372036854775808) : sg (mk s r) = s := by
  unfold sg mk
  cases s
  · simp; omega
  · have e : (9223372036854775808 + r) / 9223372036854775808 = 1 := by omega
    simp only [if_true]
    rw [e]; rfl
theorem mk_eta {a : Nat} (h : a < 18446744073709551616) : mk (sg a) (sz a) = a := by
  have h1 : a / 9223372036854775808 = 0 ∨ a / 9223372036854775808 = 1 := by omega
  unfold mk sg sz
  rcases h1 with e | e <;> rw [e] <;> simp <;> omega
theorem mk_lt (s : Bool) {r : Nat} (h : r < 9223372036854775808) : mk s r < 18446744073709551616 := by unfold mk; cases s <;> simp <;> omega

/-- A number that the format has is written as it is. -/
theorem nearest_exact (neg : Bool) (r mag a b : Nat) (place : Int) (hr : r < inf) (h0 : 0 < mag) (hp : place = (a : Int) - b - 1074) (h : mag * 2 ^ a = V r * 2 ^ b) :
    Ieee.double.nearest neg mag place = mk neg r := by
  have hm0 : mag ≠ 0 := by omega
  have hV : V r ≠ 0 := by
    intro e; rw [e] at h
    have := Nat.mul_pos h0 (Nat.two_pow_pos a)
    omega
  have hM0 : M r ≠ 0 := by
    intro e; apply hV; rw [V_eq, e]; simp
  have hlog : mag.log2 + a = (M r).log2 + E r + b := by
    rw [← log2_mul_pow mag a hm0, h, log2_mul_pow _ b hV, V_eq, log2_mul_pow _ _ hM0]
  have hlast : max (place + mag.log2 - 52) (-1074) = (E r : Int) - 1074 := by
    by_cases hn : r < 4503599627370496
    · have e := E_low hn
      have h1 : M r = r := by unfold M; rw [if_pos hn]
      have h2 : (M r).log2 < 52 := (Nat.log2_lt hM0).2 (by rw [h1]; simpa using hn)
      omega
    · have e := log2_M (r := r) (by omega)
      omega
  have hk : Toward.even.cut neg (mag <<< (place - ((E r : Int) - 1074)).toNat) (((E r : Int) - 1074) - place).toNat = M r := by
    rw [Nat.shiftLeft_eq]
    by_cases hc : b + E r ≤ a
    · obtain ⟨s, rfl⟩ := Nat.exists_eq_add_of_le hc
      have e1 : (place - ((E r : Int) - 1074)).toNat = s := by omega
      have e2 : (((E r : Int) - 1074) - place).toNat = 0 := by omega
      rw [e1, e2]
      have e3 : mag * 2 ^ s = M r := by
        have h' : (mag * 2 ^ s) * 2 ^ (b + E r) = M r * 2 ^ (b + E r) := by
          rw [Nat.mul_assoc, ← Nat.pow_add, Nat.add_comm s, h, V_eq, Nat.mul_assoc, ← Nat.pow_add, Nat.add_comm (E r)]
        exact Nat.eq_of_mul_eq_mul_right (Nat.two_pow_pos _) h'
      rw [e3]
      have := cut_exact .even neg (M r) 0
      simpa using this
    · obtain ⟨d, hd⟩ := Nat.exists_eq_add_of_lt (Nat.lt_of_not_le hc)
      have e1 : (place - ((E r : Int) - 1074)).toNat = 0 := by omega
      have e2 : (((E r : Int) - 1074) - place).toNat = d + 1 := by omega
      rw [e1, e2]
      have e3 : mag = M r * 2 ^ (d + 1) := by
        have h' : mag * 2 ^ a = (M r * 2 ^ (d + 1)) * 2 ^ a := by
          rw [h, V_eq, Nat.mul_assoc, Nat.mul_assoc, ← Nat.pow_add, ← Nat.pow_add]
          congr 2; omega
        exact Nat.eq_of_mul_eq_mul_right (Nat.two_pow_pos _) h'
      rw [Nat.pow_zero, Nat.mul_one, e3]
      exact cut_exact .even neg (M r) (d + 1)
  unfold Format.nearest
  rw [if_neg hm0]
  simp only [fb_d, lp_d, binade_d, ir_d]
  have h52 : ((52 : Nat) : Int) = 52 := rfl
  rw [h52, hlast, hk, word_mk]
  congr 1
  have e1 : ((E r : Int) - 1074 - (-1074)).toNat = E r := by omega
  rw [e1, rung_eq]
  unfold inf at hr
  omega

theorem nearest_zero (neg : Bool) (place : Int) : Ieee.double.nearest neg 0 place = mk neg 0 := by
  unfold Format.nearest; rw [if_pos rfl, word_mk]

/-- What a finite word reads as. -/
theorem read_num (b : Nat) (h : sz b < inf) : Ieee.double.read b = .number (sg b) (M (sz b)) (-1074 + (E (sz b) : Int)) := by
  rw [read_eq]
  unfold M E
  by_cases h1 : sz b < 4503599627370496
  · rw [if_pos h1, if_pos h1]
    have : sz b / 4503599627370496 = 0 := by omega
    rw [this]; rfl
  · rw [if_neg h1, if_pos h, if_neg h1]

/-- A difference of two numbers of 0 or more that the format has. -/
theorem sub_exact (a b c : Nat) (ha : a < inf) (hb : b < inf) (hc : c < inf) (hle : V b ≤ V a) (h : V a - V b = V c) : Ieee.double.sub a b = some c := by
  have sa : sz a = a := by unfold sz; unfold inf at ha; omega
  have sb : sz b = b := by unfold sz; unfold inf at hb; omega
  have ga : sg a = false := by have := sg_mk false (r := a) (by unfold inf at ha; omega); exact this
  have gb : sg b = false := by have := sg_mk false (r := b) (by unfold inf at hb; omega); exact this
  unfold Format.sub
  rw [read_num a (by rw [sa]; exact ha), read_num b (by rw [sb]; exact hb), sa, sb, ga, gb]
  simp only [Datum.opposite, Bool.not_false, Datum.sum, signed_eq, if_true, Bool.false_eq_true, if_false, Option.map_some, Format.write, Bool.false_and, Option.some.injEq]
  have hbase : min (-1074 + (E a : Int)) (-1074 + (E b : Int)) = -1074 + ((min (E a) (E b) : Nat) : Int) := by omega
  rw [hbase]
  have e1 : (-1074 + (E a : Int) - (-1074 + ((min (E a) (E b) : Nat) : Int))).toNat = E a - min (E a) (E b) := by omega
  have e2 : (-1074 + (E b : Int) - (-1074 + ((min (E a) (E b) : Nat) : Int))).toNat = E b - min (E a) (E b) := by omega
  rw [e1, e2]
  have f1 : V a = M a * 2 ^ (E a - min (E a) (E b)) * 2 ^ min (E a) (E b) := by
    rw [V_eq, Nat.mul_assoc, ← Nat.pow_add]; congr 2; omega
  have f2 : V b = M b * 2 ^ (E b - min (E a) (E b)) * 2 ^ min (E a) (E b) := by
    rw [V_eq, Nat.mul_assoc, ← Nat.pow_add]; congr 2; omega
  generalize M a * 2 ^ (E a - min (E a) (E b)) = p at *
  generalize M b * 2 ^ (E b - min (E a) (E b)) = q at *
  generalize min (E a) (E b) = k at *
  have hqp : q ≤ p := by
    rw [f1, f2] at hle
    exact Nat.le_of_mul_le_mul_right hle (Nat.two_pow_pos k)
  have ht : (p : Int) + -(q : Int) = ((p - q : Nat) : Int) := by omega
  rw [ht]
  have hn : (((p - q : Nat) : Int)).natAbs = p - q := by omega
  rw [hn]
  have hc' : (p - q) * 2 ^ k = V c := by rw [← h, f1, f2, Nat.sub_mul]
  by_cases h0 : p - q = 0
  · rw [h0] at hc' ⊢
    have : c = 0 := by
      apply V_inj.1; rw [V_zero, ← hc']; simp
    subst this
    rw [nearest_zero]; rfl
  · have hneg : decide (((p - q : Nat) : Int) < 0) = false := by rw [decide_eq_false_iff_not]; omega
    have hz : ¬ (((p - q : Nat) : Int) = 0) := by omega
    rw [if_neg hz, hneg, nearest_exact false c (p - q) k 0 _ hc (by omega) (by omega) (by rw [hc']; simp)]
    rfl

/-- A product that the format has. -/
theorem mul_exact (a b c : Nat) (ha : sz a < inf) (hb : sz b < inf) (hc : c < inf) (h : V (sz a) * V (sz b) = V c * 2 ^ 1074) : Ieee.double.mul a b = some (mk (sg a ^^ sg b) c) := by
  unfold Format.mul
  rw [read_num a ha, read_num b hb]
  simp only [Datum.product, Option.map_some, Format.write, Option.some.injEq]
  have h' : M (sz a) * M (sz b) * 2 ^ (E (sz a) + E (sz b)) = V c * 2 ^ 1074 := by
    rw [← h, V_eq (sz a), V_eq (sz b), Nat.pow_add]
    ac_rfl
  by_cases h0 : M (sz a) * M (sz b) = 0
  · have : c = 0 := by
      apply V_inj.1
      rw [V_zero]
      rw [h0, Nat.zero_mul] at h'
      rcases Nat.mul_eq_zero.1 h'.symm with e | e
      · exact e
      · exact absurd e (Nat.pos_iff_ne_zero.1 (Nat.two_pow_pos 1074))
    rw [h0, this, nearest_zero]
  · exact nearest_exact _ c _ (E (sz a) + E (sz b)) 1074 _ hc (by omega) (by omega) h'

theorem V_val {r m e k d : Nat} (hm : M r = 2 ^ m) (he : E r = e) (hk : m + e = k) (hd : d = 2 ^ k) : V r = d := by
  rw [V_eq, hm, he, ← Nat.pow_add, hk, hd]
theorem V_inf : V inf = 2 ^ 2098 := V_val (m := 52) (e := 2046) (by decide) (by decide) rfl rfl

/-- Which numbers the format has. -/
theorem rep0 (m e : Nat) (hm : m < 9007199254740992) : ∃ r, V r = m * 2 ^ e := by
  induction e generalizing m with
  | zero =>
    refine ⟨m, ?_⟩
    rw [V_eq]
    by_cases h : m < 4503599627370496
    · rw [E_low h]; unfold M; rw [if_pos h]
    · have e1 : E m = 0 := by unfold E; omega
      rw [e1]; unfold M; rw [if_neg h]; congr 1; omega
  | succ e ih =>
    by_cases h : m < 4503599627370496
    · obtain ⟨r, hr⟩ := ih (m * 2) (by omega)
      exact ⟨r, by rw [hr, Nat.pow_succ, Nat.mul_assoc, Nat.mul_comm 2]⟩
    · refine ⟨(e + 1) * 4503599627370496 + m, ?_⟩
      rw [V_eq]
      have e1 : E ((e + 1) * 4503599627370496 + m) = e + 1 := by unfold E; omega
      have e2 : M ((e + 1) * 4503599627370496 + m) = m := by unfold M; rw [if_neg (by omega)]; omega
      rw [e1, e2]
theorem rep (m e : Nat) (hm : m < 9007199254740992) (hi : m * 2 ^ e < V inf) : ∃ r, r < inf ∧ V r = m * 2 ^ e := by
  obtain ⟨r, hr⟩ := rep0 m e hm
  exact ⟨r, V_lt_iff.1 (by rw [hr]; exact hi), hr⟩

/-- Of two numbers, one not above the other and not below its half, the difference is one (Sterbenz). -/
theorem sterbenz (a b : Nat) (ha : a < inf) (h1 : V b ≤ V a) (h2 : V a ≤ 2 * V b) : ∃ c, c < inf ∧ V c = V a - V b := by
  have hba : b ≤ a := V_le_iff.1 h1
  have hE : E b ≤ E a := by unfold E; omega
  have f1 : V a = M a * 2 ^ (E a - E b) * 2 ^ E b := by rw [V_eq, Nat.mul_assoc, ← Nat.pow_add]; congr 2; omega
  have f2 := V_eq b
  have hMb := M_lt b
  generalize M a * 2 ^ (E a - E b) = p at *
  have h3 : p ≤ 2 * M b := by
    rw [f1, f2, ← Nat.mul_assoc] at h2
    exact Nat.le_of_mul_le_mul_right h2 (Nat.two_pow_pos _)
  have h4 : V a - V b = (p - M b) * 2 ^ E b := by rw [f1, f2, Nat.sub_mul]
  rw [h4]
  have := V_lt_iff.2 ha
  exact rep _ _ (by omega) (by rw [← h4]; omega)

theorem xor63 {z : Nat} (h : z < 9223372036854775808) : z ^^^ 2 ^ 63 = 9223372036854775808 + z := by
  have e : (9223372036854775808 : Nat) = 2 ^ 63 := by decide
  rw [e] at *
  apply Nat.eq_of_testBit_eq
  intro i
  rw [Nat.testBit_xor, Nat.testBit_two_pow]
  rcases Nat.lt_trichotomy i 63 with hi | hi | hi
  · rw [Nat.testBit_two_pow_add_gt hi, decide_eq_false (by omega)]; simp
  · subst hi
    rw [Nat.testBit_two_pow_add_eq, Nat.testBit_lt_two_pow h]; simp
  · have h2 : 2 ^ 64 ≤ 2 ^ i := Nat.pow_le_pow_right (by decide) (by omega)
    rw [Nat.testBit_lt_two_pow (show z < 2 ^ i by omega), Nat.testBit_lt_two_pow (show 2 ^ 63 + z < 2 ^ i by omega), decide_eq_false (by omega)]; rfl
theorem negFloat_eq {a : Nat} (h : a < 18446744073709551616) : Op.negFloat .f64 a = mk (!sg a) (sz a) := by
  have e : (2 : Nat) ^ (FloatKind.f64.format.exponentBits + FloatKind.f64.format.fractionBits) = 2 ^ 63 := rfl
  unfold Op.negFloat
  rw [e]
  have hz := sz_lt a
  generalize hs : sg a = s
  have ha := mk_eta h
  rw [hs] at ha
  generalize sz a = z at *
  subst ha
  cases s
  · unfold mk; simp only [Bool.not_false, if_true, Bool.false_eq_true, if_false]; exact xor63 hz
  · unfold mk; simp only [Bool.not_true, if_true, Bool.false_eq_true, if_false]
    rw [← xor63 hz, Nat.xor_assoc, Nat.xor_self, Nat.xor_zero]
end Go.Proofs.YtinaibebdacnmaaDoor.Fl
