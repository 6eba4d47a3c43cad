/- Plain facts on binary floating point words: fractions and exponents, remainders, whole parts. No program in sight. -/
import Derived.Test.YtinaibebdacnmaaDoorFlE
set_option exponentiation.threshold 3000
namespace Go.Proofs.YtinaibebdacnmaaDoor.Fl
open Ieee Go.RowKit

/-- A size, made normal. -/
def nz (r : Nat) : Nat := if r < 4503599627370496 then r.log2 * 4503599627370496 + r * 2 ^ (52 - r.log2) else r
/-- By how many binary digits. -/
def kz (r : Nat) : Nat := if r < 4503599627370496 then 52 else 0

theorem EM (l m : Nat) (h1 : 4503599627370496 ≤ m) (h2 : m < 9007199254740992) : E (l * 4503599627370496 + m) = l ∧ M (l * 4503599627370496 + m) = m := by
  constructor
  · unfold E; omega
  · unfold M; rw [if_neg (by omega)]; omega

theorem low_m {r : Nat} (h0 : 0 < r) (h : r < 4503599627370496) : r.log2 < 52 ∧ 4503599627370496 ≤ r * 2 ^ (52 - r.log2) ∧ r * 2 ^ (52 - r.log2) < 9007199254740992 := by
  have hr : r ≠ 0 := by omega
  have hl : r.log2 < 52 := (Nat.log2_lt hr).2 (by simpa using h)
  have h1 := Nat.log2_self_le hr
  have h2 : r < 2 ^ (r.log2 + 1) := Nat.lt_log2_self
  have e1 : 2 ^ r.log2 * 2 ^ (52 - r.log2) = 4503599627370496 := by rw [← Nat.pow_add, show r.log2 + (52 - r.log2) = 52 by omega]
  have e2 : 2 ^ (r.log2 + 1) * 2 ^ (52 - r.log2) = 9007199254740992 := by rw [← Nat.pow_add, show r.log2 + 1 + (52 - r.log2) = 53 by omega]
  have hp := Nat.two_pow_pos (52 - r.log2)
  refine ⟨hl, ?_, ?_⟩
  · rw [← e1]; exact Nat.mul_le_mul_right _ h1
  · rw [← e2]; exact Nat.mul_lt_mul_of_pos_right h2 hp

theorem V_nz {r : Nat} (h0 : 0 < r) : V (nz r) = V r * 2 ^ kz r := by
  unfold nz kz
  by_cases h : r < 4503599627370496
  · obtain ⟨hl, h1, h2⟩ := low_m h0 h
    rw [if_pos h, if_pos h, V_eq, (EM _ _ h1 h2).1, (EM _ _ h1 h2).2, Nat.mul_assoc, ← Nat.pow_add]
    have e : V r = r := by unfold V; rw [if_pos h]
    rw [e]; congr 2; omega
  · rw [if_neg h, if_neg h]; simp
theorem nz_ge {r : Nat} (h0 : 0 < r) : 4503599627370496 ≤ nz r := by
  unfold nz
  by_cases h : r < 4503599627370496
  · obtain ⟨hl, h1, h2⟩ := low_m h0 h
    rw [if_pos h]; omega
  · rw [if_neg h]; omega
theorem nz_lt {r : Nat} (h0 : 0 < r) (hi : r < inf) : nz r < inf := by
  unfold nz
  by_cases h : r < 4503599627370496
  · obtain ⟨hl, h1, h2⟩ := low_m h0 h
    rw [if_pos h]; unfold inf; omega
  · rw [if_neg h]; exact hi
theorem kz_le (r : Nat) : kz r ≤ 52 := by unfold kz; split <;> omega

/-- The exponent of a size, and its digits of full length. -/
def fx (r : Nat) : Int := (E (nz r) : Int) - kz r

theorem pow_split {a b : Nat} (h : a ≤ b) : 2 ^ b = 2 ^ a * 2 ^ (b - a) := by rw [← Nat.pow_add]; congr 1; omega

/-- How often a number goes into another one, as a power of two. -/
theorem step (r y : Nat) (hy : 0 < y) (hr : y ≤ r) :
    ∃ n : Nat, fx r - fx y - (if M (nz r) < M (nz y) then 1 else 0) = (n : Int) ∧ V y * 2 ^ n ≤ V r ∧ V r ≤ 2 * (V y * 2 ^ n) := by
  have hr0 : 0 < r := by omega
  have v1 := V_nz hr0
  have v2 := V_nz hy
  have m1 := M_ge (nz_ge hr0)
  have m2 := M_lt (nz r)
  have m3 := M_ge (nz_ge hy)
  have m4 := M_lt (nz y)
  have hle := V_le_iff.2 hr
  rw [V_eq] at v1 v2
  unfold fx
  generalize M (nz r) = N at *
  generalize M (nz y) = Y at *
  generalize E (nz r) = A at *
  generalize E (nz y) = B at *
  generalize kz r = a at *
  generalize kz y = b at *
  generalize V r = R at *
  generalize V y = W at *
  -- both over one place
  have w1 : R * 2 ^ (a + b) = N * 2 ^ (A + b) := by rw [Nat.pow_add, ← Nat.mul_assoc, ← v1, Nat.pow_add, Nat.mul_assoc]
  have w2 : W * 2 ^ (a + b) = Y * 2 ^ (B + a) := by rw [Nat.add_comm a b, Nat.pow_add, ← Nat.mul_assoc, ← v2, Nat.pow_add, Nat.mul_assoc]
  have hp := Nat.two_pow_pos (a + b)
  have hle2 : Y * 2 ^ (B + a) ≤ N * 2 ^ (A + b) := by rw [← w1, ← w2]; exact Nat.mul_le_mul_right _ hle
  have hAB : B + a ≤ A + b := by
    apply Nat.le_of_not_lt
    intro hc
    obtain ⟨d, hd⟩ := Nat.exists_eq_add_of_lt hc
    rw [hd, show A + b + d + 1 = (A + b) + (d + 1) by omega, Nat.pow_add 2 (A + b), Nat.mul_comm (2 ^ (A + b)), ← Nat.mul_assoc] at hle2
    have h3 := Nat.le_of_mul_le_mul_right hle2 (Nat.two_pow_pos (A + b))
    have h4 : 2 ≤ 2 ^ (d + 1) := by rw [Nat.pow_succ]; have := Nat.two_pow_pos d; omega
    have h5 : Y * 2 ≤ Y * 2 ^ (d + 1) := Nat.mul_le_mul_left _ h4
    omega
  obtain ⟨d, hd⟩ := Nat.exists_eq_add_of_le hAB
  rw [hd, Nat.pow_add 2 (B + a) d, Nat.mul_comm (2 ^ (B + a)), ← Nat.mul_assoc] at w1 hle2
  have hle3 : Y ≤ N * 2 ^ d := Nat.le_of_mul_le_mul_right hle2 (Nat.two_pow_pos (B + a))
  have key : ∀ n, (Y * 2 ^ n ≤ N * 2 ^ d ∧ N * 2 ^ d ≤ 2 * (Y * 2 ^ n)) → W * 2 ^ n ≤ R ∧ R ≤ 2 * (W * 2 ^ n) := by
    intro n ⟨h1, h2⟩
    have q := Nat.two_pow_pos (B + a)
    have e3 : W * 2 ^ n * 2 ^ (a + b) = Y * 2 ^ n * 2 ^ (B + a) := by
      rw [Nat.mul_right_comm W, w2, Nat.mul_right_comm Y]
    constructor
    · apply Nat.le_of_mul_le_mul_right _ hp
      rw [e3, w1]; exact Nat.mul_le_mul_right _ h1
    · apply Nat.le_of_mul_le_mul_right _ hp
      rw [Nat.mul_assoc 2, e3, w1, ← Nat.mul_assoc]; exact Nat.mul_le_mul_right _ h2
  by_cases hlt : N < Y
  · rw [if_pos hlt]
    have hd1 : 1 ≤ d := by
      apply Nat.le_of_not_lt; intro hc
      have : d = 0 := by omega
      subst this; simp at hle3; omega
    refine ⟨d - 1, by omega, key (d - 1) ?_⟩
    obtain ⟨d, rfl⟩ : ∃ e, d = e + 1 := ⟨d - 1, by omega⟩
    rw [Nat.add_sub_cancel, Nat.pow_succ]
    have q := Nat.two_pow_pos d
    have a1 : Y * 2 ^ d ≤ (N * 2) * 2 ^ d := Nat.mul_le_mul_right _ (by omega)
    have a2 : N * 2 ^ d ≤ Y * 2 ^ d := Nat.mul_le_mul_right _ (by omega)
    have a3 : N * (2 ^ d * 2) = (N * 2) * 2 ^ d := by ac_rfl
    have a4 : (N * 2) * 2 ^ d = 2 * (N * 2 ^ d) := by ac_rfl
    omega
  · rw [if_neg hlt]
    refine ⟨d, by omega, key d ?_⟩
    have q := Nat.two_pow_pos d
    have a1 : Y * 2 ^ d ≤ N * 2 ^ d := Nat.mul_le_mul_right _ (by omega)
    have a2 : N * 2 ^ d ≤ (2 * Y) * 2 ^ d := Nat.mul_le_mul_right _ (by omega)
    have a4 : (2 * Y) * 2 ^ d = 2 * (Y * 2 ^ d) := by ac_rfl
    omega

theorem scaled (y n : Nat) (h : V y * 2 ^ n < V inf) : ∃ c, c < inf ∧ V c = V y * 2 ^ n := by
  have e : V y * 2 ^ n = M y * 2 ^ (E y + n) := by rw [V_eq, Nat.pow_add, Nat.mul_assoc]
  rw [e] at h ⊢
  exact rep _ _ (M_lt y) h

theorem V_one : V 4607182418800017408 = 2 ^ 1074 := V_val (m := 52) (e := 1022) (by decide) (by decide) rfl rfl
theorem V_2m53 : V 4368491638549381120 = 2 ^ 1021 := V_val (m := 52) (e := 969) (by decide) (by decide) rfl rfl
theorem V_2p52 : V 4841369599423283200 = 2 ^ 1126 := V_val (m := 52) (e := 1074) (by decide) (by decide) rfl rfl
theorem V_2p32 : V 4751297606875873280 = 2 ^ 32 * 2 ^ 1074 := V_val (m := 52) (e := 1054) (k := 32 + 1074) (by decide) (by decide) rfl (Nat.pow_add 2 32 1074).symm

/-- The word that ldexp lays, and its product. -/
theorem ldexp_word (y n c : Nat) (hy : 0 < y) (hyi : y < inf) (hc : c < inf) (h : V c = V y * 2 ^ n) :
    -1074 ≤ fx y + n - 1022 ∧ fx y + n - 1022 ≤ 1023 ∧
    (fx y + n - 1022 < -1022 → ∃ x : Nat, (x : Int) = (fx y + n - 1022 + 53 + 1023) * 4503599627370496 + nz y % 4503599627370496 ∧ x < inf ∧ 0 ≤ fx y + n - 1022 + 53 + 1023 ∧ Ieee.double.mul 4368491638549381120 x = some c) ∧
    (-1022 ≤ fx y + n - 1022 → (c : Int) = (fx y + n - 1022 + 1023) * 4503599627370496 + nz y % 4503599627370496 ∧ Ieee.double.mul 4607182418800017408 c = some c) := by
  have v := V_nz hy
  have g1 := nz_ge hy
  have m1 := M_ge g1
  have m2 := M_lt (nz y)
  have hk := kz_le y
  have hVy := V_pos hy
  have hci := V_lt_iff.2 hc
  rw [V_inf] at hci
  have hMm : M (nz y) = 4503599627370496 + nz y % 4503599627370496 := by unfold M; rw [if_neg (by omega)]
  rw [V_eq] at v
  -- the number, scaled
  have w : V c * 2 ^ kz y = M (nz y) * 2 ^ (E (nz y) + n) := by rw [h, Nat.mul_right_comm, ← v, Nat.pow_add, Nat.mul_assoc]
  have lo : -52 ≤ fx y := by unfold fx; omega
  have hi : fx y + n ≤ 2045 := by
    apply Int.not_lt.1
    intro hcon
    unfold fx at hcon
    have h1 : 2098 + kz y ≤ 52 + (E (nz y) + n) := by omega
    have h2 : 2 ^ (2098 + kz y) ≤ 2 ^ (52 + (E (nz y) + n)) := Nat.pow_le_pow_right (by decide) h1
    rw [Nat.pow_add 2 52] at h2
    have h3 : 2 ^ 52 * 2 ^ (E (nz y) + n) ≤ M (nz y) * 2 ^ (E (nz y) + n) := Nat.mul_le_mul_right _ (by simpa using m1)
    rw [← w] at h3
    have h4 : V c * 2 ^ kz y < 2 ^ 2098 * 2 ^ kz y := Nat.mul_lt_mul_of_pos_right hci (Nat.two_pow_pos _)
    rw [← Nat.pow_add] at h4
    omega
  refine ⟨by omega, by omega, ?_, ?_⟩
  · intro hd
    obtain ⟨t, ht⟩ : ∃ t : Nat, fx y + n - 1022 + 53 + 1023 = (t : Int) + 1 := ⟨(fx y + n - 1022 + 53 + 1022).toNat, by omega⟩
    refine ⟨t * 4503599627370496 + M (nz y), ?_, ?_, by omega, ?_⟩
    · rw [ht, hMm]; omega
    · unfold inf; omega
    · have e := EM t _ m1 m2
      have hx : t * 4503599627370496 + M (nz y) < inf := by unfold inf; omega
      have hs : sz (t * 4503599627370496 + M (nz y)) = t * 4503599627370496 + M (nz y) := by unfold sz; unfold inf at hx; omega
      have hg : sg (t * 4503599627370496 + M (nz y)) = false := sg_mk false (r := t * 4503599627370496 + M (nz y)) (by unfold inf at hx; omega)
      have := mul_exact 4368491638549381120 (t * 4503599627370496 + M (nz y)) c (by decide) (by rw [hs]; exact hx) hc (by
        rw [hs, show sz 4368491638549381120 = 4368491638549381120 by decide, V_2m53, V_eq (t * 4503599627370496 + M (nz y)), e.1, e.2]
        apply Nat.eq_of_mul_eq_mul_right (Nat.two_pow_pos (kz y))
        rw [Nat.mul_right_comm (V c), w, Nat.mul_comm (2 ^ 1021), Nat.mul_assoc, Nat.mul_assoc, Nat.mul_assoc, ← Nat.pow_add, ← Nat.pow_add, ← Nat.pow_add]
        congr 2
        unfold fx at ht; omega)
      rw [this, hg, show sg 4368491638549381120 = false by decide]; rfl
  · intro hd
    obtain ⟨t, ht⟩ : ∃ t : Nat, fx y + n - 1022 + 1023 = (t : Int) + 1 := ⟨(fx y + n).toNat, by omega⟩
    have hc' : c = t * 4503599627370496 + M (nz y) := by
      apply V_inj.1
      have e := EM t _ m1 m2
      apply Nat.eq_of_mul_eq_mul_right (Nat.two_pow_pos (kz y))
      rw [w, V_eq (t * 4503599627370496 + M (nz y)), e.1, e.2, Nat.mul_assoc, ← Nat.pow_add]
      congr 2
      unfold fx at ht; omega
    refine ⟨by rw [ht, hc', hMm]; omega, ?_⟩
    have hs : sz c = c := by unfold sz; unfold inf at hc; omega
    have hg : sg c = false := sg_mk false (r := c) (by unfold inf at hc; omega)
    have := mul_exact 4607182418800017408 c c (by decide) (by rw [hs]; exact hc) hc (by rw [hs, show sz 4607182418800017408 = 4607182418800017408 by decide, V_one, Nat.mul_comm])
    rw [this, hg, show sg 4607182418800017408 = false by decide]; rfl

/-- A size below the normal ones, made normal by a product. -/
theorem norm_mul (a : Nat) (ha : a < 18446744073709551616) (h0 : 0 < sz a) (h : sz a < 4503599627370496) : Ieee.double.mul a 4841369599423283200 = some (mk (sg a) (nz (sz a))) := by
  have hi : sz a < inf := by unfold inf; omega
  have := mul_exact a 4841369599423283200 (nz (sz a)) hi (by decide) (nz_lt h0 hi) (by
    rw [show sz 4841369599423283200 = 4841369599423283200 by decide, V_2p52, V_nz h0]
    have : kz (sz a) = 52 := by unfold kz; rw [if_pos h]
    rw [this, Nat.mul_assoc, ← Nat.pow_add])
  rw [this, show sg 4841369599423283200 = false by decide]; simp

/-- The whole part of a size. -/
def wp (r : Nat) : Nat := V r / 2 ^ 1074
theorem trunc_rep {r : Nat} (h : r < inf) : ∃ t, t < inf ∧ V t = wp r * 2 ^ 1074 := by
  unfold wp
  have hle : V r / 2 ^ 1074 * 2 ^ 1074 ≤ V r := Nat.div_mul_le_self _ _
  have hlt := V_lt_iff.2 h
  by_cases hE : 1074 ≤ E r
  · refine ⟨r, h, ?_⟩
    have e : V r = M r * 2 ^ (E r - 1074) * 2 ^ 1074 := by rw [V_eq, Nat.mul_assoc, ← Nat.pow_add]; congr 2; omega
    rw [e, Nat.mul_div_cancel _ (Nat.two_pow_pos 1074)]
  · have e : 2 ^ 1074 = 2 ^ (1074 - E r) * 2 ^ E r := by rw [← Nat.pow_add]; congr 1; omega
    have e2 : V r / 2 ^ 1074 = M r / 2 ^ (1074 - E r) := by
      rw [V_eq, e]; exact Nat.mul_div_mul_right _ _ (Nat.two_pow_pos _)
    have h3 := Nat.div_le_self (M r) (2 ^ (1074 - E r))
    have h4 := M_lt r
    refine rep _ _ ?_ (by omega)
    rw [e2]; omega
theorem trunc_eq (a t : Nat) (h : sz a < inf) (ht : t < inf) (hv : V t = wp (sz a) * 2 ^ 1074) : Ieee.double.write ((Ieee.double.read a).integral .zero) = mk (sg a) t := by
  rw [read_num a h]
  unfold Datum.integral
  simp only [Format.write, cut_zero, Nat.shiftLeft_eq]
  have hc : M (sz a) * 2 ^ (-1074 + (E (sz a) : Int)).toNat / 2 ^ (-(-1074 + (E (sz a) : Int))).toNat = wp (sz a) := by
    unfold wp
    by_cases hE : 1074 ≤ E (sz a)
    · have e1 : (-1074 + (E (sz a) : Int)).toNat = E (sz a) - 1074 := by omega
      have e2 : (-(-1074 + (E (sz a) : Int))).toNat = 0 := by omega
      have e : V (sz a) = M (sz a) * 2 ^ (E (sz a) - 1074) * 2 ^ 1074 := by rw [V_eq, Nat.mul_assoc, ← Nat.pow_add]; congr 2; omega
      rw [e1, e2, e, Nat.mul_div_cancel _ (Nat.two_pow_pos 1074)]; simp
    · have e1 : (-1074 + (E (sz a) : Int)).toNat = 0 := by omega
      have e2 : (-(-1074 + (E (sz a) : Int))).toNat = 1074 - E (sz a) := by omega
      have e : 2 ^ 1074 = 2 ^ (1074 - E (sz a)) * 2 ^ E (sz a) := by rw [← Nat.pow_add]; congr 1; omega
      rw [e1, e2, V_eq, e, Nat.mul_div_mul_right _ _ (Nat.two_pow_pos _)]; simp
  rw [hc]
  by_cases h0 : wp (sz a) = 0
  · rw [h0, nearest_zero]
    have : t = 0 := by apply V_inj.1; rw [V_zero, hv, h0, Nat.zero_mul]
    rw [this]
  · exact nearest_exact _ t _ 1074 0 _ ht (by omega) (by omega) (by rw [hv]; simp)

theorem wp_zero {r : Nat} (h : r < 4607182418800017408) : wp r = 0 := by
  unfold wp
  have := V_lt_iff.2 h
  rw [V_one] at this
  exact Nat.div_eq_of_lt this
/-- What a size that is whole is as an integer. -/
theorem toInt_eq (a c : Nat) (h : sz a < inf) (hv : V (sz a) = c * 2 ^ 1074) (hc : c < 9223372036854775808) : floatToIntVal .f64 a .i64 = some (if sg a then -(c : Int) else c) := by
  unfold floatToIntVal FloatKind.decode
  rw [fmt, read_num a h]
  unfold Datum.toInt Datum.integral
  simp only [cut_zero, Nat.shiftLeft_eq]
  have hc2 : M (sz a) * 2 ^ (-1074 + (E (sz a) : Int)).toNat / 2 ^ (-(-1074 + (E (sz a) : Int))).toNat = c := by
    by_cases hE : 1074 ≤ E (sz a)
    · have e1 : (-1074 + (E (sz a) : Int)).toNat = E (sz a) - 1074 := by omega
      have e2 : (-(-1074 + (E (sz a) : Int))).toNat = 0 := by omega
      have e : V (sz a) = M (sz a) * 2 ^ (E (sz a) - 1074) * 2 ^ 1074 := by rw [V_eq, Nat.mul_assoc, ← Nat.pow_add]; congr 2; omega
      rw [e1, e2]
      rw [e] at hv
      have := Nat.eq_of_mul_eq_mul_right (Nat.two_pow_pos 1074) hv
      rw [this]; simp
    · have e1 : (-1074 + (E (sz a) : Int)).toNat = 0 := by omega
      have e2 : (-(-1074 + (E (sz a) : Int))).toNat = 1074 - E (sz a) := by omega
      have e : 2 ^ 1074 = 2 ^ (1074 - E (sz a)) * 2 ^ E (sz a) := by rw [← Nat.pow_add]; congr 1; omega
      rw [V_eq, e, ← Nat.mul_assoc] at hv
      have := Nat.eq_of_mul_eq_mul_right (Nat.two_pow_pos _) hv
      rw [e1, e2, this, Nat.pow_zero, Nat.mul_one, Nat.mul_div_cancel _ (Nat.two_pow_pos _)]
  rw [hc2]
  unfold signed
  simp only [Nat.shiftLeft_zero]
  have hmin : IntKind.i64.min = -9223372036854775808 := by decide
  have hmax : IntKind.i64.max = 9223372036854775807 := by decide
  rw [hmin, hmax]
  cases sg a
  · simp only [Bool.false_eq_true, if_false]; rw [if_pos (by omega)]
  · simp only [if_true]; rw [if_pos (by omega)]

/-! Bits. -/
theorem or_join (x y : Int) (hy : 0 ≤ y ∧ y < 4503599627370496) (hx : 0 ≤ x ∧ x < 18446744073709551616) (hm : x % 4503599627370496 = 0) : bits .or .u64 y x = y + x := by
  obtain ⟨X, rfl⟩ := Int.eq_ofNat_of_zero_le hx.1
  obtain ⟨Y, rfl⟩ := Int.eq_ofNat_of_zero_le hy.1
  have e := u64_or_nat Y X (by omega) (by omega)
  rw [Nat.or_comm, nat_join 52 X Y (by simp only [Nat.reducePow]; omega) (by simp only [Nat.reducePow]; omega)] at e
  refine e.trans ?_
  omega
theorem or_join' (x y : Int) (hy : 0 ≤ y ∧ y < 4503599627370496) (hx : 0 ≤ x ∧ x < 18446744073709551616) (hm : x % 4503599627370496 = 0) : bits .or .u64 x y = x + y := by
  obtain ⟨X, rfl⟩ := Int.eq_ofNat_of_zero_le hx.1
  obtain ⟨Y, rfl⟩ := Int.eq_ofNat_of_zero_le hy.1
  have e := u64_or_nat X Y (by omega) (by omega)
  rw [nat_join 52 X Y (by simp only [Nat.reducePow]; omega) (by simp only [Nat.reducePow]; omega)] at e
  refine e.trans ?_
  omega
theorem or_sign (y : Int) (hy : 0 ≤ y ∧ y < 9223372036854775808) : bits .or .u64 y 9223372036854775808 = y + 9223372036854775808 := by
  obtain ⟨Y, rfl⟩ := Int.eq_ofNat_of_zero_le hy.1
  have e := u64_or_nat Y 9223372036854775808 (by omega) (by omega)
  rw [Nat.or_comm, nat_join 63 9223372036854775808 Y (by decide) (by simp only [Nat.reducePow]; omega)] at e
  refine e.trans ?_
  omega
theorem and_frac (x : Int) (h : 0 ≤ x ∧ x < 18446744073709551616) : bits .and .u64 x 4503599627370495 = x % 4503599627370496 := by
  obtain ⟨X, rfl⟩ := Int.eq_ofNat_of_zero_le h.1
  have e := u64_and_nat X 4503599627370495 (by omega) (by omega)
  have e2 : X &&& 4503599627370495 = X % 4503599627370496 := Nat.and_two_pow_sub_one_eq_mod X 52
  rw [e2] at e
  refine e.trans ?_
  omega
theorem and_exp (x : Int) (h : 0 ≤ x ∧ x < 18446744073709551616) : bits .and .u64 x 2047 = x % 2048 := by
  obtain ⟨X, rfl⟩ := Int.eq_ofNat_of_zero_le h.1
  have e := u64_and_nat X 2047 (by omega) (by omega)
  rw [nat_mask11] at e
  refine e.trans ?_
  omega
theorem andNot_exp (x : Int) (h : 0 ≤ x ∧ x < 9223372036854775808) : bits .andNot .u64 x 9218868437227405312 = x % 4503599627370496 := by
  obtain ⟨X, rfl⟩ := Int.eq_ofNat_of_zero_le h.1
  have e := u64_andNot_nat X 9218868437227405312 (by omega) (by omega)
  refine e.trans ?_
  have e3 : (18446744073709551615 - 9218868437227405312 : Nat) = 9223372036854775808 + 4503599627370495 := by decide
  rw [e3, ← nat_join 63 9223372036854775808 4503599627370495 (by decide) (by decide), Nat.and_or_distrib_left]
  have e4 : X &&& 4503599627370495 = X % 4503599627370496 := Nat.and_two_pow_sub_one_eq_mod X 52
  have e5 : X &&& 9223372036854775808 = 0 := by
    have := nat_bit 63 X
    rw [show (2 : Nat) ^ 63 = 9223372036854775808 by decide] at this
    rw [this]; omega
  rw [e4, e5, Nat.zero_or]
  omega
end Go.Proofs.YtinaibebdacnmaaDoor.Fl
