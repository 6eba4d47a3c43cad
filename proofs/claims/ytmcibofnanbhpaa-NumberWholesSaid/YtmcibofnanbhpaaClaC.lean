/- Clamp8 of the program: the nearest number from 0 to 255. -/
import Derived.Test.YtmcibofnanbhpaaLenD
set_option exponentiation.threshold 3000
set_option linter.unusedVariables false
namespace Go.Proofs.Ytmcibofnanbhpaa
open Go.RowKit
open Ieee

namespace Fl
theorem cut_even (neg : Bool) (n d : Nat) : Toward.cut .even neg n d = n / 2 ^ d + (if 2 ^ d < 2 * (n % 2 ^ d) ∨ (2 ^ d = 2 * (n % 2 ^ d) ∧ n / 2 ^ d % 2 = 1) then 1 else 0) := by
  unfold Toward.cut
  simp only [Nat.shiftLeft_eq, Nat.one_mul]
  by_cases h : d ≤ n.log2 + 2
  · rw [Nat.min_eq_left h]
    congr 1
    by_cases c : 2 ^ d < 2 * (n % 2 ^ d) ∨ (2 ^ d = 2 * (n % 2 ^ d) ∧ n / 2 ^ d % 2 = 1)
    · rw [if_pos c]
      rcases c with c | ⟨c, c2⟩
      · simp [c]
      · simp [← c, c2]
    · rw [if_neg c]
      have c1 : ¬ 2 ^ d < 2 * (n % 2 ^ d) := fun h => c (.inl h)
      have c2 : ¬ (2 ^ d = 2 * (n % 2 ^ d) ∧ n / 2 ^ d % 2 = 1) := fun h => c (.inr h)
      rw [decide_eq_false c1]
      by_cases e : 2 ^ d = 2 * (n % 2 ^ d)
      · have c3 : ¬ n / 2 ^ d % 2 = 1 := fun h => c2 ⟨e, h⟩
        simp [c3]
      · simp [e]
  · rw [Nat.min_eq_right (by omega)]
    have h1 : n < 2 ^ (n.log2 + 1) := Nat.lt_log2_self
    have h2 : 2 ^ (n.log2 + 2) = 2 * 2 ^ (n.log2 + 1) := by rw [Nat.pow_succ 2 (n.log2 + 1), Nat.mul_comm]
    have h3 : 2 ^ (n.log2 + 2) ≤ 2 ^ d := Nat.pow_le_pow_right (by decide) (by omega)
    rw [Nat.div_eq_of_lt (show n < 2 ^ (n.log2 + 2) by omega), Nat.mod_eq_of_lt (show n < 2 ^ (n.log2 + 2) by omega), Nat.div_eq_of_lt (show n < 2 ^ d by omega), Nat.mod_eq_of_lt (show n < 2 ^ d by omega)]
    rw [if_neg (by omega), decide_eq_false (show ¬ 2 ^ (n.log2 + 2) < 2 * n by omega)]
    simp

/-- To the nearest, of two the even one: for a number with digits behind the point. -/
def near (r : Nat) : Nat := M r / 2 ^ (1074 - E r) + (if 2 ^ (1074 - E r) < 2 * (M r % 2 ^ (1074 - E r)) ∨ (2 ^ (1074 - E r) = 2 * (M r % 2 ^ (1074 - E r)) ∧ M r / 2 ^ (1074 - E r) % 2 = 1) then 1 else 0)
theorem even_eq (a t : Nat) (h : sz a < inf) (hE : E (sz a) ≤ 1073) (ht : t < inf) (hv : V t = near (sz a) * 2 ^ 1074) : Ieee.double.write ((Ieee.double.read a).integral .even) = mk (sg a) t := by
  rw [read_num a h]
  unfold Datum.integral
  have e1 : (-1074 + (E (sz a) : Int)).toNat = 0 := by omega
  have e2 : (-(-1074 + (E (sz a) : Int))).toNat = 1074 - E (sz a) := by omega
  simp only [Format.write, cut_even, Nat.shiftLeft_eq]
  rw [e1, e2, Nat.pow_zero, Nat.mul_one]
  show Ieee.double.nearest (sg a) (near (sz a)) 0 = _
  by_cases h0 : near (sz a) = 0
  · rw [h0, nearest_zero]
    have : t = 0 := by apply V_inj.1; rw [V_zero, hv, h0, Nat.zero_mul]
    rw [this]
  · exact nearest_exact _ t _ 1074 0 _ ht (by omega) (by omega) (by rw [hv]; simp)

/-- The nearest number from 0 to 255. -/
def clamp (x : Nat) : Nat := if isNan x = true ∨ sg x = true then 0 else if 255 ≤ wp (sz x) then 255 else near (sz x)
theorem u8_of_i64 {b : Nat} {n : Int} (h : floatToIntVal .f64 b .i64 = some n) (h0 : 0 ≤ n) (h1 : n ≤ 255) : floatToIntVal .f64 b .u8 = some n := by
  unfold floatToIntVal at *
  split at h
  · rename_i m hm
    split at h
    · injection h with h
      subst h
      have hmin : IntKind.u8.min = 0 := by decide
      have hmax : IntKind.u8.max = 255 := by decide
      rw [if_pos (by rw [hmin, hmax]; exact ⟨h0, h1⟩)]
    · cases h
  · cases h
theorem V_255 : V 4643176031446892544 = 255 * 2 ^ 1074 := by
  have e : V 4643176031446892544 = M 4643176031446892544 * 2 ^ (E 4643176031446892544) := V_eq _
  rw [e, show E 4643176031446892544 = 1029 by decide, show M 4643176031446892544 = 255 * 2 ^ 45 by decide, Nat.mul_assoc, ← Nat.pow_add]
theorem wp_eq2 {r : Nat} (h : E r ≤ 1074) : wp r = M r / 2 ^ (1074 - E r) := by rw [wp_eq, wp_mid h]
theorem near_bd {r : Nat} (h : r ≤ 4643176031446892544) : E r ≤ 1073 ∧ near r ≤ 255 ∧ (255 ≤ wp r → near r = 255) := by
  have hE : E r ≤ 1029 := by have := E_mono h; rwa [show E 4643176031446892544 = 1029 by decide] at this
  have hv := V_le_iff.2 h
  rw [V_255] at hv
  have e : 2 ^ 1074 = 2 ^ (1074 - E r) * 2 ^ E r := by rw [← Nat.pow_add]; congr 1; omega
  rw [V_eq, e, ← Nat.mul_assoc] at hv
  have hm := Nat.le_of_mul_le_mul_right hv (Nat.two_pow_pos _)
  rw [wp_eq2 (by omega)]
  unfold near
  have hp := Nat.two_pow_pos (1074 - E r)
  generalize 2 ^ (1074 - E r) = p at *
  generalize M r = m at *
  clear hv e h
  have hd : m = p * (m / p) + m % p := (Nat.div_add_mod m p).symm
  have hl := Nat.mod_lt m hp
  generalize m / p = q at *
  generalize m % p = s at *
  have hq : q ≤ 255 := by
    apply Nat.le_of_not_lt
    intro hc
    have : p * 256 ≤ p * q := Nat.mul_le_mul_left p hc
    omega
  refine ⟨by omega, ?_, ?_⟩
  · split
    · by_cases h5 : q = 255
      · subst h5; omega
      · omega
    · omega
  · intro h5
    have h6 : q = 255 := by omega
    subst h6
    rw [if_neg (by omega)]
end Fl

theorem run_even (x t : Nat) (h : Fl.sz x < Fl.inf) (hE : Fl.E (Fl.sz x) ≤ 1073) (ht : t < Fl.inf) (hv : Fl.V t = Fl.near (Fl.sz x) * 2 ^ 1074) (w : World) : (callFunc 42 #[.float .f64 x]).run Try.prog w = .ok (.value (.float .f64 (Fl.mk (Fl.sg x) t))) w := by
  rw [run_callFunc_extern (e := Extern.MathFloor.toIntegral "math.RoundToEven" .even) Try.func42 (by kernel_rfl) (by kernel_rfl) (by kernel_rfl) (by kernel_rfl)]
  have e := Fl.even_eq x t h hE ht hv
  rw [toI_num (show FloatKind.f64.decode x = _ from Fl.read_num x h)]
  rw [Fl.read_num x h] at e
  unfold FloatKind.encode
  rw [Fl.fmt, e]
  rfl
theorem conv8_c {I : Nat} {n : Int} (h : floatToIntVal .f64 I .u8 = some n) : ∀ w, (convert 23 5 (.float .f64 I)).run Try.prog w = .ok (.int .u8 n) w :=
  fun w => run_convert_float_int w 23 5 .f64 .u8 _ _ (by rw [Try.underlying23]; rfl) Try.underlying5 h

set_option maxRecDepth 100000 in
theorem clamp_c (x : Nat) (hx : x < 18446744073709551616) (w : World) : Calls Try.prog 23 #[.float .f64 x] w fun e w' => e = .returned (.int .u8 (Fl.clamp x)) ∧ w = w' := by
  have hN := Fl.Hd.mk (isNaN_c x)
  have o1 := Fl.order_lt x 0
  have o2 := Fl.order_gt x 4643176031446892544
  rw [show Fl.isNan 0 = false by decide, show Fl.pos 0 = 0 by decide] at o1
  rw [show Fl.isNan 4643176031446892544 = false by decide, show Fl.pos 4643176031446892544 = 4643176031446892544 by decide] at o2
  unfold Fl.clamp
  cases hn : Fl.isNan x
  · rw [hn] at hN o1 o2
    have hle : Fl.sz x ≤ Fl.inf := by unfold Fl.isNan at hn; simp at hn; exact hn
    by_cases hs : Fl.sg x = true ∧ 0 < Fl.sz x
    · rw [if_pos (.inr hs.1)]
      have p1 : (FloatKind.f64.format.order x 0 == some Ordering.lt) = true := by
        rw [Fl.fmt, o1]; unfold Fl.pos; rw [hs.1]; simp; omega
      clear o1 o2 hn hs hle
      go_enter Try.func23, Try.ntmps23
      go_wp2_with (go_at_call 39; refine (hN.out _).mono ?_; rintro e w' ⟨rfl, rfl⟩)
      go_ret
      exact ⟨rfl, rfl⟩
    · have p1 : (FloatKind.f64.format.order x 0 == some Ordering.lt) = false := by
        rw [Fl.fmt, o1]; unfold Fl.pos; cases h : Fl.sg x <;> simp [h] at * <;> omega
      by_cases hb : Fl.sg x = false ∧ 4643176031446892544 < Fl.sz x
      · have p2 : (FloatKind.f64.format.order x 4643176031446892544 == some Ordering.gt) = true := by
          rw [Fl.fmt, o2]; unfold Fl.pos; rw [hb.1]; simp; omega
        have hw : 255 ≤ Fl.wp (Fl.sz x) := by
          have h1 := Fl.V_lt_iff.2 hb.2
          rw [Fl.V_255] at h1
          exact (Nat.le_div_iff_mul_le (Nat.two_pow_pos 1074)).2 (Nat.le_of_lt h1)
        rw [if_neg (by simp [hb.1]), if_pos hw]
        clear o1 o2 hn hs hle hb hw
        go_enter Try.func23, Try.ntmps23
        go_wp2_with (go_at_call 39; refine (hN.out _).mono ?_; rintro e w' ⟨rfl, rfl⟩)
        go_ret
        exact ⟨rfl, rfl⟩
      · have p2 : (FloatKind.f64.format.order x 4643176031446892544 == some Ordering.gt) = false := by
          rw [Fl.fmt, o2]; unfold Fl.pos; cases h : Fl.sg x <;> simp [h] at * <;> omega
        have hsz : Fl.sz x ≤ 4643176031446892544 := by
          cases h : Fl.sg x <;> simp [h] at hs hb <;> omega
        obtain ⟨b1, b2, b3⟩ := Fl.near_bd hsz
        have hinf : Fl.sz x < Fl.inf := by unfold Fl.inf; omega
        obtain ⟨t, ht, hv⟩ : ∃ t, t < Fl.inf ∧ Fl.V t = Fl.near (Fl.sz x) * 2 ^ 1074 := by
          refine Fl.rep _ 1074 (by omega) ?_
          have h1 : Fl.near (Fl.sz x) * 2 ^ 1074 ≤ 255 * 2 ^ 1074 := Nat.mul_le_mul_right _ b2
          rw [← Fl.V_255] at h1
          exact Nat.lt_of_le_of_lt h1 (Fl.V_lt_iff.2 (by unfold Fl.inf; omega))
        have hr := run_even x t hinf b1 ht hv
        have hI := Fl.toInt_eq (Fl.mk (Fl.sg x) t) (Fl.near (Fl.sz x)) (by rw [Fl.sz_mk _ (Fl.inf63 ht)]; exact ht) (by rw [Fl.sz_mk _ (Fl.inf63 ht)]; exact hv) (by omega)
        rw [Fl.sg_mk _ (Fl.inf63 ht)] at hI
        have hres : (if Fl.sg x = true then -((Fl.near (Fl.sz x) : Nat) : Int) else ((Fl.near (Fl.sz x) : Nat) : Int)) = ((if false = true ∨ Fl.sg x = true then 0 else if 255 ≤ Fl.wp (Fl.sz x) then 255 else Fl.near (Fl.sz x) : Nat) : Int) := by
          cases h : Fl.sg x
          · simp only [Bool.false_eq_true, if_false, or_self]
            split
            · rename_i h5; rw [b3 h5]
            · rfl
          · have hz : Fl.sz x = 0 := by simp [h] at hs; exact hs
            rw [hz, show Fl.near 0 = 0 by decide]; simp
        rw [hres] at hI
        have hI8 := conv8_c (Fl.u8_of_i64 hI (by omega) (by split <;> (try split) <;> omega))
        clear hI hres hv ht hsz b1 b2 b3 o1 o2 hn hs hb hle hinf
        generalize (if false = true ∨ Fl.sg x = true then 0 else if 255 ≤ Fl.wp (Fl.sz x) then 255 else Fl.near (Fl.sz x) : Nat) = R at *
        generalize Fl.mk (Fl.sg x) t = T at *
        go_enter Try.func23, Try.ntmps23
        go_wp2_with (go_at_call 39; refine (hN.out _).mono ?_; rintro e w' ⟨rfl, rfl⟩)
        go_ret
        exact ⟨rfl, rfl⟩
  · rw [hn] at hN
    rw [if_pos (.inl rfl)]
    clear o1 o2 hn
    go_enter Try.func23, Try.ntmps23
    go_wp2_with (go_at_call 39; refine (hN.out _).mono ?_; rintro e w' ⟨rfl, rfl⟩)
    go_ret
    exact ⟨rfl, rfl⟩
end Go.Proofs.Ytmcibofnanbhpaa
