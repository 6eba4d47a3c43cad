/- math.Mod, math.Trunc, number.Integer, number.Uint32: what each call comes to, at every input. -/
import Derived.Test.YtmcibofnanbhpaaModC
namespace Go.Proofs.Ytmcibofnanbhpaa
open Go.RowKit

namespace Fl
/-- The size whose magnitude is a number. -/
noncomputable def rho (v : Nat) : Nat := Classical.epsilon fun z => V z = v
theorem rho_eq {z v : Nat} (h : V z = v) : rho v = z := by
  have : V (rho v) = v := Classical.epsilon_spec (p := fun z => V z = v) ⟨z, h⟩
  exact V_inj.1 (this.trans h.symm)
/-- Where a division has no rest. -/
def bad (x y : Nat) : Bool := decide (sz y = 0) || decide (sz x = inf) || isNan x || isNan y
/-- What is left of a division; nn: the word where there is none. -/
noncomputable def fmod (nn x y : Nat) : Nat := if bad x y = true then nn else if sz y = inf then x else mk (sg x) (rho (V (sz x) % V (sz y)))
theorem eq_of_sz0 {x : Nat} (hx : x < 18446744073709551616) (h : sz x = 0) : mk (sg x) 0 = x := by
  have := mk_eta hx
  rw [h] at this; exact this
end Fl

set_option maxRecDepth 100000 in
theorem modN_c (x y : Nat) (hx : x < 18446744073709551616) (hy : y < 18446744073709551616) (hb : Fl.bad x y = true) (w : World) :
    Calls Try.prog 47 #[.float .f64 x, .float .f64 y] w fun e w' => e = .returned (.float .f64 9221120237041090561) ∧ w = w' := by
  have hNx := Fl.Hd.mk (isNaN_c x)
  have hNy := Fl.Hd.mk (isNaN_c y)
  have hIx := Fl.Hd.mk (isInf_c x hx)
  have oy : (FloatKind.f64.format.order y 0 == some Ordering.eq) = decide (Fl.sz y = 0) := by
    have oy := Fl.order_beq y 0
    rw [Fl.fmt, oy, show Fl.isNan 0 = false by decide, show Fl.pos 0 = 0 by decide]
    unfold Fl.pos Fl.isNan Fl.inf
    rw [Bool.eq_iff_iff]
    cases Fl.sg y <;> simp <;> omega
  unfold Fl.bad at hb
  generalize decide (Fl.sz y = 0) = b1 at *
  generalize decide (Fl.sz x = Fl.inf) = b2 at *
  generalize Fl.isNan x = b3 at *
  generalize Fl.isNan y = b4 at *
  have walk : ∀ (b1' b2' b3' b4' : Bool), b1 = b1' → b2 = b2' → b3 = b3' → b4 = b4' → (b1' || b2' || b3' || b4') = true → Calls Try.prog 47 #[.float .f64 x, .float .f64 y] w fun e w' => e = .returned (.float .f64 9221120237041090561) ∧ w = w' := by
    intro c1 c2 c3 c4 e1 e2 e3 e4 h
    subst e1 e2 e3 e4
    clear hb
    cases b1 <;> cases b2 <;> cases b3 <;> cases b4 <;> first | exact absurd h (by decide) | skip
    all_goals
      clear h
      go_enter Try.func47, Try.ntmps47
      go_wp2_with (first | (go_at_call 39; first | ((with_reducible refine (hNx.out _).mono ?_); rintro e w' ⟨rfl, rfl⟩) | ((with_reducible refine (hNy.out _).mono ?_); rintro e w' ⟨rfl, rfl⟩)) | (go_at_call 50; refine (hIx.out _).mono ?_; rintro e w' ⟨rfl, rfl⟩) | (go_at_call 53; refine (mathNaN_c _).mono ?_; rintro e w' ⟨rfl, rfl⟩))
      go_ret
      exact ⟨rfl, rfl⟩
  exact walk b1 b2 b3 b4 rfl rfl rfl rfl hb

set_option maxRecDepth 100000 in
/-- The loop is not entered. -/
theorem modX_c (x y : Nat) (hx : x < 18446744073709551616) (hy : y < 18446744073709551616) (hxi : Fl.sz x < Fl.inf) (hy0 : 0 < Fl.sz y) (hyi : Fl.sz y ≤ Fl.inf) (hc : Fl.sz x = 0 ∨ Fl.sz y = Fl.inf) (w : World) :
    Calls Try.prog 47 #[.float .f64 x, .float .f64 y] w fun e w' => e = .returned (.float .f64 x) ∧ w = w' := by
  have hA := Fl.Hd.mk (abs_c y hy)
  have hNx := isNaN_c x
  have hNy := isNaN_c y
  have nx : Fl.isNan x = false := by unfold Fl.isNan; rw [decide_eq_false_iff_not]; omega
  have ny : Fl.isNan y = false := by unfold Fl.isNan; rw [decide_eq_false_iff_not]; omega
  have hIx := isInf_c x hx
  rw [decide_eq_false (by omega)] at hIx
  rw [nx] at hNx
  rw [ny] at hNy
  have oy := Fl.order_beq y 0
  rw [ny, show Fl.isNan 0 = false by decide, show Fl.pos 0 = 0 by decide] at oy
  have oy2 : (FloatKind.f64.format.order y 0 == some Ordering.eq) = false := by
    rw [Fl.fmt, oy]; unfold Fl.pos; cases Fl.sg y <;> simp <;> omega
  have ox := Fl.order_lt x 0
  rw [nx, show Fl.isNan 0 = false by decide, show Fl.pos 0 = 0 by decide] at ox
  have HNx := Fl.Hd.mk hNx
  have HNy := Fl.Hd.mk hNy
  have HIx := Fl.Hd.mk hIx
  have hun := fun (a : Nat) => run_neg_float (P := Try.prog) a
  have hF : ∃ B P : _, Fl.Hd (∀ w, Calls Try.prog 55 #[.float .f64 (Fl.sz y)] w fun e w' => e = .returned (.tuple #[.float .f64 B, .int .i64 P]) ∧ w = w') := by
    by_cases h : Fl.sz y = Fl.inf
    · rw [h]; exact ⟨_, _, ⟨frexpI_c⟩⟩
    · exact ⟨_, _, ⟨frexp_c (Fl.sz y) hy0 (by omega)⟩⟩
  obtain ⟨B, P, hF⟩ := hF
  clear hNx hNy hIx oy
  by_cases hneg : Fl.sg x = true ∧ 0 < Fl.sz x
  · have ox2 : (FloatKind.f64.format.order x 0 == some Ordering.lt) = true := by
      rw [Fl.fmt, ox]; unfold Fl.pos; rw [hneg.1]; simp; omega
    have hn1 : Op.negFloat .f64 x = Fl.sz x := by rw [Fl.negFloat_eq hx, hneg.1]; rfl
    have hn2 : Op.negFloat .f64 (Fl.sz x) = x := by
      have p := Fl.plain (r := Fl.sz x) (by unfold Fl.inf at hxi; omega)
      have e := Fl.mk_eta hx
      rw [hneg.1] at e
      rw [Fl.negFloat_eq (a := Fl.sz x) (by unfold Fl.inf at hxi; omega), p.1, p.2]; exact e
    have hy3 : Fl.sz y = Fl.inf := by omega
    have ho : FloatKind.f64.format.order (Fl.sz x) (Fl.sz y) = some .lt := by
      rw [Fl.fmt, Fl.order_plain _ _ hxi hyi, Fl.cmp_int, if_pos (by omega)]
    clear hneg ox nx ny hc hy3
    generalize Fl.sz x = X at *
    generalize Fl.sz y = Y at *
    have hxl : x < 18446744073709551616 := hx
    go_enter Try.func47, Try.ntmps47
    go_wp2_with (first | (go_at_call 39; first | ((with_reducible refine (HNx.out _).mono ?_); rintro e w' ⟨rfl, rfl⟩) | ((with_reducible refine (HNy.out _).mono ?_); rintro e w' ⟨rfl, rfl⟩)) | (go_at_call 50; refine (HIx.out _).mono ?_; rintro e w' ⟨rfl, rfl⟩) | (go_at_call 54; refine (hA.out _).mono ?_; rintro e w' ⟨rfl, rfl⟩) | (go_at_call 55; refine (hF.out _).mono ?_; rintro e w' ⟨rfl, rfl⟩))
    refine wp_loop_rounds 1 ?_
    rw [rounds_succ]
    go_wp2
    go_ret
    exact ⟨rfl, rfl⟩
  · have ox2 : (FloatKind.f64.format.order x 0 == some Ordering.lt) = false := by
      rw [Fl.fmt, ox]; unfold Fl.pos
      cases hs : Fl.sg x
      · first | (simp; done) | (simp; omega)
      · rw [hs] at hneg; first | (simp; done) | (simp; simp at hneg; omega)
    have ho : FloatKind.f64.format.order x (Fl.sz y) = some .lt := by
      have ps : Fl.pos x < Fl.sz y := by
        unfold Fl.pos; split <;> omega
      rw [Fl.fmt, Fl.order_eq, nx, isNan_sz, ny, pos_sz, Fl.cmp_int, if_pos ps]; rfl
    clear hneg ox nx ny hc
    generalize Fl.sz y = Y at *
    go_enter Try.func47, Try.ntmps47
    go_wp2_with (first | (go_at_call 39; first | ((with_reducible refine (HNx.out _).mono ?_); rintro e w' ⟨rfl, rfl⟩) | ((with_reducible refine (HNy.out _).mono ?_); rintro e w' ⟨rfl, rfl⟩)) | (go_at_call 50; refine (HIx.out _).mono ?_; rintro e w' ⟨rfl, rfl⟩) | (go_at_call 54; refine (hA.out _).mono ?_; rintro e w' ⟨rfl, rfl⟩) | (go_at_call 55; refine (hF.out _).mono ?_; rintro e w' ⟨rfl, rfl⟩))
    refine wp_loop_rounds 1 ?_
    rw [rounds_succ]
    go_wp2
    go_ret
    exact ⟨rfl, rfl⟩

theorem mod1_c (x y : Nat) (hx : x < 18446744073709551616) (hy : y < 18446744073709551616) (w : World) :
    Calls Try.prog 47 #[.float .f64 x, .float .f64 y] w fun e w' => e = .returned (.float .f64 (Fl.fmod 9221120237041090561 x y)) ∧ w = w' := by
  unfold Fl.fmod
  by_cases hb : Fl.bad x y = true
  · rw [if_pos hb]; exact modN_c x y hx hy hb w
  · rw [if_neg hb]
    have h : 0 < Fl.sz y ∧ Fl.sz x < Fl.inf ∧ Fl.sz y ≤ Fl.inf := by
      unfold Fl.bad Fl.isNan at hb
      simp at hb
      omega
    by_cases hi : Fl.sz y = Fl.inf
    · rw [if_pos hi]; exact modX_c x y hx hy h.2.1 h.1 h.2.2 (.inr hi) w
    · rw [if_neg hi]
      by_cases h0 : Fl.sz x = 0
      · refine (modX_c x y hx hy h.2.1 h.1 h.2.2 (.inl h0) w).mono fun e w' ⟨he, hw⟩ => ⟨?_, hw⟩
        rw [he, h0, Fl.V_zero, Nat.zero_mod, Fl.rho_eq Fl.V_zero, Fl.eq_of_sz0 hx h0]
      · refine (mod0_c x y hx hy (by omega) h.2.1 h.1 (by omega) w).mono fun e w' ⟨⟨z, he, _, hz⟩, hw⟩ => ⟨?_, hw⟩
        rw [he, Fl.rho_eq hz]

theorem mod_c (x y : Nat) (hx : x < 18446744073709551616) (hy : y < 18446744073709551616) (w : World) :
    Calls Try.prog 34 #[.float .f64 x, .float .f64 y] w fun e w' => e = .returned (.float .f64 (Fl.fmod 9221120237041090561 x y)) ∧ w = w' := by
  have h := Fl.Hd.mk (mod1_c x y hx hy)
  generalize Fl.fmod 9221120237041090561 x y = R at *
  go_enter Try.func34, Try.ntmps34
  go_wp2_with (go_at_call 47; refine (h.out _).mono ?_; rintro e w' ⟨rfl, rfl⟩)
  go_ret
  exact ⟨rfl, rfl⟩
end Go.Proofs.Ytmcibofnanbhpaa
