/- math.mod: what a call comes to. -/
import Derived.Test.YtmcibofnanbhpaaMathC
namespace Go.Proofs.Ytmcibofnanbhpaa
open Go.RowKit

theorem run_neg_float {P : Program} (a : Nat) (w : World) : (Op.unary .neg (.float .f64 a)).run P w = .ok (.float .f64 (Op.negFloat .f64 a)) w := rfl

/-- A float's word. -/
def flt : Value → Nat
  | .float _ n => n
  | _ => 0

namespace Fl
theorem plain {r : Nat} (h : r < 9223372036854775808) : sz r = r ∧ sg r = false := by
  refine ⟨by unfold sz; omega, sg_mk false (r := r) h⟩
theorem order_plain (a b : Nat) (ha : a < inf) (hb : b ≤ inf) : Ieee.double.order a b = some (compare (a : Int) (b : Int)) := by
  have pa := plain (r := a) (by unfold inf at ha; omega)
  have pb := plain (r := b) (by unfold inf at hb; omega)
  have na : isNan a = false := by unfold isNan; rw [pa.1, decide_eq_false_iff_not]; omega
  have nb : isNan b = false := by unfold isNan; rw [pb.1, decide_eq_false_iff_not]; omega
  rw [order_eq, na, nb]
  unfold pos
  rw [pa.1, pa.2, pb.1, pb.2]
  rfl
theorem fx_bd {r : Nat} (h0 : 0 < r) (hi : r < inf) : -60 ≤ fx r ∧ fx r ≤ 2100 := by
  have h1 := nz_ge h0
  have h2 := nz_lt h0 hi
  have h3 := kz_le r
  unfold fx E inf at *
  omega
theorem M_nz_lt (a b : Nat) (ha : 0 < a) (hb : 0 < b) : M (nz a) < M (nz b) ↔ nz a % 4503599627370496 < nz b % 4503599627370496 := by
  have h1 := nz_ge ha
  have h2 := nz_ge hb
  unfold M
  rw [if_neg (by omega), if_neg (by omega)]
  omega
/-- A step of the remainder. -/
theorem mod_step (r y X : Nat) (hy : 0 < y) (hr : y ≤ r) (hri : r < inf) (hX : V r % V y = X % V y) :
    ∃ n c r' : Nat, fx r - fx y - (if M (nz r) < M (nz y) then 1 else 0) = (n : Int) ∧ c < inf ∧ V c = V y * 2 ^ n ∧ r' < r ∧ V r' % V y = X % V y ∧ Ieee.double.sub r c = some r' := by
  obtain ⟨n, hn, h1, h2⟩ := step r y hy hr
  have hv := V_lt_iff.2 hri
  obtain ⟨c, hc, hcv⟩ := scaled y n (by omega)
  obtain ⟨r', hr', hrv⟩ := sterbenz r c hri (by omega) (by omega)
  have hcp : 0 < V c := by rw [hcv]; exact Nat.mul_pos (V_pos hy) (Nat.two_pow_pos n)
  refine ⟨n, c, r', hn, hc, hcv, V_lt_iff.1 (by omega), ?_, sub_exact r c r' hri hc hr' (by omega) hrv.symm⟩
  have e : V r = V r' + V y * 2 ^ n := by omega
  rw [← hX, e, Nat.add_mul_mod_self_left]
end Fl

set_option maxHeartbeats 1000000 in
set_option maxRecDepth 100000 in
/-- Of two sizes above nought. -/
theorem mod0_c (x y : Nat) (hx : x < 18446744073709551616) (hy : y < 18446744073709551616) (hx0 : 0 < Fl.sz x) (hxi : Fl.sz x < Fl.inf) (hy0 : 0 < Fl.sz y) (hyi : Fl.sz y < Fl.inf) (w : World) :
    Calls Try.prog 47 #[.float .f64 x, .float .f64 y] w fun e w' => (∃ z, e = .returned (.float .f64 (Fl.mk (Fl.sg x) z)) ∧ z < Fl.inf ∧ Fl.V z = Fl.V (Fl.sz x) % Fl.V (Fl.sz y)) ∧ w = w' := by
  have hA := Fl.Hd.mk (abs_c y hy)
  have hNx := isNaN_c x
  have hNy := isNaN_c y
  have nx : Fl.isNan x = false := by unfold Fl.isNan; rw [decide_eq_false_iff_not]; omega
  have ny : Fl.isNan y = false := by unfold Fl.isNan; rw [decide_eq_false_iff_not]; omega
  have hIx := isInf_c x hx
  rw [decide_eq_false (by omega)] at hIx
  rw [nx] at hNx
  rw [ny] at hNy
  have oy := Fl.order_beq y 0
  rw [ny, show Fl.isNan 0 = false by decide, show Fl.pos 0 = 0 by decide] at oy
  have oy2 : (FloatKind.f64.format.order y 0 == some Ordering.eq) = false := by
    rw [Fl.fmt, oy]; unfold Fl.pos; cases Fl.sg y <;> simp <;> omega
  have ox := Fl.order_lt x 0
  rw [nx, show Fl.isNan 0 = false by decide, show Fl.pos 0 = 0 by decide] at ox
  have ox2 : (FloatKind.f64.format.order x 0 == some Ordering.lt) = Fl.sg x := by
    rw [Fl.fmt, ox]; unfold Fl.pos; cases Fl.sg x <;> simp <;> omega
  have hF := Fl.Hd.mk (frexp_c (Fl.sz y) hy0 hyi)
  have bY := Fl.fx_bd hy0 hyi
  have hneg : Op.negFloat .f64 x = Fl.mk (!Fl.sg x) (Fl.sz x) := Fl.negFloat_eq hx
  have heta := Fl.mk_eta hx
  have HNx := Fl.Hd.mk hNx
  have HNy := Fl.Hd.mk hNy
  have HIx := Fl.Hd.mk hIx
  clear hNx hNy hIx nx ny oy ox
  generalize hs : Fl.sg x = s at *
  generalize hX : Fl.sz x = X at *
  generalize hY : Fl.sz y = Y at *
  have hYn := Fl.Hd.mk (fun r (h0 : 0 < r) => Fl.M_nz_lt r Y h0 hy0)
  have hord := Fl.Hd.mk (fun r (h : r < Fl.inf) => Fl.order_plain r Y h (by omega))
  have hstep := Fl.Hd.mk (fun r (h1 : Y ≤ r) (h2 : r < Fl.inf) (h3 : Fl.V r % Fl.V Y = Fl.V X % Fl.V Y) => Fl.mod_step r Y (Fl.V X) hy0 h1 h2 h3)
  generalize hB : 4602678819172646912 + Fl.nz Y % 4503599627370496 = B at hF
  have hB := Fl.Hd.mk hB
  have hX' := Fl.Hd.mk hX
  have hY' := Fl.Hd.mk hY
  clear hs hX hY
  have hun := fun (a : Nat) => run_neg_float (P := Try.prog) a
  cases s
  · change X = x at heta
    subst heta
    clear hneg
    go_enter Try.func47, Try.ntmps47
    go_wp2_with (first | (go_at_call 39; first | ((with_reducible refine (HNx.out _).mono ?_); rintro e w' ⟨rfl, rfl⟩) | ((with_reducible refine (HNy.out _).mono ?_); rintro e w' ⟨rfl, rfl⟩)) | (go_at_call 50; refine (HIx.out _).mono ?_; rintro e w' ⟨rfl, rfl⟩) | (go_at_call 54; refine (hA.out _).mono ?_; rintro e w' ⟨rfl, rfl⟩) | (go_at_call 55; refine (hF.out _).mono ?_; rintro e w' ⟨rfl, rfl⟩))
    go_loop [7, 8, 9] (fun v7 v8 v9 => ∃ r : Nat, v7 = .float .f64 r ∧ r < Fl.inf ∧ Fl.V r % Fl.V Y = Fl.V X % Fl.V Y) (fun v7 _ _ => flt v7)
    case atStart => exact ⟨X, rfl, hxi, rfl⟩
    case round =>
      obtain ⟨r, rfl, hri, hrm⟩ := hrel
      have ho := hord.out r hri
      rw [Fl.cmp_int] at ho
      by_cases hge : Y ≤ r
      · obtain ⟨n, c, r', hn, hc, hcv, hlt, hm', hsub⟩ := hstep.out r hge hri hrm
        have hr0 : 0 < r := by omega
        have hFr := Fl.Hd.mk (frexp_c r hr0 hri)
        have bR := Fl.fx_bd hr0 hri
        have hML := hYn.out r hr0
        have hL := Fl.Hd.mk (ldexp_c Y n c hy0 hyi hc hcv)
        have hop : ∀ w, (binOp .sub 23 (.float .f64 r) (.float .f64 c)).run Try.prog w = .ok (.float .f64 r') w := fun w => run_float_arith w .sub 23 .f64 _ _ _ hsub
        have hof := Fl.order_plain (4602678819172646912 + Fl.nz r % 4503599627370496) (4602678819172646912 + Fl.nz Y % 4503599627370496) (by unfold Fl.inf; omega) (by unfold Fl.inf; omega)
        rw [Fl.cmp_int, hB.out] at hof
        have hfin : r' < Fl.inf := by omega
        have hHm := Fl.Hd.mk hm'
        have hHlt := Fl.Hd.mk hlt
        have hHi := Fl.Hd.mk hfin
        clear hrm hm' hsub hcv hc hlt hfin
        have ho' : FloatKind.f64.format.order r Y = some .gt ∨ FloatKind.f64.format.order r Y = some .eq := by
          rw [Fl.fmt, ho, if_neg (by omega)]
          by_cases e : (r : Int) = Y
          · rw [if_pos e]; exact .inr rfl
          · rw [if_neg e]; exact .inl rfl
        have hn' : (FloatKind.f64.format.order (4602678819172646912 + Fl.nz r % 4503599627370496) B = some .lt ∧ Fl.fx r - 1021 - 1 - (Fl.fx Y - 1021) = (n : Int)) ∨ ((FloatKind.f64.format.order (4602678819172646912 + Fl.nz r % 4503599627370496) B == some .lt) = false ∧ Fl.fx r - 1021 - (Fl.fx Y - 1021) = (n : Int)) := by
          have hBo := hB.out
          by_cases hM : Fl.M (Fl.nz r) < Fl.M (Fl.nz Y)
          · rw [if_pos hM] at hn
            refine .inl ⟨?_, by omega⟩
            rw [Fl.fmt, hof, if_pos]
            have := hML.1 hM
            omega
          · rw [if_neg hM] at hn
            refine .inr ⟨?_, by omega⟩
            have : ¬ Fl.nz r % 4503599627370496 < Fl.nz Y % 4503599627370496 := fun h => hM (hML.2 h)
            rw [Fl.fmt, hof, if_neg (by omega)]
            split <;> rfl
        clear hn hof hML ho hge
        generalize 4602678819172646912 + Fl.nz r % 4503599627370496 = A at *
        generalize Fl.fx r = P at *
        have hL2 := hL
        rcases ho' with ho' | ho' <;> rcases hn' with ⟨hn1, hn2⟩ | ⟨hn1, hn2⟩
        all_goals
          go_wp2_with (first | (go_at_call 55; refine (hFr.out _).mono ?_; rintro e w' ⟨rfl, rfl⟩) | (go_at_call 56; refine (hL.out _).mono ?_; rintro e w' ⟨rfl, rfl⟩))
          go_round
          case rel => exact ⟨r', rfl, hHi.out, hHm.out⟩
          case measure => exact hHlt.out
      · have ho' : FloatKind.f64.format.order r Y = some .lt := by rw [Fl.fmt, ho, if_pos (by omega)]
        have hres : Fl.V r = Fl.V X % Fl.V Y := by rw [← hrm, Nat.mod_eq_of_lt (Fl.V_lt_iff.2 (by omega))]
        have hres := Fl.Hd.mk hres
        have hng : Op.negFloat .f64 r = Fl.mk true r := by
          have := Fl.negFloat_eq (a := r) (by unfold Fl.inf at hri; omega)
          rw [this, (Fl.plain (r := r) (by unfold Fl.inf at hri; omega)).1, (Fl.plain (r := r) (by unfold Fl.inf at hri; omega)).2]; rfl
        clear ho hrm
        go_wp2
        go_ret
        exact ⟨⟨r, rfl, hri, hres.out⟩, rfl⟩
  · change Op.negFloat .f64 x = X at hneg
    clear heta
    go_enter Try.func47, Try.ntmps47
    go_wp2_with (first | (go_at_call 39; first | ((with_reducible refine (HNx.out _).mono ?_); rintro e w' ⟨rfl, rfl⟩) | ((with_reducible refine (HNy.out _).mono ?_); rintro e w' ⟨rfl, rfl⟩)) | (go_at_call 50; refine (HIx.out _).mono ?_; rintro e w' ⟨rfl, rfl⟩) | (go_at_call 54; refine (hA.out _).mono ?_; rintro e w' ⟨rfl, rfl⟩) | (go_at_call 55; refine (hF.out _).mono ?_; rintro e w' ⟨rfl, rfl⟩))
    go_loop [7, 8, 9] (fun v7 v8 v9 => ∃ r : Nat, v7 = .float .f64 r ∧ r < Fl.inf ∧ Fl.V r % Fl.V Y = Fl.V X % Fl.V Y) (fun v7 _ _ => flt v7)
    case atStart => exact ⟨X, rfl, hxi, rfl⟩
    case round =>
      obtain ⟨r, rfl, hri, hrm⟩ := hrel
      have ho := hord.out r hri
      rw [Fl.cmp_int] at ho
      by_cases hge : Y ≤ r
      · obtain ⟨n, c, r', hn, hc, hcv, hlt, hm', hsub⟩ := hstep.out r hge hri hrm
        have hr0 : 0 < r := by omega
        have hFr := Fl.Hd.mk (frexp_c r hr0 hri)
        have bR := Fl.fx_bd hr0 hri
        have hML := hYn.out r hr0
        have hL := Fl.Hd.mk (ldexp_c Y n c hy0 hyi hc hcv)
        have hop : ∀ w, (binOp .sub 23 (.float .f64 r) (.float .f64 c)).run Try.prog w = .ok (.float .f64 r') w := fun w => run_float_arith w .sub 23 .f64 _ _ _ hsub
        have hof := Fl.order_plain (4602678819172646912 + Fl.nz r % 4503599627370496) (4602678819172646912 + Fl.nz Y % 4503599627370496) (by unfold Fl.inf; omega) (by unfold Fl.inf; omega)
        rw [Fl.cmp_int, hB.out] at hof
        have hfin : r' < Fl.inf := by omega
        have hHm := Fl.Hd.mk hm'
        have hHlt := Fl.Hd.mk hlt
        have hHi := Fl.Hd.mk hfin
        clear hrm hm' hsub hcv hc hlt hfin
        have ho' : FloatKind.f64.format.order r Y = some .gt ∨ FloatKind.f64.format.order r Y = some .eq := by
          rw [Fl.fmt, ho, if_neg (by omega)]
          by_cases e : (r : Int) = Y
          · rw [if_pos e]; exact .inr rfl
          · rw [if_neg e]; exact .inl rfl
        have hn' : (FloatKind.f64.format.order (4602678819172646912 + Fl.nz r % 4503599627370496) B = some .lt ∧ Fl.fx r - 1021 - 1 - (Fl.fx Y - 1021) = (n : Int)) ∨ ((FloatKind.f64.format.order (4602678819172646912 + Fl.nz r % 4503599627370496) B == some .lt) = false ∧ Fl.fx r - 1021 - (Fl.fx Y - 1021) = (n : Int)) := by
          have hBo := hB.out
          by_cases hM : Fl.M (Fl.nz r) < Fl.M (Fl.nz Y)
          · rw [if_pos hM] at hn
            refine .inl ⟨?_, by omega⟩
            rw [Fl.fmt, hof, if_pos]
            have := hML.1 hM
            omega
          · rw [if_neg hM] at hn
            refine .inr ⟨?_, by omega⟩
            have : ¬ Fl.nz r % 4503599627370496 < Fl.nz Y % 4503599627370496 := fun h => hM (hML.2 h)
            rw [Fl.fmt, hof, if_neg (by omega)]
            split <;> rfl
        clear hn hof hML ho hge
        generalize 4602678819172646912 + Fl.nz r % 4503599627370496 = A at *
        generalize Fl.fx r = P at *
        have hL2 := hL
        rcases ho' with ho' | ho' <;> rcases hn' with ⟨hn1, hn2⟩ | ⟨hn1, hn2⟩
        all_goals
          go_wp2_with (first | (go_at_call 55; refine (hFr.out _).mono ?_; rintro e w' ⟨rfl, rfl⟩) | (go_at_call 56; refine (hL.out _).mono ?_; rintro e w' ⟨rfl, rfl⟩))
          go_round
          case rel => exact ⟨r', rfl, hHi.out, hHm.out⟩
          case measure => exact hHlt.out
      · have ho' : FloatKind.f64.format.order r Y = some .lt := by rw [Fl.fmt, ho, if_pos (by omega)]
        have hres : Fl.V r = Fl.V X % Fl.V Y := by rw [← hrm, Nat.mod_eq_of_lt (Fl.V_lt_iff.2 (by omega))]
        have hres := Fl.Hd.mk hres
        have hng : Op.negFloat .f64 r = Fl.mk true r := by
          have := Fl.negFloat_eq (a := r) (by unfold Fl.inf at hri; omega)
          rw [this, (Fl.plain (r := r) (by unfold Fl.inf at hri; omega)).1, (Fl.plain (r := r) (by unfold Fl.inf at hri; omega)).2]; rfl
        clear ho hrm
        go_wp2
        go_ret
        exact ⟨⟨r, rfl, hri, hres.out⟩, rfl⟩
end Go.Proofs.Ytmcibofnanbhpaa
