/- number.Radix: what a call comes to. -/
import Derived.Test.YtinaibebdacnmaaDoorRadI
import Derived.Test.YtinaibebdacnmaaDoorIntC
import Derived.Test.YtinaibebdacnmaaDoorRemC
set_option exponentiation.threshold 3000
set_option linter.unusedVariables false
namespace Go.Proofs.YtinaibebdacnmaaDoor
open Go.RowKit

namespace Fl
/-- So far a size is whole. -/
def whl (r : Nat) : Bool := decide (V r = wp r * 2 ^ 1074)
theorem V_ms2 : V 4845873199050653695 = 9007199254740991 * 2 ^ 1074 := by
  rw [V_eq, show E 4845873199050653695 = 1075 - 1 by decide, show M 4845873199050653695 = 9007199254740991 by decide]
theorem ms_iff {r : Nat} (h : whl r = true) : 4845873199050653695 < r ↔ 9007199254740991 < wp r := by
  have h := of_decide_eq_true h
  rw [← V_lt_iff, V_ms2, h]
  exact ⟨fun h => Nat.lt_of_mul_lt_mul_right h, fun h => Nat.mul_lt_mul_of_pos_right h (Nat.two_pow_pos _)⟩
/-- The number against its whole part. -/
theorem trunc_ne (x t : Nat) (h : sz x < inf) (ht : t < inf) (hv : V t = wp (sz x) * 2 ^ 1074) : (FloatKind.f64.format.order x (mk (sg x) t) == some .eq) = whl (sz x) := by
  have m1 := sz_mk (sg x) (inf63 ht)
  have m2 := sg_mk (sg x) (inf63 ht)
  have hn1 : isNan x = false := by unfold isNan; rw [decide_eq_false_iff_not]; omega
  have hn2 : isNan (mk (sg x) t) = false := by unfold isNan; rw [m1, decide_eq_false_iff_not]; omega
  rw [fmt, order_beq, hn1, hn2]
  unfold pos
  rw [m1, m2]
  have e : (sz x = t) ↔ V (sz x) = wp (sz x) * 2 ^ 1074 := by rw [← V_inj, hv]
  unfold whl
  cases sg x <;> simp [← e] <;> omega
end Fl

theorem ret_se (s t : ByteArray) (a b : Int) {k : IntKind} (h : s = t) (h2 : a = b) : Ending.returned (.tuple #[.string s, .int k a]) = .returned (.tuple #[.string t, .int k b]) := by rw [h, h2]

/-- What both answer. -/
def radBad (x : Nat) (base : Int) : Prop := base < 2 ∨ 36 < base ∨ Fl.inf ≤ Fl.sz x ∨ Fl.whl (Fl.sz x) = false ∨ 9007199254740991 < Fl.wp (Fl.sz x)
def radN (x : Nat) : Int := if Fl.sg x = true then -(Fl.wp (Fl.sz x) : Int) else Fl.wp (Fl.sz x)

set_option maxHeartbeats 1000000 in
set_option maxRecDepth 100000 in
theorem radixBad_c (x : Nat) (hx : x < 18446744073709551616) (base : Int) (h : radBad x base) (w : World) :
    Calls Tryd.prog 18 #[.float .f64 x, .int .i64 base] w fun e w' => e = .returned (.tuple #[.string ⟨#[]⟩, .int .i64 7]) ∧ w = w' := by
  have hF := Fl.Hd.mk (pFinite_c x hx)
  by_cases b1 : base < 2
  · have b1d := decide_eq_true b1
    clear h
    go_enter Tryd.func18, Tryd.ntmps18
    go_wp2
    go_ret2
    exact ⟨rfl, rfl⟩
  · have b1d := decide_eq_false b1
    by_cases b2 : 36 < base
    · have b2d := decide_eq_true b2
      clear h
      go_enter Tryd.func18, Tryd.ntmps18
      go_wp2
      go_ret2
      exact ⟨rfl, rfl⟩
    · have b2d := decide_eq_false b2
      by_cases b3 : Fl.inf ≤ Fl.sz x
      · rw [decide_eq_false (by omega)] at hF
        clear h b3
        go_enter Tryd.func18, Tryd.ntmps18
        go_wp2_with (go_at_call 36; refine (hF.out _).mono ?_; rintro e w' ⟨rfl, rfl⟩)
        go_ret2
        exact ⟨rfl, rfl⟩
      · have hlt : Fl.sz x < Fl.inf := by omega
        rw [decide_eq_true hlt] at hF
        obtain ⟨t, ht, hv⟩ := Fl.trunc_rep (r := Fl.sz x) hlt
        have hT := trunc_c x (by omega) hx
        rw [if_neg (by omega), Fl.rho_eq hv] at hT
        have hT := Fl.Hd.mk hT
        have hA := Fl.Hd.mk (abs_c x hx)
        have hne := Fl.trunc_ne x t hlt ht hv
        generalize Fl.mk (Fl.sg x) t = T at *
        cases b4 : Fl.whl (Fl.sz x)
        · rw [b4] at hne
          have hne2 : (FloatKind.f64.format.order x T != some .eq) = true := by rw [bne, hne]; rfl
          clear h b3 hlt ht hv b4
          go_enter Tryd.func18, Tryd.ntmps18
          go_wp2_with (first | (go_at_call 36; refine (hF.out _).mono ?_; rintro e w' ⟨rfl, rfl⟩) | (go_at_call 37; refine (hT.out _).mono ?_; rintro e w' ⟨rfl, rfl⟩) | (go_at_call 38; refine (hA.out _).mono ?_; rintro e w' ⟨rfl, rfl⟩))
          go_ret2
          exact ⟨rfl, rfl⟩
        · rw [b4] at hne
          have hne2 : (FloatKind.f64.format.order x T != some .eq) = false := by rw [bne, hne]; rfl
          have hbig : 9007199254740991 < Fl.wp (Fl.sz x) := by
            rcases h with h | h | h | h | h
            · omega
            · omega
            · omega
            · rw [b4] at h; cases h
            · exact h
          have hgt := (Fl.ms_iff b4).2 hbig
          have hg : (FloatKind.f64.format.order (Fl.sz x) 4845873199050653695 == some .gt) = true := by
            rw [Fl.fmt, Fl.order_gt, isNan_sz, show Fl.isNan 4845873199050653695 = false by decide, pos_sz, show Fl.pos 4845873199050653695 = 4845873199050653695 by decide, show Fl.isNan x = false by unfold Fl.isNan; rw [decide_eq_false_iff_not]; omega]
            simp; omega
          generalize Fl.sz x = S at *
          clear h b3 hlt ht hv b4 hbig hgt
          go_enter Tryd.func18, Tryd.ntmps18
          go_wp2_with (first | (go_at_call 36; refine (hF.out _).mono ?_; rintro e w' ⟨rfl, rfl⟩) | (go_at_call 37; refine (hT.out _).mono ?_; rintro e w' ⟨rfl, rfl⟩) | (go_at_call 38; refine (hA.out _).mono ?_; rintro e w' ⟨rfl, rfl⟩))
          go_ret2
          exact ⟨rfl, rfl⟩

set_option maxHeartbeats 1000000 in
set_option maxRecDepth 100000 in
theorem radix_c (x : Nat) (hx : x < 18446744073709551616) (b : Nat) (h : ¬ radBad x b) (w : World) (T : Rad.TabR w) :
    Calls Tryd.prog 18 #[.float .f64 x, .int .i64 b] w fun e w' => e = .returned (.tuple #[.string ⟨(Rad.rtxt b (radN x)).toArray⟩, .int .i64 0]) ∧ Below w.heap.size w w' := by
  unfold radBad at h
  simp only [not_or] at h
  obtain ⟨g1, g2, g3, g4, g5⟩ := h
  have hF := Fl.Hd.mk (pFinite_c x hx)
  have b1d := decide_eq_false g1
  have b2d := decide_eq_false g2
  have b1n : decide (b < 2) = false := decide_eq_false (by omega)
  have b2n : decide (36 < b) = false := decide_eq_false (by omega)
  have hlt : Fl.sz x < Fl.inf := by omega
  rw [decide_eq_true hlt] at hF
  obtain ⟨t, ht, hv⟩ := Fl.trunc_rep (r := Fl.sz x) hlt
  have hT := trunc_c x (by omega) hx
  rw [if_neg (by omega), Fl.rho_eq hv] at hT
  have hT := Fl.Hd.mk hT
  have hA := Fl.Hd.mk (abs_c x hx)
  have hne := Fl.trunc_ne x t hlt ht hv
  generalize Fl.mk (Fl.sg x) t = TT at *
  have b4 : Fl.whl (Fl.sz x) = true := by cases h : Fl.whl (Fl.sz x) <;> simp [h] at g4 ⊢
  rw [b4] at hne
  have hne2 : (FloatKind.f64.format.order x TT != some .eq) = false := by rw [bne, hne]; rfl
  have hg : (FloatKind.f64.format.order (Fl.sz x) 4845873199050653695 == some .gt) = false := by
    have := Fl.ms_iff b4
    rw [Fl.fmt, Fl.order_gt, isNan_sz, show Fl.isNan 4845873199050653695 = false by decide, pos_sz, show Fl.pos 4845873199050653695 = 4845873199050653695 by decide, show Fl.isNan x = false by unfold Fl.isNan; rw [decide_eq_false_iff_not]; omega]
    simp; omega
  have hI := Fl.toInt_eq x (Fl.wp (Fl.sz x)) hlt (of_decide_eq_true b4) (by omega)
  have hconv : ∀ w, (convert 30 2 (.float .f64 x)).run Tryd.prog w = .ok (.int .i64 (radN x)) w := fun w => run_convert_float_int w 30 2 .f64 .i64 _ _ (by rw [Tryd.underlying30]; rfl) Tryd.underlying2 hI
  have hf := Fl.Hd.mk (Rad.fmt_c b (by omega) (by omega) (radN x) (by unfold radN; split <;> omega) (by unfold radN; split <;> omega))
  have T := Fl.Hd.mk T
  clear hI
  generalize radN x = R at *
  generalize Fl.sz x = S at *
  clear g1 g2 g3 g4 g5 hlt ht hv b4
  go_enter Tryd.func18, Tryd.ntmps18
  go_wp2_with (first | (go_at_call 36; refine (hF.out _).mono ?_; rintro e w' ⟨rfl, rfl⟩) | (go_at_call 37; refine (hT.out _).mono ?_; rintro e w' ⟨rfl, rfl⟩) | (go_at_call 38; refine (hA.out _).mono ?_; rintro e w' ⟨rfl, rfl⟩) | (go_at_call 39; refine (hf.out _ T.out).mono ?_; rintro e w' ⟨rfl, hb⟩))
  go_ret2
  exact ⟨rfl, hb⟩
end Go.Proofs.YtinaibebdacnmaaDoor
