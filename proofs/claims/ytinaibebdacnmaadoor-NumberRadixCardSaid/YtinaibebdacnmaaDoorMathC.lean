/- Functions of package math on floats: what each call comes to. -/
import Derived.Test.YtinaibebdacnmaaDoorBase
import Derived.Test.YtinaibebdacnmaaDoorFlM
import Derived.Outline
import Derived.Laws.FloatArith
namespace Go.Proofs.YtinaibebdacnmaaDoor
open Go.RowKit

theorem abs_c (a : Nat) (h : a < 18446744073709551616) (w : World) : Calls Tryd.prog 38 #[.float .f64 a] w fun e w' => e = .returned (.float .f64 (Fl.sz a)) ∧ w = w' := by
  have hb := run_bits a
  have hf := run_frombits (Fl.sz a)
  have hn := Fl.andNot_sign a h
  go_enter Tryd.func38, Tryd.ntmps38
  go_wp2
  go_ret
  exact ⟨ret_float (by omega), rfl⟩

theorem ret_fi {a b : Nat} {c d : Int} (h : a = b) (h2 : c = d) : Ending.returned (.tuple #[.float .f64 a, .int .i64 c]) = .returned (.tuple #[.float .f64 b, .int .i64 d]) := by rw [h, h2]
theorem sz_idem (a : Nat) : Fl.sz (Fl.sz a) = Fl.sz a := by unfold Fl.sz; omega
theorem sg_sz (a : Nat) : Fl.sg (Fl.sz a) = false := by
  have := Fl.sz_lt a
  exact Fl.sg_mk false (r := Fl.sz a) this
theorem isNan_sz (a : Nat) : Fl.isNan (Fl.sz a) = Fl.isNan a := by unfold Fl.isNan; rw [sz_idem]
theorem pos_sz (a : Nat) : Fl.pos (Fl.sz a) = Fl.sz a := by unfold Fl.pos; rw [sz_idem, sg_sz]; rfl

theorem isInf_c (a : Nat) (h : a < 18446744073709551616) (w : World) : Calls Tryd.prog 63 #[.float .f64 a, .int .i64 0] w fun e w' => e = .returned (.bool (decide (Fl.sz a = Fl.inf))) ∧ w = w' := by
  go_enter Tryd.func63, Tryd.ntmps63
  go_wp2_with (go_at_call 38; refine (abs_c _ h _).mono ?_; rintro e w' ⟨rfl, rfl⟩)
  go_ret
  refine ⟨ret_bool ?_, rfl⟩
  refine (Fl.order_gt (Fl.sz a) 9218868437227405311).trans ?_
  rw [isNan_sz, pos_sz, show Fl.isNan 9218868437227405311 = false by decide, show Fl.pos 9218868437227405311 = 9218868437227405311 by decide]
  unfold Fl.isNan Fl.inf
  rw [Bool.eq_iff_iff]; simp; omega

theorem pFinite_c (a : Nat) (h : a < 18446744073709551616) (w : World) : Calls Tryd.prog 36 #[.float .f64 a] w fun e w' => e = .returned (.bool (decide (Fl.sz a < Fl.inf))) ∧ w = w' := by
  have e : (!Fl.isNan a && !decide (Fl.sz a = Fl.inf)) = decide (Fl.sz a < Fl.inf) := by unfold Fl.isNan; rw [Bool.eq_iff_iff]; simp; omega
  rw [← e]
  clear e
  have hI := Fl.Hd.mk (isInf_c a h)
  generalize decide (Fl.sz a = Fl.inf) = I at *
  cases hn : Fl.isNan a
  all_goals
    go_enter Tryd.func36, Tryd.ntmps36
    go_wp2_with (first | (go_at_call 62; refine (isNaN_c _ _).mono ?_; rintro e w' ⟨rfl, rfl⟩) | (go_at_call 63; refine (hI.out _).mono ?_; rintro e w' ⟨rfl, rfl⟩))
    go_ret
    exact ⟨by first | rfl | (cases I <;> rfl), rfl⟩

end Go.Proofs.YtinaibebdacnmaaDoor
