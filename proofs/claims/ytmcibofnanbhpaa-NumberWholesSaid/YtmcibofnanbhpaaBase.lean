/- The small functions on floats' bits, of package math and of the reference: what each call comes to. -/
import Derived.Test.YtmcibofnanbhpaaRows
import Derived.Test.YtmcibofnanbhpaaFloat
import Derived.WalkKit
import Derived.WalkLawsBesides
import Derived.Laws.Externs
import Derived.Laws.BitsAllLaws
namespace Go.Proofs.Ytmcibofnanbhpaa
open Go.RowKit

theorem run_bits (a : Nat) (w : World) : (callFunc 45 #[.float .f64 a]).run Try.prog w = .ok (.value (.int .u64 a)) w := by
  rw [run_callFunc_extern (e := Extern.MathFloatBits.float64bits) Try.func45 (by kernel_rfl) (by kernel_rfl) (by kernel_rfl) (by kernel_rfl)]
  rfl

theorem run_frombits (n : Int) (w : World) : (callFunc 28 #[.int .u64 n]).run Try.prog w = .ok (.value (.float .f64 n.toNat)) w := by
  rw [run_callFunc_extern (e := Extern.MathFloatBits.float64frombits) Try.func28 (by kernel_rfl) (by kernel_rfl) (by kernel_rfl) (by kernel_rfl)]
  rfl

theorem ret_bool {a b : Bool} (h : a = b) : Ending.returned (.bool a) = .returned (.bool b) := by rw [h]
theorem ret_bool2 {a b c d : Bool} (h : a = b) (h2 : c = d) : Ending.returned (.tuple #[.bool a, .bool c]) = .returned (.tuple #[.bool b, .bool d]) := by rw [h, h2]
theorem ret_int {k : IntKind} {a b : Int} (h : a = b) : Ending.returned (.int k a) = .returned (.int k b) := by rw [h]
theorem ret_float {a b : Nat} (h : a = b) : Ending.returned (.float .f64 a) = .returned (.float .f64 b) := by rw [h]

theorem isNaN_c (a : Nat) (w : World) : Calls Try.prog 39 #[.float .f64 a] w fun e w' => e = .returned (.bool (Fl.isNan a)) ∧ w = w' := by
  go_enter Try.func39, Try.ntmps39
  go_wp2
  go_ret
  exact ⟨ret_bool (Fl.order_self a), rfl⟩

theorem size_c (a : Nat) (h : a < 18446744073709551616) (w : World) : Calls Try.prog 31 #[.float .f64 a] w fun e w' => e = .returned (.int .u64 (Fl.sz a)) ∧ w = w' := by
  have hb := run_bits a
  have hn := Fl.andNot_sign a h
  go_enter Try.func31, Try.ntmps31
  go_wp2
  go_ret
  exact ⟨rfl, rfl⟩

theorem negative_c (a : Nat) (h : a < 18446744073709551616) (w : World) : Calls Try.prog 32 #[.float .f64 a] w fun e w' => e = .returned (.bool (Fl.sg a)) ∧ w = w' := by
  have hb := run_bits a
  go_enter Try.func32, Try.ntmps32
  go_wp2
  go_ret
  exact ⟨ret_bool (Fl.sg_shift a h), rfl⟩

theorem nan_c (a : Nat) (h : a < 18446744073709551616) (w : World) : Calls Try.prog 35 #[.float .f64 a] w fun e w' => e = .returned (.bool (Fl.isNan a)) ∧ w = w' := by
  go_enter Try.func35, Try.ntmps35
  go_wp2_with (go_at_call 31; refine (size_c _ h _).mono ?_; rintro e w' ⟨rfl, rfl⟩)
  go_ret
  exact ⟨ret_bool (Fl.nan_gt a), rfl⟩

theorem finite_c (a : Nat) (h : a < 18446744073709551616) (w : World) : Calls Try.prog 29 #[.float .f64 a] w fun e w' => e = .returned (.bool (decide (Fl.sz a < Fl.inf))) ∧ w = w' := by
  go_enter Try.func29, Try.ntmps29
  go_wp2_with (go_at_call 31; refine (size_c _ h _).mono ?_; rintro e w' ⟨rfl, rfl⟩)
  go_ret
  exact ⟨ret_bool (Fl.fin_lt a), rfl⟩
end Go.Proofs.Ytmcibofnanbhpaa
