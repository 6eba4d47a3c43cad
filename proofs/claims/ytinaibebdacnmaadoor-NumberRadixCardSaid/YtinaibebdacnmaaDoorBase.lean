/- The small functions on floats' bits, of package math and of the reference: what each call comes to. -/
import Derived.Test.YtinaibebdacnmaaDoorRows
import Derived.Test.YtinaibebdacnmaaDoorFloat
import Derived.WalkKit
import Derived.WalkLawsBesides
import Derived.Laws.Externs
import Derived.Laws.BitsAllLaws
namespace Go.Proofs.YtinaibebdacnmaaDoor
open Go.RowKit

theorem run_bits (a : Nat) (w : World) : (callFunc 30 #[.float .f64 a]).run Tryd.prog w = .ok (.value (.int .u64 a)) w := by
  rw [run_callFunc_extern (e := Extern.MathFloatBits.float64bits) Tryd.func30 (by kernel_rfl) (by kernel_rfl) (by kernel_rfl) (by kernel_rfl)]
  rfl

theorem run_frombits (n : Int) (w : World) : (callFunc 35 #[.int .u64 n]).run Tryd.prog w = .ok (.value (.float .f64 n.toNat)) w := by
  rw [run_callFunc_extern (e := Extern.MathFloatBits.float64frombits) Tryd.func35 (by kernel_rfl) (by kernel_rfl) (by kernel_rfl) (by kernel_rfl)]
  rfl

theorem ret_bool {a b : Bool} (h : a = b) : Ending.returned (.bool a) = .returned (.bool b) := by rw [h]
theorem ret_bool2 {a b c d : Bool} (h : a = b) (h2 : c = d) : Ending.returned (.tuple #[.bool a, .bool c]) = .returned (.tuple #[.bool b, .bool d]) := by rw [h, h2]
theorem ret_int {k : IntKind} {a b : Int} (h : a = b) : Ending.returned (.int k a) = .returned (.int k b) := by rw [h]
theorem ret_float {a b : Nat} (h : a = b) : Ending.returned (.float .f64 a) = .returned (.float .f64 b) := by rw [h]

theorem isNaN_c (a : Nat) (w : World) : Calls Tryd.prog 62 #[.float .f64 a] w fun e w' => e = .returned (.bool (Fl.isNan a)) ∧ w = w' := by
  go_enter Tryd.func62, Tryd.ntmps62
  go_wp2
  go_ret
  exact ⟨ret_bool (Fl.order_self a), rfl⟩

theorem size_c (a : Nat) (h : a < 18446744073709551616) (w : World) : Calls Tryd.prog 67 #[.float .f64 a] w fun e w' => e = .returned (.int .u64 (Fl.sz a)) ∧ w = w' := by
  have hb := run_bits a
  have hn := Fl.andNot_sign a h
  go_enter Tryd.func67, Tryd.ntmps67
  go_wp2
  go_ret
  exact ⟨rfl, rfl⟩

theorem negative_c (a : Nat) (h : a < 18446744073709551616) (w : World) : Calls Tryd.prog 69 #[.float .f64 a] w fun e w' => e = .returned (.bool (Fl.sg a)) ∧ w = w' := by
  have hb := run_bits a
  go_enter Tryd.func69, Tryd.ntmps69
  go_wp2
  go_ret
  exact ⟨ret_bool (Fl.sg_shift a h), rfl⟩

theorem finite_c (a : Nat) (h : a < 18446744073709551616) (w : World) : Calls Tryd.prog 40 #[.float .f64 a] w fun e w' => e = .returned (.bool (decide (Fl.sz a < Fl.inf))) ∧ w = w' := by
  go_enter Tryd.func40, Tryd.ntmps40
  go_wp2_with (go_at_call 67; refine (size_c _ h _).mono ?_; rintro e w' ⟨rfl, rfl⟩)
  go_ret
  exact ⟨ret_bool (Fl.fin_lt a), rfl⟩
end Go.Proofs.YtinaibebdacnmaaDoor
