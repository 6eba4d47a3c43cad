/- The reference's Parts, signed, pack, Rem, Modulo: what each call comes to. -/
import Derived.Test.YtinaibebdacnmaaDoorIntC
namespace Go.Proofs.YtinaibebdacnmaaDoor
open Go.RowKit

theorem ret_ii {k : IntKind} {a b c d : Int} (h : a = b) (h2 : c = d) : Ending.returned (.tuple #[.int k a, .int .i64 c]) = .returned (.tuple #[.int k b, .int .i64 d]) := by rw [h, h2]

theorem parts_c (r : Nat) (h : r < 9223372036854775808) (w : World) : Calls Tryd.prog 68 #[.int .u64 r] w fun e w' => e = .returned (.tuple #[.int .u64 (Fl.M r), .int .i64 ((Fl.E r : Int) - 1074)]) ∧ w = w' := by
  have b1 := Fl.and_frac (r : Int) (by omega)
  have b2 := Fl.and_exp ((r : Int) / 4503599627370496) (by omega)
  by_cases hlt : r < 4503599627370496
  · have e1 : Fl.M r = r := by unfold Fl.M; rw [if_pos hlt]
    have e2 := Fl.E_low hlt
    have z : ((r : Int) / 4503599627370496 % 2048 == 0) = true := by rw [beq_iff_eq]; omega
    rw [e1, e2]
    clear e1 e2
    go_enter Tryd.func68, Tryd.ntmps68
    go_wp2
    go_ret2
    exact ⟨ret_ii (by omega) rfl, rfl⟩
  · have e1 : Fl.M r = 4503599627370496 + r % 4503599627370496 := by unfold Fl.M; rw [if_neg hlt]
    have e2 : Fl.E r = r / 4503599627370496 - 1 := rfl
    have z : ((r : Int) / 4503599627370496 % 2048 == 0) = false := by rw [beq_eq_false_iff_ne]; omega
    have b3 := Fl.or_join 4503599627370496 ((r : Int) % 4503599627370496) (by omega) (by omega) (by omega)
    rw [e1, e2]
    clear e1 e2
    go_enter Tryd.func68, Tryd.ntmps68
    go_wp2
    go_ret2
    exact ⟨ret_ii (by omega) (by omega), rfl⟩

end Go.Proofs.YtinaibebdacnmaaDoor
