/- The law NumberDivides. -/
import Derived.Test.YtinaibebdacnmaaDoorRemC
namespace Go.Proofs.YtinaibebdacnmaaDoor
open Go.RowKit

namespace Fl
theorem u32_bd (x : Nat) : 0 ≤ u32 x ∧ u32 x < 4294967296 := by unfold u32; split <;> omega
end Fl

theorem float_c (n : Nat) (w : World) : Calls Tryd.prog 17 #[.int .u64 n] w fun e w' => e = .returned (.float .f64 n) ∧ w = w' := by
  have hb := run_frombits n
  go_enter Tryd.func17, Tryd.ntmps17
  go_wp2
  go_ret
  exact ⟨ret_float rfl, rfl⟩

namespace Fl
theorem shl_wrap (U P : Int) : wrap32 (wrap32 U * P) = wrap32 (U * P % 4294967296) := by
  obtain ⟨j, hj⟩ : ∃ j : Int, wrap32 U = U + 4294967296 * j := ⟨(wrap32 U - U) / 4294967296, by unfold wrap32; omega⟩
  rw [hj, Int.add_mul, Int.mul_assoc]
  generalize U * P = X
  generalize j * P = Y
  unfold wrap32
  omega
theorem rho_lt (x y : Nat) (hx : x < inf) : rho (V x % V y) < inf := by
  by_cases h : y ≤ x
  · have hv := V_lt_iff.2 hx
    have hle := Nat.mod_le (V x) (V y)
    by_cases h0 : y = 0
    · subst h0; rw [V_zero, Nat.mod_zero, rho_eq rfl]; exact hx
    · have hm := Nat.mod_lt (M x * 2 ^ (E x - E y)) (M_pos (show 0 < y by omega))
      have := M_lt y
      have e := mod_place x y h
      obtain ⟨r, hr, hrv⟩ := rep (M x * 2 ^ (E x - E y) % M y) (E y) (by omega) (by rw [← e]; omega)
      rw [e, rho_eq hrv]; exact hr
  · rw [Nat.mod_eq_of_lt (V_lt_iff.2 (by omega)), rho_eq rfl]; exact hx
theorem fmod_lt (nn x y : Nat) (hn : nn < 18446744073709551616) (hx : x < 18446744073709551616) : fmod nn x y < 18446744073709551616 := by
  unfold fmod
  split
  · exact hn
  · split
    · exact hx
    · rename_i hb _
      have h : sz x < inf := by
        unfold bad isNan at hb
        simp at hb
        omega
      have := rho_lt (sz x) (sz y) h
      exact mk_lt _ (inf63 this)
end Fl

end Go.Proofs.YtinaibebdacnmaaDoor
