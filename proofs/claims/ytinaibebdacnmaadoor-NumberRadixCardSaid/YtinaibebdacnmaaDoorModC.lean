/- math.mod: what a call comes to. -/
import Derived.Test.YtinaibebdacnmaaDoorMathC
namespace Go.Proofs.YtinaibebdacnmaaDoor
open Go.RowKit

theorem run_neg_float {P : Program} (a : Nat) (w : World) : (Op.unary .neg (.float .f64 a)).run P w = .ok (.float .f64 (Op.negFloat .f64 a)) w := rfl

/-- A float's word. -/
def flt : Value → Nat
  | .float _ n => n
  | _ => 0

namespace Fl
theorem plain {r : Nat} (h : r < 9223372036854775808) : sz r = r ∧ sg r = false := by
  refine ⟨by unfold sz; omega, sg_mk false (r := r) h⟩
theorem order_plain (a b : Nat) (ha : a < inf) (hb : b ≤ inf) : Ieee.double.order a b = some (compare (a : Int) (b : Int)) := by
  have pa := plain (r := a) (by unfold inf at ha; omega)
  have pb := plain (r := b) (by unfold inf at hb; omega)
  have na : isNan a = false := by unfold isNan; rw [pa.1, decide_eq_false_iff_not]; omega
  have nb : isNan b = false := by unfold isNan; rw [pb.1, decide_eq_false_iff_not]; omega
  rw [order_eq, na, nb]
  unfold pos
  rw [pa.1, pa.2, pb.1, pb.2]
  rfl
theorem fx_bd {r : Nat} (h0 : 0 < r) (hi : r < inf) : -60 ≤ fx r ∧ fx r ≤ 2100 := by
  have h1 := nz_ge h0
  have h2 := nz_lt h0 hi
  have h3 := kz_le r
  unfold fx E inf at *
  omega
theorem M_nz_lt (a b : Nat) (ha : 0 < a) (hb : 0 < b) : M (nz a) < M (nz b) ↔ nz a % 4503599627370496 < nz b % 4503599627370496 := by
  have h1 := nz_ge ha
  have h2 := nz_ge hb
  unfold M
  rw [if_neg (by omega), if_neg (by omega)]
  omega
/-- A step of the remainder. -/
theorem mod_step (r y X : Nat) (hy : 0 < y) (hr : y ≤ r) (hri : r < inf) (hX : V r % V y = X % V y) :
    ∃ n c r' : Nat, fx r - fx y - (if M (nz r) < M (nz y) then 1 else 0) = (n : Int) ∧ c < inf ∧ V c = V y * 2 ^ n ∧ r' < r ∧ V r' % V y = X % V y ∧ Ieee.double.sub r c = some r' := by
  obtain ⟨n, hn, h1, h2⟩ := step r y hy hr
  have hv := V_lt_iff.2 hri
  obtain ⟨c, hc, hcv⟩ := scaled y n (by omega)
  obtain ⟨r', hr', hrv⟩ := sterbenz r c hri (by omega) (by omega)
  have hcp : 0 < V c := by rw [hcv]; exact Nat.mul_pos (V_pos hy) (Nat.two_pow_pos n)
  refine ⟨n, c, r', hn, hc, hcv, V_lt_iff.1 (by omega), ?_, sub_exact r c r' hri hc hr' (by omega) hrv.symm⟩
  have e : V r = V r' + V y * 2 ^ n := by omega
  rw [← hX, e, Nat.add_mul_mod_self_left]
end Fl

end Go.Proofs.YtinaibebdacnmaaDoor
