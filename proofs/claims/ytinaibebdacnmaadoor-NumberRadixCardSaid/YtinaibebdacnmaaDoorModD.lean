/- math.Mod, math.Trunc, number.Integer, number.Uint32: what each call comes to, at every input. -/
import Derived.Test.YtinaibebdacnmaaDoorModC
namespace Go.Proofs.YtinaibebdacnmaaDoor
open Go.RowKit

namespace Fl
/-- The size whose magnitude is a number. -/
noncomputable def rho (v : Nat) : Nat := Classical.epsilon fun z => V z = v
theorem rho_eq {z v : Nat} (h : V z = v) : rho v = z := by
  have : V (rho v) = v := Classical.epsilon_spec (p := fun z => V z = v) ⟨z, h⟩
  exact V_inj.1 (this.trans h.symm)
/-- Where a division has no rest. -/
def bad (x y : Nat) : Bool := decide (sz y = 0) || decide (sz x = inf) || isNan x || isNan y
/-- What is left of a division; nn: the word where there is none. -/
noncomputable def fmod (nn x y : Nat) : Nat := if bad x y = true then nn else if sz y = inf then x else mk (sg x) (rho (V (sz x) % V (sz y)))
theorem eq_of_sz0 {x : Nat} (hx : x < 18446744073709551616) (h : sz x = 0) : mk (sg x) 0 = x := by
  have := mk_eta hx
  rw [h] at this; exact this
end Fl

end Go.Proofs.YtinaibebdacnmaaDoor
