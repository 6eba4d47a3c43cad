/- The reference's Good: what it comes to. -/
import Derived.Test.YtgnifckehopjhaaDoorValC
import Derived.Test.YtgnifckehopjhaaDoorFloat
import Derived.Test.YtgnifckehopjhaaDoorPureOv
namespace Go.Proofs.YtgnifckehopjhaaDoor
open Go.RowKit Go.Proofs.YtgnifckehopjhaaDoorW.PrintWords
attribute [local go_sem] run_store_float

theorem ord0 (n : Nat) (h : n < 18446744073709551616) : FloatKind.f64.format.order n 0 = some .eq ↔ (n = 0 ∨ n = 9223372036854775808) := by
  have e := Fl.order_beq n 0
  have z : Fl.isNan 0 = false := by decide
  have q : Fl.pos 0 = 0 := by decide
  rw [z, q] at e
  have e2 : (FloatKind.f64.format.order n 0 = some .eq) ↔ ((Ieee.double.order n 0 == some .eq) = true) := by rw [beq_iff_eq]; rfl
  rw [e2, e]
  simp only [Bool.not_false, Bool.and_true, Bool.and_eq_true, Bool.not_eq_true', decide_eq_true_eq]
  unfold Fl.isNan Fl.pos Fl.sz Fl.sg Fl.inf
  constructor
  · rintro ⟨_, h2⟩
    split at h2 <;> omega
  · rintro (rfl | rfl) <;> decide

theorem ret_bool' {a b : Bool} (h : a = b) : Ending.returned (.bool a) = .returned (.bool b) := by rw [h]

end Go.Proofs.YtgnifckehopjhaaDoor
