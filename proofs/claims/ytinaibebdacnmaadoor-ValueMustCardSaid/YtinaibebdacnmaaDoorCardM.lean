/- What the cards share that ask for the variable errors.errorType too. -/
import Derived.Test.YtinaibebdacnmaaDoorCardV
import Derived.Test.YtinaibebdacnmaaDoorMusC
import Derived.LaidHandle
import Derived.LaidLaws
namespace Go.Proofs.YtinaibebdacnmaaDoor.CC
open Go.ChangeShapes Go.WideShapes Go.ChangeAt Go.RowKit Go.Lib

def laidE : List (String × DataW Unit) := [("unicode/utf8.acceptRanges", Rows.laid_unicode_utf8_acceptRanges), ("errors.errorType", Rows.laid_errors_errorType), ("unicode/utf8.first", Rows.laid_unicode_utf8_first)]
theorem et : Tryd.prog.globalNamed "errors.errorType" = some 1 := by kernel_rfl
theorem rt : (Tryd.prog.cutTypes.find? (·.1 == "internal/reflectlite.rtype")).map (·.2) = some 172 := by kernel_rfl
theorem typesSize : Tryd.prog.types.size = 220 := by kernel_rfl
theorem oneRow : ((List.range 220).filter fun t => Tryd.prog.rowNamed t [101, 114, 114, 111, 114]) = [112] := by kernel_rfl
theorem handle_of {W : World} (h : laidMetH Tryd.prog laidE W) : HE W := by
  have h' : laidMet Tryd.prog laidL W ∧ handlesMet Tryd.prog [("errors.errorType", Rows.laid_errors_errorType)] W := h
  obtain ⟨name, u, ty, e1, e2, e3, e4, e5⟩ := h'.2 ("errors.errorType", Rows.laid_errors_errorType) (List.mem_singleton.2 rfl)
  have en : name = [101, 114, 114, 111, 114] := (Option.some.inj e1).symm
  subst en
  obtain rfl := Option.some.inj (rt.symm.trans e2)
  have hm : ty ∈ (List.range 220).filter fun t => Tryd.prog.rowNamed t [101, 114, 114, 111, 114] := List.mem_filter.2 ⟨List.mem_range.2 (by rw [← typesSize]; exact e3), e4⟩
  rw [oneRow] at hm
  obtain rfl := List.mem_singleton.1 hm
  have hh : typeHandle Tryd.prog 112 = .pointer (some ⟨7, 112, none⟩) := by kernel_rfl
  rw [hh] at e5
  unfold HE
  simpa using World.var?_cell et e5 0
theorem tabs_ofE {W : World} (h : laidMetH Tryd.prog laidE W) : Tabs W := by
  have h' : laidMet Tryd.prog laidL W ∧ handlesMet Tryd.prog [("errors.errorType", Rows.laid_errors_errorType)] W := h
  exact tabs_of h'.1
noncomputable def laidWorldE (os : Os) : World :=
  let w0 := laidWorld os
  { w0 with heap := w0.heap.modify 1 fun
      | .cells _ t frozen => .cells #[.iface 172 (.agg #[.pointer (some ⟨7, 112, none⟩)])] t frozen
      | o => o }
theorem laid_metE (os : Os) (args : Array Value) : laidMetH Tryd.prog laidE ((laidWorldE os).forCall (fun _ _ => 0) ⟨#[], args, []⟩).memory :=
  laidMetH_of_parts (show laidMet Tryd.prog laidL ((laidWorldE os).forCall (fun _ _ => 0) ⟨#[], args, []⟩).memory from (LaidIn.of_run (l := laidL) [6, 5] 8 (by kernel_rfl) (by kernel_rfl) (by kernel_rfl) (by kernel_rfl)).met) (by kernel_rfl)
end Go.Proofs.YtinaibebdacnmaaDoor.CC
