/- errors.As at a throw: the target's box has it. -/
import Derived.Test.YtmcibofnanbhpaaDoorAsM
import Derived.Test.YtmcibofnanbhpaaDoorValG
import Derived.OneCell
namespace Go.Proofs.YtmcibofnanbhpaaDoor.AsT
open Go.RowKit
/-- The variable errors.errorType holds the type 'error'. -/
def HE (w : World) : Prop := w.cell? ⟨2, 0, none⟩ = some (.iface 264 (.agg #[.pointer (some ⟨8, 144, none⟩)]))
theorem HE.below {w w' : World} (h : HE w) (hb : Below w.heap.size w w') : HE w' := by
  unfold HE at *
  rw [hb.cell (World.block_lt_of_cell? w _ h)]; exact h
theorem as_hit2 (e : Addr) (B b : Nat) (hB : B ≤ b) (w : World) (hg : HE w) (ht : w.heap[b]? = some (.cells #[.pointer none] 77 (0, 0))) :
    Calls Tryd.prog 82 #[.iface 77 (.pointer (some e)), .iface 146 (.pointer (some ⟨b, 0, none⟩))] w fun ev w' => ev = .returned (.bool true) ∧ w'.heap[b]? = some (.cells #[.pointer (some e)] 77 (0, 0)) ∧ Below B w w' := by
  refine (as_hit e ⟨b, 0, none⟩ (.pointer none) w hg (by rw [Lib.cell_of_heap ht]; rfl) (Lib.frozen_of_heap ht 0)).mono ?_
  rintro ev w' ⟨rfl, rfl⟩
  have hlt : b < w.heap.size := (Array.getElem?_eq_some_iff.1 ht).1
  refine ⟨rfl, ?_, ?_⟩
  · refine one_setCell (v := .pointer none) ?_
    rw [Lib.alloc_old _ _ _ (by simp; omega), Lib.alloc_old _ _ _ (by simp; omega), Lib.alloc_old _ _ _ (by simp; omega), Lib.alloc_old _ _ _ (by simpa using hlt)]; exact ht
  · exact (((((Below.refl B w).alloc (by omega) _).alloc (by simp; omega) _).alloc (by simp; omega) _).alloc (by simp; omega) _).setCell (p := ⟨b, 0, none⟩) hB _
end Go.Proofs.YtmcibofnanbhpaaDoor.AsT
