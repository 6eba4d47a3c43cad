/- Plain: the program's Of, Units, Valid in lists: the reference's. -/
import Derived.Test.YtgnifckehopjhaaDoorPureT
import Derived.Test.YtgnifckehopjhaaDoorUnitsC
namespace Go.Proofs.YtgnifckehopjhaaDoor.PR
open Go.RowKit Go.Proofs.YtgnifckehopjhaaDoorW.PrintWords Go.Proofs.YtgnifckehopjhaaDoor.U Go.Proofs.YtgnifckehopjhaaDoor.Utf

/-! ### the points that the program walks over -/
theorem by_tl (s : ByteArray) (i : Nat) : by_ (Pt.tl s i) = (by_ s).drop i := by
  unfold by_ Pt.tl
  rw [← List.map_drop]
  congr 1
  simp [ByteArray.data_extract]
  exact List.take_of_length_le (by simp)
theorem B_getD (s : ByteArray) (k : Nat) : Pt.B s k = (by_ s).getD k 0 := by
  unfold Pt.B by_
  rw [List.getD_eq_getElem?_getD, List.getElem?_map, Array.getElem?_toList]
  by_cases h : k < s.size
  · rw [show s.data[k]? = some (s.data[k]'h) from Array.getElem?_eq_getElem h]
    simp only [Option.map_some, Option.getD_some]
    congr 1
    exact getElem!_pos s.data k h
  · rw [show s.data[k]? = none from Array.getElem?_eq_none (by exact Nat.le_of_not_lt h)]
    simp only [Option.map_none, Option.getD_none]
    have : s.get! k = default := getElem!_neg s.data k h
    rw [this]; rfl
theorem pt_eq (s : ByteArray) : Pt.pt s = Utf.pt (by_ s) := by
  unfold Pt.pt Utf.pt
  rw [B_getD, B_getD, B_getD, B_getD, by_length]
  rfl
theorem scan_eq (s : ByteArray) : ∀ f i last, (Pt.scan s f i last).2 = (Utf.scan f ((by_ s).drop i) last).2 ∧ (Pt.scan s f i last).1.map (·.2) = (Utf.scan f ((by_ s).drop i) last).1
  | 0, _, _ => ⟨rfl, rfl⟩
  | f + 1, i, last => by
    simp only [Pt.scan, Utf.scan]
    rw [pt_eq, by_tl]
    have hl : ((by_ s).drop i).length = s.size - i := by rw [List.length_drop, by_length]
    by_cases h1 : s.size ≤ i
    · rw [if_pos h1, if_pos (show ((by_ s).drop i).length = 0 by omega)]; exact ⟨rfl, rfl⟩
    · have hz : ¬ ((by_ s).drop i).length = 0 := by omega
      rw [if_neg h1, if_neg hz]
      by_cases h2 : (Utf.pt ((by_ s).drop i)).2 = 0 ∨ (Utf.hi last = true ∧ Utf.lo (Utf.pt ((by_ s).drop i)).1 = true)
      · have h2' : ((Utf.pt ((by_ s).drop i)).2 = 0 ∨ (Pt.hi last = true ∧ Pt.lo (Utf.pt ((by_ s).drop i)).1 = true)) := h2
        rw [if_pos h2', if_pos h2]; exact ⟨rfl, rfl⟩
      · have h2' : ¬ ((Utf.pt ((by_ s).drop i)).2 = 0 ∨ (Pt.hi last = true ∧ Pt.lo (Utf.pt ((by_ s).drop i)).1 = true)) := h2
        rw [if_neg h2', if_neg h2]
        have ih := scan_eq s f (i + (Utf.pt ((by_ s).drop i)).2) (Utf.pt ((by_ s).drop i)).1
        rw [← List.drop_drop] at ih
        exact ⟨ih.1, by simp only [List.map_cons]; rw [ih.2]⟩
theorem all_val (s : ByteArray) : (Pt.all s).2 = val (by_ s) := by
  have := (scan_eq s (s.size + 1) 0 0).1
  unfold Pt.all val
  rw [by_length]; simpa using this
theorem all_pts (s : ByteArray) : (Pt.all s).1.map (·.2) = pts (by_ s) := by
  have := (scan_eq s (s.size + 1) 0 0).2
  unfold Pt.all pts
  rw [by_length]; simpa using this
theorem pu16 (r : Nat) : Pt.u16 r = cI (u16 r) := by unfold Pt.u16 u16; split <;> rfl
theorem all_us (s : ByteArray) : Pt.us (Pt.all s).1 = cI (us (pts (by_ s))) := by
  rw [← all_pts]
  unfold Pt.us us
  generalize (Pt.all s).1 = l
  induction l with
  | nil => rfl
  | cons x l ih => simp only [List.flatMap_cons, List.map_cons, cI_append]; rw [ih, pu16]

/-- The program's Units. -/
theorem pUnits_eq (s : ByteArray) (hs : s.size ≤ 1099511627776) : units_Units.f s = some (if val (by_ s) = true then (cI (us (pts (by_ s))), 0) else ([], 10)) := by
  unfold units_Units.f
  rw [if_pos hs, all_val, all_us]
  split <;> rfl
theorem pValid_eq (s : ByteArray) (hs : s.size ≤ 140737488351232) : units_Valid.f s = some (val (by_ s)) := by
  unfold units_Valid.f
  rw [if_pos hs, all_val]

end Go.Proofs.YtgnifckehopjhaaDoor.PR
