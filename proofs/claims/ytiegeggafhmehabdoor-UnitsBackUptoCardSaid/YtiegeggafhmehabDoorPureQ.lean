/- Plain: Slice and Concat of the program: what a cut and a join give. -/
import Derived.Test.YtiegeggafhmehabDoorPureP
namespace Go.Proofs.YtiegeggafhmehabDoor.PR
open Go.RowKit Go.Proofs.YtiegeggafhmehabDoorW.PrintWords Go.Proofs.YtiegeggafhmehabDoor.V Go.Proofs.YtiegeggafhmehabDoor.Utf

theorem part (l : List Nat) (a b : Nat) : ((cI l).take b).drop a = cI ((l.take b).drop a) := by
  unfold cI; rw [List.map_drop, List.map_take]
theorem part_lt (l : List Nat) (a b : Nat) (h : ∀ x ∈ l, x < 65536) : ∀ x ∈ (l.take b).drop a, x < 65536 := fun x hx => h x (List.mem_of_mem_take (List.mem_of_mem_drop hx))
theorem part_len (l : List Nat) (a b : Nat) : ((l.take b).drop a).length ≤ l.length := by rw [List.length_drop, List.length_take]; omega
theorem units_lt (s : ByteArray) (h : val (by_ s) = true) : ∀ x ∈ us (pts (by_ s)), x < 65536 := us_lt _ (good_le _ _ (val_true s h).2)

/-- What a cut gives. -/
theorem slice_val (a : ByteArray) (c d : Int) (ha : a.size ≤ 1099511627776) (hv : val (by_ a) = true) (h1 : 0 ≤ c) (h2 : c ≤ d) (h3 : d ≤ ((us (pts (by_ a))).length : Int)) (k : Nat) (hk : 40 + 9 * a.size ≤ k) :
    units_Slice.f k a c d = some (ofS (((us (pts (by_ a))).take d.toNat).drop c.toNat), 0) := by
  have u := us_size a hv
  have hl := part_len (us (pts (by_ a))) c.toNat d.toNat
  have hx := part_lt (us (pts (by_ a))) c.toNat d.toNat (units_lt a hv)
  have hL : (cI (us (pts (by_ a)))).length = (us (pts (by_ a))).length := cI_length _
  unfold units_Slice.f
  rw [pUnits_eq a ha, if_pos hv, Option.bind_some]
  dsimp only
  rw [if_pos rfl, if_neg (show ¬ c < 0 by omega), if_neg (show ¬ c > d by omega), hL, if_neg (show ¬ d > ((us (pts (by_ a))).length : Int) by omega), if_pos h1, if_pos h2, if_pos h3, part,
    pOf_eq _ k (by omega) (by omega) hx, Option.bind_some]
theorem concat_val (a b : ByteArray) (ha : a.size ≤ 1099511627776) (hb : b.size ≤ 1099511627776) (h1 : val (by_ a) = true) (h2 : val (by_ b) = true) (k : Nat) (hk : 60 + 9 * a.size + 9 * b.size ≤ k) :
    units_Concat.f k a b = some (if ((ofS (us (pts (by_ a)) ++ us (pts (by_ b)))).size : Int) > 1048576 then ((⟨#[]⟩ : ByteArray), 6) else (ofS (us (pts (by_ a)) ++ us (pts (by_ b))), 0)) := by
  have u1 := us_size a h1
  have u2 := us_size b h2
  have hx : ∀ x ∈ us (pts (by_ a)) ++ us (pts (by_ b)), x < 65536 := by
    intro x hx
    rcases List.mem_append.1 hx with h | h
    · exact units_lt a h1 x h
    · exact units_lt b h2 x h
  have hl : (us (pts (by_ a)) ++ us (pts (by_ b))).length ≤ 2 * a.size + 2 * b.size := by rw [List.length_append]; omega
  unfold units_Concat.f
  rw [pUnits_eq a ha, pUnits_eq b hb, if_pos h1, if_pos h2, Option.bind_some, Option.bind_some]
  dsimp only
  rw [if_pos rfl, if_pos rfl, if_pos (by rw [cI_length, cI_length]; omega), ← cI_append, pOf_eq _ k (by omega) (by omega) hx, Option.bind_some]
  split <;> rfl
end Go.Proofs.YtiegeggafhmehabDoor.PR
