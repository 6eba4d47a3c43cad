/- Plain: At, Slice, Concat: the program's are the reference's; the law UnitsPieces. -/
import Derived.Test.YtiegeggafhmehaaDoorPureP
import Derived.Test.YtiegeggafhmehaaDoorUx8
namespace Go.Proofs.YtiegeggafhmehaaDoor.PR
open Go.RowKit Go.Proofs.YtiegeggafhmehaaDoorW.PrintWords Go.Proofs.YtiegeggafhmehaaDoor.U Go.Proofs.YtiegeggafhmehaaDoor.Utf

theorem part (l : List Nat) (a b : Nat) : ((cI l).take b).drop a = cI ((l.take b).drop a) := by
  unfold cI; rw [List.map_drop, List.map_take]
theorem part_lt (l : List Nat) (a b : Nat) (h : ∀ x ∈ l, x < 65536) : ∀ x ∈ (l.take b).drop a, x < 65536 := fun x hx => h x (List.mem_of_mem_take (List.mem_of_mem_drop hx))
theorem part_len (l : List Nat) (a b : Nat) : ((l.take b).drop a).length ≤ l.length := by rw [List.length_drop, List.length_take]; omega
theorem units_lt (s : ByteArray) (h : val (by_ s) = true) : ∀ x ∈ us (pts (by_ s)), x < 65536 := us_lt _ (good_le _ _ (val_true s h).2)

theorem At_eq (a : ByteArray) (c : Int) (ha : a.size ≤ 1099511627776) : ∃ v, units_At.f a c = some v ∧ ∀ k, 40 + 9 * a.size ≤ k → cameoref01_At.f k a c = some v := by
  unfold units_At.f cameoref01_At.f
  rw [pUnits_eq a ha]
  have e : ∀ k, 40 + 9 * a.size ≤ k → cameoref01_Units.f k a = some (if val (by_ a) = true then (cI (us (pts (by_ a))), 0) else ([], 10)) := fun k hk => Units_eq a ha k hk
  generalize (if val (by_ a) = true then (cI (us (pts (by_ a))), (0 : Int)) else ([], 10)) = P at e
  obtain ⟨L, n⟩ := P
  simp only [Option.bind_some]
  by_cases h0 : n = 0
  · by_cases h1 : c < 0
    · exact ⟨_, by rw [if_pos h0, if_pos h1], fun k hk => by rw [e k hk, Option.bind_some, if_pos h0, if_pos h1]⟩
    · by_cases h2 : c ≥ (L.length : Int)
      · exact ⟨_, by rw [if_pos h0, if_neg h1, if_pos h2], fun k hk => by rw [e k hk, Option.bind_some, if_pos h0, if_neg h1, if_pos h2]⟩
      · have h3 : 0 ≤ c := by omega
        have h4 : c < (L.length : Int) := by omega
        exact ⟨_, by rw [if_pos h0, if_neg h1, if_neg h2, if_pos h3, if_pos h4], fun k hk => by rw [e k hk, Option.bind_some, if_pos h0, if_neg h1, if_neg h2, if_pos h3, if_pos h4]⟩
  · exact ⟨_, by rw [if_neg h0], fun k hk => by rw [e k hk, Option.bind_some, if_neg h0]⟩

/-- What a cut gives. -/
theorem slice_val (a : ByteArray) (c d : Int) (ha : a.size ≤ 1099511627776) (hv : val (by_ a) = true) (h1 : 0 ≤ c) (h2 : c ≤ d) (h3 : d ≤ ((us (pts (by_ a))).length : Int)) (k : Nat) (hk : 40 + 9 * a.size ≤ k) :
    units_Slice.f k a c d = some (ofS (((us (pts (by_ a))).take d.toNat).drop c.toNat), 0) ∧ cameoref01_Slice.f k a c d = some (ofS (((us (pts (by_ a))).take d.toNat).drop c.toNat), 0) := by
  have u := us_size a hv
  have hl := part_len (us (pts (by_ a))) c.toNat d.toNat
  have hx := part_lt (us (pts (by_ a))) c.toNat d.toNat (units_lt a hv)
  have hL : (cI (us (pts (by_ a)))).length = (us (pts (by_ a))).length := cI_length _
  constructor
  · unfold units_Slice.f
    rw [pUnits_eq a ha, if_pos hv, Option.bind_some]
    dsimp only
    rw [if_pos rfl, if_neg (show ¬ c < 0 by omega), if_neg (show ¬ c > d by omega), hL, if_neg (show ¬ d > ((us (pts (by_ a))).length : Int) by omega), if_pos h1, if_pos h2, if_pos h3, part,
      pOf_eq _ k (by omega) (by omega) hx, Option.bind_some]
  · unfold cameoref01_Slice.f
    rw [Units_eq a ha k hk, if_pos hv, Option.bind_some]
    dsimp only
    rw [if_pos rfl, if_neg (show ¬ c < 0 by omega), if_neg (show ¬ c > d by omega), hL, if_neg (show ¬ d > ((us (pts (by_ a))).length : Int) by omega), if_pos h1, if_pos h2, if_pos h3, part,
      Of_eq _ k (by omega) (by omega) hx, Option.bind_some]
theorem Slice_eq (a : ByteArray) (c d : Int) (ha : a.size ≤ 1099511627776) : ∃ v, ∀ k, 40 + 9 * a.size ≤ k → units_Slice.f k a c d = some v ∧ cameoref01_Slice.f k a c d = some v := by
  by_cases hv : val (by_ a) = true
  · by_cases hc : 0 ≤ c ∧ c ≤ d ∧ d ≤ ((us (pts (by_ a))).length : Int)
    · exact ⟨_, fun k hk => slice_val a c d ha hv hc.1 hc.2.1 hc.2.2 k hk⟩
    · have hL : (cI (us (pts (by_ a)))).length = (us (pts (by_ a))).length := cI_length _
      refine ⟨((⟨#[]⟩ : ByteArray), 7), fun k hk => ⟨?_, ?_⟩⟩
      · unfold units_Slice.f
        rw [pUnits_eq a ha, if_pos hv, Option.bind_some]
        dsimp only
        rw [if_pos rfl, hL]
        by_cases h1 : c < 0
        · rw [if_pos h1]
        · rw [if_neg h1]
          by_cases h2 : c > d
          · rw [if_pos h2]
          · rw [if_neg h2, if_pos (by omega)]
      · unfold cameoref01_Slice.f
        rw [Units_eq a ha k hk, if_pos hv, Option.bind_some]
        dsimp only
        rw [if_pos rfl, hL]
        by_cases h1 : c < 0
        · rw [if_pos h1]
        · rw [if_neg h1]
          by_cases h2 : c > d
          · rw [if_pos h2]
          · rw [if_neg h2, if_pos (by omega)]
  · refine ⟨((⟨#[]⟩ : ByteArray), 10), fun k hk => ⟨?_, ?_⟩⟩
    · unfold units_Slice.f
      rw [pUnits_eq a ha, if_neg hv]; rfl
    · unfold cameoref01_Slice.f
      rw [Units_eq a ha k hk, if_neg hv]; rfl

/-- What a join gives. -/
theorem concat_val (a b : ByteArray) (ha : a.size ≤ 1099511627776) (hb : b.size ≤ 1099511627776) (h1 : val (by_ a) = true) (h2 : val (by_ b) = true) (k : Nat) (hk : 60 + 9 * a.size + 9 * b.size ≤ k) :
    units_Concat.f k a b = some (if ((ofS (us (pts (by_ a)) ++ us (pts (by_ b)))).size : Int) > 1048576 then ((⟨#[]⟩ : ByteArray), 6) else (ofS (us (pts (by_ a)) ++ us (pts (by_ b))), 0)) ∧
    cameoref01_Concat.f k a b = some (if ((ofS (us (pts (by_ a)) ++ us (pts (by_ b)))).size : Int) > 1048576 then ((⟨#[]⟩ : ByteArray), 6) else (ofS (us (pts (by_ a)) ++ us (pts (by_ b))), 0)) := by
  have u1 := us_size a h1
  have u2 := us_size b h2
  have hx : ∀ x ∈ us (pts (by_ a)) ++ us (pts (by_ b)), x < 65536 := by
    intro x hx
    rcases List.mem_append.1 hx with h | h
    · exact units_lt a h1 x h
    · exact units_lt b h2 x h
  have hl : (us (pts (by_ a)) ++ us (pts (by_ b))).length ≤ 2 * a.size + 2 * b.size := by rw [List.length_append]; omega
  constructor
  · unfold units_Concat.f
    rw [pUnits_eq a ha, pUnits_eq b hb, if_pos h1, if_pos h2, Option.bind_some, Option.bind_some]
    dsimp only
    rw [if_pos rfl, if_pos rfl, if_pos (by rw [cI_length, cI_length]; omega), ← cI_append, pOf_eq _ k (by omega) (by omega) hx, Option.bind_some]
    split <;> rfl
  · unfold cameoref01_Concat.f
    rw [Units_eq a ha k (by omega), Units_eq b hb k (by omega), if_pos h1, if_pos h2, Option.bind_some, Option.bind_some]
    dsimp only
    obtain ⟨k, rfl⟩ : ∃ x, k = x + 1 := ⟨k - 1, by omega⟩
    rw [if_pos rfl]
    have e : ∀ l m : List Int, cameoref01_Concat.j0 (k + 1) l m ((0 : Int) != 0) = (if ([] : List Int).length + l.length < 70368744177664 then (if ([] ++ l : List Int).length + m.length < 70368744177664 then ((cameoref01_Of.f k (([] ++ l : List Int) ++ m)).bind fun t389 => (if (t389.size : Int) > 1048576 then (some ((⟨#[]⟩ : ByteArray), 6)) else (some (t389, 0)))) else none) else none) := fun _ _ => rfl
    rw [e, List.nil_append, if_pos (by rw [cI_length, List.length_nil]; omega), if_pos (by rw [cI_length, cI_length]; omega), ← cI_append, Of_eq _ k (by omega) (by omega) hx, Option.bind_some]
    split <;> rfl
theorem Concat_eq (a b : ByteArray) (ha : a.size ≤ 1099511627776) (hb : b.size ≤ 1099511627776) : ∃ v, ∀ k, 60 + 9 * a.size + 9 * b.size ≤ k → units_Concat.f k a b = some v ∧ cameoref01_Concat.f k a b = some v := by
  by_cases h1 : val (by_ a) = true
  · by_cases h2 : val (by_ b) = true
    · exact ⟨_, fun k hk => concat_val a b ha hb h1 h2 k hk⟩
    · refine ⟨((⟨#[]⟩ : ByteArray), 10), fun k hk => ⟨?_, ?_⟩⟩
      · unfold units_Concat.f
        rw [pUnits_eq a ha, pUnits_eq b hb, if_pos h1, if_neg h2]; rfl
      · unfold cameoref01_Concat.f
        rw [Units_eq a ha k (by omega), Units_eq b hb k (by omega), if_pos h1, if_neg h2]
        obtain ⟨k, rfl⟩ : ∃ x, k = x + 1 := ⟨k - 1, by omega⟩
        rfl
  · refine ⟨((⟨#[]⟩ : ByteArray), 10), fun k hk => ⟨?_, ?_⟩⟩
    · unfold units_Concat.f
      rw [pUnits_eq a ha, if_neg h1]; rfl
    · unfold cameoref01_Concat.f
      rw [Units_eq a ha k (by omega), Units_eq b hb k (by omega), if_neg h1]
      obtain ⟨k, rfl⟩ : ∃ x, k = x + 1 := ⟨k - 1, by omega⟩
      rfl

/-- The law UnitsPieces. -/
theorem pieces (a b : ByteArray) (c d : Int) (ha : a.size ≤ 1099511627776) (hb : b.size ≤ 1099511627776) : ∃ k, cameolaw01_UnitsPieces.f k a b c d = some true := by
  obtain ⟨v1, h1, h1'⟩ := At_eq a c ha
  obtain ⟨v2, h2⟩ := Slice_eq a c d ha
  obtain ⟨v3, h3⟩ := Concat_eq a b ha hb
  refine ⟨60 + 9 * a.size + 9 * b.size, ?_⟩
  obtain ⟨g1, g2⟩ := h2 (60 + 9 * a.size + 9 * b.size) (by omega)
  obtain ⟨g3, g4⟩ := h3 (60 + 9 * a.size + 9 * b.size) (by omega)
  unfold cameolaw01_UnitsPieces.f
  rw [h1, h1' _ (by omega), g1, g2, g3, g4]
  simp
end Go.Proofs.YtiegeggafhmehaaDoor.PR
