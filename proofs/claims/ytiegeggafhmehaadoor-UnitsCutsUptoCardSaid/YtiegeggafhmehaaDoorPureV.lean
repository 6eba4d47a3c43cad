/- Plain: the law UnitsCuts. -/
import Derived.Test.YtiegeggafhmehaaDoorPureAw
import Derived.Test.YtiegeggafhmehaaDoorUx9
namespace Go.Proofs.YtiegeggafhmehaaDoor.PR
open Go.RowKit Go.Proofs.YtiegeggafhmehaaDoorW.PrintWords Go.Proofs.YtiegeggafhmehaaDoor.U Go.Proofs.YtiegeggafhmehaaDoor.Utf

/-! ### a cut -/
theorem idx_cut (s : ByteArray) (hs : s.size ≤ 1048576) (hv : val (by_ s) = true) (c : Nat) (hc : c ≤ (us (pts (by_ s))).length) (k : Nat) (hk : 60 + 9 * s.size ≤ k) :
    units_Index.f k s (ofS ((us (pts (by_ s))).drop c)) (c : Int) = some ((c : Int), 0) := by
  have u := us_size s hv
  have hx := units_lt s hv
  have hx2 : ∀ x ∈ (us (pts (by_ s))).drop c, x < 65536 := fun x h => hx x (List.mem_of_mem_drop h)
  obtain ⟨r1, r2⟩ := round _ hx2
  have z := ofS_size _ hx2
  have hd : ((us (pts (by_ s))).drop c).length = (us (pts (by_ s))).length - c := List.length_drop
  unfold units_Index.f
  rw [pUnits_eq s (by omega), pUnits_eq _ (by omega), if_pos hv, if_pos r1, r2, Option.bind_some, Option.bind_some]
  dsimp only
  rw [if_pos rfl, if_pos rfl]
  have m : mx 0 (c : Int) = (c : Int) := by unfold mx; split <;> omega
  rw [m, pIdx_l0 _ _ (by rw [cI_length]; omega) (by rw [cI_length]; omega) 1 c k (fun h => by omega) (fun _ => by rw [cI_length, cI_length]; omega) (by rw [cI_length]; omega)]
  simp only [idxL]
  rw [if_pos]
  unfold cI
  rw [← List.map_drop]
  exact List.take_of_length_le (by simp)

theorem w64u (n : Int) : IntKind.u64.wrap n = n % 18446744073709551616 := by simp [IntKind.wrap, IntKind.bits, IntKind.signed]
theorem cut_at (x : Int) (n : Nat) (hn : n ≤ 3000) : ∃ c : Nat, c ≤ n ∧ wrap64 (Int.tmod (IntKind.u64.wrap x) (IntKind.u64.wrap (wrap64 ((n : Int) + 1)))) = (c : Int) := by
  have e : IntKind.u64.wrap (wrap64 ((n : Int) + 1)) = ((n + 1 : Nat) : Int) := by
    rw [w64 (by omega) (by omega), w64u]; omega
  obtain ⟨y, hy⟩ : ∃ y : Nat, IntKind.u64.wrap x = (y : Int) := ⟨(IntKind.u64.wrap x).toNat, by rw [w64u]; omega⟩
  rw [e, hy, tm]
  have := Nat.mod_lt y (show n + 1 > 0 by omega)
  exact ⟨y % (n + 1), by omega, w64 (by omega) (by omega)⟩

theorem At_val (s : ByteArray) (hs : s.size ≤ 1099511627776) (hv : val (by_ s) = true) (i : Nat) (hi : i < (us (pts (by_ s))).length) : units_At.f s (i : Int) = some (rd (cI (us (pts (by_ s)))) (i : Int), 0) := by
  unfold units_At.f
  rw [pUnits_eq s hs, if_pos hv, Option.bind_some]
  dsimp only
  rw [if_pos rfl, if_neg (by omega), if_neg (by rw [cI_length]; omega), if_pos (by omega), if_pos (by rw [cI_length]; omega)]

theorem Cuts_l0 (s r : ByteArray) (hs : s.size ≤ 1048576) (hv : val (by_ s) = true) (c : Nat) (hc : c ≤ (us (pts (by_ s))).length) (hr : r = ofS ((us (pts (by_ s))).drop c)) : ∀ (d i k : Nat), i + d = (us (pts (by_ s))).length → 62 + 9 * s.size + d ≤ k →
    cameolaw01_UnitsCuts.l0 k s ((us (pts (by_ s))).length : Int) (c : Int) r (cI (us (pts (by_ s)))) (i : Int) = some true
  | 0, i, k, h, hk => by
    obtain ⟨k, rfl⟩ : ∃ x, k = x + 1 := ⟨k - 1, by omega⟩
    simp only [cameolaw01_UnitsCuts.l0]
    rw [if_neg (by omega), hr, idx_cut s hs hv c hc k (by omega), Option.bind_some]
    simp
  | d + 1, i, k, h, hk => by
    obtain ⟨k, rfl⟩ : ∃ x, k = x + 1 := ⟨k - 1, by omega⟩
    have u := us_size s hv
    simp only [cameolaw01_UnitsCuts.l0]
    rw [if_pos (by omega), At_val s (by omega) hv i (by omega), Option.bind_some]
    dsimp only
    have e : wrap64 ((i : Int) + 1) = ((i + 1 : Nat) : Int) := by rw [w64 (by omega) (by omega)]; omega
    rw [if_pos rfl, if_pos (by omega), if_pos (by rw [cI_length]; omega), if_pos rfl, e]
    exact Cuts_l0 s r hs hv c hc hr d (i + 1) k (by omega) (by omega)

theorem cuts_main (s : ByteArray) (x : Int) (hs : s.size ≤ 1048576) (hv : val (by_ s) = true) (hn : (us (pts (by_ s))).length ≤ 3000) (k : Nat) (hk : 400 + 9 * s.size + 500000 ≤ k) :
    cameolaw01_UnitsCuts.j0 (k + 2) s x ((us (pts (by_ s))).length : Int) 0 false = some true := by
  obtain ⟨c, hc, ec⟩ := cut_at x (us (pts (by_ s))).length hn
  have nz : ¬ IntKind.u64.wrap (wrap64 (((us (pts (by_ s))).length : Int) + 1)) = 0 := by
    rw [w64 (by omega) (by omega), w64u]; omega
  have hx := units_lt s hv
  have hx1 : ∀ y ∈ (us (pts (by_ s))).take c, y < 65536 := fun y h => hx y (List.mem_of_mem_take h)
  have hx2 : ∀ y ∈ (us (pts (by_ s))).drop c, y < 65536 := fun y h => hx y (List.mem_of_mem_drop h)
  obtain ⟨a1, a2⟩ := round _ hx1
  obtain ⟨b1, b2⟩ := round _ hx2
  have z1 := ofS_size _ hx1
  have z2 := ofS_size _ hx2
  have l1 : ((us (pts (by_ s))).take c).length = c := by rw [List.length_take]; omega
  have l2 : ((us (pts (by_ s))).drop c).length = (us (pts (by_ s))).length - c := List.length_drop
  have s1 := (slice_val s 0 c (by omega) hv (by omega) (by omega) (by omega) (k + 1) (by omega)).1
  have s2 := (slice_val s c (us (pts (by_ s))).length (by omega) hv (by omega) (by omega) (by omega) (k + 1) (by omega)).1
  simp only [Int.toNat_natCast, Int.toNat_zero, List.drop_zero, List.take_length] at s1 s2
  have s3 := (concat_val (ofS ((us (pts (by_ s))).take c)) (ofS ((us (pts (by_ s))).drop c)) (by omega) (by omega) a1 b1 (k + 1) (by omega)).1
  rw [a2, b2, List.take_append_drop, ofS_us s hv, if_neg (by omega)] at s3
  have s4 := Len_eq _ (by omega) a1
  have s5 := Len_eq _ (by omega) b1
  rw [a2, l1] at s4
  rw [b2, l2] at s5
  have key : ∀ b, b = false → cameolaw01_UnitsCuts.j1 (k + 1) s ((us (pts (by_ s))).length : Int) (c : Int) (ofS ((us (pts (by_ s))).drop c)) b = some true := by
    intro b hb
    subst hb
    simp only [cameolaw01_UnitsCuts.j1]
    rw [if_neg (by decide), pUnits_eq s (by omega), if_pos hv, Option.bind_some]
    dsimp only
    rw [if_pos (by rw [cI_length])]
    exact Cuts_l0 s _ (by omega) hv c hc rfl (us (pts (by_ s))).length 0 k (by omega) (by omega)
  simp only [cameolaw01_UnitsCuts.j0]
  rw [if_neg (by decide), if_neg nz, ec, s1, Option.bind_some, s2, Option.bind_some]
  dsimp only
  rw [s3, Option.bind_some, s4, Option.bind_some, s5, Option.bind_some]
  dsimp only
  rw [if_pos rfl, if_pos rfl, if_pos rfl, if_pos rfl, if_pos rfl, if_pos rfl, if_pos rfl]
  apply key
  rw [w64 (by omega) (by omega)]
  exact bne_eq_false_iff_eq.mpr (by omega)

/-- The law UnitsCuts. -/
theorem cuts (a : ByteArray) (x : Int) (ha : a.size ≤ 1099511627776) : ∃ k, cameolaw01_UnitsCuts.f k a x = some true := by
  refine ⟨400 + 9 * a.size + 500000 + 2, ?_⟩
  generalize hK : 400 + 9 * a.size + 500000 = K
  unfold cameolaw01_UnitsCuts.f
  rw [awake _ (by omega), Option.bind_some, if_pos rfl]
  by_cases hv : val (by_ a) = true
  · rw [Len_eq a ha hv, Option.bind_some]
    dsimp only
    rw [if_pos rfl]
    by_cases h1 : (a.size : Int) > 1048576
    · rw [if_pos h1]; rfl
    · rw [if_neg h1]
      by_cases h2 : (((us (pts (by_ a))).length : Nat) : Int) > 3000
      · rw [decide_eq_true h2]; rfl
      · rw [decide_eq_false h2]
        exact cuts_main a x (by omega) hv (by omega) K (by omega)
  · have e : units_Len.f a = some (0, 10) := by
      unfold units_Len.f
      rw [pUnits_eq a ha, if_neg hv]; rfl
    rw [e, Option.bind_some]
    dsimp only
    rw [if_neg (by decide)]
    simp only [cameolaw01_UnitsCuts.j0]
    rw [if_pos trivial, if_neg (by decide), pValid_eq a (by omega)]
    simp [hv]
end Go.Proofs.YtiegeggafhmehaaDoor.PR
