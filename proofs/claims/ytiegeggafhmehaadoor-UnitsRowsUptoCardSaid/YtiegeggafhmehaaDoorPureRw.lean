/- Plain: the law UnitsRows. -/
import Derived.Test.YtiegeggafhmehaaDoorPureP
import Derived.Test.YtiegeggafhmehaaDoorUx5
namespace Go.Proofs.YtiegeggafhmehaaDoor.PR
open Go.RowKit Go.Proofs.YtiegeggafhmehaaDoorW.PrintWords Go.Proofs.YtiegeggafhmehaaDoor.U Go.Proofs.YtiegeggafhmehaaDoor.Utf

theorem Rows_l0 (M : List Int) (hM : M.length ≤ 4194304) : ∀ (d i k : Nat) (x : List Int), i + d = x.length → x.length = M.length → d + M.length + 2 < k → cameolaw01_UnitsRows.l0 k x M M (i : Int) = some true
  | 0, i, k, x, h, hx, hk => by
    obtain ⟨k, rfl⟩ : ∃ y, k = y + 1 := ⟨k - 1, by omega⟩
    simp only [cameolaw01_UnitsRows.l0]
    rw [if_neg (by omega), if_pos (by omega), Same_eq M M (by omega) k (by omega), Option.bind_some, if_pos (by simp)]
    congr 1
    rw [beq_iff_eq, w64 (by omega) (by omega), List.length_append, hx]
    simp
  | d + 1, i, k, x, h, hx, hk => by
    obtain ⟨k, rfl⟩ : ∃ y, k = y + 1 := ⟨k - 1, by omega⟩
    simp only [cameolaw01_UnitsRows.l0]
    have e : wrap64 ((i : Int) + 1) = ((i + 1 : Nat) : Int) := by rw [w64 (by omega) (by omega)]; omega
    rw [if_pos (by omega), if_pos (by omega), e]
    exact Rows_l0 M hM d (i + 1) k _ (by rw [List.length_set]; omega) (by rw [List.length_set]; exact hx) (by omega)

theorem rows_j0 (M : List Int) (hM : M.length ≤ 4194304) (k : Nat) (hk : 2 * M.length + 2 < k) : ∀ b, b = false → cameolaw01_UnitsRows.j0 (k + 1) M M M b = some true := by
  intro b hb
  subst hb
  simp only [cameolaw01_UnitsRows.j0]
  rw [if_neg (by decide)]
  exact Rows_l0 M hM M.length 0 k M (by omega) rfl (by omega)
theorem cI_of (l : List Int) (hx : ∀ x ∈ l, 0 ≤ x ∧ x < 65536) : ∃ m : List Nat, l = cI m ∧ m.length = l.length ∧ ∀ x ∈ m, x < 65536 := by
  refine ⟨l.map Int.toNat, ?_, by simp, ?_⟩
  · unfold cI
    rw [List.map_map]
    conv => lhs; rw [← List.map_id l]
    apply List.map_congr_left
    intro x h
    have := hx x h
    simp only [id, Function.comp]
    omega
  · intro x h
    obtain ⟨y, hy, rfl⟩ := List.mem_map.1 h
    have := hx y hy
    omega

/-- The law UnitsRows. -/
theorem rows (l : List Int) (a : ByteArray) (hl : l.length ≤ 1048576) (hx : ∀ x ∈ l, (Lit.int .u16 x).wf = true) (ha : a.size ≤ 1048576) : ∃ k, cameolaw01_UnitsRows.f k l a = some true := by
  have hx' : ∀ x ∈ l, 0 ≤ x ∧ x < 65536 := by
    intro x h
    have := hx x h
    simp [Lit.wf, IntKind.min, IntKind.max, IntKind.bits, IntKind.signed] at this
    omega
  obtain ⟨m, rfl, hm, hm2⟩ := cI_of l hx'
  refine ⟨100 + 9 * a.size + 4 * 1048576 + 1, ?_⟩
  generalize hK : 100 + 9 * a.size + 4 * 1048576 = K
  have hlen : (cI m).length = m.length := cI_length m
  have tk : ((cI m) ++ [7]).take (((cI m).length : Int)).toNat = cI m := by
    rw [Int.toNat_natCast]; exact List.take_left
  unfold cameolaw01_UnitsRows.f
  rw [Option.bind_some, if_pos (by rw [List.length_nil]; omega), Option.bind_some, List.nil_append, if_pos (by omega), Option.bind_some, if_pos (by omega), if_pos (by rw [List.length_append]; omega), tk,
    pOf_eq m (K + 1) (by omega) (by omega) hm2, Option.bind_some, pUnits_eq a (by omega), Option.bind_some, Option.bind_some, Units_eq a (by omega) (K + 1) (by omega), Option.bind_some, Of_eq m (K + 1) (by omega) (by omega) hm2, Option.bind_some]
  rw [if_pos rfl]
  have lenU : ∀ P : List Int × Int, P = (if val (by_ a) = true then (cI (us (pts (by_ a))), 0) else ([], 10)) → P.1.length ≤ 2 * a.size := by
    intro P hP
    by_cases hv : val (by_ a) = true
    · rw [hP, if_pos hv]; show (cI _).length ≤ _; rw [cI_length]; exact us_size a hv
    · rw [hP, if_neg hv]; exact Nat.zero_le _
  generalize hP : (if val (by_ a) = true then (cI (us (pts (by_ a))), (0 : Int)) else ([], 10)) = P
  have lp := lenU P hP.symm
  rw [Same_eq P.1 P.1 (by omega) (K + 1) (by omega), Option.bind_some, if_pos (by simp), Option.bind_some, if_pos (by simp), if_pos rfl, Same_eq (cI m) (cI m) (by omega) (K + 1) (by omega), Option.bind_some, if_pos (by simp), if_pos (by rw [List.length_append]; simp only [List.length_cons, List.length_nil]; omega)]
  have r7 : (rd (cI m ++ [7]) ((cI m).length : Int) != 7) = false := by
    unfold rd
    rw [Int.toNat_natCast]
    simp
  exact rows_j0 P.1 (by omega) K (by omega) _ r7
end Go.Proofs.YtiegeggafhmehaaDoor.PR
