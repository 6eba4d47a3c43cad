/- Plain: the reference's rows of a string's points are what the program's Points gives. -/
import Derived.Test.YtnhlmgeopkdiaaaDoorPureOv
import Derived.Test.YtnhlmgeopkdiaaaDoorPtsC
namespace Go.Proofs.YtnhlmgeopkdiaaaDoor.PR
open Go.RowKit Go.Proofs.YtnhlmgeopkdiaaaDoorW.PrintWords Go.Proofs.YtnhlmgeopkdiaaaDoor.U Go.Proofs.YtnhlmgeopkdiaaaDoor.Utf

/-- Points, each with its place in units. -/
def posr : Nat → List Nat → List S31
  | _, [] => []
  | i, c :: t => ⟨(i : Int), (c : Int)⟩ :: posr (i + (u16 c).length) t

theorem rowS_cons (c : Nat) (hc : c ≤ 1114111) (t : List Nat) (i : Nat) (h : 65536 ≤ c ∨ hi c = false ∨ ∀ b t', t = b :: t' → lo b = false) : rowS i (u16 c ++ t) = ⟨(i : Int), (c : Int)⟩ :: rowS (i + (u16 c).length) t := by
  unfold u16
  by_cases hbig : 65536 ≤ c
  · rw [if_pos hbig]
    simp only [List.cons_append, List.nil_append, rowS]
    have h1 : hi (55296 + (c - 65536) / 1024) = true := by simp [hi]; omega
    have h2 : lo (56320 + (c - 65536) % 1024) = true := by simp [lo]; omega
    rw [h1, h2]
    simp; omega
  · rw [if_neg hbig]
    simp only [List.cons_append, List.nil_append]
    match t, h with
    | [], _ => simp [rowS]
    | b :: t', h =>
      have : (hi c && lo b) = false := by
        rcases h with h | h | h
        · omega
        · rw [h]; rfl
        · rw [h b t' rfl]; simp
      simp only [rowS, this]
      simp

theorem rowS_us : ∀ (cs : List Nat) (last i : Nat), Gd last cs → rowS i (us cs) = posr i cs
  | [], _, _, _ => rfl
  | c :: cs, last, i, hg => by
    obtain ⟨g1, g2, g3⟩ := hg
    have e : us (c :: cs) = u16 c ++ us cs := by simp [us]
    rw [e, rowS_cons c g1]
    · rw [rowS_us cs c _ g3]; rfl
    · cases hc : hi c
      · exact .inr (.inl rfl)
      · exact .inr (.inr (us_head cs c g3 hc))

theorem posr_pts : ∀ (l : List (Nat × Nat)) (i : Nat), posr i (l.map (·.2)) = (Go.Proofs.YtnhlmgeopkdiaaaDoor.pts i l).map fun x => (⟨(x.1 : Int), (x.2 : Int)⟩ : S31)
  | [], _ => rfl
  | x :: t, i => by
    simp only [List.map_cons, posr, Go.Proofs.YtnhlmgeopkdiaaaDoor.pts, posr_pts t]
    rw [pu16, cI_length]

/-- A row of the reference's, for a point that is given. -/
def rowOf (x : Nat × Nat) : S31 := ⟨(x.1 : Int), (x.2 : Int)⟩

/-- What the reference says of bytes, beside what Points gives. -/
theorem ref_rows (s : ByteArray) (hs : s.size ≤ 1099511627776) : ∃ k, (∃ l, cameoref01_Units.f k s = some (l, 0) ∧ cameoref01_Row.f k l = some ((ptsAll s).map rowOf)) ∨ (cameoref01_Units.f k s = some ([], 10) ∧ ptsAll s = []) := by
  obtain ⟨K, hK⟩ : ∃ K, K = 40 + 9 * s.size := ⟨_, rfl⟩
  refine ⟨K, ?_⟩
  have hU := Units_eq s hs K (by omega)
  cases hv : val (by_ s)
  · right
    rw [hv] at hU
    refine ⟨by simpa using hU, ?_⟩
    unfold ptsAll
    rw [all_val, hv]; rfl
  · left
    rw [hv, if_pos rfl] at hU
    obtain ⟨h1, h2⟩ := val_true s hv
    have hl : (pts (by_ s)).length ≤ s.size := by have := pts_len (pts (by_ s)); rw [← h1, by_length] at this; exact this
    have hu := us_le (pts (by_ s))
    have hlt := us_lt _ (good_le _ _ h2)
    refine ⟨_, hU, ?_⟩
    rw [Row_eq _ K (by omega) (by omega) hlt, rowS_us _ 0 0 h2, ← all_pts, posr_pts]
    unfold ptsAll
    rw [all_val, hv]; rfl
end Go.Proofs.YtnhlmgeopkdiaaaDoor.PR
