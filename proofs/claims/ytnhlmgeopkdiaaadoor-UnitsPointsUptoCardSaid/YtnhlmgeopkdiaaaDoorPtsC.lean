/- units.Points: its iterator's contract, and the call's own. -/
import Derived.Test.YtnhlmgeopkdiaaaDoorPtsB
namespace Go.Proofs.YtnhlmgeopkdiaaaDoor
open Go.RowKit Go.Proofs.YtnhlmgeopkdiaaaDoorW.PrintWords
attribute [local go_sem] Oper.semAt_some

theorem pc_lt {W : World} {b o : Nat} {v : Value} (h : W.cell? ⟨b, o, none⟩ = some v) : b < W.heap.size := by
  rcases Nat.lt_or_ge b W.heap.size with h1 | h1
  · exact h1
  · exfalso
    have e : W.heap[b]? = none := by simp [h1]
    unfold World.cell? at h
    simp [e] at h

set_option maxHeartbeats 1000000 in
/-- walk, with the closure that counts. -/
theorem pwalk_c (s : ByteArray) (hs : s.size ≤ 140737488351232) (w0 : World) (HT : Tabs w0) (l n nb yb : Nat) (hnb : l + 1 ≤ nb) (hyb : l + 1 ≤ yb) (hne : nb ≠ yb) (J Jx : List (Nat × Nat) → World → Prop)
    (hJ : Abd (l + 1) J) (hw : ∀ pre W, J pre W → Below w0.heap.size w0 W) (hok : (Pt.all s).2 = true)
    (hround : ∀ pre x W, J pre W → pre ++ [x] <+: ptsAll s → YieldAt Fence.wide n Tryd.prog l (encP x) W fun e W' =>
      (e = .returned (.bool true) ∧ J (pre ++ [x]) W' ∧ KpC (l + 1) W W') ∨ (e = .returned (.bool false) ∧ Jx (pre ++ [x]) W'))
    (W : World) (hl : l + 1 ≤ W.heap.size) (h0 : J [] W) (hc : W.cell? ⟨nb, 0, none⟩ = some (.int .i64 0)) (hz : W.frozen? ⟨nb, 0, none⟩ = false) (hy : W.cell? ⟨yb, 0, none⟩ = some (.func (.yield l) #[] #[])) :
    Calls Tryd.prog 13 #[.string s, .func (.func 14) #[] #[.pointer (some ⟨nb, 0, none⟩), .pointer (some ⟨yb, 0, none⟩)]] W fun e W' =>
      (∃ v, e = .returned (.bool v)) ∧ (J (ptsAll s) W' ∨ (∃ pre, pre <+: ptsAll s ∧ Jx pre W')) := by
  have hall : ptsAll s = pts 0 (Pt.all s).1 := by unfold ptsAll; rw [if_pos hok]
  refine (walk_c s hs 14 #[.pointer (some ⟨nb, 0, none⟩), .pointer (some ⟨yb, 0, none⟩)] w0 HT
    (fun pre W => J (pts 0 pre) W ∧ W.cell? ⟨nb, 0, none⟩ = some (.int .i64 ((Pt.us pre).length : Nat)) ∧ W.frozen? ⟨nb, 0, none⟩ = false ∧ W.cell? ⟨yb, 0, none⟩ = some (.func (.yield l) #[] #[]) ∧ l + 1 ≤ W.heap.size)
    (fun pre W => Jx (pts 0 pre) W)
    (enters_of Tryd.func14 (by kernel_rfl) rfl) ?hJ ?hB ?hG W ?h0).mono ?_
  case hJ =>
    rintro pre A B ⟨h1, h2, h3, h4, h5⟩ hb
    exact ⟨hJ _ _ _ h1 (hb.mono h5), (hb.cell (p := ⟨nb, 0, none⟩) (pc_lt h2)).trans h2, (hb.frozen (p := ⟨nb, 0, none⟩) (pc_lt h2)).trans h3, (hb.cell (p := ⟨yb, 0, none⟩) (pc_lt h4)).trans h4, Nat.le_trans h5 hb.size⟩
  case hB => exact fun pre A h => hw _ _ h.1
  case hG =>
    rintro pre i r A ⟨h1, h2, h3, h4, h5⟩ hp
    have hr := Pt.all_rune s pre i r hp
    have hk := Pt.us_len s pre (i, r) hp
    have hpre : pts 0 pre ++ [((Pt.us pre).length, r)] <+: ptsAll s := by
      rw [hall]
      have := pts_prefix hp 0
      rw [pts_snoc] at this
      simpa using this
    refine step_c i r (Pt.us pre).length nb yb (l + 1) l n hr (by omega) hnb A h2 h3 h4 hne _ ?_
    intro A' hb hsz c2 c3 c4
    refine (hround (pts 0 pre) ((Pt.us pre).length, r) A' (hJ _ _ _ h1 hb) hpre).mono ?_
    have e1 : pts 0 pre ++ [((Pt.us pre).length, r)] = pts 0 (pre ++ [(i, r)]) := by rw [pts_snoc]; simp
    rintro e A2 (⟨rfl, hj, hk2⟩ | ⟨rfl, hx⟩)
    · refine ⟨⟨_, rfl⟩, .inl ⟨rfl, ?_, ?_, ?_, ?_, ?_⟩⟩
      · rw [e1] at hj; exact hj
      · have := hk2.same nb hnb (pc_lt c2)
        have e := World.cell?_of_block (a := ⟨nb, 0, none⟩) this
        rw [e, c2, Pt.us_snoc]; simp
      · have := hk2.same nb hnb (pc_lt c2)
        exact (World.frozen?_of_block (a := ⟨nb, 0, none⟩) this).trans c3
      · have := hk2.same yb hyb (pc_lt c4)
        exact (World.cell?_of_block (a := ⟨yb, 0, none⟩) this).trans c4
      · have := hk2.size; omega
    · refine ⟨⟨_, rfl⟩, .inr ⟨rfl, ?_⟩⟩
      rw [e1] at hx; exact hx
  case h0 => exact ⟨h0, by simpa [Pt.us] using hc, hz, hy, hl⟩
  rintro e w' (⟨rfl, h⟩ | ⟨pre, rfl, hp, hx⟩)
  · exact ⟨⟨_, rfl⟩, .inl (hall ▸ h.1)⟩
  · exact ⟨⟨_, rfl⟩, .inr ⟨pts 0 pre, by rw [hall]; exact pts_prefix hp 0, hx⟩⟩

set_option maxRecDepth 100000 in
set_option maxHeartbeats 2000000 in
/-- Points' iterator: what it owes. -/
theorem points_iter (s : ByteArray) (hs : s.size ≤ 140737488351232) (sb : Nat) (w0 w : World) (HT : Tabs w0) (hc0 : w.cell? ⟨sb, 0, none⟩ = some (.string s)) (l n : Nat) :
    IterC Fence.wide n Tryd.prog 11 #[.pointer (some ⟨sb, 0, none⟩)] encP (ptsAll s) w0 w l := by
  intro J Jx W1 hB hsz hJ hJx hw hround h0
  have hc1 := (hB.cell (p := ⟨sb, 0, none⟩) (pc_lt hc0)).trans hc0
  have hround1 : ∀ pre x W, J pre W → pre ++ [x] <+: ptsAll s → YieldAt Fence.wide n Tryd.prog l (encP x) W fun e W' =>
      (e = .returned (.bool true) ∧ J (pre ++ [x]) W' ∧ KpC (l + 1) W W') ∨ (e = .returned (.bool false) ∧ Jx (pre ++ [x]) W') := by
    intro pre x W hj hp
    obtain ⟨fn, tmps, assign, body, hy, hR⟩ := hround pre x W hj hp
    exact ⟨fn, tmps, assign, body, hy, roundIn_wide hR⟩
  clear hround
  have hV := fun (W : World) (h : Below (l + 1) W1 W) => Fact.mk (units_Valid.calls s _ W ⟨HT.below (hw _ _ (hJ _ _ _ h0 h))⟩ (by unfold units_Valid.f; rw [if_pos hs]))
  have hlt1 := pc_lt hc1
  refine (callsIn_wide (n := n)).2 ?_
  have hb1 := (Below.refl (l + 1) W1).alloc (by omega) (.cells #[.func (.yield l) #[] #[]] 38)
  have hyb := (Boxed.new W1 38 (.func (.yield l) #[] #[])).cell
  have hc3 := hb1.cell (p := ⟨sb, 0, none⟩) (by simpa [hsz] using hlt1)
  rw [hc1] at hc3
  have hsz1 : (W1.alloc (.cells #[.func (.yield l) #[] #[]] 38)).heap.size = l + 2 := by simp [hsz]
  cases hok : (Pt.all s).2
  · rw [hok] at hV
    have hall : ptsAll s = [] := by unfold ptsAll; rw [hok]; rfl
    rw [hall]
    clear hround1 hok
    go_enter Tryd.func11, Tryd.ntmps11
    go_wp2_with (go_at_call 12; refine (hV _ hb1).out.mono ?_; rintro e w1 ⟨rfl, hb⟩)
    refine bodyPost_ret (results_none rfl _ _ _) rfl ?_
    exact ⟨⟨_, rfl⟩, .inl (hJ _ _ _ (hJ _ _ _ h0 hb1) (hb.mono (by omega)))⟩
  · rw [hok] at hV
    have hwk := fun (W : World) nb hnb hne h1 h2 h3 h4 h5 => Fact.mk (pwalk_c s hs w0 HT l n nb (l + 1) hnb (by omega) hne J Jx hJ hw hok hround1 W h1 h2 h3 h4 h5)
    clear hround1 hok
    rw [hsz] at hyb
    go_enter Tryd.func11, Tryd.ntmps11
    go_wp2_with (first
      | (go_at_call 12; refine (hV _ hb1).out.mono ?_; rintro e w1 ⟨rfl, hb⟩; have hsz2 := hb.size; have hc4 := (((Below.refl _ w1).alloc (Nat.le_refl _) (.cells #[.int .i64 0] 3)).cell (p := ⟨sb, 0, none⟩) (by simp; omega)).trans ((hb.cell (p := ⟨sb, 0, none⟩) (by simp; omega)).trans hc3); have hj1 := hJ _ _ _ (hJ _ _ _ h0 hb1) (hb.mono (by omega)); have hy4 := (((Below.refl _ w1).alloc (Nat.le_refl _) (.cells #[.int .i64 0] 3)).cell (p := ⟨l + 1, 0, none⟩) (by simp; omega)).trans ((hb.cell (p := ⟨l + 1, 0, none⟩) (by simp; omega)).trans hyb))
      | (go_at_call 13; refine (hwk _ w1.heap.size (by omega) (by omega) (by simp; omega) (hJ _ _ _ hj1 ((Below.refl _ w1).alloc (by omega) _)) (Boxed.new w1 3 (.int .i64 0)).cell (Boxed.new w1 3 (.int .i64 0)).frozen hy4).out.mono ?_; rintro e w2 ⟨⟨v, rfl⟩, hfin⟩))
    go_end0
    exact ⟨⟨_, rfl⟩, hfin⟩

/-- Points itself: the closure over the box of its argument. -/
theorem points_c (s : ByteArray) (w : World) :
    Calls Tryd.prog 6 #[.string s] w fun e w' => e = .returned (.func (.func 11) #[] #[.pointer (some ⟨w.heap.size, 0, none⟩)]) ∧ w' = w.alloc (.cells #[.string s] 9) := by
  go_enter Tryd.func6, Tryd.ntmps6
  go_wp2
  go_ret
  exact ⟨rfl, rfl⟩
end Go.Proofs.YtnhlmgeopkdiaaaDoor
