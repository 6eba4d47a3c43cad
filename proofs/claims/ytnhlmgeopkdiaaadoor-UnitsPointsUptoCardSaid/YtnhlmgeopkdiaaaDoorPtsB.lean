/- units.Points' iterator: its contract. -/
import Derived.Test.YtnhlmgeopkdiaaaDoorPtsA
import Derived.Test.YtnhlmgeopkdiaaaDoorUnitsC
import Derived.Deep.RegionHeld
namespace Go.Proofs.YtnhlmgeopkdiaaaDoor
open Go.RowKit Go.Proofs.YtnhlmgeopkdiaaaDoorW.PrintWords
attribute [local go_sem] Oper.semAt_some

/-- The rows that are given for points: each with its place in code units. -/
def pts (k : Nat) : List (Nat × Nat) → List (Nat × Nat)
  | [] => []
  | x :: t => (k, x.2) :: pts (k + (Pt.u16 x.2).length) t
theorem us_cons (x : Nat × Nat) (t : List (Nat × Nat)) : (Pt.us (x :: t)).length = (Pt.u16 x.2).length + (Pt.us t).length := by simp [Pt.us]
theorem pts_snoc (i r : Nat) (t : List (Nat × Nat)) : ∀ k, pts k (t ++ [(i, r)]) = pts k t ++ [(k + (Pt.us t).length, r)] := by
  induction t with
  | nil => intro k; simp [pts, Pt.us]
  | cons x t ih => intro k; simp only [List.cons_append, pts, ih, us_cons, Nat.add_assoc]
theorem pts_append (a b : List (Nat × Nat)) : ∀ k, pts k (a ++ b) = pts k a ++ pts (k + (Pt.us a).length) b := by
  induction a with
  | nil => intro k; simp [pts, Pt.us]
  | cons x t ih => intro k; simp only [List.cons_append, pts, ih, us_cons, Nat.add_assoc]
theorem pts_prefix {a b : List (Nat × Nat)} (h : a <+: b) (k : Nat) : pts k a <+: pts k b := by
  obtain ⟨c, rfl⟩ := h
  rw [pts_append]; exact List.prefix_append _ _
/-- All that Points gives. -/
def ptsAll (s : ByteArray) : List (Nat × Nat) := if (Pt.all s).2 = true then pts 0 (Pt.all s).1 else []

theorem roundIn_wide {n m : Nat} {P : Program} {l : Nat} {f : FuncId} {tmps : Array Value} {assign body : Code} {w : World} {R : Ending → World → Prop} (h : RoundIn Fence.wide n P l f tmps assign body w R) : RoundIn Fence.wide m P l f tmps assign body w R :=
  ⟨h.1, fun c cs _ => h.2 c cs (room_wide _)⟩

def encP (x : Nat × Nat) : Array Value := #[.int .i64 (x.1 : Nat), .int .i32 (x.2 : Nat)]

set_option maxRecDepth 100000 in
set_option maxHeartbeats 1000000 in
/-- The closure that walk calls. -/
theorem step_c (i r k nb yb B l n : Nat) (hr : r ≤ 1114111) (hk : k < 1000000000000000) (hnb : B ≤ nb) (W : World) (hc : W.cell? ⟨nb, 0, none⟩ = some (.int .i64 (k : Nat))) (hz : W.frozen? ⟨nb, 0, none⟩ = false) (hy : W.cell? ⟨yb, 0, none⟩ = some (.func (.yield l) #[] #[])) (hne : nb ≠ yb) (R : Ending → World → Prop)
    (hround : ∀ W', Below B W W' → W'.heap.size = W.heap.size → W'.cell? ⟨nb, 0, none⟩ = some (.int .i64 ((k + (Pt.u16 r).length : Nat))) → W'.frozen? ⟨nb, 0, none⟩ = false → W'.cell? ⟨yb, 0, none⟩ = some (.func (.yield l) #[] #[]) →
      YieldAt Fence.wide n Tryd.prog l (encP (k, r)) W' fun e W'' => (∃ b, e = .returned (.bool b)) ∧ R e W'') :
    Calls Tryd.prog 14 #[.int .i64 (i : Nat), .int .i32 (r : Nat), .pointer (some ⟨nb, 0, none⟩), .pointer (some ⟨yb, 0, none⟩)] W R := by
  refine (callsIn_wide (n := n + 1)).1 ?_
  refine callsIn_of_wp Tryd.func14 rfl trivial ?_ rfl
  simp only [Tryd.ntmps14, List.size_toArray, List.length_cons, List.length_nil, Nat.reduceAdd, Nat.reduceSub, Array.replicate_succ, Array.replicate_zero, List.push_toArray, List.append_toArray, List.nil_append, List.cons_append]
  by_cases hb : (65536 : Int) ≤ (r : Int)
  · have hu : (Pt.u16 r).length = 2 := by unfold Pt.u16; rw [if_pos (by omega)]; rfl
    have b1 : Below B W (W.setCell ⟨nb, 0, none⟩ (.int .i64 ((k : Int) + 1))) := (Below.refl B W).setCell (p := ⟨nb, 0, none⟩) hnb _
    obtain ⟨fn, tmps, assign, body, hy2, hR⟩ := hround ((W.setCell ⟨nb, 0, none⟩ (.int .i64 ((k : Int) + 1))).setCell ⟨nb, 0, none⟩ (.int .i64 ((k : Int) + 1 + 1))) (b1.setCell (p := ⟨nb, 0, none⟩) hnb _) (by simp [World.setCell])
      ((World.cell?_setCell_same _ _ _ (World.cell?_setCell_same _ _ _ hc)).trans (by rw [hu]; congr 2)) (by rw [World.frozen?_setCell, World.frozen?_setCell]; exact hz)
      ((World.cell?_setCell_far _ _ _ _ hne).trans ((World.cell?_setCell_far _ _ _ _ hne).trans hy))
    unfold encP at hy2
    simp only at hy2
    gi_wp2
    refine hR.mono ?_
    rintro e W3 ⟨⟨b, rfl⟩, h3⟩
    gi_wp2
    exact h3
  · have hu : (Pt.u16 r).length = 1 := by unfold Pt.u16; rw [if_neg (by omega)]; rfl
    obtain ⟨fn, tmps, assign, body, hy2, hR⟩ := hround (W.setCell ⟨nb, 0, none⟩ (.int .i64 ((k : Int) + 1))) ((Below.refl B W).setCell (p := ⟨nb, 0, none⟩) hnb _) (by simp [World.setCell])
      ((World.cell?_setCell_same _ _ _ hc).trans (by rw [hu]; congr 2)) (by rw [World.frozen?_setCell]; exact hz)
      ((World.cell?_setCell_far _ _ _ _ hne).trans hy)
    unfold encP at hy2
    simp only at hy2
    gi_wp2
    refine hR.mono ?_
    rintro e W3 ⟨⟨b, rfl⟩, h3⟩
    gi_wp2
    exact h3
end Go.Proofs.YtnhlmgeopkdiaaaDoor
