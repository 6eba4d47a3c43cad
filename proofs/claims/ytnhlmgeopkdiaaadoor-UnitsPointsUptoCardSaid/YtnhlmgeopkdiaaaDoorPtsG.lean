/- The law UnitsPoints, walked: the whole. -/
import Derived.Test.YtnhlmgeopkdiaaaDoorPtsF
namespace Go.Proofs.YtnhlmgeopkdiaaaDoor
open Go.RowKit Go.Proofs.YtnhlmgeopkdiaaaDoorW.PrintWords Go.Proofs.YtnhlmgeopkdiaaaDoor.U Go.Proofs.YtnhlmgeopkdiaaaDoor.PR
attribute [local go_sem] Oper.semAt_some run_store_fn eq_fn28

theorem lp_make (w w3 : World) (b4 b5 b6 b7 B1 N : Nat) (s : ByteArray) (stop inner : Int) (v : Value) (h4 : Boxed w3 b4 3 (.int .i64 stop)) (h5 : Boxed w3 b5 3 (.int .i64 inner)) (h6 : Boxed w3 b6 4 (.bool false)) (h7 : Boxed w3 b7 22 v)
    (hR : Kd.R k31 31 w3 B1 (fun k => k < N) v ((ptsAll s).map rowOf)) (hN : N ≤ w3.heap.size) (hb : Below w.heap.size w w3) (W : World)
    (hW : W = ((w3.alloc (.cells #[.string s] 9)).alloc (.cells #[.func (.func 11) #[] #[.pointer (some ⟨w3.heap.size, 0, none⟩)]] 28)).alloc (.cells #[.int .i64 0] 3)) :
    Lp w b4 b5 b6 b7 (w3.heap.size + 1) w3.heap.size B1 N s stop inner v W ∧ Boxed W (w3.heap.size + 1 + 1) 3 (.int .i64 0) := by
  subst hW
  have hs := Boxed.new w3 9 (.string s)
  have hf := Boxed.new (w3.alloc (.cells #[.string s] 9)) 28 (.func (.func 11) #[] #[.pointer (some ⟨w3.heap.size, 0, none⟩)])
  have hi := Boxed.new ((w3.alloc (.cells #[.string s] 9)).alloc (.cells #[.func (.func 11) #[] #[.pointer (some ⟨w3.heap.size, 0, none⟩)]] 28)) 3 (.int .i64 0)
  simp only [World.size_alloc] at hf hi
  have hB : Below w3.heap.size w3 (((w3.alloc (.cells #[.string s] 9)).alloc (.cells #[.func (.func 11) #[] #[.pointer (some ⟨w3.heap.size, 0, none⟩)]] 28)).alloc (.cells #[.int .i64 0] 3)) :=
    (((Below.refl _ w3).alloc (Nat.le_refl _) _).alloc (by simp) _).alloc (by simp; omega) _
  exact ⟨⟨bx_below h4 hB, bx_below h5 hB, bx_below h6 hB, bx_below h7 hB, hf.alloc _, (hs.alloc _).alloc _, Kd.R_step hR (fun k _ hl => hB.block k hl), Nat.le_trans hN hB.size, hb.trans (hB.mono hb.size)⟩, hi⟩

theorem bx_far {W : World} {B x t : Nat} {v u : Value} (h : Boxed W B t v) (hx : B ≠ x) : Boxed (W.setCell ⟨x, 0, none⟩ u) B t v := (Below.heap_setCell _ _ _ _ hx).trans h

set_option maxRecDepth 100000 in
set_option maxHeartbeats 2000000 in
/-- What is left to do behind the loop. -/
theorem end_c (w : World) (b4 b5 b6 b7 b10 b11 sb B1 N : Nat) (s : ByteArray) (stop inner : Int) (v : Value) (t : Nat → Value) (ds : List Deferred) (W : World) (hL : Lp w b4 b5 b6 b7 b10 sb B1 N s stop inner v W) (hm : Marks w.heap.size ds W) (h6 : w.heap.size ≤ b6) :
    LeavesInM Fence.wide 20 Tryd.prog Tryd.f3 (LPa b4 b5 b6 b7 b10 b11 t) (fun e w' => e = .returned (.bool true) ∧ Below w.heap.size w w') ds .returning (W.setCell ⟨b6, 0, none⟩ (.bool true)) := by
  have hb6 := hL.c6
  refine leaves_marks (B := w.heap.size) ds _ (hm.keep ?_) ?_
  · rintro k ⟨d, hd, he⟩
    obtain ⟨D, e, ho⟩ := hm.obj d hd
    rw [he] at e
    injection e with e
    subst e
    refine Below.heap_setCell _ _ _ _ (fun e => ?_)
    simp only at e
    subst e
    have : W.heap[k]? = _ := hb6
    rw [ho] at this
    cases this
  · intro W' hb hc
    refine ⟨.bool true, ?_, rfl, (hL.hb.setCell (p := ⟨b6, 0, none⟩) h6 _).trans hb⟩
    have hc6 := hc ⟨b6, 0, none⟩ _ (hb6.set (.bool true)).cell
    simp [results, Tryd.f3, LPa, go_sem, hc6]

set_option maxRecDepth 100000 in
set_option maxHeartbeats 4000000 in
/-- The law UnitsPoints, at every string. -/
theorem law_points (s : ByteArray) (stop inner : Int) (hs : s.size ≤ 1099511627776) (w : World) (HT : Tabs w) :
    Calls Tryd.prog 3 #[.string s, .int .i64 stop, .int .i64 inner] w fun e w' => e = .returned (.bool true) ∧ Below w.heap.size w w' := by
  obtain ⟨k, hk⟩ := ref_rows s hs
  refine (callsIn_wide (n := 20)).1 ?_
  refine callsIn_of_wp_marks Tryd.func3 rfl trivial ?_ rfl
  simp only [Tryd.ntmps3, List.size_toArray, List.length_cons, List.length_nil, Nat.reduceAdd, Nat.reduceSub, Array.replicate_succ, Array.replicate_zero, List.push_toArray, List.append_toArray, List.nil_append, List.cons_append]
  have HB4 := fun W hW => Fact.mk (boxes4 w 3 3 4 22 (.int .i64 stop) (.int .i64 inner) (.bool false) (.slice none 0 0) W hW)
  rcases hk with ⟨l, hU, hW⟩ | ⟨hU, hnil⟩
  · gi_wp2_with (first
      | (refine ⟨trivial, ?_⟩; gi_at_call 4; obtain ⟨b4, b5, b6, b7, hb0, hz0⟩ := (HB4 _ rfl).out; refine (callsIn_wide.2 (cameoref01_Units.calls k s _ _ _ hU)).mono ?_; rintro e w1 ⟨v0, rfl, hR0, hb1⟩; obtain ⟨A0, c0, rfl⟩ := Kd.R_slice hR0; have hr0 := Kd.R_reads' hR0; replace b4 := bx_below b4 hb1; replace b5 := bx_below b5 hb1; replace b6 := bx_below b6 hb1; replace b7 := bx_below b7 hb1; rw [hz0] at hb1 hR0; have hb01 := hb0.trans (hb1.mono (by omega)); have hz1 := hb1.size; rw [hz0] at hz1; clear hR0 hb0 hb1 HB4 hz0)
      | (refine ⟨trivial, ?_⟩; gi_at_call 5; refine (callsIn_wide.2 (cameoref01_Row.calls k A0 c0 l _ w1 hr0.2.2 hr0.2.1 hW)).mono ?_; rintro e w2 ⟨v, rfl, hR1, hb2⟩; obtain ⟨A1, c1, rfl⟩ := Kd.R_slice hR1; replace b4 := bx_below b4 hb2; replace b5 := bx_below b5 hb2; replace b6 := bx_below b6 hb2; replace b7 := bx_below b7 hb2; have hb02 := hb01.trans (hb2.mono hb01.size); have hz2 := hb2.size; have c7 := b7.cell; have f7 := b7.frozen; clear hr0 hb2 hb01)
      | (refine ⟨trivial, ?_⟩; gi_at_call 6; refine (callsIn_wide.2 (points_c s _)).mono ?_; rintro e w3 ⟨rfl, rfl⟩))
    rw [List.length_map] at hR1
    have h7 := b7.set (.slice A1 (ptsAll s).length c1)
    have hb3 := hb02.setCell (p := ⟨w.heap.size + 3, 0, none⟩) (by simp) (.slice A1 (ptsAll s).length c1)
    have hsz3 : (w2.setCell ⟨w.heap.size + 3, 0, none⟩ (.slice A1 (ptsAll s).length c1)).heap.size = w2.heap.size := by simp [World.setCell]
    have hR3 := Kd.R_step (w1 := w2.setCell ⟨w.heap.size + 3, 0, none⟩ (.slice A1 (ptsAll s).length c1)) (Kd.R_bound hR1) (fun k ok hl => Below.heap_setCell _ _ _ _ (by have := ok.2.1; simp; omega))
    obtain ⟨L, h11⟩ := lp_make w (w2.setCell ⟨w.heap.size + 3, 0, none⟩ (.slice A1 (ptsAll s).length c1)) w.heap.size (w.heap.size + 1) (w.heap.size + 2) (w.heap.size + 3) w1.heap.size w2.heap.size s stop inner _
      (bx_far b4 (by omega)) (bx_far b5 (by omega)) (bx_far b6 (by omega)) h7 (Kd.R_mono hR3 (fun k ok => ok.2.2.1)) (by rw [hsz3]; exact Nat.le_refl _) hb3 _ rfl
    rw [hsz3] at L h11
    refine loop_c w w.heap.size (w.heap.size + 1) (w.heap.size + 2) (w.heap.size + 3) (w2.heap.size + 1) (w2.heap.size + 1 + 1) w2.heap.size w1.heap.size w2.heap.size s hs stop inner _ HT _ _ ?ha ?hd L h11 _ ?hQ
    case ha => rfl
    case hd => rfl
    rintro ⟨tm, ds⟩ t' b11' W' h1 hL hm
    simp only at h1 hm
    subst h1
    have k6 := hL.c6.cell
    have z6 := hL.c6.frozen
    have hend := Fact.mk (fun t => end_c w w.heap.size (w.heap.size + 1) (w.heap.size + 2) (w.heap.size + 3) (w2.heap.size + 1) b11' w2.heap.size w1.heap.size w2.heap.size s stop inner _ t ds W' hL hm (by omega))
    simp only [LPa]
    gi_wp2
    exact hend.out t'
  · have hnil2 : (ptsAll s).map rowOf = [] := by rw [hnil]; rfl
    gi_wp2_with (first
      | (refine ⟨trivial, ?_⟩; gi_at_call 4; obtain ⟨b4, b5, b6, b7, hb0, hz0⟩ := (HB4 _ rfl).out; refine (callsIn_wide.2 (cameoref01_Units.calls k s _ _ _ hU)).mono ?_; rintro e w1 ⟨v0, rfl, hR0, hb1⟩; obtain ⟨A0, c0, rfl⟩ := Kd.R_slice hR0; replace b4 := bx_below b4 hb1; replace b5 := bx_below b5 hb1; replace b6 := bx_below b6 hb1; replace b7 := bx_below b7 hb1; rw [hz0] at hb1 hR0; have hb01 := hb0.trans (hb1.mono (by omega)); have hz1 := hb1.size; rw [hz0] at hz1; clear hR0 hb0 hb1 HB4 hz0)
      | (refine ⟨trivial, ?_⟩; gi_at_call 6; refine (callsIn_wide.2 (points_c s _)).mono ?_; rintro e w3 ⟨rfl, rfl⟩))
    obtain ⟨L, h11⟩ := lp_make w w1 w.heap.size (w.heap.size + 1) (w.heap.size + 2) (w.heap.size + 3) w1.heap.size 0 s stop inner (.slice none 0 0)
      b4 b5 b6 b7 (by rw [hnil2]; exact Kd.R_nil _ _ _ _ _) (Nat.zero_le _) hb01 _ rfl
    refine loop_c w w.heap.size (w.heap.size + 1) (w.heap.size + 2) (w.heap.size + 3) (w1.heap.size + 1) (w1.heap.size + 1 + 1) w1.heap.size w1.heap.size 0 s hs stop inner _ HT _ _ ?ha2 ?hd2 L h11 _ ?hQ2
    case ha2 => rfl
    case hd2 => rfl
    rintro ⟨tm, ds⟩ t' b11' W' h1 hL hm
    simp only at h1 hm
    subst h1
    have k6 := hL.c6.cell
    have z6 := hL.c6.frozen
    have hend := Fact.mk (fun t => end_c w w.heap.size (w.heap.size + 1) (w.heap.size + 2) (w.heap.size + 3) (w1.heap.size + 1) b11' w1.heap.size w1.heap.size 0 s stop inner _ t ds W' hL hm (by omega))
    simp only [LPa]
    gi_wp2
    exact hend.out t'
end Go.Proofs.YtnhlmgeopkdiaaaDoor
