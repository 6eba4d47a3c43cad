-- Out of the translation, by the kit's print with some functions given (wip/myprint.py)
import Derived.Test.YtiegeggafhmehaaDoorUx0
import Derived.Test.YtiegeggafhmehaaDoorUx8
namespace Go.Proofs.YtiegeggafhmehaaDoor.U
open Go.RowKit Go.Proofs.YtiegeggafhmehaaDoorW.PrintWords Go.Proofs.YtiegeggafhmehaaDoorW.PrintLast Go.Proofs.YtiegeggafhmehaaDoorW.PrintMore
attribute [local go_sem] max2_int min2_int max_two min_two max_three min_three max_four min_four   -- for this text's walks alone
set_option linter.unusedVariables false
set_option linter.unusedSimpArgs false

/-! ### cameolaw01_UnitsTotal: function 12 -/
mutual
def cameolaw01_UnitsTotal.j0 : Nat → ByteArray → ByteArray → ByteArray → Int → Int → Int → Int → Int → Bool → Option (Bool)
  | 0, _, _, _, _, _, _, _, _, _ => none
  | k + 1, x0, x1, x2, x7, x9, x11, x13, x14, x53 => if x53 = true then ((units_Valid.f x0).bind fun t449 => (if t449 = true then ((units_Valid.f x1).bind fun t450 => (if t450 = true then ((units_Valid.f x2).bind fun t451 => (some (!t451))) else (some true))) else (some true))) else (if x14 = 0 then (if x7 = (wrap64 (-x13)) then (if ((x7 == 0) != (x0.toList == x1.toList)) = true then (cameolaw01_UnitsTotal.j1 k x0 x1 true) else (if x7 < (-1) then (cameolaw01_UnitsTotal.j1 k x0 x1 true) else (if x7 > 1 then (cameolaw01_UnitsTotal.j1 k x0 x1 true) else (if x7 ≤ 0 then (if x9 ≤ 0 then (if x11 > 0 then (cameolaw01_UnitsTotal.j1 k x0 x1 true) else (if x7 ≥ 0 then (if x9 ≥ 0 then (cameolaw01_UnitsTotal.j1 k x0 x1 (decide (x11 < 0))) else (cameolaw01_UnitsTotal.j1 k x0 x1 false)) else (cameolaw01_UnitsTotal.j1 k x0 x1 false))) else (if x7 ≥ 0 then (if x9 ≥ 0 then (cameolaw01_UnitsTotal.j1 k x0 x1 (decide (x11 < 0))) else (cameolaw01_UnitsTotal.j1 k x0 x1 false)) else (cameolaw01_UnitsTotal.j1 k x0 x1 false))) else (if x7 ≥ 0 then (if x9 ≥ 0 then (cameolaw01_UnitsTotal.j1 k x0 x1 (decide (x11 < 0))) else (cameolaw01_UnitsTotal.j1 k x0 x1 false)) else (cameolaw01_UnitsTotal.j1 k x0 x1 false)))))) else (cameolaw01_UnitsTotal.j1 k x0 x1 true)) else (cameolaw01_UnitsTotal.j1 k x0 x1 true))
def cameolaw01_UnitsTotal.j1 : Nat → ByteArray → ByteArray → Bool → Option (Bool)
  | 0, _, _, _ => none
  | k + 1, x0, x1, x114 => if x114 = true then (some false) else ((units_Concat.f k x0 x1).bind fun bt452 => (if bt452.2 = 0 then ((units_Compare.f x0 bt452.1).bind fun bt454 => (if bt454.2 = 0 then (if ((decide (bt454.1 < 0)) == (x1.toList != ([] : List UInt8))) = true then (some (decide (bt454.1 ≤ 0))) else (some false)) else (some false))) else (some (bt452.2 == 6))))
end
def cameolaw01_UnitsTotal.f (k : Nat) (a0 : ByteArray) (a1 : ByteArray) (a2 : ByteArray) : Option (Bool) := (cameolaw01_awake.f k).bind fun t440 => (if t440 = true then ((units_Compare.f a0 a1).bind fun bt441 => ((units_Compare.f a1 a2).bind fun bt443 => ((units_Compare.f a0 a2).bind fun bt445 => ((units_Compare.f a1 a0).bind fun bt447 => (if bt441.2 = 0 then (if bt443.2 = 0 then (cameolaw01_UnitsTotal.j0 k a0 a1 a2 bt441.1 bt443.1 bt445.1 bt447.1 bt447.2 (bt445.2 != 0)) else (cameolaw01_UnitsTotal.j0 k a0 a1 a2 bt441.1 bt443.1 bt445.1 bt447.1 bt447.2 true)) else (cameolaw01_UnitsTotal.j0 k a0 a1 a2 bt441.1 bt443.1 bt445.1 bt447.1 bt447.2 true)))))) else (some false))
theorem cameolaw01_UnitsTotal.mono_l : ∀ k, (∀ y0 y1 y2 y3 y4 y5 y6 y7 y8, LeO (cameolaw01_UnitsTotal.j0 k y0 y1 y2 y3 y4 y5 y6 y7 y8) (cameolaw01_UnitsTotal.j0 (k + 1) y0 y1 y2 y3 y4 y5 y6 y7 y8)) ∧ (∀ y0 y1 y2, LeO (cameolaw01_UnitsTotal.j1 k y0 y1 y2) (cameolaw01_UnitsTotal.j1 (k + 1) y0 y1 y2))
  | 0 => ⟨fun _ _ _ _ _ _ _ _ _ r h => by simp [cameolaw01_UnitsTotal.j0] at h, fun _ _ _ r h => by simp [cameolaw01_UnitsTotal.j1] at h⟩
  | k + 1 => by
    obtain ⟨ih0, ih1⟩ := cameolaw01_UnitsTotal.mono_l k
    refine ⟨?_, ?_⟩
    · intro y0 y1 y2 y3 y4 y5 y6 y7 y8
      unfold cameolaw01_UnitsTotal.j0
      repeat' first
      | (with_reducible exact ih0 _ _ _ _ _ _ _ _ _)
      | (with_reducible exact ih1 _ _ _)
      | (with_reducible exact cameolaw01_awake.mono _)
      | (with_reducible exact units_Concat.mono _ _ _)
      | (with_reducible exact LeO.refl _)
      | (with_reducible exact LeO.none _)
      | (with_reducible refine LeO.ite ?_ ?_)
      | (with_reducible refine LeO.bind ?_ (fun _ => ?_))
      | exact ih0 _ _ _ _ _ _ _ _ _
      | exact ih1 _ _ _
      | exact cameolaw01_awake.mono _
      | exact units_Concat.mono _ _ _
      | exact LeO.none _
      | refine LeO.ite ?_ ?_
      | refine LeO.bind ?_ (fun _ => ?_)
    · intro y0 y1 y2
      unfold cameolaw01_UnitsTotal.j1
      repeat' first
      | (with_reducible exact ih0 _ _ _ _ _ _ _ _ _)
      | (with_reducible exact ih1 _ _ _)
      | (with_reducible exact cameolaw01_awake.mono _)
      | (with_reducible exact units_Concat.mono _ _ _)
      | (with_reducible exact LeO.refl _)
      | (with_reducible exact LeO.none _)
      | (with_reducible refine LeO.ite ?_ ?_)
      | (with_reducible refine LeO.bind ?_ (fun _ => ?_))
      | exact ih0 _ _ _ _ _ _ _ _ _
      | exact ih1 _ _ _
      | exact cameolaw01_awake.mono _
      | exact units_Concat.mono _ _ _
      | exact LeO.none _
      | refine LeO.ite ?_ ?_
      | refine LeO.bind ?_ (fun _ => ?_)
theorem cameolaw01_UnitsTotal.mono : ∀ a0 a1 a2 k, LeO (cameolaw01_UnitsTotal.f k a0 a1 a2) (cameolaw01_UnitsTotal.f (k + 1) a0 a1 a2) := by
  intro a0 a1 a2 k
  obtain ⟨ih0, ih1⟩ := cameolaw01_UnitsTotal.mono_l k
  unfold cameolaw01_UnitsTotal.f
  repeat' first
      | (with_reducible exact ih0 _ _ _ _ _ _ _ _ _)
      | (with_reducible exact ih1 _ _ _)
      | (with_reducible exact cameolaw01_awake.mono _)
      | (with_reducible exact units_Concat.mono _ _ _)
      | (with_reducible exact LeO.refl _)
      | (with_reducible exact LeO.none _)
      | (with_reducible refine LeO.ite ?_ ?_)
      | (with_reducible refine LeO.bind ?_ (fun _ => ?_))
      | exact ih0 _ _ _ _ _ _ _ _ _
      | exact ih1 _ _ _
      | exact cameolaw01_awake.mono _
      | exact units_Concat.mono _ _ _
      | exact LeO.none _
      | refine LeO.ite ?_ ?_
      | refine LeO.bind ?_ (fun _ => ?_)
set_option maxHeartbeats 8000000 in
set_option maxRecDepth 100000 in
theorem cameolaw01_UnitsTotal.calls (k : Nat) (a0 : ByteArray) (a1 : ByteArray) (a2 : ByteArray) (r : Bool) (w : World) (HT : Aside0 (Tabs w)) (h : cameolaw01_UnitsTotal.f k a0 a1 a2 = some r) :
    Calls Tryd.prog 12 #[.string a0, .string a1, .string a2] w fun e w' => e = .returned (.bool r) ∧ Below w.heap.size w w' := by
  have HB := Aside0.mk (Below.refl w.heap.size w)
  have H : ((cameolaw01_awake.f k).bind fun t440 => (if t440 = true then ((units_Compare.f a0 a1).bind fun bt441 => ((units_Compare.f a1 a2).bind fun bt443 => ((units_Compare.f a0 a2).bind fun bt445 => ((units_Compare.f a1 a0).bind fun bt447 => (if bt441.2 = 0 then (if bt443.2 = 0 then (cameolaw01_UnitsTotal.j0 k a0 a1 a2 bt441.1 bt443.1 bt445.1 bt447.1 bt447.2 (bt445.2 != 0)) else (cameolaw01_UnitsTotal.j0 k a0 a1 a2 bt441.1 bt443.1 bt445.1 bt447.1 bt447.2 true)) else (cameolaw01_UnitsTotal.j0 k a0 a1 a2 bt441.1 bt443.1 bt445.1 bt447.1 bt447.2 true)))))) else (some false))) = some r := h
  clear h
  replace H := Option.bind_eq_some_iff.mp H
  obtain ⟨t440, A40, H⟩ := H
  replace H : (if t440 = true then ((units_Compare.f a0 a1).bind fun bt441 => ((units_Compare.f a1 a2).bind fun bt443 => ((units_Compare.f a0 a2).bind fun bt445 => ((units_Compare.f a1 a0).bind fun bt447 => (if bt441.2 = 0 then (if bt443.2 = 0 then (cameolaw01_UnitsTotal.j0 k a0 a1 a2 bt441.1 bt443.1 bt445.1 bt447.1 bt447.2 (bt445.2 != 0)) else (cameolaw01_UnitsTotal.j0 k a0 a1 a2 bt441.1 bt443.1 bt445.1 bt447.1 bt447.2 true)) else (cameolaw01_UnitsTotal.j0 k a0 a1 a2 bt441.1 bt443.1 bt445.1 bt447.1 bt447.2 true)))))) else (some false)) = some r := H
  have A4 := Aside0.mk A40
  clear A40
  by_cases c5 : t440 = true
  · subst c5
    have H1 : ((units_Compare.f a0 a1).bind fun bt441 => ((units_Compare.f a1 a2).bind fun bt443 => ((units_Compare.f a0 a2).bind fun bt445 => ((units_Compare.f a1 a0).bind fun bt447 => (if bt441.2 = 0 then (if bt443.2 = 0 then (cameolaw01_UnitsTotal.j0 k a0 a1 a2 bt441.1 bt443.1 bt445.1 bt447.1 bt447.2 (bt445.2 != 0)) else (cameolaw01_UnitsTotal.j0 k a0 a1 a2 bt441.1 bt443.1 bt445.1 bt447.1 bt447.2 true)) else (cameolaw01_UnitsTotal.j0 k a0 a1 a2 bt441.1 bt443.1 bt445.1 bt447.1 bt447.2 true)))))) = some r := by rw [if_pos rfl] at H; exact H
    clear H
    have H := H1
    clear H1
    replace H := Option.bind_eq_some_iff.mp H
    obtain ⟨⟨t441, t442⟩, A60, H⟩ := H
    replace H : ((units_Compare.f a1 a2).bind fun bt443 => ((units_Compare.f a0 a2).bind fun bt445 => ((units_Compare.f a1 a0).bind fun bt447 => (if t442 = 0 then (if bt443.2 = 0 then (cameolaw01_UnitsTotal.j0 k a0 a1 a2 t441 bt443.1 bt445.1 bt447.1 bt447.2 (bt445.2 != 0)) else (cameolaw01_UnitsTotal.j0 k a0 a1 a2 t441 bt443.1 bt445.1 bt447.1 bt447.2 true)) else (cameolaw01_UnitsTotal.j0 k a0 a1 a2 t441 bt443.1 bt445.1 bt447.1 bt447.2 true))))) = some r := H
    have A6 := Aside0.mk A60
    clear A60
    replace H := Option.bind_eq_some_iff.mp H
    obtain ⟨⟨t443, t444⟩, A70, H⟩ := H
    replace H : ((units_Compare.f a0 a2).bind fun bt445 => ((units_Compare.f a1 a0).bind fun bt447 => (if t442 = 0 then (if t444 = 0 then (cameolaw01_UnitsTotal.j0 k a0 a1 a2 t441 t443 bt445.1 bt447.1 bt447.2 (bt445.2 != 0)) else (cameolaw01_UnitsTotal.j0 k a0 a1 a2 t441 t443 bt445.1 bt447.1 bt447.2 true)) else (cameolaw01_UnitsTotal.j0 k a0 a1 a2 t441 t443 bt445.1 bt447.1 bt447.2 true)))) = some r := H
    have A7 := Aside0.mk A70
    clear A70
    replace H := Option.bind_eq_some_iff.mp H
    obtain ⟨⟨t445, t446⟩, A80, H⟩ := H
    replace H : ((units_Compare.f a1 a0).bind fun bt447 => (if t442 = 0 then (if t444 = 0 then (cameolaw01_UnitsTotal.j0 k a0 a1 a2 t441 t443 t445 bt447.1 bt447.2 (t446 != 0)) else (cameolaw01_UnitsTotal.j0 k a0 a1 a2 t441 t443 t445 bt447.1 bt447.2 true)) else (cameolaw01_UnitsTotal.j0 k a0 a1 a2 t441 t443 t445 bt447.1 bt447.2 true))) = some r := H
    have A8 := Aside0.mk A80
    clear A80
    replace H := Option.bind_eq_some_iff.mp H
    obtain ⟨⟨t447, t448⟩, A90, H⟩ := H
    replace H : (if t442 = 0 then (if t444 = 0 then (cameolaw01_UnitsTotal.j0 k a0 a1 a2 t441 t443 t445 t447 t448 (t446 != 0)) else (cameolaw01_UnitsTotal.j0 k a0 a1 a2 t441 t443 t445 t447 t448 true)) else (cameolaw01_UnitsTotal.j0 k a0 a1 a2 t441 t443 t445 t447 t448 true)) = some r := H
    have A9 := Aside0.mk A90
    clear A90
    have HC10 := Aside0.mk H
    clear H
    go_enter Tryd.func12, Tryd.ntmps12
    go_upto_region 7 with (first | ((with_reducible refine gate_callee (f := 50) rfl ?_); refine goesL_ (some 18) rfl rfl Tryd.func50 (by kernel_rfl) rfl #[] rfl (by (try simp only [List.map_toArray, List.map_cons, List.map_nil]); first | done | rfl | (simp only [List.length_drop, List.length_take]; rfl)) ?_; (with_reducible refine (cameolaw01_awake.calls k  true _ ?tabs A4.out).mono ?_); (case tabs => exact ⟨Tabs.below HT.out (by repeat (first | (with_reducible first | exact HB.out | apply below_alloc | apply pw_below_drewN | apply below_drew1) | exact HB.out))⟩); rintro e w11 ⟨rfl, hb⟩; refine ⟨_, rfl, ?_⟩; have n0_ := Aside0.mk (below_step (by repeat (first | (with_reducible first | exact HB.out | apply below_alloc | apply pw_below_drewN | apply below_drew1) | exact HB.out)) hb); clear HB; have HB := n0_; clear n0_; (try clear hb); (try clear hb2); (try clear hk); (try clear hi)) | ((with_reducible refine gate_callee (f := 37) rfl ?_); refine goesL_ (some 23) rfl rfl Tryd.func37 (by kernel_rfl) rfl #[.string a0, .string a1] rfl (by (try simp only [List.map_toArray, List.map_cons, List.map_nil]); first | done | rfl | (simp only [List.length_drop, List.length_take]; rfl)) ?_; (with_reducible refine (units_Compare.calls a0 a1 t441 t442 _ ?tabs A6.out).mono ?_); (case tabs => exact ⟨Tabs.below HT.out (by repeat (first | (with_reducible first | exact HB.out | apply below_alloc | apply pw_below_drewN | apply below_drew1) | exact HB.out))⟩); rintro e w12 ⟨rfl, hb⟩; refine ⟨_, rfl, ?_⟩; have n0_ := Aside0.mk (below_step (by repeat (first | (with_reducible first | exact HB.out | apply below_alloc | apply pw_below_drewN | apply below_drew1) | exact HB.out)) hb); clear HB; have HB := n0_; clear n0_; (try clear hb); (try clear hb2); (try clear hk); (try clear hi)) | ((with_reducible refine gate_callee (f := 37) rfl ?_); refine goesL_ (some 29) rfl rfl Tryd.func37 (by kernel_rfl) rfl #[.string a1, .string a2] rfl (by (try simp only [List.map_toArray, List.map_cons, List.map_nil]); first | done | rfl | (simp only [List.length_drop, List.length_take]; rfl)) ?_; (with_reducible refine (units_Compare.calls a1 a2 t443 t444 _ ?tabs A7.out).mono ?_); (case tabs => exact ⟨Tabs.below HT.out (by repeat (first | (with_reducible first | exact HB.out | apply below_alloc | apply pw_below_drewN | apply below_drew1) | exact HB.out))⟩); rintro e w13 ⟨rfl, hb⟩; refine ⟨_, rfl, ?_⟩; have n0_ := Aside0.mk (below_step (by repeat (first | (with_reducible first | exact HB.out | apply below_alloc | apply pw_below_drewN | apply below_drew1) | exact HB.out)) hb); clear HB; have HB := n0_; clear n0_; (try clear hb); (try clear hb2); (try clear hk); (try clear hi)) | ((with_reducible refine gate_callee (f := 37) rfl ?_); refine goesL_ (some 35) rfl rfl Tryd.func37 (by kernel_rfl) rfl #[.string a0, .string a2] rfl (by (try simp only [List.map_toArray, List.map_cons, List.map_nil]); first | done | rfl | (simp only [List.length_drop, List.length_take]; rfl)) ?_; (with_reducible refine (units_Compare.calls a0 a2 t445 t446 _ ?tabs A8.out).mono ?_); (case tabs => exact ⟨Tabs.below HT.out (by repeat (first | (with_reducible first | exact HB.out | apply below_alloc | apply pw_below_drewN | apply below_drew1) | exact HB.out))⟩); rintro e w14 ⟨rfl, hb⟩; refine ⟨_, rfl, ?_⟩; have n0_ := Aside0.mk (below_step (by repeat (first | (with_reducible first | exact HB.out | apply below_alloc | apply pw_below_drewN | apply below_drew1) | exact HB.out)) hb); clear HB; have HB := n0_; clear n0_; (try clear hb); (try clear hb2); (try clear hk); (try clear hi)) | ((with_reducible refine gate_callee (f := 37) rfl ?_); refine goesL_ (some 41) rfl rfl Tryd.func37 (by kernel_rfl) rfl #[.string a1, .string a0] rfl (by (try simp only [List.map_toArray, List.map_cons, List.map_nil]); first | done | rfl | (simp only [List.length_drop, List.length_take]; rfl)) ?_; (with_reducible refine (units_Compare.calls a1 a0 t447 t448 _ ?tabs A9.out).mono ?_); (case tabs => exact ⟨Tabs.below HT.out (by repeat (first | (with_reducible first | exact HB.out | apply below_alloc | apply pw_below_drewN | apply below_drew1) | exact HB.out))⟩); rintro e w15 ⟨rfl, hb⟩; refine ⟨_, rfl, ?_⟩; have n0_ := Aside0.mk (below_step (by repeat (first | (with_reducible first | exact HB.out | apply below_alloc | apply pw_below_drewN | apply below_drew1) | exact HB.out)) hb); clear HB; have HB := n0_; clear n0_; (try clear hb); (try clear hb2); (try clear hk); (try clear hi)))
    (try simp only [Act.put, List.setIfInBounds_toArray, List.set_cons_zero, List.set_cons_succ])
    go_cut [53] (fun v53 wc => ∃ (kq : Nat) (x53_9 : Bool), v53 = .bool x53_9 ∧ Aside0 (cameolaw01_UnitsTotal.j0 kq a0 a1 a2 t441 t443 t445 t447 t448 x53_9 = some r) ∧ Aside0 (kq ≤ k) ∧ Aside0 (Below w.heap.size w wc))
    case first =>
      have H := HC10.out
      clear HC10
      by_cases c16 : t442 = 0
      · rw [if_pos c16] at H
        have c16b0 : (t442 == 0) = true := beq_iff_eq.mpr c16
        have c16b1 : (t442 != 0) = false := bne_eq_false_iff_eq.mpr c16
        clear c16
        (first | rw [c16b0] | (simp only [i64_w, i32_w]; rw [c16b0]) | skip)
        by_cases c17 : t444 = 0
        · rw [if_pos c17] at H
          have c17b0 : (t444 == 0) = true := beq_iff_eq.mpr c17
          have c17b1 : (t444 != 0) = false := bne_eq_false_iff_eq.mpr c17
          clear c17
          have H' := Aside0.mk H
          clear H
          go_wp2
          go_meet
          case rel => exact ⟨_, ((t446 != 0)), (by first | rfl | (simp; done) | (simp [*]; done)), H', ⟨by first | omega | exact Nat.le_refl _⟩, ⟨by repeat (first | (with_reducible first | exact HB.out | apply below_alloc | apply pw_below_drewN | apply below_drew1) | exact HB.out)⟩⟩
        · rw [if_neg c17] at H
          have c17b0 : (t444 == 0) = false := beq_eq_false_iff_ne.mpr c17
          have c17b1 : (t444 != 0) = true := bne_iff_ne.mpr c17
          have H' := Aside0.mk H
          clear H
          go_wp2
          go_meet
          case rel => exact ⟨_, (true), (by first | rfl | (simp; done) | (simp [*]; done)), H', ⟨by first | omega | exact Nat.le_refl _⟩, ⟨by repeat (first | (with_reducible first | exact HB.out | apply below_alloc | apply pw_below_drewN | apply below_drew1) | exact HB.out)⟩⟩
      · rw [if_neg c16] at H
        have c16b0 : (t442 == 0) = false := beq_eq_false_iff_ne.mpr c16
        have c16b1 : (t442 != 0) = true := bne_iff_ne.mpr c16
        (first | rw [c16b0] | (simp only [i64_w, i32_w]; rw [c16b0]) | skip)
        have H' := Aside0.mk H
        clear H
        go_wp2
        go_meet
        case rel => exact ⟨_, (true), (by first | rfl | (simp; done) | (simp [*]; done)), H', ⟨by first | omega | exact Nat.le_refl _⟩, ⟨by repeat (first | (with_reducible first | exact HB.out | apply below_alloc | apply pw_below_drewN | apply below_drew1) | exact HB.out)⟩⟩
    case rest =>
      clear HC10
      try clear c1
      try clear p2
      try clear c3
      try clear c5
      try clear c12
      try clear c16
      try clear c16b0
      try clear c16b1
      try clear c17
      try clear c17b0
      try clear c17b1
      obtain ⟨kq, x53_9, rfl, HA, HJ9, HB⟩ := hcut
      cases kq with
      | zero => exact absurd HA.out (by simp [cameolaw01_UnitsTotal.j0])
      | succ kj9 =>
        have H := HA.out
        clear HA
        simp only [cameolaw01_UnitsTotal.j0] at H
        by_cases c18 : x53_9 = true
        · subst c18
          have H1 : ((units_Valid.f a0).bind fun t449 => (if t449 = true then ((units_Valid.f a1).bind fun t450 => (if t450 = true then ((units_Valid.f a2).bind fun t451 => (some (!t451))) else (some true))) else (some true))) = some r := by rw [if_pos rfl] at H; exact H
          clear H
          have H := H1
          clear H1
          replace H := Option.bind_eq_some_iff.mp H
          obtain ⟨t449, A190, H⟩ := H
          replace H : (if t449 = true then ((units_Valid.f a1).bind fun t450 => (if t450 = true then ((units_Valid.f a2).bind fun t451 => (some (!t451))) else (some true))) else (some true)) = some r := H
          have A19 := Aside0.mk A190
          clear A190
          by_cases c20 : t449 = true
          · subst c20
            have H1 : ((units_Valid.f a1).bind fun t450 => (if t450 = true then ((units_Valid.f a2).bind fun t451 => (some (!t451))) else (some true))) = some r := by rw [if_pos rfl] at H; exact H
            clear H
            have H := H1
            clear H1
            replace H := Option.bind_eq_some_iff.mp H
            obtain ⟨t450, A210, H⟩ := H
            replace H : (if t450 = true then ((units_Valid.f a2).bind fun t451 => (some (!t451))) else (some true)) = some r := H
            have A21 := Aside0.mk A210
            clear A210
            by_cases c22 : t450 = true
            · subst c22
              have H1 : ((units_Valid.f a2).bind fun t451 => (some (!t451))) = some r := by rw [if_pos rfl] at H; exact H
              clear H
              have H := H1
              clear H1
              replace H := Option.bind_eq_some_iff.mp H
              obtain ⟨t451, A230, H⟩ := H
              replace H : (some (!t451)) = some r := H
              have A23 := Aside0.mk A230
              clear A230
              obtain rfl := Option.some.inj H
              go_wp2_with (first | ((with_reducible refine gate_callee (f := 52) rfl ?_); refine goesL_ (some 55) rfl rfl Tryd.func52 (by kernel_rfl) rfl #[.string a0] rfl (by (try simp only [List.map_toArray, List.map_cons, List.map_nil]); first | done | rfl | (simp only [List.length_drop, List.length_take]; rfl)) ?_; (with_reducible refine (units_Valid.calls a0 true _ ?tabs A19.out).mono ?_); (case tabs => exact ⟨Tabs.below HT.out (by repeat (first | (with_reducible first | exact HB.out | apply below_alloc | apply pw_below_drewN | apply below_drew1) | exact HB.out))⟩); rintro e w24 ⟨rfl, hb⟩; refine ⟨_, rfl, ?_⟩; have n0_ := Aside0.mk (below_step (by repeat (first | (with_reducible first | exact HB.out | apply below_alloc | apply pw_below_drewN | apply below_drew1) | exact HB.out)) hb); clear HB; have HB := n0_; clear n0_; (try clear hb); (try clear hb2); (try clear hk); (try clear hi)) | (go_at_call 52; (with_reducible refine (units_Valid.calls a1 true _ ?tabs A21.out).mono ?_); (case tabs => exact ⟨Tabs.below HT.out (by repeat (first | (with_reducible first | exact HB.out | apply below_alloc | apply pw_below_drewN | apply below_drew1) | exact HB.out))⟩); rintro e w25 ⟨rfl, hb⟩; have n0_ := Aside0.mk (below_step (by repeat (first | (with_reducible first | exact HB.out | apply below_alloc | apply pw_below_drewN | apply below_drew1) | exact HB.out)) hb); clear HB; have HB := n0_; clear n0_; (try clear hb); (try clear hb2); (try clear hk); (try clear hi)) | (go_at_call 52; (with_reducible refine (units_Valid.calls a2 t451 _ ?tabs A23.out).mono ?_); (case tabs => exact ⟨Tabs.below HT.out (by repeat (first | (with_reducible first | exact HB.out | apply below_alloc | apply pw_below_drewN | apply below_drew1) | exact HB.out))⟩); rintro e w26 ⟨rfl, hb⟩; have n0_ := Aside0.mk (below_step (by repeat (first | (with_reducible first | exact HB.out | apply below_alloc | apply pw_below_drewN | apply below_drew1) | exact HB.out)) hb); clear HB; have HB := n0_; clear n0_; (try clear hb); (try clear hb2); (try clear hk); (try clear hi)))
              go_ret
              exact ⟨by first | rfl | (simp [errW_none, errW_some] <;> rfl) | (simp [*, errW_none, errW_some] <;> rfl), by repeat (first | (with_reducible first | exact HB.out | apply below_alloc | apply pw_below_drewN | apply below_drew1) | exact HB.out)⟩
            · replace c22 := Bool.eq_false_iff.mpr c22
              subst c22
              have H1 : (some true) = some r := by rw [if_neg (show ¬ (false = true) by decide)] at H; exact H
              clear H
              have H := H1
              clear H1
              obtain rfl := Option.some.inj H
              go_wp2_with (first | ((with_reducible refine gate_callee (f := 52) rfl ?_); refine goesL_ (some 55) rfl rfl Tryd.func52 (by kernel_rfl) rfl #[.string a0] rfl (by (try simp only [List.map_toArray, List.map_cons, List.map_nil]); first | done | rfl | (simp only [List.length_drop, List.length_take]; rfl)) ?_; (with_reducible refine (units_Valid.calls a0 true _ ?tabs A19.out).mono ?_); (case tabs => exact ⟨Tabs.below HT.out (by repeat (first | (with_reducible first | exact HB.out | apply below_alloc | apply pw_below_drewN | apply below_drew1) | exact HB.out))⟩); rintro e w27 ⟨rfl, hb⟩; refine ⟨_, rfl, ?_⟩; have n0_ := Aside0.mk (below_step (by repeat (first | (with_reducible first | exact HB.out | apply below_alloc | apply pw_below_drewN | apply below_drew1) | exact HB.out)) hb); clear HB; have HB := n0_; clear n0_; (try clear hb); (try clear hb2); (try clear hk); (try clear hi)) | (go_at_call 52; (with_reducible refine (units_Valid.calls a1 false _ ?tabs A21.out).mono ?_); (case tabs => exact ⟨Tabs.below HT.out (by repeat (first | (with_reducible first | exact HB.out | apply below_alloc | apply pw_below_drewN | apply below_drew1) | exact HB.out))⟩); rintro e w28 ⟨rfl, hb⟩; have n0_ := Aside0.mk (below_step (by repeat (first | (with_reducible first | exact HB.out | apply below_alloc | apply pw_below_drewN | apply below_drew1) | exact HB.out)) hb); clear HB; have HB := n0_; clear n0_; (try clear hb); (try clear hb2); (try clear hk); (try clear hi)))
              go_ret
              exact ⟨by first | rfl | (simp [errW_none, errW_some] <;> rfl) | (simp [*, errW_none, errW_some] <;> rfl), by repeat (first | (with_reducible first | exact HB.out | apply below_alloc | apply pw_below_drewN | apply below_drew1) | exact HB.out)⟩
          · replace c20 := Bool.eq_false_iff.mpr c20
            subst c20
            have H1 : (some true) = some r := by rw [if_neg (show ¬ (false = true) by decide)] at H; exact H
            clear H
            have H := H1
            clear H1
            obtain rfl := Option.some.inj H
            go_wp2_with (first | ((with_reducible refine gate_callee (f := 52) rfl ?_); refine goesL_ (some 55) rfl rfl Tryd.func52 (by kernel_rfl) rfl #[.string a0] rfl (by (try simp only [List.map_toArray, List.map_cons, List.map_nil]); first | done | rfl | (simp only [List.length_drop, List.length_take]; rfl)) ?_; (with_reducible refine (units_Valid.calls a0 false _ ?tabs A19.out).mono ?_); (case tabs => exact ⟨Tabs.below HT.out (by repeat (first | (with_reducible first | exact HB.out | apply below_alloc | apply pw_below_drewN | apply below_drew1) | exact HB.out))⟩); rintro e w29 ⟨rfl, hb⟩; refine ⟨_, rfl, ?_⟩; have n0_ := Aside0.mk (below_step (by repeat (first | (with_reducible first | exact HB.out | apply below_alloc | apply pw_below_drewN | apply below_drew1) | exact HB.out)) hb); clear HB; have HB := n0_; clear n0_; (try clear hb); (try clear hb2); (try clear hk); (try clear hi)))
            go_ret
            exact ⟨by first | rfl | (simp [errW_none, errW_some] <;> rfl) | (simp [*, errW_none, errW_some] <;> rfl), by repeat (first | (with_reducible first | exact HB.out | apply below_alloc | apply pw_below_drewN | apply below_drew1) | exact HB.out)⟩
        · replace c18 := Bool.eq_false_iff.mpr c18
          subst c18
          have H1 : (if t448 = 0 then (if t441 = (wrap64 (-t447)) then (if ((t441 == 0) != (a0.toList == a1.toList)) = true then (cameolaw01_UnitsTotal.j1 kj9 a0 a1 true) else (if t441 < (-1) then (cameolaw01_UnitsTotal.j1 kj9 a0 a1 true) else (if t441 > 1 then (cameolaw01_UnitsTotal.j1 kj9 a0 a1 true) else (if t441 ≤ 0 then (if t443 ≤ 0 then (if t445 > 0 then (cameolaw01_UnitsTotal.j1 kj9 a0 a1 true) else (if t441 ≥ 0 then (if t443 ≥ 0 then (cameolaw01_UnitsTotal.j1 kj9 a0 a1 (decide (t445 < 0))) else (cameolaw01_UnitsTotal.j1 kj9 a0 a1 false)) else (cameolaw01_UnitsTotal.j1 kj9 a0 a1 false))) else (if t441 ≥ 0 then (if t443 ≥ 0 then (cameolaw01_UnitsTotal.j1 kj9 a0 a1 (decide (t445 < 0))) else (cameolaw01_UnitsTotal.j1 kj9 a0 a1 false)) else (cameolaw01_UnitsTotal.j1 kj9 a0 a1 false))) else (if t441 ≥ 0 then (if t443 ≥ 0 then (cameolaw01_UnitsTotal.j1 kj9 a0 a1 (decide (t445 < 0))) else (cameolaw01_UnitsTotal.j1 kj9 a0 a1 false)) else (cameolaw01_UnitsTotal.j1 kj9 a0 a1 false)))))) else (cameolaw01_UnitsTotal.j1 kj9 a0 a1 true)) else (cameolaw01_UnitsTotal.j1 kj9 a0 a1 true)) = some r := by rw [if_neg (show ¬ (false = true) by decide)] at H; exact H
          clear H
          have H := H1
          clear H1
          have HC30 := Aside0.mk H
          clear H
          go_upto_region 9 with (fail)
          go_cut [114] (fun v114 wc => ∃ (kq : Nat) (x114_29 : Bool), v114 = .bool x114_29 ∧ Aside0 (cameolaw01_UnitsTotal.j1 kq a0 a1 x114_29 = some r) ∧ Aside0 (kq ≤ kj9) ∧ Aside0 (Below w.heap.size w wc))
          case first =>
            have H := HC30.out
            clear HC30
            by_cases c31 : t448 = 0
            · rw [if_pos c31] at H
              have c31b0 : (t448 == 0) = true := beq_iff_eq.mpr c31
              have c31b1 : (t448 != 0) = false := bne_eq_false_iff_eq.mpr c31
              clear c31
              (first | rw [c31b0] | (simp only [i64_w, i32_w]; rw [c31b0]) | skip)
              by_cases c32 : t441 = (wrap64 (-t447))
              · rw [if_pos c32] at H
                have c32b0 : (t441 == (wrap64 (-t447))) = true := beq_iff_eq.mpr c32
                have c32b1 : (t441 != (wrap64 (-t447))) = false := bne_eq_false_iff_eq.mpr c32
                clear c32
                by_cases c33 : ((t441 == 0) != (a0.toList == a1.toList)) = true
                · rw [if_pos c33] at H
                  have c33b0 : ((t441 == 0) != (a0.toList == a1.toList)) = true := c33
                  (try (have c33b1 : decide ((t441 == 0) = (a0.toList == a1.toList)) = false := by simpa using c33))
                  (try (have c33b2 : ((t441 == 0) == (a0.toList == a1.toList)) = false := by simpa using c33))
                  (try (have c33b3 : ¬ ((t441 == 0) = (a0.toList == a1.toList)) := by simpa using c33))
                  clear c33
                  have H' := Aside0.mk H
                  clear H
                  go_wp2
                  go_meet
                  case rel => exact ⟨_, (true), (by first | rfl | (simp; done) | (simp [*]; done)), H', ⟨by have := HJ9.out; first | omega | exact Nat.le_refl _⟩, ⟨by repeat (first | (with_reducible first | exact HB.out | apply below_alloc | apply pw_below_drewN | apply below_drew1) | exact HB.out)⟩⟩
                · rw [if_neg c33] at H
                  have c33b0 : ((t441 == 0) != (a0.toList == a1.toList)) = false := by simpa using c33
                  (try (have c33b1 : decide ((t441 == 0) = (a0.toList == a1.toList)) = true := by simpa using c33))
                  (try (have c33b2 : ((t441 == 0) == (a0.toList == a1.toList)) = true := by simpa using c33))
                  clear c33
                  by_cases c34 : t441 < (-1)
                  · rw [if_pos c34] at H
                    have c34b0 : decide (t441 < (-1)) = true := decide_eq_true c34
                    clear c34
                    have H' := Aside0.mk H
                    clear H
                    go_wp2
                    go_meet
                    case rel => exact ⟨_, (true), (by first | rfl | (simp; done) | (simp [*]; done)), H', ⟨by have := HJ9.out; first | omega | exact Nat.le_refl _⟩, ⟨by repeat (first | (with_reducible first | exact HB.out | apply below_alloc | apply pw_below_drewN | apply below_drew1) | exact HB.out)⟩⟩
                  · rw [if_neg c34] at H
                    have c34b0 : decide (t441 < (-1)) = false := decide_eq_false c34
                    clear c34
                    by_cases c35 : t441 > 1
                    · rw [if_pos c35] at H
                      have c35b0 : decide (1 < t441) = true := decide_eq_true c35
                      clear c35
                      have H' := Aside0.mk H
                      clear H
                      go_wp2
                      go_meet
                      case rel => exact ⟨_, (true), (by first | rfl | (simp; done) | (simp [*]; done)), H', ⟨by have := HJ9.out; first | omega | exact Nat.le_refl _⟩, ⟨by repeat (first | (with_reducible first | exact HB.out | apply below_alloc | apply pw_below_drewN | apply below_drew1) | exact HB.out)⟩⟩
                    · rw [if_neg c35] at H
                      have c35b0 : decide (1 < t441) = false := decide_eq_false c35
                      clear c35
                      by_cases c36 : t441 ≤ 0
                      · rw [if_pos c36] at H
                        have c36b0 : decide (t441 ≤ 0) = true := decide_eq_true c36
                        clear c36
                        by_cases c37 : t443 ≤ 0
                        · rw [if_pos c37] at H
                          have c37b0 : decide (t443 ≤ 0) = true := decide_eq_true c37
                          clear c37
                          by_cases c38 : t445 > 0
                          · rw [if_pos c38] at H
                            have c38b0 : decide (0 < t445) = true := decide_eq_true c38
                            clear c38
                            have H' := Aside0.mk H
                            clear H
                            go_wp2
                            go_meet
                            case rel => exact ⟨_, (true), (by first | rfl | (simp; done) | (simp [*]; done)), H', ⟨by have := HJ9.out; first | omega | exact Nat.le_refl _⟩, ⟨by repeat (first | (with_reducible first | exact HB.out | apply below_alloc | apply pw_below_drewN | apply below_drew1) | exact HB.out)⟩⟩
                          · rw [if_neg c38] at H
                            have c38b0 : decide (0 < t445) = false := decide_eq_false c38
                            clear c38
                            by_cases c39 : t441 ≥ 0
                            · rw [if_pos c39] at H
                              have c39b0 : decide (0 ≤ t441) = true := decide_eq_true c39
                              clear c39
                              by_cases c40 : t443 ≥ 0
                              · rw [if_pos c40] at H
                                have c40b0 : decide (0 ≤ t443) = true := decide_eq_true c40
                                clear c40
                                have H' := Aside0.mk H
                                clear H
                                go_wp2
                                go_meet
                                case rel => exact ⟨_, (decide (t445 < 0)), (by first | rfl | (simp; done) | (simp [*]; done)), H', ⟨by have := HJ9.out; first | omega | exact Nat.le_refl _⟩, ⟨by repeat (first | (with_reducible first | exact HB.out | apply below_alloc | apply pw_below_drewN | apply below_drew1) | exact HB.out)⟩⟩
                              · rw [if_neg c40] at H
                                have c40b0 : decide (0 ≤ t443) = false := decide_eq_false c40
                                clear c40
                                have H' := Aside0.mk H
                                clear H
                                go_wp2
                                go_meet
                                case rel => exact ⟨_, (false), (by first | rfl | (simp; done) | (simp [*]; done)), H', ⟨by have := HJ9.out; first | omega | exact Nat.le_refl _⟩, ⟨by repeat (first | (with_reducible first | exact HB.out | apply below_alloc | apply pw_below_drewN | apply below_drew1) | exact HB.out)⟩⟩
                            · rw [if_neg c39] at H
                              have c39b0 : decide (0 ≤ t441) = false := decide_eq_false c39
                              clear c39
                              have H' := Aside0.mk H
                              clear H
                              go_wp2
                              go_meet
                              case rel => exact ⟨_, (false), (by first | rfl | (simp; done) | (simp [*]; done)), H', ⟨by have := HJ9.out; first | omega | exact Nat.le_refl _⟩, ⟨by repeat (first | (with_reducible first | exact HB.out | apply below_alloc | apply pw_below_drewN | apply below_drew1) | exact HB.out)⟩⟩
                        · rw [if_neg c37] at H
                          have c37b0 : decide (t443 ≤ 0) = false := decide_eq_false c37
                          clear c37
                          by_cases c41 : t441 ≥ 0
                          · rw [if_pos c41] at H
                            have c41b0 : decide (0 ≤ t441) = true := decide_eq_true c41
                            clear c41
                            by_cases c42 : t443 ≥ 0
                            · rw [if_pos c42] at H
                              have c42b0 : decide (0 ≤ t443) = true := decide_eq_true c42
                              clear c42
                              have H' := Aside0.mk H
                              clear H
                              go_wp2
                              go_meet
                              case rel => exact ⟨_, (decide (t445 < 0)), (by first | rfl | (simp; done) | (simp [*]; done)), H', ⟨by have := HJ9.out; first | omega | exact Nat.le_refl _⟩, ⟨by repeat (first | (with_reducible first | exact HB.out | apply below_alloc | apply pw_below_drewN | apply below_drew1) | exact HB.out)⟩⟩
                            · rw [if_neg c42] at H
                              have c42b0 : decide (0 ≤ t443) = false := decide_eq_false c42
                              clear c42
                              have H' := Aside0.mk H
                              clear H
                              go_wp2
                              go_meet
                              case rel => exact ⟨_, (false), (by first | rfl | (simp; done) | (simp [*]; done)), H', ⟨by have := HJ9.out; first | omega | exact Nat.le_refl _⟩, ⟨by repeat (first | (with_reducible first | exact HB.out | apply below_alloc | apply pw_below_drewN | apply below_drew1) | exact HB.out)⟩⟩
                          · rw [if_neg c41] at H
                            have c41b0 : decide (0 ≤ t441) = false := decide_eq_false c41
                            clear c41
                            have H' := Aside0.mk H
                            clear H
                            go_wp2
                            go_meet
                            case rel => exact ⟨_, (false), (by first | rfl | (simp; done) | (simp [*]; done)), H', ⟨by have := HJ9.out; first | omega | exact Nat.le_refl _⟩, ⟨by repeat (first | (with_reducible first | exact HB.out | apply below_alloc | apply pw_below_drewN | apply below_drew1) | exact HB.out)⟩⟩
                      · rw [if_neg c36] at H
                        have c36b0 : decide (t441 ≤ 0) = false := decide_eq_false c36
                        clear c36
                        by_cases c43 : t441 ≥ 0
                        · rw [if_pos c43] at H
                          have c43b0 : decide (0 ≤ t441) = true := decide_eq_true c43
                          clear c43
                          by_cases c44 : t443 ≥ 0
                          · rw [if_pos c44] at H
                            have c44b0 : decide (0 ≤ t443) = true := decide_eq_true c44
                            clear c44
                            have H' := Aside0.mk H
                            clear H
                            go_wp2
                            go_meet
                            case rel => exact ⟨_, (decide (t445 < 0)), (by first | rfl | (simp; done) | (simp [*]; done)), H', ⟨by have := HJ9.out; first | omega | exact Nat.le_refl _⟩, ⟨by repeat (first | (with_reducible first | exact HB.out | apply below_alloc | apply pw_below_drewN | apply below_drew1) | exact HB.out)⟩⟩
                          · rw [if_neg c44] at H
                            have c44b0 : decide (0 ≤ t443) = false := decide_eq_false c44
                            clear c44
                            have H' := Aside0.mk H
                            clear H
                            go_wp2
                            go_meet
                            case rel => exact ⟨_, (false), (by first | rfl | (simp; done) | (simp [*]; done)), H', ⟨by have := HJ9.out; first | omega | exact Nat.le_refl _⟩, ⟨by repeat (first | (with_reducible first | exact HB.out | apply below_alloc | apply pw_below_drewN | apply below_drew1) | exact HB.out)⟩⟩
                        · rw [if_neg c43] at H
                          have c43b0 : decide (0 ≤ t441) = false := decide_eq_false c43
                          clear c43
                          have H' := Aside0.mk H
                          clear H
                          go_wp2
                          go_meet
                          case rel => exact ⟨_, (false), (by first | rfl | (simp; done) | (simp [*]; done)), H', ⟨by have := HJ9.out; first | omega | exact Nat.le_refl _⟩, ⟨by repeat (first | (with_reducible first | exact HB.out | apply below_alloc | apply pw_below_drewN | apply below_drew1) | exact HB.out)⟩⟩
              · rw [if_neg c32] at H
                have c32b0 : (t441 == (wrap64 (-t447))) = false := beq_eq_false_iff_ne.mpr c32
                have c32b1 : (t441 != (wrap64 (-t447))) = true := bne_iff_ne.mpr c32
                have H' := Aside0.mk H
                clear H
                go_wp2
                go_meet
                case rel => exact ⟨_, (true), (by first | rfl | (simp; done) | (simp [*]; done)), H', ⟨by have := HJ9.out; first | omega | exact Nat.le_refl _⟩, ⟨by repeat (first | (with_reducible first | exact HB.out | apply below_alloc | apply pw_below_drewN | apply below_drew1) | exact HB.out)⟩⟩
            · rw [if_neg c31] at H
              have c31b0 : (t448 == 0) = false := beq_eq_false_iff_ne.mpr c31
              have c31b1 : (t448 != 0) = true := bne_iff_ne.mpr c31
              (first | rw [c31b0] | (simp only [i64_w, i32_w]; rw [c31b0]) | skip)
              have H' := Aside0.mk H
              clear H
              go_wp2
              go_meet
              case rel => exact ⟨_, (true), (by first | rfl | (simp; done) | (simp [*]; done)), H', ⟨by have := HJ9.out; first | omega | exact Nat.le_refl _⟩, ⟨by repeat (first | (with_reducible first | exact HB.out | apply below_alloc | apply pw_below_drewN | apply below_drew1) | exact HB.out)⟩⟩
          case rest =>
            clear HC30
            try clear c1
            try clear c2
            try clear p2
            try clear c3
            try clear c4
            try clear c5
            try clear p6
            try clear c12
            try clear c16
            try clear c16b0
            try clear c16b1
            try clear c17
            try clear c17b0
            try clear c17b1
            try clear c18
            try clear c20
            try clear c22
            try clear c31
            try clear c31b0
            try clear c31b1
            try clear c32
            try clear c32b0
            try clear c32b1
            try clear c33
            try clear c33b0
            try clear c33b1
            try clear c33b2
            try clear c34
            try clear c34b0
            try clear c35
            try clear c35b0
            try clear c36
            try clear c36b0
            try clear c37
            try clear c37b0
            try clear c38
            try clear c38b0
            try clear c39
            try clear c39b0
            try clear c40
            try clear c40b0
            try clear c41
            try clear c41b0
            try clear c42
            try clear c42b0
            try clear c43
            try clear c43b0
            try clear c44
            try clear c44b0
            try clear p2
            obtain ⟨kq, x114_29, rfl, HA, HJ29, HB⟩ := hcut
            cases kq with
            | zero => exact absurd HA.out (by simp [cameolaw01_UnitsTotal.j1])
            | succ kj29 =>
              have H := HA.out
              clear HA
              simp only [cameolaw01_UnitsTotal.j1] at H
              by_cases c45 : x114_29 = true
              · subst c45
                have H1 : (some false) = some r := by rw [if_pos rfl] at H; exact H
                clear H
                have H := H1
                clear H1
                obtain rfl := Option.some.inj H
                go_wp2
                go_ret
                exact ⟨by first | rfl | (simp [errW_none, errW_some] <;> rfl) | (simp [*, errW_none, errW_some] <;> rfl), by repeat (first | (with_reducible first | exact HB.out | apply below_alloc | apply pw_below_drewN | apply below_drew1) | exact HB.out)⟩
              · replace c45 := Bool.eq_false_iff.mpr c45
                subst c45
                have H1 : ((units_Concat.f kj29 a0 a1).bind fun bt452 => (if bt452.2 = 0 then ((units_Compare.f a0 bt452.1).bind fun bt454 => (if bt454.2 = 0 then (if ((decide (bt454.1 < 0)) == (a1.toList != ([] : List UInt8))) = true then (some (decide (bt454.1 ≤ 0))) else (some false)) else (some false))) else (some (bt452.2 == 6)))) = some r := by rw [if_neg (show ¬ (false = true) by decide)] at H; exact H
                clear H
                have H := H1
                clear H1
                replace H := Option.bind_eq_some_iff.mp H
                obtain ⟨⟨t452, t453⟩, A460, H⟩ := H
                replace H : (if t453 = 0 then ((units_Compare.f a0 t452).bind fun bt454 => (if bt454.2 = 0 then (if ((decide (bt454.1 < 0)) == (a1.toList != ([] : List UInt8))) = true then (some (decide (bt454.1 ≤ 0))) else (some false)) else (some false))) else (some (t453 == 6))) = some r := H
                have A46 := Aside0.mk A460
                clear A460
                by_cases c47 : t453 = 0
                · rw [if_pos c47] at H
                  have c47b0 : (t453 == 0) = true := beq_iff_eq.mpr c47
                  have c47b1 : (t453 != 0) = false := bne_eq_false_iff_eq.mpr c47
                  clear c47
                  replace H := Option.bind_eq_some_iff.mp H
                  obtain ⟨⟨t454, t455⟩, A480, H⟩ := H
                  replace H : (if t455 = 0 then (if ((decide (t454 < 0)) == (a1.toList != ([] : List UInt8))) = true then (some (decide (t454 ≤ 0))) else (some false)) else (some false)) = some r := H
                  have A48 := Aside0.mk A480
                  clear A480
                  by_cases c49 : t455 = 0
                  · rw [if_pos c49] at H
                    have c49b0 : (t455 == 0) = true := beq_iff_eq.mpr c49
                    have c49b1 : (t455 != 0) = false := bne_eq_false_iff_eq.mpr c49
                    clear c49
                    by_cases c50 : ((decide (t454 < 0)) == (a1.toList != ([] : List UInt8))) = true
                    · rw [if_pos c50] at H
                      have c50b0 : ((decide (t454 < 0)) == (a1.toList != ([] : List UInt8))) = true := c50
                      have c50z : (decide (t454 < 0) = !a1.toList.isEmpty) := by rw [← (show (a1.toList != ([] : List UInt8)) = !a1.toList.isEmpty by cases a1.toList <;> rfl)]; exact beq_iff_eq.mp c50b0
                      (try (have c50b1 : decide ((decide (t454 < 0)) = (a1.toList != ([] : List UInt8))) = true := by simpa using c50))
                      (try (have c50b2 : ((decide (t454 < 0)) == (a1.toList != ([] : List UInt8))) = true := by simpa using c50))
                      clear c50
                      obtain rfl := Option.some.inj H
                      go_wp2_with (first | ((with_reducible refine gate_callee (f := 35) rfl ?_); refine goesL_ (some 118) rfl rfl Tryd.func35 (by kernel_rfl) rfl #[.string a0, .string a1] rfl (by (try simp only [List.map_toArray, List.map_cons, List.map_nil]); first | done | rfl | (simp only [List.length_drop, List.length_take]; rfl)) ?_; (with_reducible refine (units_Concat.calls kj29 a0 a1 t452 t453 _ ?tabs A46.out).mono ?_); (case tabs => exact ⟨Tabs.below HT.out (by repeat (first | (with_reducible first | exact HB.out | apply below_alloc | apply pw_below_drewN | apply below_drew1) | exact HB.out))⟩); rintro e w51 ⟨rfl, hb⟩; refine ⟨_, rfl, ?_⟩; have n0_ := Aside0.mk (below_step (by repeat (first | (with_reducible first | exact HB.out | apply below_alloc | apply pw_below_drewN | apply below_drew1) | exact HB.out)) hb); clear HB; have HB := n0_; clear n0_; (try clear hb); (try clear hb2); (try clear hk); (try clear hi)) | ((with_reducible refine gate_callee (f := 37) rfl ?_); refine goesL_ (some 128) rfl rfl Tryd.func37 (by kernel_rfl) rfl #[.string a0, .string t452] rfl (by (try simp only [List.map_toArray, List.map_cons, List.map_nil]); first | done | rfl | (simp only [List.length_drop, List.length_take]; rfl)) ?_; (with_reducible refine (units_Compare.calls a0 t452 t454 t455 _ ?tabs A48.out).mono ?_); (case tabs => exact ⟨Tabs.below HT.out (by repeat (first | (with_reducible first | exact HB.out | apply below_alloc | apply pw_below_drewN | apply below_drew1) | exact HB.out))⟩); rintro e w52 ⟨rfl, hb⟩; refine ⟨_, rfl, ?_⟩; have n0_ := Aside0.mk (below_step (by repeat (first | (with_reducible first | exact HB.out | apply below_alloc | apply pw_below_drewN | apply below_drew1) | exact HB.out)) hb); clear HB; have HB := n0_; clear n0_; (try clear hb); (try clear hb2); (try clear hk); (try clear hi)))
                      go_ret
                      exact ⟨by first | rfl | (simp [errW_none, errW_some] <;> rfl) | (simp [*, errW_none, errW_some] <;> rfl), by repeat (first | (with_reducible first | exact HB.out | apply below_alloc | apply pw_below_drewN | apply below_drew1) | exact HB.out)⟩
                    · rw [if_neg c50] at H
                      have c50b0 : ((decide (t454 < 0)) == (a1.toList != ([] : List UInt8))) = false := by simpa using c50
                      have c50z : ¬ (decide (t454 < 0) = !a1.toList.isEmpty) := by rw [← (show (a1.toList != ([] : List UInt8)) = !a1.toList.isEmpty by cases a1.toList <;> rfl)]; exact fun e => absurd (beq_iff_eq.mpr e) (by rw [c50b0]; decide)
                      (try (have c50b1 : decide ((decide (t454 < 0)) = (a1.toList != ([] : List UInt8))) = false := by simpa using c50))
                      (try (have c50b2 : ((decide (t454 < 0)) == (a1.toList != ([] : List UInt8))) = false := by simpa using c50))
                      (try (have c50b3 : ¬ ((decide (t454 < 0)) = (a1.toList != ([] : List UInt8))) := by simpa using c50))
                      clear c50
                      obtain rfl := Option.some.inj H
                      go_wp2_with (first | ((with_reducible refine gate_callee (f := 35) rfl ?_); refine goesL_ (some 118) rfl rfl Tryd.func35 (by kernel_rfl) rfl #[.string a0, .string a1] rfl (by (try simp only [List.map_toArray, List.map_cons, List.map_nil]); first | done | rfl | (simp only [List.length_drop, List.length_take]; rfl)) ?_; (with_reducible refine (units_Concat.calls kj29 a0 a1 t452 t453 _ ?tabs A46.out).mono ?_); (case tabs => exact ⟨Tabs.below HT.out (by repeat (first | (with_reducible first | exact HB.out | apply below_alloc | apply pw_below_drewN | apply below_drew1) | exact HB.out))⟩); rintro e w53 ⟨rfl, hb⟩; refine ⟨_, rfl, ?_⟩; have n0_ := Aside0.mk (below_step (by repeat (first | (with_reducible first | exact HB.out | apply below_alloc | apply pw_below_drewN | apply below_drew1) | exact HB.out)) hb); clear HB; have HB := n0_; clear n0_; (try clear hb); (try clear hb2); (try clear hk); (try clear hi)) | ((with_reducible refine gate_callee (f := 37) rfl ?_); refine goesL_ (some 128) rfl rfl Tryd.func37 (by kernel_rfl) rfl #[.string a0, .string t452] rfl (by (try simp only [List.map_toArray, List.map_cons, List.map_nil]); first | done | rfl | (simp only [List.length_drop, List.length_take]; rfl)) ?_; (with_reducible refine (units_Compare.calls a0 t452 t454 t455 _ ?tabs A48.out).mono ?_); (case tabs => exact ⟨Tabs.below HT.out (by repeat (first | (with_reducible first | exact HB.out | apply below_alloc | apply pw_below_drewN | apply below_drew1) | exact HB.out))⟩); rintro e w54 ⟨rfl, hb⟩; refine ⟨_, rfl, ?_⟩; have n0_ := Aside0.mk (below_step (by repeat (first | (with_reducible first | exact HB.out | apply below_alloc | apply pw_below_drewN | apply below_drew1) | exact HB.out)) hb); clear HB; have HB := n0_; clear n0_; (try clear hb); (try clear hb2); (try clear hk); (try clear hi)))
                      go_ret
                      exact ⟨by first | rfl | (simp [errW_none, errW_some] <;> rfl) | (simp [*, errW_none, errW_some] <;> rfl), by repeat (first | (with_reducible first | exact HB.out | apply below_alloc | apply pw_below_drewN | apply below_drew1) | exact HB.out)⟩
                  · rw [if_neg c49] at H
                    have c49b0 : (t455 == 0) = false := beq_eq_false_iff_ne.mpr c49
                    have c49b1 : (t455 != 0) = true := bne_iff_ne.mpr c49
                    obtain rfl := Option.some.inj H
                    go_wp2_with (first | ((with_reducible refine gate_callee (f := 35) rfl ?_); refine goesL_ (some 118) rfl rfl Tryd.func35 (by kernel_rfl) rfl #[.string a0, .string a1] rfl (by (try simp only [List.map_toArray, List.map_cons, List.map_nil]); first | done | rfl | (simp only [List.length_drop, List.length_take]; rfl)) ?_; (with_reducible refine (units_Concat.calls kj29 a0 a1 t452 t453 _ ?tabs A46.out).mono ?_); (case tabs => exact ⟨Tabs.below HT.out (by repeat (first | (with_reducible first | exact HB.out | apply below_alloc | apply pw_below_drewN | apply below_drew1) | exact HB.out))⟩); rintro e w55 ⟨rfl, hb⟩; refine ⟨_, rfl, ?_⟩; have n0_ := Aside0.mk (below_step (by repeat (first | (with_reducible first | exact HB.out | apply below_alloc | apply pw_below_drewN | apply below_drew1) | exact HB.out)) hb); clear HB; have HB := n0_; clear n0_; (try clear hb); (try clear hb2); (try clear hk); (try clear hi)) | ((with_reducible refine gate_callee (f := 37) rfl ?_); refine goesL_ (some 128) rfl rfl Tryd.func37 (by kernel_rfl) rfl #[.string a0, .string t452] rfl (by (try simp only [List.map_toArray, List.map_cons, List.map_nil]); first | done | rfl | (simp only [List.length_drop, List.length_take]; rfl)) ?_; (with_reducible refine (units_Compare.calls a0 t452 t454 t455 _ ?tabs A48.out).mono ?_); (case tabs => exact ⟨Tabs.below HT.out (by repeat (first | (with_reducible first | exact HB.out | apply below_alloc | apply pw_below_drewN | apply below_drew1) | exact HB.out))⟩); rintro e w56 ⟨rfl, hb⟩; refine ⟨_, rfl, ?_⟩; have n0_ := Aside0.mk (below_step (by repeat (first | (with_reducible first | exact HB.out | apply below_alloc | apply pw_below_drewN | apply below_drew1) | exact HB.out)) hb); clear HB; have HB := n0_; clear n0_; (try clear hb); (try clear hb2); (try clear hk); (try clear hi)))
                    go_ret
                    exact ⟨by first | rfl | (simp [errW_none, errW_some] <;> rfl) | (simp [*, errW_none, errW_some] <;> rfl), by repeat (first | (with_reducible first | exact HB.out | apply below_alloc | apply pw_below_drewN | apply below_drew1) | exact HB.out)⟩
                · rw [if_neg c47] at H
                  have c47b0 : (t453 == 0) = false := beq_eq_false_iff_ne.mpr c47
                  have c47b1 : (t453 != 0) = true := bne_iff_ne.mpr c47
                  obtain rfl := Option.some.inj H
                  go_wp2_with (first | ((with_reducible refine gate_callee (f := 35) rfl ?_); refine goesL_ (some 118) rfl rfl Tryd.func35 (by kernel_rfl) rfl #[.string a0, .string a1] rfl (by (try simp only [List.map_toArray, List.map_cons, List.map_nil]); first | done | rfl | (simp only [List.length_drop, List.length_take]; rfl)) ?_; (with_reducible refine (units_Concat.calls kj29 a0 a1 t452 t453 _ ?tabs A46.out).mono ?_); (case tabs => exact ⟨Tabs.below HT.out (by repeat (first | (with_reducible first | exact HB.out | apply below_alloc | apply pw_below_drewN | apply below_drew1) | exact HB.out))⟩); rintro e w57 ⟨rfl, hb⟩; refine ⟨_, rfl, ?_⟩; have n0_ := Aside0.mk (below_step (by repeat (first | (with_reducible first | exact HB.out | apply below_alloc | apply pw_below_drewN | apply below_drew1) | exact HB.out)) hb); clear HB; have HB := n0_; clear n0_; (try clear hb); (try clear hb2); (try clear hk); (try clear hi)))
                  go_ret
                  exact ⟨by first | rfl | (simp [errW_none, errW_some] <;> rfl) | (simp [*, errW_none, errW_some] <;> rfl), by repeat (first | (with_reducible first | exact HB.out | apply below_alloc | apply pw_below_drewN | apply below_drew1) | exact HB.out)⟩
  · replace c5 := Bool.eq_false_iff.mpr c5
    subst c5
    have H1 : (some false) = some r := by rw [if_neg (show ¬ (false = true) by decide)] at H; exact H
    clear H
    have H := H1
    clear H1
    obtain rfl := Option.some.inj H
    go_enter Tryd.func12, Tryd.ntmps12
    go_wp2_with (first | ((with_reducible refine gate_callee (f := 50) rfl ?_); refine goesL_ (some 18) rfl rfl Tryd.func50 (by kernel_rfl) rfl #[] rfl (by (try simp only [List.map_toArray, List.map_cons, List.map_nil]); first | done | rfl | (simp only [List.length_drop, List.length_take]; rfl)) ?_; (with_reducible refine (cameolaw01_awake.calls k  false _ ?tabs A4.out).mono ?_); (case tabs => exact ⟨Tabs.below HT.out (by repeat (first | (with_reducible first | exact HB.out | apply below_alloc | apply pw_below_drewN | apply below_drew1) | exact HB.out))⟩); rintro e w58 ⟨rfl, hb⟩; refine ⟨_, rfl, ?_⟩; have n0_ := Aside0.mk (below_step (by repeat (first | (with_reducible first | exact HB.out | apply below_alloc | apply pw_below_drewN | apply below_drew1) | exact HB.out)) hb); clear HB; have HB := n0_; clear n0_; (try clear hb); (try clear hb2); (try clear hk); (try clear hi)))
    go_ret
    exact ⟨by first | rfl | (simp [errW_none, errW_some] <;> rfl) | (simp [*, errW_none, errW_some] <;> rfl), by repeat (first | (with_reducible first | exact HB.out | apply below_alloc | apply pw_below_drewN | apply below_drew1) | exact HB.out)⟩

/-- THE ONE PURE STATEMENT of cameolaw01_UnitsTotal: yours. -/
def cameolaw01_UnitsTotal.Pure : Prop := ∀ (a0 : ByteArray) (a1 : ByteArray) (a2 : ByteArray), a0.size ≤ 140737488351232 → a1.size ≤ 140737488351232 → a2.size ≤ 140737488351232 → ∃ k, cameolaw01_UnitsTotal.f k a0 a1 a2 = some true
theorem cameolaw01_UnitsTotal.walk (P : cameolaw01_UnitsTotal.Pure) (a0 : ByteArray) (a1 : ByteArray) (a2 : ByteArray) (w : World) (HT : Aside0 (Tabs w)) (w0 : a0.size ≤ 140737488351232) (w1 : a1.size ≤ 140737488351232) (w2 : a2.size ≤ 140737488351232) :
    Calls Tryd.prog 12 #[.string a0, .string a1, .string a2] w fun e w' => e = .returned (.bool true) ∧ Below w.heap.size w w' := by
  obtain ⟨k, h⟩ := P a0 a1 a2 w0 w1 w2
  refine (cameolaw01_UnitsTotal.calls k a0 a1 a2 true w HT h).mono ?_
  rintro e w' ⟨rfl, hd⟩
  exact ⟨rfl, hd⟩

end Go.Proofs.YtiegeggafhmehaaDoor.U
