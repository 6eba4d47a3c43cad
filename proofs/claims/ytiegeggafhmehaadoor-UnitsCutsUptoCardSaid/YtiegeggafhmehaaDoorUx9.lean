-- Out of the translation, by the kit's print with some functions given (wip/myprint.py)
import Derived.Test.YtiegeggafhmehaaDoorUx0
import Derived.Test.YtiegeggafhmehaaDoorUx6
import Derived.Test.YtiegeggafhmehaaDoorUx7
import Derived.Test.YtiegeggafhmehaaDoorUx8
namespace Go.Proofs.YtiegeggafhmehaaDoor.U
open Go.RowKit Go.Proofs.YtiegeggafhmehaaDoorW.PrintWords Go.Proofs.YtiegeggafhmehaaDoorW.PrintLast Go.Proofs.YtiegeggafhmehaaDoorW.PrintMore
attribute [local go_sem] max2_int min2_int max_two min_two max_three min_three max_four min_four   -- for this text's walks alone
set_option linter.unusedVariables false
set_option linter.unusedSimpArgs false

/-! ### cameolaw01_UnitsCuts: function 9 -/
mutual
def cameolaw01_UnitsCuts.j0 : Nat → ByteArray → Int → Int → Int → Bool → Option (Bool)
  | 0, _, _, _, _, _ => none
  | k + 1, x0, x1, x5, x6, x41 => if x41 = true then (if x6 = 0 then (some true) else ((units_Valid.f x0).bind fun t420 => (some (!t420)))) else (if (IntKind.u64.wrap (wrap64 (x5 + 1))) = 0 then (none) else ((units_Slice.f k x0 0 (wrap64 (Int.tmod (IntKind.u64.wrap (x1)) (IntKind.u64.wrap (wrap64 (x5 + 1)))))).bind fun bt421 => ((units_Slice.f k x0 (wrap64 (Int.tmod (IntKind.u64.wrap (x1)) (IntKind.u64.wrap (wrap64 (x5 + 1))))) x5).bind fun bt423 => ((units_Concat.f k bt421.1 bt423.1).bind fun bt425 => ((units_Len.f bt421.1).bind fun bt427 => ((units_Len.f bt423.1).bind fun bt429 => (if bt421.2 = 0 then (if bt423.2 = 0 then (if bt425.2 = 0 then (if bt427.2 = 0 then (if bt429.2 = 0 then (if bt425.1.toList = x0.toList then (if bt427.1 = (wrap64 (Int.tmod (IntKind.u64.wrap (x1)) (IntKind.u64.wrap (wrap64 (x5 + 1))))) then (cameolaw01_UnitsCuts.j1 k x0 x5 (wrap64 (Int.tmod (IntKind.u64.wrap (x1)) (IntKind.u64.wrap (wrap64 (x5 + 1))))) bt423.1 (bt429.1 != (wrap64 (x5 - (wrap64 (Int.tmod (IntKind.u64.wrap (x1)) (IntKind.u64.wrap (wrap64 (x5 + 1))))))))) else (cameolaw01_UnitsCuts.j1 k x0 x5 (wrap64 (Int.tmod (IntKind.u64.wrap (x1)) (IntKind.u64.wrap (wrap64 (x5 + 1))))) bt423.1 true)) else (cameolaw01_UnitsCuts.j1 k x0 x5 (wrap64 (Int.tmod (IntKind.u64.wrap (x1)) (IntKind.u64.wrap (wrap64 (x5 + 1))))) bt423.1 true)) else (cameolaw01_UnitsCuts.j1 k x0 x5 (wrap64 (Int.tmod (IntKind.u64.wrap (x1)) (IntKind.u64.wrap (wrap64 (x5 + 1))))) bt423.1 true)) else (cameolaw01_UnitsCuts.j1 k x0 x5 (wrap64 (Int.tmod (IntKind.u64.wrap (x1)) (IntKind.u64.wrap (wrap64 (x5 + 1))))) bt423.1 true)) else (cameolaw01_UnitsCuts.j1 k x0 x5 (wrap64 (Int.tmod (IntKind.u64.wrap (x1)) (IntKind.u64.wrap (wrap64 (x5 + 1))))) bt423.1 true)) else (cameolaw01_UnitsCuts.j1 k x0 x5 (wrap64 (Int.tmod (IntKind.u64.wrap (x1)) (IntKind.u64.wrap (wrap64 (x5 + 1))))) bt423.1 true)) else (cameolaw01_UnitsCuts.j1 k x0 x5 (wrap64 (Int.tmod (IntKind.u64.wrap (x1)) (IntKind.u64.wrap (wrap64 (x5 + 1))))) bt423.1 true))))))))
def cameolaw01_UnitsCuts.j1 : Nat → ByteArray → Int → Int → ByteArray → Bool → Option (Bool)
  | 0, _, _, _, _, _ => none
  | k + 1, x0, x5, x7, x10, x119 => if x119 = true then (some false) else ((units_Units.f x0).bind fun bt431 => (if (bt431.1.length : Int) = x5 then (cameolaw01_UnitsCuts.l0 k x0 x5 x7 x10 bt431.1 0) else (some false)))
def cameolaw01_UnitsCuts.l0 : Nat → ByteArray → Int → Int → ByteArray → List Int → Int → Option (Bool)
  | 0, _, _, _, _, _, _ => none
  | k + 1, x0, x5, x7, x10, x18, x20 => if x20 < x5 then ((units_At.f x0 x20).bind fun bt435 => (if bt435.2 = 0 then (if 0 ≤ x20 then (if x20 < (x18.length : Int) then (if bt435.1 = (rd x18 x20) then (cameolaw01_UnitsCuts.l0 k x0 x5 x7 x10 x18 (wrap64 (x20 + 1))) else (some false)) else (none)) else (none)) else (some false))) else ((units_Index.f k x0 x10 x7).bind fun bt438 => (if bt438.2 = 0 then (some (bt438.1 == x7)) else (some false)))
end
def cameolaw01_UnitsCuts.f (k : Nat) (a0 : ByteArray) (a1 : Int) : Option (Bool) := (cameolaw01_awake.f k).bind fun t417 => (if t417 = true then ((units_Len.f a0).bind fun bt418 => (if bt418.2 = 0 then (if (a0.size : Int) > 1048576 then (cameolaw01_UnitsCuts.j0 k a0 a1 bt418.1 bt418.2 true) else (cameolaw01_UnitsCuts.j0 k a0 a1 bt418.1 bt418.2 (decide (bt418.1 > 3000)))) else (cameolaw01_UnitsCuts.j0 k a0 a1 bt418.1 bt418.2 true))) else (some false))
theorem cameolaw01_UnitsCuts.mono_l : ∀ k, (∀ y0 y1 y2 y3 y4, LeO (cameolaw01_UnitsCuts.j0 k y0 y1 y2 y3 y4) (cameolaw01_UnitsCuts.j0 (k + 1) y0 y1 y2 y3 y4)) ∧ (∀ y0 y1 y2 y3 y4, LeO (cameolaw01_UnitsCuts.j1 k y0 y1 y2 y3 y4) (cameolaw01_UnitsCuts.j1 (k + 1) y0 y1 y2 y3 y4)) ∧ (∀ y0 y1 y2 y3 y4 y5, LeO (cameolaw01_UnitsCuts.l0 k y0 y1 y2 y3 y4 y5) (cameolaw01_UnitsCuts.l0 (k + 1) y0 y1 y2 y3 y4 y5))
  | 0 => ⟨fun _ _ _ _ _ r h => by simp [cameolaw01_UnitsCuts.j0] at h, fun _ _ _ _ _ r h => by simp [cameolaw01_UnitsCuts.j1] at h, fun _ _ _ _ _ _ r h => by simp [cameolaw01_UnitsCuts.l0] at h⟩
  | k + 1 => by
    obtain ⟨ih0, ih1, ih2⟩ := cameolaw01_UnitsCuts.mono_l k
    refine ⟨?_, ?_, ?_⟩
    · intro y0 y1 y2 y3 y4
      unfold cameolaw01_UnitsCuts.j0
      repeat' first
      | (with_reducible exact ih0 _ _ _ _ _)
      | (with_reducible exact ih1 _ _ _ _ _)
      | (with_reducible exact ih2 _ _ _ _ _ _)
      | (with_reducible exact cameolaw01_awake.mono _)
      | (with_reducible exact units_Concat.mono _ _ _)
      | (with_reducible exact units_Index.mono _ _ _ _)
      | (with_reducible exact units_Slice.mono _ _ _ _)
      | (with_reducible exact LeO.refl _)
      | (with_reducible exact LeO.none _)
      | (with_reducible refine LeO.ite ?_ ?_)
      | (with_reducible refine LeO.bind ?_ (fun _ => ?_))
      | exact ih0 _ _ _ _ _
      | exact ih1 _ _ _ _ _
      | exact ih2 _ _ _ _ _ _
      | exact cameolaw01_awake.mono _
      | exact units_Concat.mono _ _ _
      | exact units_Index.mono _ _ _ _
      | exact units_Slice.mono _ _ _ _
      | exact LeO.none _
      | refine LeO.ite ?_ ?_
      | refine LeO.bind ?_ (fun _ => ?_)
    · intro y0 y1 y2 y3 y4
      unfold cameolaw01_UnitsCuts.j1
      repeat' first
      | (with_reducible exact ih0 _ _ _ _ _)
      | (with_reducible exact ih1 _ _ _ _ _)
      | (with_reducible exact ih2 _ _ _ _ _ _)
      | (with_reducible exact cameolaw01_awake.mono _)
      | (with_reducible exact units_Concat.mono _ _ _)
      | (with_reducible exact units_Index.mono _ _ _ _)
      | (with_reducible exact units_Slice.mono _ _ _ _)
      | (with_reducible exact LeO.refl _)
      | (with_reducible exact LeO.none _)
      | (with_reducible refine LeO.ite ?_ ?_)
      | (with_reducible refine LeO.bind ?_ (fun _ => ?_))
      | exact ih0 _ _ _ _ _
      | exact ih1 _ _ _ _ _
      | exact ih2 _ _ _ _ _ _
      | exact cameolaw01_awake.mono _
      | exact units_Concat.mono _ _ _
      | exact units_Index.mono _ _ _ _
      | exact units_Slice.mono _ _ _ _
      | exact LeO.none _
      | refine LeO.ite ?_ ?_
      | refine LeO.bind ?_ (fun _ => ?_)
    · intro y0 y1 y2 y3 y4 y5
      unfold cameolaw01_UnitsCuts.l0
      repeat' first
      | (with_reducible exact ih0 _ _ _ _ _)
      | (with_reducible exact ih1 _ _ _ _ _)
      | (with_reducible exact ih2 _ _ _ _ _ _)
      | (with_reducible exact cameolaw01_awake.mono _)
      | (with_reducible exact units_Concat.mono _ _ _)
      | (with_reducible exact units_Index.mono _ _ _ _)
      | (with_reducible exact units_Slice.mono _ _ _ _)
      | (with_reducible exact LeO.refl _)
      | (with_reducible exact LeO.none _)
      | (with_reducible refine LeO.ite ?_ ?_)
      | (with_reducible refine LeO.bind ?_ (fun _ => ?_))
      | exact ih0 _ _ _ _ _
      | exact ih1 _ _ _ _ _
      | exact ih2 _ _ _ _ _ _
      | exact cameolaw01_awake.mono _
      | exact units_Concat.mono _ _ _
      | exact units_Index.mono _ _ _ _
      | exact units_Slice.mono _ _ _ _
      | exact LeO.none _
      | refine LeO.ite ?_ ?_
      | refine LeO.bind ?_ (fun _ => ?_)
theorem cameolaw01_UnitsCuts.mono : ∀ a0 a1 k, LeO (cameolaw01_UnitsCuts.f k a0 a1) (cameolaw01_UnitsCuts.f (k + 1) a0 a1) := by
  intro a0 a1 k
  obtain ⟨ih0, ih1, ih2⟩ := cameolaw01_UnitsCuts.mono_l k
  unfold cameolaw01_UnitsCuts.f
  repeat' first
      | (with_reducible exact ih0 _ _ _ _ _)
      | (with_reducible exact ih1 _ _ _ _ _)
      | (with_reducible exact ih2 _ _ _ _ _ _)
      | (with_reducible exact cameolaw01_awake.mono _)
      | (with_reducible exact units_Concat.mono _ _ _)
      | (with_reducible exact units_Index.mono _ _ _ _)
      | (with_reducible exact units_Slice.mono _ _ _ _)
      | (with_reducible exact LeO.refl _)
      | (with_reducible exact LeO.none _)
      | (with_reducible refine LeO.ite ?_ ?_)
      | (with_reducible refine LeO.bind ?_ (fun _ => ?_))
      | exact ih0 _ _ _ _ _
      | exact ih1 _ _ _ _ _
      | exact ih2 _ _ _ _ _ _
      | exact cameolaw01_awake.mono _
      | exact units_Concat.mono _ _ _
      | exact units_Index.mono _ _ _ _
      | exact units_Slice.mono _ _ _ _
      | exact LeO.none _
      | refine LeO.ite ?_ ?_
      | refine LeO.bind ?_ (fun _ => ?_)
set_option maxHeartbeats 8000000 in
set_option maxRecDepth 100000 in
theorem cameolaw01_UnitsCuts.calls (k : Nat) (a0 : ByteArray) (a1 : Int) (r : Bool) (w : World) (HT : Aside0 (Tabs w)) (h : cameolaw01_UnitsCuts.f k a0 a1 = some r) :
    Calls Tryd.prog 9 #[.string a0, .int .i64 a1] w fun e w' => e = .returned (.bool r) ∧ Below w.heap.size w w' := by
  have HB := Aside0.mk (Below.refl w.heap.size w)
  have H : ((cameolaw01_awake.f k).bind fun t417 => (if t417 = true then ((units_Len.f a0).bind fun bt418 => (if bt418.2 = 0 then (if (a0.size : Int) > 1048576 then (cameolaw01_UnitsCuts.j0 k a0 a1 bt418.1 bt418.2 true) else (cameolaw01_UnitsCuts.j0 k a0 a1 bt418.1 bt418.2 (decide (bt418.1 > 3000)))) else (cameolaw01_UnitsCuts.j0 k a0 a1 bt418.1 bt418.2 true))) else (some false))) = some r := h
  clear h
  replace H := Option.bind_eq_some_iff.mp H
  obtain ⟨t417, A30, H⟩ := H
  replace H : (if t417 = true then ((units_Len.f a0).bind fun bt418 => (if bt418.2 = 0 then (if (a0.size : Int) > 1048576 then (cameolaw01_UnitsCuts.j0 k a0 a1 bt418.1 bt418.2 true) else (cameolaw01_UnitsCuts.j0 k a0 a1 bt418.1 bt418.2 (decide (bt418.1 > 3000)))) else (cameolaw01_UnitsCuts.j0 k a0 a1 bt418.1 bt418.2 true))) else (some false)) = some r := H
  have A3 := Aside0.mk A30
  clear A30
  by_cases c4 : t417 = true
  · subst c4
    have H1 : ((units_Len.f a0).bind fun bt418 => (if bt418.2 = 0 then (if (a0.size : Int) > 1048576 then (cameolaw01_UnitsCuts.j0 k a0 a1 bt418.1 bt418.2 true) else (cameolaw01_UnitsCuts.j0 k a0 a1 bt418.1 bt418.2 (decide (bt418.1 > 3000)))) else (cameolaw01_UnitsCuts.j0 k a0 a1 bt418.1 bt418.2 true))) = some r := by rw [if_pos rfl] at H; exact H
    clear H
    have H := H1
    clear H1
    replace H := Option.bind_eq_some_iff.mp H
    obtain ⟨⟨t418, t419⟩, A50, H⟩ := H
    replace H : (if t419 = 0 then (if (a0.size : Int) > 1048576 then (cameolaw01_UnitsCuts.j0 k a0 a1 t418 t419 true) else (cameolaw01_UnitsCuts.j0 k a0 a1 t418 t419 (decide (t418 > 3000)))) else (cameolaw01_UnitsCuts.j0 k a0 a1 t418 t419 true)) = some r := H
    have A5 := Aside0.mk A50
    clear A50
    have HC6 := Aside0.mk H
    clear H
    go_enter Tryd.func9, Tryd.ntmps9
    go_upto_region 4 with (first | ((with_reducible refine gate_callee (f := 50) rfl ?_); refine goesL_ (some 24) rfl rfl Tryd.func50 (by kernel_rfl) rfl #[] rfl (by (try simp only [List.map_toArray, List.map_cons, List.map_nil]); first | done | rfl | (simp only [List.length_drop, List.length_take]; rfl)) ?_; (with_reducible refine (cameolaw01_awake.calls k  true _ ?tabs A3.out).mono ?_); (case tabs => exact ⟨Tabs.below HT.out (by repeat (first | (with_reducible first | exact HB.out | apply below_alloc | apply pw_below_drewN | apply below_drew1) | exact HB.out))⟩); rintro e w7 ⟨rfl, hb⟩; refine ⟨_, rfl, ?_⟩; have n0_ := Aside0.mk (below_step (by repeat (first | (with_reducible first | exact HB.out | apply below_alloc | apply pw_below_drewN | apply below_drew1) | exact HB.out)) hb); clear HB; have HB := n0_; clear n0_; (try clear hb); (try clear hb2); (try clear hk); (try clear hi)) | ((with_reducible refine gate_callee (f := 51) rfl ?_); refine goesL_ (some 28) rfl rfl Tryd.func51 (by kernel_rfl) rfl #[.string a0] rfl (by (try simp only [List.map_toArray, List.map_cons, List.map_nil]); first | done | rfl | (simp only [List.length_drop, List.length_take]; rfl)) ?_; (with_reducible refine (units_Len.calls a0 t418 t419 _ ?tabs A5.out).mono ?_); (case tabs => exact ⟨Tabs.below HT.out (by repeat (first | (with_reducible first | exact HB.out | apply below_alloc | apply pw_below_drewN | apply below_drew1) | exact HB.out))⟩); rintro e w8 ⟨rfl, hb⟩; refine ⟨_, rfl, ?_⟩; have n0_ := Aside0.mk (below_step (by repeat (first | (with_reducible first | exact HB.out | apply below_alloc | apply pw_below_drewN | apply below_drew1) | exact HB.out)) hb); clear HB; have HB := n0_; clear n0_; (try clear hb); (try clear hb2); (try clear hk); (try clear hi)))
    (try simp only [Act.put, List.setIfInBounds_toArray, List.set_cons_zero, List.set_cons_succ])
    go_cut [41] (fun v41 wc => ∃ (kq : Nat) (x41_5 : Bool), v41 = .bool x41_5 ∧ Aside0 (cameolaw01_UnitsCuts.j0 kq a0 a1 t418 t419 x41_5 = some r) ∧ Aside0 (kq ≤ k) ∧ Aside0 (Below w.heap.size w wc))
    case first =>
      have H := HC6.out
      clear HC6
      by_cases c9 : t419 = 0
      · rw [if_pos c9] at H
        have c9b0 : (t419 == 0) = true := beq_iff_eq.mpr c9
        have c9b1 : (t419 != 0) = false := bne_eq_false_iff_eq.mpr c9
        clear c9
        (first | rw [c9b0] | (simp only [i64_w, i32_w]; rw [c9b0]) | skip)
        by_cases c10 : (a0.size : Int) > 1048576
        · rw [if_pos c10] at H
          have c10b0 : decide (1048576 < (a0.size : Int)) = true := decide_eq_true c10
          have c10b1 : decide (1048576 < a0.size) = true := decide_eq_true (by omega)
          clear c10
          have H' := Aside0.mk H
          clear H
          go_wp2
          go_meet
          case rel => exact ⟨_, (true), (by first | rfl | (simp; done) | (simp [*]; done)), H', ⟨by first | omega | exact Nat.le_refl _⟩, ⟨by repeat (first | (with_reducible first | exact HB.out | apply below_alloc | apply pw_below_drewN | apply below_drew1) | exact HB.out)⟩⟩
        · rw [if_neg c10] at H
          have c10b0 : decide (1048576 < (a0.size : Int)) = false := decide_eq_false c10
          have c10b1 : decide (1048576 < a0.size) = false := decide_eq_false (by omega)
          clear c10
          have H' := Aside0.mk H
          clear H
          go_wp2
          go_meet
          case rel => exact ⟨_, (decide (t418 > 3000)), (by first | rfl | (simp; done) | (simp [*]; done)), H', ⟨by first | omega | exact Nat.le_refl _⟩, ⟨by repeat (first | (with_reducible first | exact HB.out | apply below_alloc | apply pw_below_drewN | apply below_drew1) | exact HB.out)⟩⟩
      · rw [if_neg c9] at H
        have c9b0 : (t419 == 0) = false := beq_eq_false_iff_ne.mpr c9
        have c9b1 : (t419 != 0) = true := bne_iff_ne.mpr c9
        (first | rw [c9b0] | (simp only [i64_w, i32_w]; rw [c9b0]) | skip)
        have H' := Aside0.mk H
        clear H
        go_wp2
        go_meet
        case rel => exact ⟨_, (true), (by first | rfl | (simp; done) | (simp [*]; done)), H', ⟨by first | omega | exact Nat.le_refl _⟩, ⟨by repeat (first | (with_reducible first | exact HB.out | apply below_alloc | apply pw_below_drewN | apply below_drew1) | exact HB.out)⟩⟩
    case rest =>
      clear HC6
      try clear c1
      try clear p2
      try clear c4
      try clear c5
      try clear c9
      try clear c9b0
      try clear c9b1
      try clear c10
      try clear c10b0
      try clear c10b1
      obtain ⟨kq, x41_5, rfl, HA, HJ5, HB⟩ := hcut
      cases kq with
      | zero => exact absurd HA.out (by simp [cameolaw01_UnitsCuts.j0])
      | succ kj5 =>
        have H := HA.out
        clear HA
        simp only [cameolaw01_UnitsCuts.j0] at H
        by_cases c11 : x41_5 = true
        · subst c11
          have H1 : (if t419 = 0 then (some true) else ((units_Valid.f a0).bind fun t420 => (some (!t420)))) = some r := by rw [if_pos rfl] at H; exact H
          clear H
          have H := H1
          clear H1
          by_cases c12 : t419 = 0
          · rw [if_pos c12] at H
            have c12b0 : (t419 == 0) = true := beq_iff_eq.mpr c12
            have c12b1 : (t419 != 0) = false := bne_eq_false_iff_eq.mpr c12
            clear c12
            obtain rfl := Option.some.inj H
            go_wp2
            go_ret
            exact ⟨by first | rfl | (simp [errW_none, errW_some] <;> rfl) | (simp [*, errW_none, errW_some] <;> rfl), by repeat (first | (with_reducible first | exact HB.out | apply below_alloc | apply pw_below_drewN | apply below_drew1) | exact HB.out)⟩
          · rw [if_neg c12] at H
            have c12b0 : (t419 == 0) = false := beq_eq_false_iff_ne.mpr c12
            have c12b1 : (t419 != 0) = true := bne_iff_ne.mpr c12
            replace H := Option.bind_eq_some_iff.mp H
            obtain ⟨t420, A130, H⟩ := H
            replace H : (some (!t420)) = some r := H
            have A13 := Aside0.mk A130
            clear A130
            obtain rfl := Option.some.inj H
            go_wp2_with (first | (go_at_call 52; (with_reducible refine (units_Valid.calls a0 t420 _ ?tabs A13.out).mono ?_); (case tabs => exact ⟨Tabs.below HT.out (by repeat (first | (with_reducible first | exact HB.out | apply below_alloc | apply pw_below_drewN | apply below_drew1) | exact HB.out))⟩); rintro e w14 ⟨rfl, hb⟩; have n0_ := Aside0.mk (below_step (by repeat (first | (with_reducible first | exact HB.out | apply below_alloc | apply pw_below_drewN | apply below_drew1) | exact HB.out)) hb); clear HB; have HB := n0_; clear n0_; (try clear hb); (try clear hb2); (try clear hk); (try clear hi)))
            go_ret
            exact ⟨by first | rfl | (simp [errW_none, errW_some] <;> rfl) | (simp [*, errW_none, errW_some] <;> rfl), by repeat (first | (with_reducible first | exact HB.out | apply below_alloc | apply pw_below_drewN | apply below_drew1) | exact HB.out)⟩
        · replace c11 := Bool.eq_false_iff.mpr c11
          subst c11
          have H1 : (if (IntKind.u64.wrap (wrap64 (t418 + 1))) = 0 then (none) else ((units_Slice.f kj5 a0 0 (wrap64 (Int.tmod (IntKind.u64.wrap (a1)) (IntKind.u64.wrap (wrap64 (t418 + 1)))))).bind fun bt421 => ((units_Slice.f kj5 a0 (wrap64 (Int.tmod (IntKind.u64.wrap (a1)) (IntKind.u64.wrap (wrap64 (t418 + 1))))) t418).bind fun bt423 => ((units_Concat.f kj5 bt421.1 bt423.1).bind fun bt425 => ((units_Len.f bt421.1).bind fun bt427 => ((units_Len.f bt423.1).bind fun bt429 => (if bt421.2 = 0 then (if bt423.2 = 0 then (if bt425.2 = 0 then (if bt427.2 = 0 then (if bt429.2 = 0 then (if bt425.1.toList = a0.toList then (if bt427.1 = (wrap64 (Int.tmod (IntKind.u64.wrap (a1)) (IntKind.u64.wrap (wrap64 (t418 + 1))))) then (cameolaw01_UnitsCuts.j1 kj5 a0 t418 (wrap64 (Int.tmod (IntKind.u64.wrap (a1)) (IntKind.u64.wrap (wrap64 (t418 + 1))))) bt423.1 (bt429.1 != (wrap64 (t418 - (wrap64 (Int.tmod (IntKind.u64.wrap (a1)) (IntKind.u64.wrap (wrap64 (t418 + 1))))))))) else (cameolaw01_UnitsCuts.j1 kj5 a0 t418 (wrap64 (Int.tmod (IntKind.u64.wrap (a1)) (IntKind.u64.wrap (wrap64 (t418 + 1))))) bt423.1 true)) else (cameolaw01_UnitsCuts.j1 kj5 a0 t418 (wrap64 (Int.tmod (IntKind.u64.wrap (a1)) (IntKind.u64.wrap (wrap64 (t418 + 1))))) bt423.1 true)) else (cameolaw01_UnitsCuts.j1 kj5 a0 t418 (wrap64 (Int.tmod (IntKind.u64.wrap (a1)) (IntKind.u64.wrap (wrap64 (t418 + 1))))) bt423.1 true)) else (cameolaw01_UnitsCuts.j1 kj5 a0 t418 (wrap64 (Int.tmod (IntKind.u64.wrap (a1)) (IntKind.u64.wrap (wrap64 (t418 + 1))))) bt423.1 true)) else (cameolaw01_UnitsCuts.j1 kj5 a0 t418 (wrap64 (Int.tmod (IntKind.u64.wrap (a1)) (IntKind.u64.wrap (wrap64 (t418 + 1))))) bt423.1 true)) else (cameolaw01_UnitsCuts.j1 kj5 a0 t418 (wrap64 (Int.tmod (IntKind.u64.wrap (a1)) (IntKind.u64.wrap (wrap64 (t418 + 1))))) bt423.1 true)) else (cameolaw01_UnitsCuts.j1 kj5 a0 t418 (wrap64 (Int.tmod (IntKind.u64.wrap (a1)) (IntKind.u64.wrap (wrap64 (t418 + 1))))) bt423.1 true)))))))) = some r := by rw [if_neg (show ¬ (false = true) by decide)] at H; exact H
          clear H
          have H := H1
          clear H1
          by_cases c15 : (IntKind.u64.wrap (wrap64 (t418 + 1))) = 0
          · rw [if_pos c15] at H
            exact absurd H (by simp)
          · rw [if_neg c15] at H
            have c15b0 : ((IntKind.u64.wrap (wrap64 (t418 + 1))) == 0) = false := beq_eq_false_iff_ne.mpr c15
            have c15b1 : ((IntKind.u64.wrap (wrap64 (t418 + 1))) != 0) = true := bne_iff_ne.mpr c15
            replace H := Option.bind_eq_some_iff.mp H
            obtain ⟨⟨t421, t422⟩, A160, H⟩ := H
            replace H : ((units_Slice.f kj5 a0 (wrap64 (Int.tmod (IntKind.u64.wrap (a1)) (IntKind.u64.wrap (wrap64 (t418 + 1))))) t418).bind fun bt423 => ((units_Concat.f kj5 t421 bt423.1).bind fun bt425 => ((units_Len.f t421).bind fun bt427 => ((units_Len.f bt423.1).bind fun bt429 => (if t422 = 0 then (if bt423.2 = 0 then (if bt425.2 = 0 then (if bt427.2 = 0 then (if bt429.2 = 0 then (if bt425.1.toList = a0.toList then (if bt427.1 = (wrap64 (Int.tmod (IntKind.u64.wrap (a1)) (IntKind.u64.wrap (wrap64 (t418 + 1))))) then (cameolaw01_UnitsCuts.j1 kj5 a0 t418 (wrap64 (Int.tmod (IntKind.u64.wrap (a1)) (IntKind.u64.wrap (wrap64 (t418 + 1))))) bt423.1 (bt429.1 != (wrap64 (t418 - (wrap64 (Int.tmod (IntKind.u64.wrap (a1)) (IntKind.u64.wrap (wrap64 (t418 + 1))))))))) else (cameolaw01_UnitsCuts.j1 kj5 a0 t418 (wrap64 (Int.tmod (IntKind.u64.wrap (a1)) (IntKind.u64.wrap (wrap64 (t418 + 1))))) bt423.1 true)) else (cameolaw01_UnitsCuts.j1 kj5 a0 t418 (wrap64 (Int.tmod (IntKind.u64.wrap (a1)) (IntKind.u64.wrap (wrap64 (t418 + 1))))) bt423.1 true)) else (cameolaw01_UnitsCuts.j1 kj5 a0 t418 (wrap64 (Int.tmod (IntKind.u64.wrap (a1)) (IntKind.u64.wrap (wrap64 (t418 + 1))))) bt423.1 true)) else (cameolaw01_UnitsCuts.j1 kj5 a0 t418 (wrap64 (Int.tmod (IntKind.u64.wrap (a1)) (IntKind.u64.wrap (wrap64 (t418 + 1))))) bt423.1 true)) else (cameolaw01_UnitsCuts.j1 kj5 a0 t418 (wrap64 (Int.tmod (IntKind.u64.wrap (a1)) (IntKind.u64.wrap (wrap64 (t418 + 1))))) bt423.1 true)) else (cameolaw01_UnitsCuts.j1 kj5 a0 t418 (wrap64 (Int.tmod (IntKind.u64.wrap (a1)) (IntKind.u64.wrap (wrap64 (t418 + 1))))) bt423.1 true)) else (cameolaw01_UnitsCuts.j1 kj5 a0 t418 (wrap64 (Int.tmod (IntKind.u64.wrap (a1)) (IntKind.u64.wrap (wrap64 (t418 + 1))))) bt423.1 true)))))) = some r := H
            have A16 := Aside0.mk A160
            clear A160
            replace H := Option.bind_eq_some_iff.mp H
            obtain ⟨⟨t423, t424⟩, A170, H⟩ := H
            replace H : ((units_Concat.f kj5 t421 t423).bind fun bt425 => ((units_Len.f t421).bind fun bt427 => ((units_Len.f t423).bind fun bt429 => (if t422 = 0 then (if t424 = 0 then (if bt425.2 = 0 then (if bt427.2 = 0 then (if bt429.2 = 0 then (if bt425.1.toList = a0.toList then (if bt427.1 = (wrap64 (Int.tmod (IntKind.u64.wrap (a1)) (IntKind.u64.wrap (wrap64 (t418 + 1))))) then (cameolaw01_UnitsCuts.j1 kj5 a0 t418 (wrap64 (Int.tmod (IntKind.u64.wrap (a1)) (IntKind.u64.wrap (wrap64 (t418 + 1))))) t423 (bt429.1 != (wrap64 (t418 - (wrap64 (Int.tmod (IntKind.u64.wrap (a1)) (IntKind.u64.wrap (wrap64 (t418 + 1))))))))) else (cameolaw01_UnitsCuts.j1 kj5 a0 t418 (wrap64 (Int.tmod (IntKind.u64.wrap (a1)) (IntKind.u64.wrap (wrap64 (t418 + 1))))) t423 true)) else (cameolaw01_UnitsCuts.j1 kj5 a0 t418 (wrap64 (Int.tmod (IntKind.u64.wrap (a1)) (IntKind.u64.wrap (wrap64 (t418 + 1))))) t423 true)) else (cameolaw01_UnitsCuts.j1 kj5 a0 t418 (wrap64 (Int.tmod (IntKind.u64.wrap (a1)) (IntKind.u64.wrap (wrap64 (t418 + 1))))) t423 true)) else (cameolaw01_UnitsCuts.j1 kj5 a0 t418 (wrap64 (Int.tmod (IntKind.u64.wrap (a1)) (IntKind.u64.wrap (wrap64 (t418 + 1))))) t423 true)) else (cameolaw01_UnitsCuts.j1 kj5 a0 t418 (wrap64 (Int.tmod (IntKind.u64.wrap (a1)) (IntKind.u64.wrap (wrap64 (t418 + 1))))) t423 true)) else (cameolaw01_UnitsCuts.j1 kj5 a0 t418 (wrap64 (Int.tmod (IntKind.u64.wrap (a1)) (IntKind.u64.wrap (wrap64 (t418 + 1))))) t423 true)) else (cameolaw01_UnitsCuts.j1 kj5 a0 t418 (wrap64 (Int.tmod (IntKind.u64.wrap (a1)) (IntKind.u64.wrap (wrap64 (t418 + 1))))) t423 true))))) = some r := H
            have A17 := Aside0.mk A170
            clear A170
            replace H := Option.bind_eq_some_iff.mp H
            obtain ⟨⟨t425, t426⟩, A180, H⟩ := H
            replace H : ((units_Len.f t421).bind fun bt427 => ((units_Len.f t423).bind fun bt429 => (if t422 = 0 then (if t424 = 0 then (if t426 = 0 then (if bt427.2 = 0 then (if bt429.2 = 0 then (if t425.toList = a0.toList then (if bt427.1 = (wrap64 (Int.tmod (IntKind.u64.wrap (a1)) (IntKind.u64.wrap (wrap64 (t418 + 1))))) then (cameolaw01_UnitsCuts.j1 kj5 a0 t418 (wrap64 (Int.tmod (IntKind.u64.wrap (a1)) (IntKind.u64.wrap (wrap64 (t418 + 1))))) t423 (bt429.1 != (wrap64 (t418 - (wrap64 (Int.tmod (IntKind.u64.wrap (a1)) (IntKind.u64.wrap (wrap64 (t418 + 1))))))))) else (cameolaw01_UnitsCuts.j1 kj5 a0 t418 (wrap64 (Int.tmod (IntKind.u64.wrap (a1)) (IntKind.u64.wrap (wrap64 (t418 + 1))))) t423 true)) else (cameolaw01_UnitsCuts.j1 kj5 a0 t418 (wrap64 (Int.tmod (IntKind.u64.wrap (a1)) (IntKind.u64.wrap (wrap64 (t418 + 1))))) t423 true)) else (cameolaw01_UnitsCuts.j1 kj5 a0 t418 (wrap64 (Int.tmod (IntKind.u64.wrap (a1)) (IntKind.u64.wrap (wrap64 (t418 + 1))))) t423 true)) else (cameolaw01_UnitsCuts.j1 kj5 a0 t418 (wrap64 (Int.tmod (IntKind.u64.wrap (a1)) (IntKind.u64.wrap (wrap64 (t418 + 1))))) t423 true)) else (cameolaw01_UnitsCuts.j1 kj5 a0 t418 (wrap64 (Int.tmod (IntKind.u64.wrap (a1)) (IntKind.u64.wrap (wrap64 (t418 + 1))))) t423 true)) else (cameolaw01_UnitsCuts.j1 kj5 a0 t418 (wrap64 (Int.tmod (IntKind.u64.wrap (a1)) (IntKind.u64.wrap (wrap64 (t418 + 1))))) t423 true)) else (cameolaw01_UnitsCuts.j1 kj5 a0 t418 (wrap64 (Int.tmod (IntKind.u64.wrap (a1)) (IntKind.u64.wrap (wrap64 (t418 + 1))))) t423 true)))) = some r := H
            have A18 := Aside0.mk A180
            clear A180
            replace H := Option.bind_eq_some_iff.mp H
            obtain ⟨⟨t427, t428⟩, A190, H⟩ := H
            replace H : ((units_Len.f t423).bind fun bt429 => (if t422 = 0 then (if t424 = 0 then (if t426 = 0 then (if t428 = 0 then (if bt429.2 = 0 then (if t425.toList = a0.toList then (if t427 = (wrap64 (Int.tmod (IntKind.u64.wrap (a1)) (IntKind.u64.wrap (wrap64 (t418 + 1))))) then (cameolaw01_UnitsCuts.j1 kj5 a0 t418 (wrap64 (Int.tmod (IntKind.u64.wrap (a1)) (IntKind.u64.wrap (wrap64 (t418 + 1))))) t423 (bt429.1 != (wrap64 (t418 - (wrap64 (Int.tmod (IntKind.u64.wrap (a1)) (IntKind.u64.wrap (wrap64 (t418 + 1))))))))) else (cameolaw01_UnitsCuts.j1 kj5 a0 t418 (wrap64 (Int.tmod (IntKind.u64.wrap (a1)) (IntKind.u64.wrap (wrap64 (t418 + 1))))) t423 true)) else (cameolaw01_UnitsCuts.j1 kj5 a0 t418 (wrap64 (Int.tmod (IntKind.u64.wrap (a1)) (IntKind.u64.wrap (wrap64 (t418 + 1))))) t423 true)) else (cameolaw01_UnitsCuts.j1 kj5 a0 t418 (wrap64 (Int.tmod (IntKind.u64.wrap (a1)) (IntKind.u64.wrap (wrap64 (t418 + 1))))) t423 true)) else (cameolaw01_UnitsCuts.j1 kj5 a0 t418 (wrap64 (Int.tmod (IntKind.u64.wrap (a1)) (IntKind.u64.wrap (wrap64 (t418 + 1))))) t423 true)) else (cameolaw01_UnitsCuts.j1 kj5 a0 t418 (wrap64 (Int.tmod (IntKind.u64.wrap (a1)) (IntKind.u64.wrap (wrap64 (t418 + 1))))) t423 true)) else (cameolaw01_UnitsCuts.j1 kj5 a0 t418 (wrap64 (Int.tmod (IntKind.u64.wrap (a1)) (IntKind.u64.wrap (wrap64 (t418 + 1))))) t423 true)) else (cameolaw01_UnitsCuts.j1 kj5 a0 t418 (wrap64 (Int.tmod (IntKind.u64.wrap (a1)) (IntKind.u64.wrap (wrap64 (t418 + 1))))) t423 true))) = some r := H
            have A19 := Aside0.mk A190
            clear A190
            replace H := Option.bind_eq_some_iff.mp H
            obtain ⟨⟨t429, t430⟩, A200, H⟩ := H
            replace H : (if t422 = 0 then (if t424 = 0 then (if t426 = 0 then (if t428 = 0 then (if t430 = 0 then (if t425.toList = a0.toList then (if t427 = (wrap64 (Int.tmod (IntKind.u64.wrap (a1)) (IntKind.u64.wrap (wrap64 (t418 + 1))))) then (cameolaw01_UnitsCuts.j1 kj5 a0 t418 (wrap64 (Int.tmod (IntKind.u64.wrap (a1)) (IntKind.u64.wrap (wrap64 (t418 + 1))))) t423 (t429 != (wrap64 (t418 - (wrap64 (Int.tmod (IntKind.u64.wrap (a1)) (IntKind.u64.wrap (wrap64 (t418 + 1))))))))) else (cameolaw01_UnitsCuts.j1 kj5 a0 t418 (wrap64 (Int.tmod (IntKind.u64.wrap (a1)) (IntKind.u64.wrap (wrap64 (t418 + 1))))) t423 true)) else (cameolaw01_UnitsCuts.j1 kj5 a0 t418 (wrap64 (Int.tmod (IntKind.u64.wrap (a1)) (IntKind.u64.wrap (wrap64 (t418 + 1))))) t423 true)) else (cameolaw01_UnitsCuts.j1 kj5 a0 t418 (wrap64 (Int.tmod (IntKind.u64.wrap (a1)) (IntKind.u64.wrap (wrap64 (t418 + 1))))) t423 true)) else (cameolaw01_UnitsCuts.j1 kj5 a0 t418 (wrap64 (Int.tmod (IntKind.u64.wrap (a1)) (IntKind.u64.wrap (wrap64 (t418 + 1))))) t423 true)) else (cameolaw01_UnitsCuts.j1 kj5 a0 t418 (wrap64 (Int.tmod (IntKind.u64.wrap (a1)) (IntKind.u64.wrap (wrap64 (t418 + 1))))) t423 true)) else (cameolaw01_UnitsCuts.j1 kj5 a0 t418 (wrap64 (Int.tmod (IntKind.u64.wrap (a1)) (IntKind.u64.wrap (wrap64 (t418 + 1))))) t423 true)) else (cameolaw01_UnitsCuts.j1 kj5 a0 t418 (wrap64 (Int.tmod (IntKind.u64.wrap (a1)) (IntKind.u64.wrap (wrap64 (t418 + 1))))) t423 true)) = some r := H
            have A20 := Aside0.mk A200
            clear A200
            have HC21 := Aside0.mk H
            clear H
            go_upto_region 12 with (first | ((with_reducible refine gate_callee (f := 33) rfl ?_); refine goesL_ (some 59) rfl rfl Tryd.func33 (by kernel_rfl) rfl #[.string a0, .int .i64 0, .int .i64 (wrap64 (Int.tmod (IntKind.u64.wrap (a1)) (IntKind.u64.wrap (wrap64 (t418 + 1)))))] rfl (by (try simp only [List.map_toArray, List.map_cons, List.map_nil]); first | done | rfl | (simp only [List.length_drop, List.length_take]; rfl)) ?_; (with_reducible refine (units_Slice.calls kj5 a0 0 (wrap64 (Int.tmod (IntKind.u64.wrap (a1)) (IntKind.u64.wrap (wrap64 (t418 + 1))))) t421 t422 _ ?tabs A16.out).mono ?_); (case tabs => exact ⟨Tabs.below HT.out (by repeat (first | (with_reducible first | exact HB.out | apply below_alloc | apply pw_below_drewN | apply below_drew1) | exact HB.out))⟩); rintro e w22 ⟨rfl, hb⟩; refine ⟨_, rfl, ?_⟩; have n0_ := Aside0.mk (below_step (by repeat (first | (with_reducible first | exact HB.out | apply below_alloc | apply pw_below_drewN | apply below_drew1) | exact HB.out)) hb); clear HB; have HB := n0_; clear n0_; (try clear hb); (try clear hb2); (try clear hk); (try clear hi)) | ((with_reducible refine gate_callee (f := 33) rfl ?_); refine goesL_ (some 66) rfl rfl Tryd.func33 (by kernel_rfl) rfl #[.string a0, .int .i64 (wrap64 (Int.tmod (IntKind.u64.wrap (a1)) (IntKind.u64.wrap (wrap64 (t418 + 1))))), .int .i64 t418] rfl (by (try simp only [List.map_toArray, List.map_cons, List.map_nil]); first | done | rfl | (simp only [List.length_drop, List.length_take]; rfl)) ?_; (with_reducible refine (units_Slice.calls kj5 a0 (wrap64 (Int.tmod (IntKind.u64.wrap (a1)) (IntKind.u64.wrap (wrap64 (t418 + 1))))) t418 t423 t424 _ ?tabs A17.out).mono ?_); (case tabs => exact ⟨Tabs.below HT.out (by repeat (first | (with_reducible first | exact HB.out | apply below_alloc | apply pw_below_drewN | apply below_drew1) | exact HB.out))⟩); rintro e w23 ⟨rfl, hb⟩; refine ⟨_, rfl, ?_⟩; have n0_ := Aside0.mk (below_step (by repeat (first | (with_reducible first | exact HB.out | apply below_alloc | apply pw_below_drewN | apply below_drew1) | exact HB.out)) hb); clear HB; have HB := n0_; clear n0_; (try clear hb); (try clear hb2); (try clear hk); (try clear hi)) | ((with_reducible refine gate_callee (f := 35) rfl ?_); refine goesL_ (some 72) rfl rfl Tryd.func35 (by kernel_rfl) rfl #[.string t421, .string t423] rfl (by (try simp only [List.map_toArray, List.map_cons, List.map_nil]); first | done | rfl | (simp only [List.length_drop, List.length_take]; rfl)) ?_; (with_reducible refine (units_Concat.calls kj5 t421 t423 t425 t426 _ ?tabs A18.out).mono ?_); (case tabs => exact ⟨Tabs.below HT.out (by repeat (first | (with_reducible first | exact HB.out | apply below_alloc | apply pw_below_drewN | apply below_drew1) | exact HB.out))⟩); rintro e w24 ⟨rfl, hb⟩; refine ⟨_, rfl, ?_⟩; have n0_ := Aside0.mk (below_step (by repeat (first | (with_reducible first | exact HB.out | apply below_alloc | apply pw_below_drewN | apply below_drew1) | exact HB.out)) hb); clear HB; have HB := n0_; clear n0_; (try clear hb); (try clear hb2); (try clear hk); (try clear hi)) | ((with_reducible refine gate_callee (f := 51) rfl ?_); refine goesL_ (some 77) rfl rfl Tryd.func51 (by kernel_rfl) rfl #[.string t421] rfl (by (try simp only [List.map_toArray, List.map_cons, List.map_nil]); first | done | rfl | (simp only [List.length_drop, List.length_take]; rfl)) ?_; (with_reducible refine (units_Len.calls t421 t427 t428 _ ?tabs A19.out).mono ?_); (case tabs => exact ⟨Tabs.below HT.out (by repeat (first | (with_reducible first | exact HB.out | apply below_alloc | apply pw_below_drewN | apply below_drew1) | exact HB.out))⟩); rintro e w25 ⟨rfl, hb⟩; refine ⟨_, rfl, ?_⟩; have n0_ := Aside0.mk (below_step (by repeat (first | (with_reducible first | exact HB.out | apply below_alloc | apply pw_below_drewN | apply below_drew1) | exact HB.out)) hb); clear HB; have HB := n0_; clear n0_; (try clear hb); (try clear hb2); (try clear hk); (try clear hi)) | ((with_reducible refine gate_callee (f := 51) rfl ?_); refine goesL_ (some 82) rfl rfl Tryd.func51 (by kernel_rfl) rfl #[.string t423] rfl (by (try simp only [List.map_toArray, List.map_cons, List.map_nil]); first | done | rfl | (simp only [List.length_drop, List.length_take]; rfl)) ?_; (with_reducible refine (units_Len.calls t423 t429 t430 _ ?tabs A20.out).mono ?_); (case tabs => exact ⟨Tabs.below HT.out (by repeat (first | (with_reducible first | exact HB.out | apply below_alloc | apply pw_below_drewN | apply below_drew1) | exact HB.out))⟩); rintro e w26 ⟨rfl, hb⟩; refine ⟨_, rfl, ?_⟩; have n0_ := Aside0.mk (below_step (by repeat (first | (with_reducible first | exact HB.out | apply below_alloc | apply pw_below_drewN | apply below_drew1) | exact HB.out)) hb); clear HB; have HB := n0_; clear n0_; (try clear hb); (try clear hb2); (try clear hk); (try clear hi)))
            (try simp only [Act.put, List.setIfInBounds_toArray, List.set_cons_zero, List.set_cons_succ])
            go_cut [119] (fun v119 wc => ∃ (kq : Nat) (x119_20 : Bool), v119 = .bool x119_20 ∧ Aside0 (cameolaw01_UnitsCuts.j1 kq a0 t418 (wrap64 (Int.tmod (IntKind.u64.wrap (a1)) (IntKind.u64.wrap (wrap64 (t418 + 1))))) t423 x119_20 = some r) ∧ Aside0 (kq ≤ kj5) ∧ Aside0 (Below w.heap.size w wc))
            case first =>
              have H := HC21.out
              clear HC21
              by_cases c27 : t422 = 0
              · rw [if_pos c27] at H
                have c27b0 : (t422 == 0) = true := beq_iff_eq.mpr c27
                have c27b1 : (t422 != 0) = false := bne_eq_false_iff_eq.mpr c27
                clear c27
                (first | rw [c27b0] | (simp only [i64_w, i32_w]; rw [c27b0]) | skip)
                by_cases c28 : t424 = 0
                · rw [if_pos c28] at H
                  have c28b0 : (t424 == 0) = true := beq_iff_eq.mpr c28
                  have c28b1 : (t424 != 0) = false := bne_eq_false_iff_eq.mpr c28
                  clear c28
                  by_cases c29 : t426 = 0
                  · rw [if_pos c29] at H
                    have c29b0 : (t426 == 0) = true := beq_iff_eq.mpr c29
                    have c29b1 : (t426 != 0) = false := bne_eq_false_iff_eq.mpr c29
                    clear c29
                    by_cases c30 : t428 = 0
                    · rw [if_pos c30] at H
                      have c30b0 : (t428 == 0) = true := beq_iff_eq.mpr c30
                      have c30b1 : (t428 != 0) = false := bne_eq_false_iff_eq.mpr c30
                      clear c30
                      by_cases c31 : t430 = 0
                      · rw [if_pos c31] at H
                        have c31b0 : (t430 == 0) = true := beq_iff_eq.mpr c31
                        have c31b1 : (t430 != 0) = false := bne_eq_false_iff_eq.mpr c31
                        clear c31
                        by_cases c32 : t425.toList = a0.toList
                        · rw [if_pos c32] at H
                          have c32b0 : (t425.toList == a0.toList) = true := beq_iff_eq.mpr c32
                          have c32b1 : (t425.toList != a0.toList) = false := bne_eq_false_iff_eq.mpr c32
                          clear c32
                          by_cases c33 : t427 = (wrap64 (Int.tmod (IntKind.u64.wrap (a1)) (IntKind.u64.wrap (wrap64 (t418 + 1)))))
                          · rw [if_pos c33] at H
                            have c33b0 : (t427 == (wrap64 (Int.tmod (IntKind.u64.wrap (a1)) (IntKind.u64.wrap (wrap64 (t418 + 1)))))) = true := beq_iff_eq.mpr c33
                            have c33b1 : (t427 != (wrap64 (Int.tmod (IntKind.u64.wrap (a1)) (IntKind.u64.wrap (wrap64 (t418 + 1)))))) = false := bne_eq_false_iff_eq.mpr c33
                            clear c33
                            have H' := Aside0.mk H
                            clear H
                            go_wp2
                            go_meet
                            case rel => exact ⟨_, ((t429 != (wrap64 (t418 - (wrap64 (Int.tmod (IntKind.u64.wrap (a1)) (IntKind.u64.wrap (wrap64 (t418 + 1))))))))), (by first | rfl | (simp; done) | (simp [*]; done)), H', ⟨by have := HJ5.out; first | omega | exact Nat.le_refl _⟩, ⟨by repeat (first | (with_reducible first | exact HB.out | apply below_alloc | apply pw_below_drewN | apply below_drew1) | exact HB.out)⟩⟩
                          · rw [if_neg c33] at H
                            have c33b0 : (t427 == (wrap64 (Int.tmod (IntKind.u64.wrap (a1)) (IntKind.u64.wrap (wrap64 (t418 + 1)))))) = false := beq_eq_false_iff_ne.mpr c33
                            have c33b1 : (t427 != (wrap64 (Int.tmod (IntKind.u64.wrap (a1)) (IntKind.u64.wrap (wrap64 (t418 + 1)))))) = true := bne_iff_ne.mpr c33
                            have H' := Aside0.mk H
                            clear H
                            go_wp2
                            go_meet
                            case rel => exact ⟨_, (true), (by first | rfl | (simp; done) | (simp [*]; done)), H', ⟨by have := HJ5.out; first | omega | exact Nat.le_refl _⟩, ⟨by repeat (first | (with_reducible first | exact HB.out | apply below_alloc | apply pw_below_drewN | apply below_drew1) | exact HB.out)⟩⟩
                        · rw [if_neg c32] at H
                          have c32b0 : (t425.toList == a0.toList) = false := beq_eq_false_iff_ne.mpr c32
                          have c32b1 : (t425.toList != a0.toList) = true := bne_iff_ne.mpr c32
                          have H' := Aside0.mk H
                          clear H
                          go_wp2
                          go_meet
                          case rel => exact ⟨_, (true), (by first | rfl | (simp; done) | (simp [*]; done)), H', ⟨by have := HJ5.out; first | omega | exact Nat.le_refl _⟩, ⟨by repeat (first | (with_reducible first | exact HB.out | apply below_alloc | apply pw_below_drewN | apply below_drew1) | exact HB.out)⟩⟩
                      · rw [if_neg c31] at H
                        have c31b0 : (t430 == 0) = false := beq_eq_false_iff_ne.mpr c31
                        have c31b1 : (t430 != 0) = true := bne_iff_ne.mpr c31
                        have H' := Aside0.mk H
                        clear H
                        go_wp2
                        go_meet
                        case rel => exact ⟨_, (true), (by first | rfl | (simp; done) | (simp [*]; done)), H', ⟨by have := HJ5.out; first | omega | exact Nat.le_refl _⟩, ⟨by repeat (first | (with_reducible first | exact HB.out | apply below_alloc | apply pw_below_drewN | apply below_drew1) | exact HB.out)⟩⟩
                    · rw [if_neg c30] at H
                      have c30b0 : (t428 == 0) = false := beq_eq_false_iff_ne.mpr c30
                      have c30b1 : (t428 != 0) = true := bne_iff_ne.mpr c30
                      have H' := Aside0.mk H
                      clear H
                      go_wp2
                      go_meet
                      case rel => exact ⟨_, (true), (by first | rfl | (simp; done) | (simp [*]; done)), H', ⟨by have := HJ5.out; first | omega | exact Nat.le_refl _⟩, ⟨by repeat (first | (with_reducible first | exact HB.out | apply below_alloc | apply pw_below_drewN | apply below_drew1) | exact HB.out)⟩⟩
                  · rw [if_neg c29] at H
                    have c29b0 : (t426 == 0) = false := beq_eq_false_iff_ne.mpr c29
                    have c29b1 : (t426 != 0) = true := bne_iff_ne.mpr c29
                    have H' := Aside0.mk H
                    clear H
                    go_wp2
                    go_meet
                    case rel => exact ⟨_, (true), (by first | rfl | (simp; done) | (simp [*]; done)), H', ⟨by have := HJ5.out; first | omega | exact Nat.le_refl _⟩, ⟨by repeat (first | (with_reducible first | exact HB.out | apply below_alloc | apply pw_below_drewN | apply below_drew1) | exact HB.out)⟩⟩
                · rw [if_neg c28] at H
                  have c28b0 : (t424 == 0) = false := beq_eq_false_iff_ne.mpr c28
                  have c28b1 : (t424 != 0) = true := bne_iff_ne.mpr c28
                  have H' := Aside0.mk H
                  clear H
                  go_wp2
                  go_meet
                  case rel => exact ⟨_, (true), (by first | rfl | (simp; done) | (simp [*]; done)), H', ⟨by have := HJ5.out; first | omega | exact Nat.le_refl _⟩, ⟨by repeat (first | (with_reducible first | exact HB.out | apply below_alloc | apply pw_below_drewN | apply below_drew1) | exact HB.out)⟩⟩
              · rw [if_neg c27] at H
                have c27b0 : (t422 == 0) = false := beq_eq_false_iff_ne.mpr c27
                have c27b1 : (t422 != 0) = true := bne_iff_ne.mpr c27
                (first | rw [c27b0] | (simp only [i64_w, i32_w]; rw [c27b0]) | skip)
                have H' := Aside0.mk H
                clear H
                go_wp2
                go_meet
                case rel => exact ⟨_, (true), (by first | rfl | (simp; done) | (simp [*]; done)), H', ⟨by have := HJ5.out; first | omega | exact Nat.le_refl _⟩, ⟨by repeat (first | (with_reducible first | exact HB.out | apply below_alloc | apply pw_below_drewN | apply below_drew1) | exact HB.out)⟩⟩
            case rest =>
              clear HC21
              try clear c1
              try clear c2
              try clear p2
              try clear c3
              try clear c4
              try clear c5
              try clear p6
              try clear c9
              try clear c9b0
              try clear c9b1
              try clear c10
              try clear c10b0
              try clear c10b1
              try clear c11
              try clear c12
              try clear c12b0
              try clear c12b1
              try clear c15
              try clear c15b0
              try clear c15b1
              try clear c27
              try clear c27b0
              try clear c27b1
              try clear c28
              try clear c28b0
              try clear c28b1
              try clear c29
              try clear c29b0
              try clear c29b1
              try clear c30
              try clear c30b0
              try clear c30b1
              try clear c31
              try clear c31b0
              try clear c31b1
              try clear c32
              try clear c32b0
              try clear c32b1
              try clear c33
              try clear c33b0
              try clear c33b1
              try clear p2
              obtain ⟨kq, x119_20, rfl, HA, HJ20, HB⟩ := hcut
              cases kq with
              | zero => exact absurd HA.out (by simp [cameolaw01_UnitsCuts.j1])
              | succ kj20 =>
                have H := HA.out
                clear HA
                simp only [cameolaw01_UnitsCuts.j1] at H
                by_cases c34 : x119_20 = true
                · subst c34
                  have H1 : (some false) = some r := by rw [if_pos rfl] at H; exact H
                  clear H
                  have H := H1
                  clear H1
                  obtain rfl := Option.some.inj H
                  go_wp2
                  go_ret
                  exact ⟨by first | rfl | (simp [errW_none, errW_some] <;> rfl) | (simp [*, errW_none, errW_some] <;> rfl), by repeat (first | (with_reducible first | exact HB.out | apply below_alloc | apply pw_below_drewN | apply below_drew1) | exact HB.out)⟩
                · replace c34 := Bool.eq_false_iff.mpr c34
                  subst c34
                  have H1 : ((units_Units.f a0).bind fun bt431 => (if (bt431.1.length : Int) = t418 then (cameolaw01_UnitsCuts.l0 kj20 a0 t418 (wrap64 (Int.tmod (IntKind.u64.wrap (a1)) (IntKind.u64.wrap (wrap64 (t418 + 1))))) t423 bt431.1 0) else (some false))) = some r := by rw [if_neg (show ¬ (false = true) by decide)] at H; exact H
                  clear H
                  have H := H1
                  clear H1
                  replace H := Option.bind_eq_some_iff.mp H
                  obtain ⟨⟨t431, t432⟩, A350, H⟩ := H
                  replace H : (if (t431.length : Int) = t418 then (cameolaw01_UnitsCuts.l0 kj20 a0 t418 (wrap64 (Int.tmod (IntKind.u64.wrap (a1)) (IntKind.u64.wrap (wrap64 (t418 + 1))))) t423 t431 0) else (some false)) = some r := H
                  have A35 := Aside0.mk A350
                  clear A350
                  by_cases c36 : (t431.length : Int) = t418
                  · rw [if_pos c36] at H
                    have c36b0 : ((t431.length : Int) == t418) = true := beq_iff_eq.mpr c36
                    have c36b1 : ((t431.length : Int) != t418) = false := bne_eq_false_iff_eq.mpr c36
                    clear c36
                    have H' := Aside0.mk H
                    clear H
                    go_wp2_with (first | ((with_reducible refine gate_callee (f := 17) rfl ?_); refine goesL_ (some 122) rfl rfl Tryd.func17 (by kernel_rfl) rfl #[.string a0] rfl (by (try simp only [List.map_toArray, List.map_cons, List.map_nil]); first | done | rfl | (simp only [List.length_drop, List.length_take]; rfl)) ?_; (with_reducible refine (units_Units.calls a0 t431 t432 _ ?tabs A35.out).mono ?_); (case tabs => exact ⟨Tabs.below HT.out (by repeat (first | (with_reducible first | exact HB.out | apply below_alloc | apply pw_below_drewN | apply below_drew1) | exact HB.out))⟩); rintro e w37 ⟨v433, rfl, ho0, hb⟩; refine ⟨_, rfl, ?_⟩; have n0_ := Aside0.mk (Kd.R_lower ho0 (below_size (by repeat (first | (with_reducible first | exact HB.out | apply below_alloc | apply pw_below_drewN | apply below_drew1) | exact HB.out)))); have n1_ := Aside0.mk (below_step (by repeat (first | (with_reducible first | exact HB.out | apply below_alloc | apply pw_below_drewN | apply below_drew1) | exact HB.out)) hb); clear HB; have HO434 := n0_; have HB := n1_; clear n0_ n1_; (try clear hb); (try clear hb2); (try clear hk); (try clear hi); (try clear ho0); obtain ⟨Ao38, co38, eo38⟩ := Kd.R_slice HO434.out; subst eo38))
                    go_loopg [20] kj20 (fun kq v20 w' => ∃ (x20_3 : Int), v20 = .int .i64 x20_3 ∧ Aside0 (cameolaw01_UnitsCuts.l0 kq a0 t418 (wrap64 (Int.tmod (IntKind.u64.wrap (a1)) (IntKind.u64.wrap (wrap64 (t418 + 1))))) t423 t431 x20_3 = some r) ∧ Aside0 (kq ≤ kj20) ∧ Aside0 (Kd.R (Kd.int .u16) 33 w' w.heap.size (fun _ => True) (.slice Ao38 t431.length co38) t431) ∧ Aside0 (Below w.heap.size w w'))
                    case atStart => exact ⟨(0), (by first | rfl | (simp; done) | (simp [*]; done)), H', ⟨Nat.le_refl _⟩, ⟨by (with_reducible repeat (first | apply Kd.R_alloc | apply Kd.R_drewN | apply Kd.R_drew)); exact HO434.out⟩, ⟨by repeat (first | (with_reducible first | exact HB.out | apply below_alloc | apply pw_below_drewN | apply below_drew1) | exact HB.out)⟩⟩
                    case round =>
                      clear H'
                      try clear c1
                      try clear c2
                      try clear p2
                      try clear c3
                      try clear c4
                      try clear c5
                      try clear p6
                      try clear c9
                      try clear c9b0
                      try clear c9b1
                      try clear c10
                      try clear c10b0
                      try clear c10b1
                      try clear c11
                      try clear c12
                      try clear c12b0
                      try clear c12b1
                      try clear c15
                      try clear c15b0
                      try clear c15b1
                      try clear c17
                      try clear c27
                      try clear c27b0
                      try clear c27b1
                      try clear c28
                      try clear c28b0
                      try clear c28b1
                      try clear c29
                      try clear c29b0
                      try clear c29b1
                      try clear c30
                      try clear c30b0
                      try clear c30b1
                      try clear c31
                      try clear c31b0
                      try clear c31b1
                      try clear c32
                      try clear c32b0
                      try clear c32b1
                      try clear c33
                      try clear c33b0
                      try clear c33b1
                      try clear c34
                      try clear c35
                      try clear c36
                      try clear c36b0
                      try clear c36b1
                      try clear p2
                      try clear p6
                      obtain ⟨x20_3, rfl, HA, HK3, HO_18, HB⟩ := hrel
                      cases gk with
                      | zero => exact absurd HA.out (by simp [cameolaw01_UnitsCuts.l0])
                      | succ k3 =>
                        have H := HA.out
                        clear HA
                        simp only [cameolaw01_UnitsCuts.l0] at H
                        by_cases c39 : x20_3 < t418
                        · rw [if_pos c39] at H
                          have c39b0 : decide (x20_3 < t418) = true := decide_eq_true c39
                          clear c39
                          replace H := Option.bind_eq_some_iff.mp H
                          obtain ⟨⟨t435, t436⟩, A400, H⟩ := H
                          replace H : (if t436 = 0 then (if 0 ≤ x20_3 then (if x20_3 < (t431.length : Int) then (if t435 = (rd t431 x20_3) then (cameolaw01_UnitsCuts.l0 k3 a0 t418 (wrap64 (Int.tmod (IntKind.u64.wrap (a1)) (IntKind.u64.wrap (wrap64 (t418 + 1))))) t423 t431 (wrap64 (x20_3 + 1))) else (some false)) else (none)) else (none)) else (some false)) = some r := H
                          have A40 := Aside0.mk A400
                          clear A400
                          by_cases c41 : t436 = 0
                          · rw [if_pos c41] at H
                            have c41b0 : (t436 == 0) = true := beq_iff_eq.mpr c41
                            have c41b1 : (t436 != 0) = false := bne_eq_false_iff_eq.mpr c41
                            clear c41
                            by_cases c42 : 0 ≤ x20_3
                            · rw [if_pos c42] at H
                              have c42b0 : decide (0 ≤ x20_3) = true := decide_eq_true c42
                              clear c42
                              by_cases c43 : x20_3 < (t431.length : Int)
                              · rw [if_pos c43] at H
                                have c43b0 : decide (x20_3 < (t431.length : Int)) = true := decide_eq_true c43
                                clear c43
                                by_cases c44 : t435 = (rd t431 x20_3)
                                · rw [if_pos c44] at H
                                  have c44b0 : (t435 == (rd t431 x20_3)) = true := beq_iff_eq.mpr c44
                                  have c44b1 : (t435 != (rd t431 x20_3)) = false := bne_eq_false_iff_eq.mpr c44
                                  clear c44
                                  have H' := Aside0.mk H
                                  clear H
                                  go_wp2_with (first | ((with_reducible refine gate_callee (f := 31) rfl ?_); refine goesL_ (some 137) rfl rfl Tryd.func31 (by kernel_rfl) rfl #[.string a0, .int .i64 x20_3] rfl (by (try simp only [List.map_toArray, List.map_cons, List.map_nil]); first | done | rfl | (simp only [List.length_drop, List.length_take]; rfl)) ?_; (with_reducible refine (units_At.calls a0 x20_3 t435 t436 _ ?tabs A40.out).mono ?_); (case tabs => exact ⟨Tabs.below HT.out (by repeat (first | (with_reducible first | exact HB.out | apply below_alloc | apply pw_below_drewN | apply below_drew1) | exact HB.out))⟩); rintro e w45 ⟨rfl, hb⟩; refine ⟨_, rfl, ?_⟩; have n0_ := Aside0.mk (Kd.R_below (by (with_reducible repeat (first | apply Kd.R_alloc | apply Kd.R_drewN | apply Kd.R_drew)); exact HO_18.out) hb); have n1_ := Aside0.mk (below_step (by repeat (first | (with_reducible first | exact HB.out | apply below_alloc | apply pw_below_drewN | apply below_drew1) | exact HB.out)) hb); clear HO_18; clear HB; have HO_18 := n0_; have HB := n1_; clear n0_ n1_; (try clear hb); (try clear hb2); (try clear hk); (try clear hi); have p437 : 0 ≤ (x20_3 : Int) := of_decide_eq_true (by first | (with_reducible assumption) | assumption); have q437 : x20_3 < (t431.length : Int) := of_decide_eq_true (by first | (with_reducible assumption) | assumption); obtain ⟨ad437, e437, hx437_0⟩ := Kd.at_int (Kd.R_reads' HO_18.out).2.2 x20_3 p437 q437; cases e437; replace p437 := eq_true p437; replace q437 := eq_true q437))
                                  go_roundg k3
                                  case measure => have := HJ5.out; have := HJ20.out; have := HK3.out; omega
                                  case rel => exact ⟨(wrap64 (x20_3 + 1)), (by first | rfl | (simp; done) | (simp [*]; done)), H', ⟨by have := HJ5.out; have := HJ20.out; have := HK3.out; omega⟩, ⟨by (with_reducible repeat (first | apply Kd.R_alloc | apply Kd.R_drewN | apply Kd.R_drew)); exact HO_18.out⟩, ⟨by repeat (first | (with_reducible first | exact HB.out | apply below_alloc | apply pw_below_drewN | apply below_drew1) | exact HB.out)⟩⟩
                                · rw [if_neg c44] at H
                                  have c44b0 : (t435 == (rd t431 x20_3)) = false := beq_eq_false_iff_ne.mpr c44
                                  have c44b1 : (t435 != (rd t431 x20_3)) = true := bne_iff_ne.mpr c44
                                  obtain rfl := Option.some.inj H
                                  go_wp2_with (first | ((with_reducible refine gate_callee (f := 31) rfl ?_); refine goesL_ (some 137) rfl rfl Tryd.func31 (by kernel_rfl) rfl #[.string a0, .int .i64 x20_3] rfl (by (try simp only [List.map_toArray, List.map_cons, List.map_nil]); first | done | rfl | (simp only [List.length_drop, List.length_take]; rfl)) ?_; (with_reducible refine (units_At.calls a0 x20_3 t435 t436 _ ?tabs A40.out).mono ?_); (case tabs => exact ⟨Tabs.below HT.out (by repeat (first | (with_reducible first | exact HB.out | apply below_alloc | apply pw_below_drewN | apply below_drew1) | exact HB.out))⟩); rintro e w46 ⟨rfl, hb⟩; refine ⟨_, rfl, ?_⟩; have n0_ := Aside0.mk (Kd.R_below (by (with_reducible repeat (first | apply Kd.R_alloc | apply Kd.R_drewN | apply Kd.R_drew)); exact HO_18.out) hb); have n1_ := Aside0.mk (below_step (by repeat (first | (with_reducible first | exact HB.out | apply below_alloc | apply pw_below_drewN | apply below_drew1) | exact HB.out)) hb); clear HO_18; clear HB; have HO_18 := n0_; have HB := n1_; clear n0_ n1_; (try clear hb); (try clear hb2); (try clear hk); (try clear hi); have p437 : 0 ≤ (x20_3 : Int) := of_decide_eq_true (by first | (with_reducible assumption) | assumption); have q437 : x20_3 < (t431.length : Int) := of_decide_eq_true (by first | (with_reducible assumption) | assumption); obtain ⟨ad437, e437, hx437_0⟩ := Kd.at_int (Kd.R_reads' HO_18.out).2.2 x20_3 p437 q437; cases e437; replace p437 := eq_true p437; replace q437 := eq_true q437))
                                  go_ret
                                  exact ⟨by first | rfl | (simp [errW_none, errW_some] <;> rfl) | (simp [*, errW_none, errW_some] <;> rfl), by repeat (first | (with_reducible first | exact HB.out | apply below_alloc | apply pw_below_drewN | apply below_drew1) | exact HB.out)⟩
                              · rw [if_neg c43] at H
                                exact absurd H (by simp)
                            · rw [if_neg c42] at H
                              exact absurd H (by simp)
                          · rw [if_neg c41] at H
                            have c41b0 : (t436 == 0) = false := beq_eq_false_iff_ne.mpr c41
                            have c41b1 : (t436 != 0) = true := bne_iff_ne.mpr c41
                            obtain rfl := Option.some.inj H
                            go_wp2_with (first | ((with_reducible refine gate_callee (f := 31) rfl ?_); refine goesL_ (some 137) rfl rfl Tryd.func31 (by kernel_rfl) rfl #[.string a0, .int .i64 x20_3] rfl (by (try simp only [List.map_toArray, List.map_cons, List.map_nil]); first | done | rfl | (simp only [List.length_drop, List.length_take]; rfl)) ?_; (with_reducible refine (units_At.calls a0 x20_3 t435 t436 _ ?tabs A40.out).mono ?_); (case tabs => exact ⟨Tabs.below HT.out (by repeat (first | (with_reducible first | exact HB.out | apply below_alloc | apply pw_below_drewN | apply below_drew1) | exact HB.out))⟩); rintro e w47 ⟨rfl, hb⟩; refine ⟨_, rfl, ?_⟩; have n0_ := Aside0.mk (Kd.R_below (by (with_reducible repeat (first | apply Kd.R_alloc | apply Kd.R_drewN | apply Kd.R_drew)); exact HO_18.out) hb); have n1_ := Aside0.mk (below_step (by repeat (first | (with_reducible first | exact HB.out | apply below_alloc | apply pw_below_drewN | apply below_drew1) | exact HB.out)) hb); clear HO_18; clear HB; have HO_18 := n0_; have HB := n1_; clear n0_ n1_; (try clear hb); (try clear hb2); (try clear hk); (try clear hi)))
                            go_ret
                            exact ⟨by first | rfl | (simp [errW_none, errW_some] <;> rfl) | (simp [*, errW_none, errW_some] <;> rfl), by repeat (first | (with_reducible first | exact HB.out | apply below_alloc | apply pw_below_drewN | apply below_drew1) | exact HB.out)⟩
                        · rw [if_neg c39] at H
                          have c39b0 : decide (x20_3 < t418) = false := decide_eq_false c39
                          clear c39
                          replace H := Option.bind_eq_some_iff.mp H
                          obtain ⟨⟨t438, t439⟩, A480, H⟩ := H
                          replace H : (if t439 = 0 then (some (t438 == (wrap64 (Int.tmod (IntKind.u64.wrap (a1)) (IntKind.u64.wrap (wrap64 (t418 + 1))))))) else (some false)) = some r := H
                          have A48 := Aside0.mk A480
                          clear A480
                          by_cases c49 : t439 = 0
                          · rw [if_pos c49] at H
                            have c49b0 : (t439 == 0) = true := beq_iff_eq.mpr c49
                            have c49b1 : (t439 != 0) = false := bne_eq_false_iff_eq.mpr c49
                            clear c49
                            obtain rfl := Option.some.inj H
                            go_wp2_with (first | ((with_reducible refine gate_callee (f := 39) rfl ?_); refine goesL_ (some 154) rfl rfl Tryd.func39 (by kernel_rfl) rfl #[.string a0, .string t423, .int .i64 (wrap64 (Int.tmod (IntKind.u64.wrap (a1)) (IntKind.u64.wrap (wrap64 (t418 + 1)))))] rfl (by (try simp only [List.map_toArray, List.map_cons, List.map_nil]); first | done | rfl | (simp only [List.length_drop, List.length_take]; rfl)) ?_; (with_reducible refine (units_Index.calls k3 a0 t423 (wrap64 (Int.tmod (IntKind.u64.wrap (a1)) (IntKind.u64.wrap (wrap64 (t418 + 1))))) t438 t439 _ ?tabs A48.out).mono ?_); (case tabs => exact ⟨Tabs.below HT.out (by repeat (first | (with_reducible first | exact HB.out | apply below_alloc | apply pw_below_drewN | apply below_drew1) | exact HB.out))⟩); rintro e w50 ⟨rfl, hb⟩; refine ⟨_, rfl, ?_⟩; have n0_ := Aside0.mk (Kd.R_below (by (with_reducible repeat (first | apply Kd.R_alloc | apply Kd.R_drewN | apply Kd.R_drew)); exact HO_18.out) hb); have n1_ := Aside0.mk (below_step (by repeat (first | (with_reducible first | exact HB.out | apply below_alloc | apply pw_below_drewN | apply below_drew1) | exact HB.out)) hb); clear HO_18; clear HB; have HO_18 := n0_; have HB := n1_; clear n0_ n1_; (try clear hb); (try clear hb2); (try clear hk); (try clear hi)))
                            go_ret
                            exact ⟨by first | rfl | (simp [errW_none, errW_some] <;> rfl) | (simp [*, errW_none, errW_some] <;> rfl), by repeat (first | (with_reducible first | exact HB.out | apply below_alloc | apply pw_below_drewN | apply below_drew1) | exact HB.out)⟩
                          · rw [if_neg c49] at H
                            have c49b0 : (t439 == 0) = false := beq_eq_false_iff_ne.mpr c49
                            have c49b1 : (t439 != 0) = true := bne_iff_ne.mpr c49
                            obtain rfl := Option.some.inj H
                            go_wp2_with (first | ((with_reducible refine gate_callee (f := 39) rfl ?_); refine goesL_ (some 154) rfl rfl Tryd.func39 (by kernel_rfl) rfl #[.string a0, .string t423, .int .i64 (wrap64 (Int.tmod (IntKind.u64.wrap (a1)) (IntKind.u64.wrap (wrap64 (t418 + 1)))))] rfl (by (try simp only [List.map_toArray, List.map_cons, List.map_nil]); first | done | rfl | (simp only [List.length_drop, List.length_take]; rfl)) ?_; (with_reducible refine (units_Index.calls k3 a0 t423 (wrap64 (Int.tmod (IntKind.u64.wrap (a1)) (IntKind.u64.wrap (wrap64 (t418 + 1))))) t438 t439 _ ?tabs A48.out).mono ?_); (case tabs => exact ⟨Tabs.below HT.out (by repeat (first | (with_reducible first | exact HB.out | apply below_alloc | apply pw_below_drewN | apply below_drew1) | exact HB.out))⟩); rintro e w51 ⟨rfl, hb⟩; refine ⟨_, rfl, ?_⟩; have n0_ := Aside0.mk (Kd.R_below (by (with_reducible repeat (first | apply Kd.R_alloc | apply Kd.R_drewN | apply Kd.R_drew)); exact HO_18.out) hb); have n1_ := Aside0.mk (below_step (by repeat (first | (with_reducible first | exact HB.out | apply below_alloc | apply pw_below_drewN | apply below_drew1) | exact HB.out)) hb); clear HO_18; clear HB; have HO_18 := n0_; have HB := n1_; clear n0_ n1_; (try clear hb); (try clear hb2); (try clear hk); (try clear hi)))
                            go_ret
                            exact ⟨by first | rfl | (simp [errW_none, errW_some] <;> rfl) | (simp [*, errW_none, errW_some] <;> rfl), by repeat (first | (with_reducible first | exact HB.out | apply below_alloc | apply pw_below_drewN | apply below_drew1) | exact HB.out)⟩
                  · rw [if_neg c36] at H
                    have c36b0 : ((t431.length : Int) == t418) = false := beq_eq_false_iff_ne.mpr c36
                    have c36b1 : ((t431.length : Int) != t418) = true := bne_iff_ne.mpr c36
                    obtain rfl := Option.some.inj H
                    go_wp2_with (first | ((with_reducible refine gate_callee (f := 17) rfl ?_); refine goesL_ (some 122) rfl rfl Tryd.func17 (by kernel_rfl) rfl #[.string a0] rfl (by (try simp only [List.map_toArray, List.map_cons, List.map_nil]); first | done | rfl | (simp only [List.length_drop, List.length_take]; rfl)) ?_; (with_reducible refine (units_Units.calls a0 t431 t432 _ ?tabs A35.out).mono ?_); (case tabs => exact ⟨Tabs.below HT.out (by repeat (first | (with_reducible first | exact HB.out | apply below_alloc | apply pw_below_drewN | apply below_drew1) | exact HB.out))⟩); rintro e w52 ⟨v433, rfl, ho0, hb⟩; refine ⟨_, rfl, ?_⟩; have n0_ := Aside0.mk (Kd.R_lower ho0 (below_size (by repeat (first | (with_reducible first | exact HB.out | apply below_alloc | apply pw_below_drewN | apply below_drew1) | exact HB.out)))); have n1_ := Aside0.mk (below_step (by repeat (first | (with_reducible first | exact HB.out | apply below_alloc | apply pw_below_drewN | apply below_drew1) | exact HB.out)) hb); clear HB; have HO434 := n0_; have HB := n1_; clear n0_ n1_; (try clear hb); (try clear hb2); (try clear hk); (try clear hi); (try clear ho0); obtain ⟨Ao53, co53, eo53⟩ := Kd.R_slice HO434.out; subst eo53))
                    go_ret
                    exact ⟨by first | rfl | (simp [errW_none, errW_some] <;> rfl) | (simp [*, errW_none, errW_some] <;> rfl), by repeat (first | (with_reducible first | exact HB.out | apply below_alloc | apply pw_below_drewN | apply below_drew1) | exact HB.out)⟩
  · replace c4 := Bool.eq_false_iff.mpr c4
    subst c4
    have H1 : (some false) = some r := by rw [if_neg (show ¬ (false = true) by decide)] at H; exact H
    clear H
    have H := H1
    clear H1
    obtain rfl := Option.some.inj H
    go_enter Tryd.func9, Tryd.ntmps9
    go_wp2_with (first | ((with_reducible refine gate_callee (f := 50) rfl ?_); refine goesL_ (some 24) rfl rfl Tryd.func50 (by kernel_rfl) rfl #[] rfl (by (try simp only [List.map_toArray, List.map_cons, List.map_nil]); first | done | rfl | (simp only [List.length_drop, List.length_take]; rfl)) ?_; (with_reducible refine (cameolaw01_awake.calls k  false _ ?tabs A3.out).mono ?_); (case tabs => exact ⟨Tabs.below HT.out (by repeat (first | (with_reducible first | exact HB.out | apply below_alloc | apply pw_below_drewN | apply below_drew1) | exact HB.out))⟩); rintro e w54 ⟨rfl, hb⟩; refine ⟨_, rfl, ?_⟩; have n0_ := Aside0.mk (below_step (by repeat (first | (with_reducible first | exact HB.out | apply below_alloc | apply pw_below_drewN | apply below_drew1) | exact HB.out)) hb); clear HB; have HB := n0_; clear n0_; (try clear hb); (try clear hb2); (try clear hk); (try clear hi)))
    go_ret
    exact ⟨by first | rfl | (simp [errW_none, errW_some] <;> rfl) | (simp [*, errW_none, errW_some] <;> rfl), by repeat (first | (with_reducible first | exact HB.out | apply below_alloc | apply pw_below_drewN | apply below_drew1) | exact HB.out)⟩

/-- THE ONE PURE STATEMENT of cameolaw01_UnitsCuts: yours. -/
def cameolaw01_UnitsCuts.Pure : Prop := ∀ (a0 : ByteArray) (a1 : Int), a0.size ≤ 140737488351232 → (Lit.int .i64 a1).wf = true → ∃ k, cameolaw01_UnitsCuts.f k a0 a1 = some true
theorem cameolaw01_UnitsCuts.walk (P : cameolaw01_UnitsCuts.Pure) (a0 : ByteArray) (a1 : Int) (w : World) (HT : Aside0 (Tabs w)) (w0 : a0.size ≤ 140737488351232) (w1 : (Lit.int .i64 a1).wf = true) :
    Calls Tryd.prog 9 #[.string a0, .int .i64 a1] w fun e w' => e = .returned (.bool true) ∧ Below w.heap.size w w' := by
  obtain ⟨k, h⟩ := P a0 a1 w0 w1
  refine (cameolaw01_UnitsCuts.calls k a0 a1 true w HT h).mono ?_
  rintro e w' ⟨rfl, hd⟩
  exact ⟨rfl, hd⟩

end Go.Proofs.YtiegeggafhmehaaDoor.U
