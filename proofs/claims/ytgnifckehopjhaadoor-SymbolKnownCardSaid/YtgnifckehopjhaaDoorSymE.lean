/- package symbol: a new registry. -/
import Derived.Test.YtgnifckehopjhaaDoorSymD
import Derived.Carry
namespace Go.Proofs.YtgnifckehopjhaaDoor
open Go.RowKit Go.Proofs.YtgnifckehopjhaaDoorW.PrintWords
attribute [local go_sem] run_store_float
attribute [local go_sem ↓] Go.wp_at_zero Go.wp_at_succ

theorem mm1 (w : World) : (Instr.makeMap 37 none).run Tryd.prog w = .ok (.map (some w.heap.size)) (w.alloc (.map #[] 0)) := by kernel_rfl
theorem mm2 (w : World) : (Instr.makeMap 70 none).run Tryd.prog w = .ok (.map (some w.heap.size)) (w.alloc (.map #[] 0)) := by kernel_rfl

theorem after_str {B p cnt : Nat} {xs : List Value} {v : Value} {w1 w2 : World} {o : Obj} (hp : w1.heap[p]? = some o) (ho : w1.ownsRow B 44 5 v cnt xs) (hb : Below w1.drew.heap.size w1.drew w2) :
    Below w1.heap.size w1 w2 ∧ w2.heap[p]? = some o ∧ w2.ownsRow B 44 5 v cnt xs ∧ w1.heap.size ≤ w2.heap.size := by
  have hb' : Below w1.heap.size w1 w2 := ⟨hb.os, hb.tape, hb.output, hb.size, hb.block⟩
  exact ⟨hb', keepA hp hb', ho.kept (row := none) (Below.grown hb' rfl) (by cases h : v.ownBlock <;> simp), hb'.size⟩

set_option maxRecDepth 100000 in
theorem new_c (w : World) (HT : Tabs w) : Calls Tryd.prog 11 #[] w fun e W' => ∃ p b1 b2, e = .returned (.pointer (some ⟨p, 0, none⟩)) ∧ Reg w.heap.size p 13 (flatW 13) b1 b2 (.map #[] 0) (.map #[] 0) W' ∧ Below w.heap.size w W' := by
  have hT := Fact.mk (fun w' (h : Below w.heap.size w w') => HT.below h)
  obtain ⟨i0, hi0, hz0, hz1, hz2⟩ := info_parts infoV
  have hI := Fact.mk (And.intro hi0 (And.intro hz0 (And.intro hz1 hz2)))
  have q1 := mm1
  have q2 := mm2
  clear HT hi0 hz0 hz1 hz2
  go_enter Tryd.func11, Tryd.ntmps11
  go_wp2
  obtain ⟨W1, hW1⟩ : ∃ W1, W1 = ((w.alloc (.map #[] 0)).alloc (.map #[] 0)).alloc (.cells #[.slice none 0 0, .map (some w.heap.size), .map (some (w.heap.size + 1))] 72) := ⟨_, rfl⟩
  rw [← hW1]
  have HB := Aside0.mk (show Below w.heap.size w W1 by rw [hW1]; exact (((Below.refl _ _).alloc (Nat.le_refl _) _).alloc (by simp) _).alloc (by simp; omega) _)
  have HR := Aside0.mk (show Reg w.heap.size (w.heap.size + 1 + 1) 0 (flatW 0) w.heap.size (w.heap.size + 1) (.map #[] 0) (.map #[] 0) W1 by
    rw [hW1]
    refine ⟨by omega, by omega, by omega, by omega, ?_, ?_, ⟨_, _, rfl⟩, ⟨_, _, rfl⟩, none, 0, ?_, World.ownsRow_nil _ _ _ _⟩
    · exact oldA (oldA (heap_alloc_new w _) _) _
    · exact oldA (heap_alloc2_new w _ _) _
    · have := heap_alloc_new ((w.alloc (.map #[] 0)).alloc (.map #[] 0)) (.cells #[.slice none 0 0, .map (some w.heap.size), .map (some (w.heap.size + 1))] 72)
      simpa using this)
  clear hW1 q1 q2
  generalize w.heap.size + 1 + 1 = p at *
  generalize hq1 : w.heap.size + 1 = b2 at *
  clear hq1
  obtain ⟨b1, hb1⟩ : ∃ b1, b1 = w.heap.size := ⟨_, rfl⟩
  go_loopg [2] 13 (fun kq v2 w' => ∃ j : Nat, v2 = .int .i64 ((j : Int) + 1) ∧ Aside0 (j + kq = 13) ∧ Aside0 (Reg w.heap.size p j (flatW j) w.heap.size b2 (.map #[] 0) (.map #[] 0) w') ∧ Aside0 (Below w.heap.size w w'))
  case atStart => exact ⟨0, rfl, ⟨by omega⟩, ⟨HR.out⟩, ⟨HB.out⟩⟩
  case round =>
    obtain ⟨j, rfl, HN, HRj, HBj⟩ := hrel
    by_cases c1 : (j : Int) + 1 ≤ 13
    · have hj : j < 13 := by omega
      have hk := Fact.mk (fun w => wk_c j hj w)
      cases gk with
      | zero => exact absurd HN.out (by omega)
      | succ k1 =>
        have hM := Fact.mk (fun W (h : Below w.heap.size w W) => mkStr_c (wk j) W (hT.out W h))
        simp only [wk_gd j hj, if_true] at hM
        unfold VV at hM
        go_wp2_with (go_at_call 5; refine (hk.out _).mono ?_; rintro e w1 ⟨rfl, hb⟩)
        obtain ⟨h1, h2, h3, h4, k1, k2, m1, m2, a, cap, hp, ho⟩ := HRj.out.keep hb
        have hB1 := Fact.mk (HBj.out.trans (hb.mono HBj.out.size))
        have c0 := (cellP hp).1
        obtain ⟨hi0, hz0, hz1, hz2⟩ := hI.out
        have np := row_ne ho hp (by simp)
        have lp := ltH hp
        have hle := HBj.out.size
        go_region_law (first | (refine step_append_lies _ (by rfl) _ _ _ (by rfl) w.heap.size 44 i0 _ 5 48 Tryd.underlying34 hi0 hz0 hz1 hz2 rfl (by omega) (.slice a j cap) j (flatW j) (by rfl) (ho2.alloc _) ⟨w2.heap.size, 0, none⟩ 1 1 [.int .i64 5, .bool false, .float .f64 0, .string (wk j), .int .i64 0] (by rfl) (by rfl) (World.news_of_block (cs := #[.int .i64 5, .bool false, .float .f64 0, .string (wk j), .int .i64 0]) (t := 44) (fr := (0, 0)) (heap_alloc_new w2 _)) (by simp [Value.oneCell']) (by omega) (by simp only [maxLen]; omega) (by omega) (by simp; omega) (w2.heap.size + 1) (by simp) ?_; intro g cap' w3 hown3 hgrow hat hlt; have cp := (hgrow.cell_far ⟨p, 0, none⟩ (by simp; omega) np).trans (cellP (oldA hp2 _)).1; have fp := (hgrow.frozen_far ⟨p, 0, none⟩ (by simp; omega) np).trans (Lib.frozen_of_heap (oldA hp2 _) 0)) | (go_simp; go_at_call 27; refine (hM.out _ hB1.out.drew).mono ?_; rintro e w2 ⟨rfl, hb2⟩; obtain ⟨hb2', hp2, ho2, hle2⟩ := after_str hp ho hb2; have c0' := (cellP hp2).1; have c0'' := fun o => (cellP (oldA hp2 o)).1))
        all_goals
          obtain ⟨hR3, hB3⟩ := reg_grow h1 h2 h3 h4 (keepA k1 hb2') (keepA k2 hb2') m1 m2 hp2 ho2 ((Below.refl _ _).alloc (Nat.le_refl _) _) hgrow hown3
          have hB4 := (hB1.out.trans (hb2'.mono hB1.out.size)).trans hB3
          have HR4 := Aside0.mk (show Reg w.heap.size p (j + 1) (flatW (j + 1)) w.heap.size b2 (.map #[] 0) (.map #[] 0) _ from hR3)
          have HB4 := Aside0.mk hB4
          clear hR3 hB3 hB4
          generalize w3.setCell ⟨p, 0, none⟩ (.slice (some ⟨g, 0, none⟩) (j + 1) cap') = W3 at *
          clear hown3 hgrow hat hlt cp fp c0' c0'' c0 ho ho2 hp hp2 hb2 hb2' k1 k2 m1 m2 np hI hM hk hT HBj HRj hi0 hz0 hz1 hz2 hb hB1
          go_wp2
          go_roundg k1
          case measure => omega
          case rel => exact ⟨j + 1, by first | rfl | (congr 1; omega), ⟨by have := HN.out; omega⟩, HR4, HB4⟩
    · have hj : j = 13 := by have := HN.out; omega
      subst hj
      go_wp2
      go_ret
      exact ⟨p, rfl, ⟨w.heap.size, b2, HRj.out⟩, HBj.out⟩
end Go.Proofs.YtgnifckehopjhaaDoor
