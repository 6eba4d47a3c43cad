import Derived.Test.YtnknfffldgkgcaaGreatDoorVa
import Derived.Deep.AppendLies
import Derived.Deep.RegionLaw
import Derived.Deep.RegionHeld3
import Derived.Deep.DrawnRows
import Derived.OwnWalk
import Derived.WalkKit
import Derived.Outline
import Derived.ChangeMaps4
import Derived.Carry
import Derived.MapKept
import Derived.Deep.Cut
set_option linter.all false
/- package symbol: a registry in a world; what reads it, and what adds to it. -/
namespace Go.Proofs.YtnknfffldgkgcaaGreatDoor
open Go.RowKit Go.Proofs.YtnknfffldgkgcaaGreatDoorW.PrintWords
attribute [local go_sem] run_store_float

theorem infoV : (Tryz.prog.info? 35).map (fun i => (i.zero, i.size, i.bytes)) = some (some (.agg #[.int .i64 0, .bool false, .float .f64 0, .string ⟨#[]⟩, .int .i64 0]), 5, 48) := by kernel_rfl

/-- Block p holds a registry of cnt descriptions (their cells: xs) and two maps (what lies in their blocks: o1, o2); all of it lies from B on. -/
def Reg (B p cnt : Nat) (xs : List Value) (b1 b2 : Nat) (o1 o2 : Obj) (W : World) : Prop :=
  B ≤ p ∧ B ≤ b1 ∧ B ≤ b2 ∧ b1 ≠ b2 ∧ W.heap[b1]? = some o1 ∧ W.heap[b2]? = some o2 ∧ (∃ es c, o1 = .map es c) ∧ (∃ es c, o2 = .map es c) ∧
  ∃ a cap, W.heap[p]? = some (.cells #[.slice a cnt cap, .map (some b1), .map (some b2)] 74 (0, 0)) ∧ W.ownsRow B 35 5 (.slice a cnt cap) cnt xs

theorem ltH {W : World} {g : Nat} {o : Obj} (h : W.heap[g]? = some o) : g < W.heap.size := (Array.getElem?_eq_some_iff.1 h).1
theorem Below.grown {B : Nat} {W W' : World} (h : Below B W W') (hs : W.heap.size = B) : W.grownBy W' none :=
  ⟨h.os, h.tape, h.output, h.size, fun k hk _ => h.block k (by omega)⟩

/-- The registry's own blocks are kept. -/
theorem Reg.keep {B p cnt : Nat} {xs : List Value} {b1 b2 : Nat} {o1 o2 : Obj} {W W' : World} (h : Reg B p cnt xs b1 b2 o1 o2 W) (hb : Below W.heap.size W W') : Reg B p cnt xs b1 b2 o1 o2 W' := by
  obtain ⟨h1, h2, h3, h4, k1, k2, m1, m2, a, cap, hp, ho⟩ := h
  exact ⟨h1, h2, h3, h4, (hb.block _ (ltH k1)).trans k1, (hb.block _ (ltH k2)).trans k2, m1, m2, a, cap, (hb.block _ (ltH hp)).trans hp, ho.kept (row := none) (Below.grown hb rfl) (by cases a <;> simp [Value.ownBlock])⟩

theorem Reg.le {B p cnt : Nat} {xs : List Value} {b1 b2 : Nat} {o1 o2 : Obj} {W : World} (h : Reg B p cnt xs b1 b2 o1 o2 W) : B ≤ W.heap.size := by
  obtain ⟨h1, h2, h3, h4, k1, k2, m1, m2, a, cap, hp, ho⟩ := h
  have := ltH hp; omega

theorem count_c {B p cnt : Nat} {xs : List Value} {b1 b2 : Nat} {o1 o2 : Obj} {W : World} (h : Reg B p cnt xs b1 b2 o1 o2 W) :
    Calls Tryz.prog 21 #[.pointer (some ⟨p, 0, none⟩)] W fun e W' => e = .returned (.int .i64 cnt) ∧ W = W' := by
  obtain ⟨h1, h2, h3, h4, k1, k2, m1, m2, a, cap, hp, ho⟩ := h
  have c0 : W.cell? ⟨p, 0, none⟩ = some (.slice a cnt cap) := by rw [Lib.cell_of_heap hp]; rfl
  clear hp ho k1 k2 m1 m2
  go_enter Tryz.func21, Tryz.ntmps21
  go_wp2
  go_ret
  exact ⟨rfl, rfl⟩

theorem has_c {B p cnt : Nat} {xs : List Value} {b1 b2 : Nat} {o1 o2 : Obj} {W : World} (h : Reg B p cnt xs b1 b2 o1 o2 W) (n : Int) (hn : 1 ≤ n) (hc : n ≤ cnt) :
    Calls Tryz.prog 48 #[.pointer (some ⟨p, 0, none⟩), .int .i64 n] W fun e W' => e = .returned (.bool true) ∧ W = W' := by
  obtain ⟨h1, h2, h3, h4, k1, k2, m1, m2, a, cap, hp, ho⟩ := h
  have c0 : W.cell? ⟨p, 0, none⟩ = some (.slice a cnt cap) := by rw [Lib.cell_of_heap hp]; rfl
  have d1 : decide ((1 : Int) ≤ n) = true := decide_eq_true hn
  have d2 : decide (n ≤ (cnt : Int)) = true := decide_eq_true hc
  clear hp ho k1 k2 m1 m2
  go_enter Tryz.func48, Tryz.ntmps48
  go_wp2
  go_ret
  exact ⟨by simp_all, rfl⟩
theorem hasNot_c {B p cnt : Nat} {xs : List Value} {b1 b2 : Nat} {o1 o2 : Obj} {W : World} (h : Reg B p cnt xs b1 b2 o1 o2 W) (n : Int) (hn : n < 1 ∨ (cnt : Int) < n) :
    Calls Tryz.prog 48 #[.pointer (some ⟨p, 0, none⟩), .int .i64 n] W fun e W' => e = .returned (.bool false) ∧ W = W' := by
  obtain ⟨h1, h2, h3, h4, k1, k2, m1, m2, a, cap, hp, ho⟩ := h
  have c0 : W.cell? ⟨p, 0, none⟩ = some (.slice a cnt cap) := by rw [Lib.cell_of_heap hp]; rfl
  have d1 : (decide ((1 : Int) ≤ n) && decide (n ≤ (cnt : Int))) = false := by
    rw [Bool.and_eq_false_iff, decide_eq_false_iff_not, decide_eq_false_iff_not]; omega
  clear hp ho k1 k2 m1 m2
  go_enter Tryz.func48, Tryz.ntmps48
  go_wp2
  all_goals (go_ret; exact ⟨by simp_all, rfl⟩)

theorem row_ne {B g cnt : Nat} {xs : List Value} {v : Value} {W : World} {o : Obj} (ho : W.ownsRow B 35 5 v cnt xs) (hg : W.heap[g]? = some o) (hn : ∀ cs, o ≠ .cells cs 35 (0, 0)) : some g ≠ v.ownBlock := by
  rcases ho.2 with ⟨rfl, _⟩ | ⟨q, c, cur, rfl, _, hq, _⟩
  · simp [Value.ownBlock]
  · intro e
    have : g = q := by simpa [Value.ownBlock] using e
    subst this
    rw [hq] at hg
    exact hn cur (Option.some.inj hg).symm

theorem reg_grow {B p cnt : Nat} {xs ys : List Value} {b1 b2 : Nat} {o1 o2 : Obj} {a : Option Addr} {cap g cap' : Nat} {W V w1 : World} (h1 : B ≤ p) (h2 : B ≤ b1) (h3 : B ≤ b2) (h4 : b1 ≠ b2) (k1 : W.heap[b1]? = some o1) (k2 : W.heap[b2]? = some o2) (m1 : ∃ es c, o1 = .map es c) (m2 : ∃ es c, o2 = .map es c)
    (hp : W.heap[p]? = some (.cells #[.slice a cnt cap, .map (some b1), .map (some b2)] 74 (0, 0))) (ho : W.ownsRow B 35 5 (.slice a cnt cap) cnt xs)
    (hBV : Below W.heap.size W V) (hgrow : V.grownBy w1 (Value.slice a cnt cap).ownBlock) (hown : w1.ownsRow B 35 5 (.slice (some ⟨g, 0, none⟩) (cnt + 1) cap') (cnt + 1) ys) :
    Reg B p (cnt + 1) ys b1 b2 o1 o2 (w1.setCell ⟨p, 0, none⟩ (.slice (some ⟨g, 0, none⟩) (cnt + 1) cap')) ∧ Below B W (w1.setCell ⟨p, 0, none⟩ (.slice (some ⟨g, 0, none⟩) (cnt + 1) cap')) := by
  have hk : ∀ q, q < W.heap.size → some q ≠ (Value.slice a cnt cap).ownBlock → w1.heap[q]? = W.heap[q]? := fun q hq hne => (hgrow.block q (by have := hBV.size; omega) hne).trans (hBV.block q hq)
  have np := row_ne ho hp (by simp)
  have n1 := row_ne ho k1 (by obtain ⟨es, c, rfl⟩ := m1; simp)
  have n2 := row_ne ho k2 (by obtain ⟨es, c, rfl⟩ := m2; simp)
  have hp1 := (hk p (ltH hp) np).trans hp
  have hb1 := (hk b1 (ltH k1) n1).trans k1
  have hb2 := (hk b2 (ltH k2) n2).trans k2
  have e1 : b1 ≠ p := by rintro rfl; obtain ⟨es, c, rfl⟩ := m1; rw [k1] at hp; cases hp
  have e2 : b2 ≠ p := by rintro rfl; obtain ⟨es, c, rfl⟩ := m2; rw [k2] at hp; cases hp
  have hgp : some p ≠ (Value.slice (some ⟨g, 0, none⟩) (cnt + 1) cap').ownBlock := row_ne hown hp1 (by simp)
  have hs : w1.grownBy (w1.setCell ⟨p, 0, none⟩ (.slice (some ⟨g, 0, none⟩) (cnt + 1) cap')) (some p) :=
    ⟨rfl, rfl, rfl, by simp [World.setCell], fun q _ hne => Below.heap_setCell _ _ _ _ (fun e => hne (by rw [e]))⟩
  refine ⟨⟨h1, h2, h3, h4, ?_, ?_, m1, m2, _, _, ?_, hown.kept hs (.inr (Ne.symm hgp))⟩, ?_⟩
  · rw [Below.heap_setCell _ _ _ _ e1]; exact hb1
  · rw [Below.heap_setCell _ _ _ _ e2]; exact hb2
  · simp [World.setCell, Array.getElem?_modify, hp1]
  · refine ⟨hgrow.os.trans hBV.os, hgrow.tape.trans hBV.tape, hgrow.output.trans hBV.output, ?_, fun q hq => ?_⟩
    · have e := hgrow.size
      have e' := hBV.size
      simp only [World.setCell, Array.size_modify]
      omega
    · have hlt := ltH hp
      rw [Below.heap_setCell _ _ _ _ (show q ≠ p by omega)]
      refine hk q (by omega) fun e => ?_
      have := (ho.lt q e.symm).1
      omega

theorem cp2 {W : World} {p : Nat} {v x y : Value} {t : TypeId} (hp : W.heap[p]? = some (.cells #[v, x, y] t (0, 0))) (o o' : Obj) : ((W.alloc o).alloc o').cell? ⟨p, 0, none⟩ = some v := by
  rw [Lib.cell_of_heap (show ((W.alloc o).alloc o').heap[p]? = _ from by rw [Lib.alloc_old _ o' _ (by have := ltH hp; simp; omega), Lib.alloc_old W o _ (ltH hp)]; exact hp)]; rfl
theorem fp2 {W : World} {p : Nat} {v x y : Value} {t : TypeId} (hp : W.heap[p]? = some (.cells #[v, x, y] t (0, 0))) (o o' : Obj) : ((W.alloc o).alloc o').frozen? ⟨p, 0, none⟩ = false :=
  Lib.frozen_of_heap (show ((W.alloc o).alloc o').heap[p]? = _ from by rw [Lib.alloc_old _ o' _ (by have := ltH hp; simp; omega), Lib.alloc_old W o _ (ltH hp)]; exact hp) 0
set_option maxRecDepth 100000 in
theorem add_c {B p cnt : Nat} {xs : List Value} {b1 b2 : Nat} {o1 o2 : Obj} {W : World} (h : Reg B p cnt xs b1 b2 o1 o2 W) (hc : cnt < 65536) (k : Int) (b : Bool) (n : Nat) (s : ByteArray) (i : Int) :
    Calls Tryz.prog 35 #[.pointer (some ⟨p, 0, none⟩), VV k b n s i] W fun e W' => e = .returned (.tuple #[.int .i64 ((cnt : Int) + 1), .int .i64 0]) ∧ Reg B p (cnt + 1) (xs ++ [.int .i64 k, .bool b, .float .f64 n, .string s, .int .i64 i]) b1 b2 o1 o2 W' ∧ Below B W W' := by
  have hle := h.le
  obtain ⟨h1, h2, h3, h4, k1, k2, m1, m2, a, cap, hp, ho⟩ := h
  obtain ⟨i0, hi0, hz0, hz1, hz2⟩ := info_parts infoV
  have c0 := fun o => (show (W.alloc o).cell? ⟨p, 0, none⟩ = some (.slice a cnt cap) by rw [Lib.cell_of_heap (show (W.alloc o).heap[p]? = _ from by rw [Lib.alloc_old W o _ (ltH hp)]; exact hp)]; rfl)
  have d1 : ¬ (65536 : Int) ≤ (cnt : Int) := by omega
  have np := row_ne ho hp (by simp)
  have lp := ltH hp
  unfold VV at *
  go_enter Tryz.func35, Tryz.ntmps35
  go_wp2_with fail
  have c1 := fun o => (show (W.alloc o).frozen? ⟨p, 0, none⟩ = false from Lib.frozen_of_heap (show (W.alloc o).heap[p]? = _ from by rw [Lib.alloc_old W o _ (ltH hp)]; exact hp) 0)
  go_region_law ((refine step_append_lies _ (by rfl) _ _ _ (by rfl) B 35 i0 _ 5 48 Tryz.underlying72 hi0 hz0 hz1 hz2 rfl (by omega) (.slice a cnt cap) cnt xs (by rfl) (by first | exact ((ho.alloc _).alloc _) | exact ((ho.alloc _).drew).alloc _) ⟨W.heap.size + 1, 0, none⟩ 1 1 [.int .i64 k, .bool b, .float .f64 n, .string s, .int .i64 i] (by rfl) (by rfl) (World.news_of_block (cs := #[.int .i64 k, .bool b, .float .f64 n, .string s, .int .i64 i]) (t := 35) (fr := (0, 0)) (heap_alloc2_new W _ _)) (by simp [Value.oneCell']) (by omega) (by simp only [maxLen]; omega) (by omega) (by simp; omega) (W.heap.size + 2) (by simp) ?_; intro g cap' w1 hown1 hgrow hat hlt; have cp := (hgrow.cell_far ⟨p, 0, none⟩ (by simp; omega) np).trans (cp2 hp _ _); have fp := (hgrow.frozen_far ⟨p, 0, none⟩ (by simp; omega) np).trans (fp2 hp _ _)))
  all_goals
    obtain ⟨hR, hB⟩ := reg_grow h1 h2 h3 h4 k1 k2 m1 m2 hp ho (((((Below.refl W.heap.size W).alloc (Nat.le_refl _) _).alloc (by simp) _)).drew) hgrow hown1
    have cn : (w1.setCell ⟨p, 0, none⟩ (.slice (some ⟨g, 0, none⟩) (cnt + 1) cap')).cell? ⟨p, 0, none⟩ = some (.slice (some ⟨g, 0, none⟩) (cnt + 1) cap') := by
      exact World.cell?_setCell_same' _ _ _ (by rw [cp]; rfl)
    generalize w1.setCell ⟨p, 0, none⟩ (.slice (some ⟨g, 0, none⟩) (cnt + 1) cap') = W2 at *
    clear hown1 hgrow hat hlt cp fp c0 c1
    go_wp2
    go_ret2
    exact ⟨by simp, hR, hB⟩
end Go.Proofs.YtnknfffldgkgcaaGreatDoor

/- package symbol: Make, Description, KeyFor, Text. -/
namespace Go.Proofs.YtnknfffldgkgcaaGreatDoor
open Go.RowKit Go.Proofs.YtnknfffldgkgcaaGreatDoorW.PrintWords
attribute [local go_sem] run_store_float

theorem oldA {W : World} {g : Nat} {o' : Obj} (h : W.heap[g]? = some o') (o : Obj) : (W.alloc o).heap[g]? = some o' := by
  rw [Lib.alloc_old W o _ (ltH h)]; exact h
theorem keepA {W W' : World} {b : Nat} {o : Obj} (h : W.heap[b]? = some o) (hb : Below W.heap.size W W') : W'.heap[b]? = some o := by
  rw [hb.block b (ltH h)]; exact h

theorem makeNot_c {B p cnt : Nat} {xs : List Value} {b1 b2 : Nat} {o1 o2 : Obj} {W : World} (k : Int) (b : Bool) (n : Nat) (s : ByteArray) (i : Int) (HT : Tabs W) (hbad : gd k b n s i = false ∨ (k ≠ 1 ∧ k ≠ 5)) :
    Calls Tryz.prog 11 #[.pointer (some ⟨p, 0, none⟩), VV k b n s i] W fun e W' => e = .returned (.tuple #[.int .i64 0, .int .i64 5]) ∧ Below W.heap.size W W' := by
  have hg := Fact.mk (fun w' (h : Below W.heap.size W w') => check_c k b n s i w' (HT.below h))
  clear HT
  cases hG : gd k b n s i with
  | false =>
    rw [hG] at hg
    clear hG hbad
    simp only [Bool.false_eq_true, if_false] at hg
    unfold VV at *
    go_enter Tryz.func11, Tryz.ntmps11
    go_wp2_with (go_at_call 34; refine (hg.out _ ((Below.refl _ _).alloc (Nat.le_refl _) _)).mono ?_; rintro e w1 ⟨rfl, hb⟩; obtain ⟨c0, c1, c2, c3, c4⟩ := cells5' hb)
    go_ret2
    exact ⟨rfl, below1 hb⟩
  | true =>
    rw [hG] at hg hbad
    have d1 : (k == 1) = false := by simp at hbad; simpa using hbad.1
    have d5 : (k == 5) = false := by simp at hbad; simpa using hbad.2
    have e1 : (k != 1) = true := by simp [bne, d1]
    have e5 : (k != 5) = true := by simp [bne, d5]
    clear hG hbad
    simp only [if_true] at hg
    unfold VV at *
    go_enter Tryz.func11, Tryz.ntmps11
    go_wp2_with (go_at_call 34; refine (hg.out _ ((Below.refl _ _).alloc (Nat.le_refl _) _)).mono ?_; rintro e w1 ⟨rfl, hb⟩; obtain ⟨c0, c1, c2, c3, c4⟩ := cells5' hb)
    go_ret2
    exact ⟨rfl, below1 hb⟩

theorem make_c {B p cnt : Nat} {xs : List Value} {b1 b2 : Nat} {o1 o2 : Obj} {W : World} (hR : Reg B p cnt xs b1 b2 o1 o2 W) (hc : cnt < 65536) (k : Int) (b : Bool) (n : Nat) (s : ByteArray) (i : Int) (HT : Tabs W) (hG : gd k b n s i = true) (hk : k = 1 ∨ k = 5) :
    Calls Tryz.prog 11 #[.pointer (some ⟨p, 0, none⟩), VV k b n s i] W fun e W' => e = .returned (.tuple #[.int .i64 ((cnt : Int) + 1), .int .i64 0]) ∧ Reg B p (cnt + 1) (xs ++ [.int .i64 k, .bool b, .float .f64 n, .string s, .int .i64 i]) b1 b2 o1 o2 W' ∧ Below B W W' := by
  have hg := Fact.mk (fun w' (h : Below W.heap.size W w') => check_c k b n s i w' (HT.below h))
  have ha := Fact.mk (fun w' (h : Below W.heap.size W w') => add_c (hR.keep h) hc k b n s i)
  have hle := hR.le
  rw [hG] at hg
  have d1 : (k != 1 && k != 5) = false := by rcases hk with rfl | rfl <;> rfl
  clear HT hG hR
  simp only [if_true] at hg
  unfold VV at *
  rcases hk with rfl | rfl
  all_goals
    clear d1
    go_enter Tryz.func11, Tryz.ntmps11
    go_wp2_with (first | (go_at_call 34; refine (hg.out _ ((Below.refl _ _).alloc (Nat.le_refl _) _)).mono ?_; rintro e w1 ⟨rfl, hb⟩; obtain ⟨c0, c1, c2, c3, c4⟩ := cells5' hb; have hb1 := below1 hb) | (go_at_call 35; refine (ha.out _ hb1).mono ?_; rintro e w2 ⟨rfl, hR2, hb2⟩))
    go_ret2
    exact ⟨rfl, hR2, (hb1.mono hle).trans hb2⟩

theorem rowCells {B g cap cnt : Nat} {xs : List Value} {W : World} (ho : W.ownsRow B 35 5 (.slice (some ⟨g, 0, none⟩) cnt cap) cnt xs) (q : Nat) {u : Value} (hu : xs[q]? = some u) (o : Obj) : (W.alloc o).cell? ⟨g, q, none⟩ = some u := by
  have h := (ho.alloc o).cells (g := g) rfl q u hu
  have hadd : (⟨g, 0, none⟩ : Addr).add q = ⟨g, q, none⟩ := by unfold Addr.add; split <;> simp_all
  rw [hadd] at h; exact h

set_option maxRecDepth 100000 in
theorem desc_c {B p cnt : Nat} {xs : List Value} {b1 b2 : Nat} {o1 o2 : Obj} {W : World} (hR : Reg B p cnt xs b1 b2 o1 o2 W) (hc : cnt ≤ 65536) (j : Nat) (hj : j < cnt) {k : Int} {b : Bool} {n : Nat} {s : ByteArray} {i : Int} (h0 : xs[j * 5]? = some (.int .i64 k)) (h1 : xs[j * 5 + 1]? = some (.bool b)) (h2 : xs[j * 5 + 2]? = some (.float .f64 n)) (h3 : xs[j * 5 + 3]? = some (.string s)) (h4 : xs[j * 5 + 4]? = some (.int .i64 i)) :
    Calls Tryz.prog 25 #[.pointer (some ⟨p, 0, none⟩), .int .i64 ((j : Int) + 1)] W fun e W' => e = .returned (.tuple #[VV k b n s i, .int .i64 0]) ∧ Below W.heap.size W W' := by
  unfold VV
  have hh := Fact.mk (fun w' (h : Below W.heap.size W w') => has_c (hR.keep h) ((j : Int) + 1) (by omega) (by omega))
  obtain ⟨_, _, _, _, k1, k2, m1, m2, a, cap, hp, ho⟩ := hR
  obtain ⟨g, cap', e, _, hlt⟩ := ho.form (by omega)
  cases e
  have c0 := fun o => (show (W.alloc o).cell? ⟨p, 0, none⟩ = some (.slice (some ⟨g, 0, none⟩) cnt cap) by rw [Lib.cell_of_heap (oldA hp o)]; rfl)
  have e0 := rowCells ho _ h0
  have e1 := rowCells ho _ h1
  have e2 := rowCells ho _ h2
  have e3 := rowCells ho _ h3
  have e4 := rowCells ho _ h4
  have f : ∀ q, (W.alloc (.cells #[.int .i64 0, .bool false, .float .f64 0, .string ⟨#[]⟩, .int .i64 0] 35)).frozen? ⟨W.heap.size, q, none⟩ = false := fun q => Lib.frozen_of_heap (heap_alloc_new W _) q
  have i1 : (0 : Int) ≤ (j : Int) := by omega
  have i2 : (j : Int) < (cnt : Int) := by omega
  clear k1 k2 m1 m2 hp ho h0 h1 h2 h3 h4
  go_enter Tryz.func25, Tryz.ntmps25
  go_wp2_with (go_at_call 48; refine (hh.out _ ((Below.refl _ _).alloc (Nat.le_refl _) _)).mono ?_; rintro e w1 ⟨rfl, rfl⟩)
  first
    | refine bodyPost_ret (results_ct rfl _ _ W.heap.size _ _ _ _ rfl (heap_alloc_new _ _) Tryz.underlying35 rfl (by kernel_rfl)) rfl ⟨rfl, (Below.refl _ _).alloc (Nat.le_refl _) _⟩
    | refine bodyPost_ret (results_ct rfl _ _ W.heap.size _ _ _ _ rfl (set5 (heap_alloc_new _ _) _ _ _ _ _) Tryz.underlying35 rfl (by kernel_rfl)) rfl ⟨rfl, setB5 ((Below.refl _ _).alloc (Nat.le_refl _) _) (Nat.le_refl _) _ _ _ _ _⟩

set_option maxRecDepth 100000 in
theorem keyFor_c {B p cnt : Nat} {xs : List Value} {b1 b2 : Nat} {o1 o2 : Obj} {W : World} (hR : Reg B p cnt xs b1 b2 o1 o2 W) (n : Int) (hn : 1 ≤ n) (hc : n ≤ cnt) (t : ByteArray) (kn : Bool) (hl : (Instr.lookup 71 (.map (some b2)) (.int .i64 n) true).run Tryz.prog W = .ok (.tuple #[.agg #[.string t], .bool kn]) W) :
    Calls Tryz.prog 23 #[.pointer (some ⟨p, 0, none⟩), .int .i64 n] W fun e W' => e = .returned (.tuple #[.string t, .bool kn, .int .i64 0]) ∧ Below W.heap.size W W' := by
  have hh := Fact.mk (has_c hR n hn hc)
  obtain ⟨_, _, _, _, k1, k2, m1, m2, a, cap, hp, ho⟩ := hR
  have c2 : W.cell? ⟨p, 2, none⟩ = some (.map (some b2)) := by rw [Lib.cell_of_heap hp]; rfl
  clear k1 k2 m1 m2 hp ho hn hc
  go_enter Tryz.func23, Tryz.ntmps23
  go_wp2_with (go_at_call 48; refine hh.out.mono ?_; rintro e w1 ⟨rfl, rfl⟩)
  refine bodyPost_ret (results_tmp3 rfl _ _ _) rfl ?_
  exact ⟨rfl, (Below.refl _ _).alloc (Nat.le_refl _) _⟩

theorem addS (x y : ByteArray) (h : x.size + y.size ≤ 1000000000) : ∀ W, (Op.stringOp .add x y).run Tryz.prog W = .ok (.string (x ++ y)) W := by
  intro W
  unfold Op.stringOp
  have : ¬ ((x.size + y.size : Nat) : Int) > IntKind.i64.max := by
    have : IntKind.i64.max = 9223372036854775807 := by decide
    omega
  simp only [this, if_false]
  rfl

set_option maxRecDepth 100000 in
theorem text_c {B p cnt : Nat} {xs : List Value} {b1 b2 : Nat} {o1 o2 : Obj} {W : World} (hR : Reg B p cnt xs b1 b2 o1 o2 W) (hc : cnt ≤ 65536) (j : Nat) (hj : j < cnt) {k : Int} {b : Bool} {n : Nat} {s S1 S2 : ByteArray} {i : Int} (h0 : xs[j * 5]? = some (.int .i64 k)) (h1 : xs[j * 5 + 1]? = some (.bool b)) (h2 : xs[j * 5 + 2]? = some (.float .f64 n)) (h3 : xs[j * 5 + 3]? = some (.string s)) (h4 : xs[j * 5 + 4]? = some (.int .i64 i))
    (ha1 : ∀ W, (Op.stringOp .add ⟨#[83, 121, 109, 98, 111, 108, 40]⟩ s).run Tryz.prog W = .ok (.string S1) W) (ha2 : ∀ W, (Op.stringOp .add S1 ⟨#[41]⟩).run Tryz.prog W = .ok (.string S2) W) (hs : (S2.size : Int) ≤ 1048576) :
    Calls Tryz.prog 27 #[.pointer (some ⟨p, 0, none⟩), .int .i64 ((j : Int) + 1)] W fun e W' => e = .returned (.tuple #[.string S2, .int .i64 0]) ∧ Below W.heap.size W W' := by
  have hd := Fact.mk (desc_c hR hc j hj h0 h1 h2 h3 h4)
  clear hR h0 h1 h2 h3 h4
  unfold VV at *
  go_enter Tryz.func27, Tryz.ntmps27
  go_wp2_with (go_at_call 25; refine hd.out.mono ?_; rintro e w1 ⟨rfl, hb⟩)
  go_ret2
  first | exact ⟨rfl, hb.alloc hb.size _⟩ | exact ⟨rfl, setB5 (hb.alloc hb.size _) hb.size _ _ _ _ _⟩
end Go.Proofs.YtnknfffldgkgcaaGreatDoor

/- package symbol: For. -/
namespace Go.Proofs.YtnknfffldgkgcaaGreatDoor
open Go.RowKit Go.Proofs.YtnknfffldgkgcaaGreatDoorW.PrintWords
open Go.ChangeMaps (setBlock)
attribute [local go_sem] run_store_float

theorem cellP {W : World} {p : Nat} {x y z : Value} {t : TypeId} (h : W.heap[p]? = some (.cells #[x, y, z] t (0, 0))) : W.cell? ⟨p, 0, none⟩ = some x ∧ W.cell? ⟨p, 1, none⟩ = some y ∧ W.cell? ⟨p, 2, none⟩ = some z := by
  refine ⟨?_, ?_, ?_⟩ <;> rw [Lib.cell_of_heap h] <;> rfl
theorem Reg.maps {B p cnt : Nat} {xs : List Value} {b1 b2 : Nat} {o1 o2 : Obj} {W : World} (h : Reg B p cnt xs b1 b2 o1 o2 W) : W.cell? ⟨p, 1, none⟩ = some (.map (some b1)) ∧ W.cell? ⟨p, 2, none⟩ = some (.map (some b2)) ∧ W.heap[b1]? = some o1 ∧ W.heap[b2]? = some o2 := by
  obtain ⟨h1, h2, h3, h4, k1, k2, m1, m2, a, cap, hp, ho⟩ := h
  exact ⟨(cellP hp).2.1, (cellP hp).2.2, k1, k2⟩

theorem setBlock_heap (W : World) (b : Nat) (o : Obj) (h : b < W.heap.size) : (setBlock W b o).heap[b]? = some o := by simp [setBlock, h]
theorem setBlock_far (W : World) (b q : Nat) (o : Obj) (h : q ≠ b) : (setBlock W b o).heap[q]? = W.heap[q]? := by
  simp [setBlock, Array.getElem?_setIfInBounds_ne (Ne.symm h)]
theorem setBlock_grown (W : World) (b : Nat) (o : Obj) : W.grownBy (setBlock W b o) (some b) :=
  ⟨rfl, rfl, rfl, by simp [setBlock], fun q _ h => setBlock_far W b q o (fun e => h (by rw [e]))⟩

theorem Reg.put {B p cnt : Nat} {xs : List Value} {b1 b2 : Nat} {o1 o2 o1' o2' : Obj} {W : World} (h : Reg B p cnt xs b1 b2 o1 o2 W) (m1' : ∃ es c, o1' = .map es c) (m2' : ∃ es c, o2' = .map es c) :
    Reg B p cnt xs b1 b2 o1' o2 (setBlock W b1 o1') ∧ Reg B p cnt xs b1 b2 o1 o2' (setBlock W b2 o2') ∧ Below B W (setBlock W b1 o1') ∧ Below B W (setBlock W b2 o2') := by
  obtain ⟨h1, h2, h3, h4, k1, k2, m1, m2, a, cap, hp, ho⟩ := h
  have n1 := row_ne ho k1 (by obtain ⟨es, c, rfl⟩ := m1; simp)
  have n2 := row_ne ho k2 (by obtain ⟨es, c, rfl⟩ := m2; simp)
  have e1 : p ≠ b1 := by rintro rfl; obtain ⟨es, c, rfl⟩ := m1; rw [k1] at hp; cases hp
  have e2 : p ≠ b2 := by rintro rfl; obtain ⟨es, c, rfl⟩ := m2; rw [k2] at hp; cases hp
  refine ⟨⟨h1, h2, h3, h4, setBlock_heap _ _ _ (ltH k1), ?_, m1', m2, a, cap, ?_, ho.kept (setBlock_grown W b1 o1') (.inr (Ne.symm n1))⟩, ⟨h1, h2, h3, h4, ?_, setBlock_heap _ _ _ (ltH k2), m1, m2', a, cap, ?_, ho.kept (setBlock_grown W b2 o2') (.inr (Ne.symm n2))⟩, ?_, ?_⟩
  · rw [setBlock_far _ _ _ _ (Ne.symm h4)]; exact k2
  · rw [setBlock_far _ _ _ _ e1]; exact hp
  · rw [setBlock_far _ _ _ _ h4]; exact k1
  · rw [setBlock_far _ _ _ _ e2]; exact hp
  · exact ⟨rfl, rfl, rfl, by simp [setBlock], fun q hq => setBlock_far _ _ _ _ (by omega)⟩
  · exact ⟨rfl, rfl, rfl, by simp [setBlock], fun q hq => setBlock_far _ _ _ _ (by omega)⟩

set_option maxRecDepth 100000 in
theorem forHit_c {B p cnt : Nat} {xs : List Value} {b1 b2 : Nat} {o1 o2 : Obj} {W : World} (hR : Reg B p cnt xs b1 b2 o1 o2 W) (HT : Tabs W) (s : ByteArray) (hs : (s.size : Int) ≤ 1048576) (hv : (Pt.all s).2 = true) (m : Int)
    (hl : ∀ W', W'.heap[b1]? = some o1 → (Instr.lookup 70 (.map (some b1)) (.string s) true).run Tryz.prog W' = .ok (.tuple #[.int .i64 m, .bool true]) W') :
    Calls Tryz.prog 14 #[.pointer (some ⟨p, 0, none⟩), .string s] W fun e W' => e = .returned (.tuple #[.int .i64 m, .int .i64 0]) ∧ Below W.heap.size W W' := by
  have hV := Fact.mk (show units_Valid.f s = some true by unfold units_Valid.f; rw [if_pos (by omega), hv])
  have HT' := Fact.mk HT
  have hR' := Fact.mk hR
  have hl' := Fact.mk hl
  clear hv HT hR hl
  go_enter Tryz.func14, Tryz.ntmps14
  go_wp2_with (go_at_call 37; refine (units_Valid.calls s _ _ ⟨HT'.out⟩ hV.out).mono ?_; rintro e w1 ⟨rfl, hb⟩; obtain ⟨c1, c2, k1, k2⟩ := (hR'.out.keep hb).maps; have q := hl'.out w1 k1)
  go_ret2
  exact ⟨rfl, hb⟩

set_option maxRecDepth 100000 in
theorem forNew_c {B p cnt : Nat} {xs : List Value} {b1 b2 : Nat} {o1 o2 o1' o2' : Obj} {W : World} (hR : Reg B p cnt xs b1 b2 o1 o2 W) (hc : cnt < 65536) (HT : Tabs W) (s : ByteArray) (hs : (s.size : Int) ≤ 1048576) (hv : (Pt.all s).2 = true)
    (m1' : ∃ es c, o1' = .map es c) (m2' : ∃ es c, o2' = .map es c)
    (hl : ∀ W', W'.heap[b1]? = some o1 → (Instr.lookup 70 (.map (some b1)) (.string s) true).run Tryz.prog W' = .ok (.tuple #[.int .i64 0, .bool false]) W')
    (hu1 : ∀ W', W'.heap[b1]? = some o1 → (Instr.mapUpdate 70 (.map (some b1)) (.string s) (.int .i64 ((cnt : Int) + 1))).run Tryz.prog W' = .ok () (setBlock W' b1 o1'))
    (hu2 : ∀ W', W'.heap[b2]? = some o2 → (Instr.mapUpdate 71 (.map (some b2)) (.int .i64 ((cnt : Int) + 1)) (.agg #[.string s])).run Tryz.prog W' = .ok () (setBlock W' b2 o2')) :
    Calls Tryz.prog 14 #[.pointer (some ⟨p, 0, none⟩), .string s] W fun e W' => e = .returned (.tuple #[.int .i64 ((cnt : Int) + 1), .int .i64 0]) ∧ Reg B p (cnt + 1) (xs ++ [.int .i64 5, .bool false, .float .f64 0, .string s, .int .i64 0]) b1 b2 o1' o2' W' ∧ Below B W W' := by
  have hV := Fact.mk (show units_Valid.f s = some true by unfold units_Valid.f; rw [if_pos (by omega), hv])
  have hgd : gd 5 false 0 s 0 = true := by simp [gd, hv, hs]
  have hle := hR.le
  have hM := Fact.mk (fun w' (h : Below W.heap.size W w') => mkStr_c s w' (HT.below h))
  simp only [hgd, if_true] at hM
  have ha := Fact.mk (fun w' (h : Below W.heap.size W w') => add_c (hR.keep h) hc 5 false 0 s 0)
  have HT' := Fact.mk HT
  have hR' := Fact.mk hR
  have hl' := Fact.mk hl
  have hu1' := Fact.mk hu1
  have hu2' := Fact.mk hu2
  have mm1 := Fact.mk m1'
  have mm2 := Fact.mk m2'
  clear hv HT hR hl hgd hu1 hu2 m1' m2'
  unfold VV at *
  go_enter Tryz.func14, Tryz.ntmps14
  go_wp2_with (first | (go_at_call 37; refine (units_Valid.calls s _ _ ⟨HT'.out⟩ hV.out).mono ?_; rintro e w1 ⟨rfl, hb⟩; obtain ⟨c1, c2, k1, k2⟩ := (hR'.out.keep hb).maps; have q := hl'.out w1 k1) | (go_at_call 31; refine (hM.out _ hb).mono ?_; rintro e w2 ⟨rfl, hb2⟩; have hb3 := hb.trans (hb2.mono hb.size)) | (go_at_call 35; refine (ha.out _ hb3).mono ?_; rintro e w3 ⟨rfl, hR3, hb4⟩; obtain ⟨P1, P2, B1, B2⟩ := hR3.put mm1.out mm2.out; obtain ⟨Q1, Q2, B3, B4⟩ := P1.put mm1.out mm2.out; have d1 := hR3.maps; have q1 := hu1'.out w3 d1.2.2.1; have d2 := P1.maps; have q2 := hu2'.out _ d2.2.2.2; have c3 := d1.1; have c4 := d2.2.1))
  go_ret2
  exact ⟨rfl, Q2, (((hb3.mono hle).trans hb4).trans B1).trans B4⟩
end Go.Proofs.YtnknfffldgkgcaaGreatDoor

/- package symbol: the well-known names; a new registry. -/
namespace Go.Proofs.YtnknfffldgkgcaaGreatDoor
open Go.RowKit Go.Proofs.YtnknfffldgkgcaaGreatDoorW.PrintWords
attribute [local go_sem] run_store_float
attribute [local go_sem ↓] Go.wp_at_zero Go.wp_at_succ

/-- The name of the well-known symbol j + 1. -/
def wk (j : Nat) : ByteArray := match j with
  | 0 => ⟨#[83, 121, 109, 98, 111, 108, 46, 97, 115, 121, 110, 99, 73, 116, 101, 114, 97, 116, 111, 114]⟩
  | 1 => ⟨#[83, 121, 109, 98, 111, 108, 46, 104, 97, 115, 73, 110, 115, 116, 97, 110, 99, 101]⟩
  | 2 => ⟨#[83, 121, 109, 98, 111, 108, 46, 105, 115, 67, 111, 110, 99, 97, 116, 83, 112, 114, 101, 97, 100, 97, 98, 108, 101]⟩
  | 3 => ⟨#[83, 121, 109, 98, 111, 108, 46, 105, 116, 101, 114, 97, 116, 111, 114]⟩
  | 4 => ⟨#[83, 121, 109, 98, 111, 108, 46, 109, 97, 116, 99, 104]⟩
  | 5 => ⟨#[83, 121, 109, 98, 111, 108, 46, 109, 97, 116, 99, 104, 65, 108, 108]⟩
  | 6 => ⟨#[83, 121, 109, 98, 111, 108, 46, 114, 101, 112, 108, 97, 99, 101]⟩
  | 7 => ⟨#[83, 121, 109, 98, 111, 108, 46, 115, 101, 97, 114, 99, 104]⟩
  | 8 => ⟨#[83, 121, 109, 98, 111, 108, 46, 115, 112, 101, 99, 105, 101, 115]⟩
  | 9 => ⟨#[83, 121, 109, 98, 111, 108, 46, 115, 112, 108, 105, 116]⟩
  | 10 => ⟨#[83, 121, 109, 98, 111, 108, 46, 116, 111, 80, 114, 105, 109, 105, 116, 105, 118, 101]⟩
  | 11 => ⟨#[83, 121, 109, 98, 111, 108, 46, 116, 111, 83, 116, 114, 105, 110, 103, 84, 97, 103]⟩
  | 12 => ⟨#[83, 121, 109, 98, 111, 108, 46, 117, 110, 115, 99, 111, 112, 97, 98, 108, 101, 115]⟩
  | _ => ⟨#[]⟩
theorem wk_gd (j : Nat) (h : j < 13) : gd 5 false 0 (wk j) 0 = true := by
  have : ∀ j < 13, gd 5 false 0 (wk j) 0 = true := by decide +kernel
  exact this j h
/-- The cells of the first n descriptions. -/
def flatW : Nat → List Value
  | 0 => []
  | n + 1 => flatW n ++ [.int .i64 5, .bool false, .float .f64 0, .string (wk n), .int .i64 0]
theorem flatW_len : ∀ n, (flatW n).length = 5 * n
  | 0 => rfl
  | n + 1 => by simp [flatW, flatW_len n]; omega

theorem wk0_c (w : World) : Calls Tryz.prog 30 #[.int .i64 1] w fun e w' => e = .returned (.tuple #[.string (wk 0), .bool true]) ∧ Below w.heap.size w w' := by
  have ha : ∀ W, (Op.stringOp .add ⟨#[83, 121, 109, 98, 111, 108, 46]⟩ ⟨#[97, 115, 121, 110, 99, 73, 116, 101, 114, 97, 116, 111, 114]⟩).run Tryz.prog W = .ok (.string (wk 0)) W := fun W => by rw [addS _ _ (by decide +kernel)]; rfl
  go_enter Tryz.func30, Tryz.ntmps30
  go_wp2
  go_ret2
  exact ⟨rfl, (Below.refl _ _).alloc (Nat.le_refl _) _⟩
theorem wk1_c (w : World) : Calls Tryz.prog 30 #[.int .i64 2] w fun e w' => e = .returned (.tuple #[.string (wk 1), .bool true]) ∧ Below w.heap.size w w' := by
  have ha : ∀ W, (Op.stringOp .add ⟨#[83, 121, 109, 98, 111, 108, 46]⟩ ⟨#[104, 97, 115, 73, 110, 115, 116, 97, 110, 99, 101]⟩).run Tryz.prog W = .ok (.string (wk 1)) W := fun W => by rw [addS _ _ (by decide +kernel)]; rfl
  go_enter Tryz.func30, Tryz.ntmps30
  go_wp2
  go_ret2
  exact ⟨rfl, (Below.refl _ _).alloc (Nat.le_refl _) _⟩
theorem wk2_c (w : World) : Calls Tryz.prog 30 #[.int .i64 3] w fun e w' => e = .returned (.tuple #[.string (wk 2), .bool true]) ∧ Below w.heap.size w w' := by
  have ha : ∀ W, (Op.stringOp .add ⟨#[83, 121, 109, 98, 111, 108, 46]⟩ ⟨#[105, 115, 67, 111, 110, 99, 97, 116, 83, 112, 114, 101, 97, 100, 97, 98, 108, 101]⟩).run Tryz.prog W = .ok (.string (wk 2)) W := fun W => by rw [addS _ _ (by decide +kernel)]; rfl
  go_enter Tryz.func30, Tryz.ntmps30
  go_wp2
  go_ret2
  exact ⟨rfl, (Below.refl _ _).alloc (Nat.le_refl _) _⟩
theorem wk3_c (w : World) : Calls Tryz.prog 30 #[.int .i64 4] w fun e w' => e = .returned (.tuple #[.string (wk 3), .bool true]) ∧ Below w.heap.size w w' := by
  have ha : ∀ W, (Op.stringOp .add ⟨#[83, 121, 109, 98, 111, 108, 46]⟩ ⟨#[105, 116, 101, 114, 97, 116, 111, 114]⟩).run Tryz.prog W = .ok (.string (wk 3)) W := fun W => by rw [addS _ _ (by decide +kernel)]; rfl
  go_enter Tryz.func30, Tryz.ntmps30
  go_wp2
  go_ret2
  exact ⟨rfl, (Below.refl _ _).alloc (Nat.le_refl _) _⟩
theorem wk4_c (w : World) : Calls Tryz.prog 30 #[.int .i64 5] w fun e w' => e = .returned (.tuple #[.string (wk 4), .bool true]) ∧ Below w.heap.size w w' := by
  have ha : ∀ W, (Op.stringOp .add ⟨#[83, 121, 109, 98, 111, 108, 46]⟩ ⟨#[109, 97, 116, 99, 104]⟩).run Tryz.prog W = .ok (.string (wk 4)) W := fun W => by rw [addS _ _ (by decide +kernel)]; rfl
  go_enter Tryz.func30, Tryz.ntmps30
  go_wp2
  go_ret2
  exact ⟨rfl, (Below.refl _ _).alloc (Nat.le_refl _) _⟩
theorem wk5_c (w : World) : Calls Tryz.prog 30 #[.int .i64 6] w fun e w' => e = .returned (.tuple #[.string (wk 5), .bool true]) ∧ Below w.heap.size w w' := by
  have ha : ∀ W, (Op.stringOp .add ⟨#[83, 121, 109, 98, 111, 108, 46]⟩ ⟨#[109, 97, 116, 99, 104, 65, 108, 108]⟩).run Tryz.prog W = .ok (.string (wk 5)) W := fun W => by rw [addS _ _ (by decide +kernel)]; rfl
  go_enter Tryz.func30, Tryz.ntmps30
  go_wp2
  go_ret2
  exact ⟨rfl, (Below.refl _ _).alloc (Nat.le_refl _) _⟩
theorem wk6_c (w : World) : Calls Tryz.prog 30 #[.int .i64 7] w fun e w' => e = .returned (.tuple #[.string (wk 6), .bool true]) ∧ Below w.heap.size w w' := by
  have ha : ∀ W, (Op.stringOp .add ⟨#[83, 121, 109, 98, 111, 108, 46]⟩ ⟨#[114, 101, 112, 108, 97, 99, 101]⟩).run Tryz.prog W = .ok (.string (wk 6)) W := fun W => by rw [addS _ _ (by decide +kernel)]; rfl
  go_enter Tryz.func30, Tryz.ntmps30
  go_wp2
  go_ret2
  exact ⟨rfl, (Below.refl _ _).alloc (Nat.le_refl _) _⟩
theorem wk7_c (w : World) : Calls Tryz.prog 30 #[.int .i64 8] w fun e w' => e = .returned (.tuple #[.string (wk 7), .bool true]) ∧ Below w.heap.size w w' := by
  have ha : ∀ W, (Op.stringOp .add ⟨#[83, 121, 109, 98, 111, 108, 46]⟩ ⟨#[115, 101, 97, 114, 99, 104]⟩).run Tryz.prog W = .ok (.string (wk 7)) W := fun W => by rw [addS _ _ (by decide +kernel)]; rfl
  go_enter Tryz.func30, Tryz.ntmps30
  go_wp2
  go_ret2
  exact ⟨rfl, (Below.refl _ _).alloc (Nat.le_refl _) _⟩
theorem wk8_c (w : World) : Calls Tryz.prog 30 #[.int .i64 9] w fun e w' => e = .returned (.tuple #[.string (wk 8), .bool true]) ∧ Below w.heap.size w w' := by
  have ha : ∀ W, (Op.stringOp .add ⟨#[83, 121, 109, 98, 111, 108, 46]⟩ ⟨#[115, 112, 101, 99, 105, 101, 115]⟩).run Tryz.prog W = .ok (.string (wk 8)) W := fun W => by rw [addS _ _ (by decide +kernel)]; rfl
  go_enter Tryz.func30, Tryz.ntmps30
  go_wp2
  go_ret2
  exact ⟨rfl, (Below.refl _ _).alloc (Nat.le_refl _) _⟩
theorem wk9_c (w : World) : Calls Tryz.prog 30 #[.int .i64 10] w fun e w' => e = .returned (.tuple #[.string (wk 9), .bool true]) ∧ Below w.heap.size w w' := by
  have ha : ∀ W, (Op.stringOp .add ⟨#[83, 121, 109, 98, 111, 108, 46]⟩ ⟨#[115, 112, 108, 105, 116]⟩).run Tryz.prog W = .ok (.string (wk 9)) W := fun W => by rw [addS _ _ (by decide +kernel)]; rfl
  go_enter Tryz.func30, Tryz.ntmps30
  go_wp2
  go_ret2
  exact ⟨rfl, (Below.refl _ _).alloc (Nat.le_refl _) _⟩
theorem wk10_c (w : World) : Calls Tryz.prog 30 #[.int .i64 11] w fun e w' => e = .returned (.tuple #[.string (wk 10), .bool true]) ∧ Below w.heap.size w w' := by
  have ha : ∀ W, (Op.stringOp .add ⟨#[83, 121, 109, 98, 111, 108, 46]⟩ ⟨#[116, 111, 80, 114, 105, 109, 105, 116, 105, 118, 101]⟩).run Tryz.prog W = .ok (.string (wk 10)) W := fun W => by rw [addS _ _ (by decide +kernel)]; rfl
  go_enter Tryz.func30, Tryz.ntmps30
  go_wp2
  go_ret2
  exact ⟨rfl, (Below.refl _ _).alloc (Nat.le_refl _) _⟩
theorem wk11_c (w : World) : Calls Tryz.prog 30 #[.int .i64 12] w fun e w' => e = .returned (.tuple #[.string (wk 11), .bool true]) ∧ Below w.heap.size w w' := by
  have ha : ∀ W, (Op.stringOp .add ⟨#[83, 121, 109, 98, 111, 108, 46]⟩ ⟨#[116, 111, 83, 116, 114, 105, 110, 103, 84, 97, 103]⟩).run Tryz.prog W = .ok (.string (wk 11)) W := fun W => by rw [addS _ _ (by decide +kernel)]; rfl
  go_enter Tryz.func30, Tryz.ntmps30
  go_wp2
  go_ret2
  exact ⟨rfl, (Below.refl _ _).alloc (Nat.le_refl _) _⟩
theorem wk12_c (w : World) : Calls Tryz.prog 30 #[.int .i64 13] w fun e w' => e = .returned (.tuple #[.string (wk 12), .bool true]) ∧ Below w.heap.size w w' := by
  have ha : ∀ W, (Op.stringOp .add ⟨#[83, 121, 109, 98, 111, 108, 46]⟩ ⟨#[117, 110, 115, 99, 111, 112, 97, 98, 108, 101, 115]⟩).run Tryz.prog W = .ok (.string (wk 12)) W := fun W => by rw [addS _ _ (by decide +kernel)]; rfl
  go_enter Tryz.func30, Tryz.ntmps30
  go_wp2
  go_ret2
  exact ⟨rfl, (Below.refl _ _).alloc (Nat.le_refl _) _⟩
theorem wk_c (j : Nat) (h : j < 13) (w : World) : Calls Tryz.prog 30 #[.int .i64 ((j : Int) + 1)] w fun e w' => e = .returned (.tuple #[.string (wk j), .bool true]) ∧ Below w.heap.size w w' := by
  match j, h with
  | 0, _ => exact wk0_c w
  | 1, _ => exact wk1_c w
  | 2, _ => exact wk2_c w
  | 3, _ => exact wk3_c w
  | 4, _ => exact wk4_c w
  | 5, _ => exact wk5_c w
  | 6, _ => exact wk6_c w
  | 7, _ => exact wk7_c w
  | 8, _ => exact wk8_c w
  | 9, _ => exact wk9_c w
  | 10, _ => exact wk10_c w
  | 11, _ => exact wk11_c w
  | 12, _ => exact wk12_c w
  | _ + 13, h => omega
end Go.Proofs.YtnknfffldgkgcaaGreatDoor

/- package symbol: a new registry. -/
namespace Go.Proofs.YtnknfffldgkgcaaGreatDoor
open Go.RowKit Go.Proofs.YtnknfffldgkgcaaGreatDoorW.PrintWords
attribute [local go_sem] run_store_float
attribute [local go_sem ↓] Go.wp_at_zero Go.wp_at_succ

theorem mm1 (w : World) : (Instr.makeMap 70 none).run Tryz.prog w = .ok (.map (some w.heap.size)) (w.alloc (.map #[] 0)) := by kernel_rfl
theorem mm2 (w : World) : (Instr.makeMap 71 none).run Tryz.prog w = .ok (.map (some w.heap.size)) (w.alloc (.map #[] 0)) := by kernel_rfl

theorem after_str {B p cnt : Nat} {xs : List Value} {v : Value} {w1 w2 : World} {o : Obj} (hp : w1.heap[p]? = some o) (ho : w1.ownsRow B 35 5 v cnt xs) (hb : Below w1.drew.heap.size w1.drew w2) :
    Below w1.heap.size w1 w2 ∧ w2.heap[p]? = some o ∧ w2.ownsRow B 35 5 v cnt xs ∧ w1.heap.size ≤ w2.heap.size := by
  have hb' : Below w1.heap.size w1 w2 := ⟨hb.os, hb.tape, hb.output, hb.size, hb.block⟩
  exact ⟨hb', keepA hp hb', ho.kept (row := none) (Below.grown hb' rfl) (by cases h : v.ownBlock <;> simp), hb'.size⟩

set_option maxRecDepth 100000 in
theorem new_c (w : World) (HT : Tabs w) : Calls Tryz.prog 9 #[] w fun e W' => ∃ p b1 b2, e = .returned (.pointer (some ⟨p, 0, none⟩)) ∧ Reg w.heap.size p 13 (flatW 13) b1 b2 (.map #[] 0) (.map #[] 0) W' ∧ Below w.heap.size w W' := by
  have hT := Fact.mk (fun w' (h : Below w.heap.size w w') => HT.below h)
  obtain ⟨i0, hi0, hz0, hz1, hz2⟩ := info_parts infoV
  have hI := Fact.mk (And.intro hi0 (And.intro hz0 (And.intro hz1 hz2)))
  have q1 := mm1
  have q2 := mm2
  clear HT hi0 hz0 hz1 hz2
  go_enter Tryz.func9, Tryz.ntmps9
  go_wp2
  obtain ⟨W1, hW1⟩ : ∃ W1, W1 = ((w.alloc (.map #[] 0)).alloc (.map #[] 0)).alloc (.cells #[.slice none 0 0, .map (some w.heap.size), .map (some (w.heap.size + 1))] 74) := ⟨_, rfl⟩
  rw [← hW1]
  have HB := Aside0.mk (show Below w.heap.size w W1 by rw [hW1]; exact (((Below.refl _ _).alloc (Nat.le_refl _) _).alloc (by simp) _).alloc (by simp; omega) _)
  have HR := Aside0.mk (show Reg w.heap.size (w.heap.size + 1 + 1) 0 (flatW 0) w.heap.size (w.heap.size + 1) (.map #[] 0) (.map #[] 0) W1 by
    rw [hW1]
    refine ⟨by omega, by omega, by omega, by omega, ?_, ?_, ⟨_, _, rfl⟩, ⟨_, _, rfl⟩, none, 0, ?_, World.ownsRow_nil _ _ _ _⟩
    · exact oldA (oldA (heap_alloc_new w _) _) _
    · exact oldA (heap_alloc2_new w _ _) _
    · have := heap_alloc_new ((w.alloc (.map #[] 0)).alloc (.map #[] 0)) (.cells #[.slice none 0 0, .map (some w.heap.size), .map (some (w.heap.size + 1))] 74)
      simpa using this)
  clear hW1 q1 q2
  generalize w.heap.size + 1 + 1 = p at *
  generalize hq1 : w.heap.size + 1 = b2 at *
  clear hq1
  obtain ⟨b1, hb1⟩ : ∃ b1, b1 = w.heap.size := ⟨_, rfl⟩
  go_loopg [2] 13 (fun kq v2 w' => ∃ j : Nat, v2 = .int .i64 ((j : Int) + 1) ∧ Aside0 (j + kq = 13) ∧ Aside0 (Reg w.heap.size p j (flatW j) w.heap.size b2 (.map #[] 0) (.map #[] 0) w') ∧ Aside0 (Below w.heap.size w w'))
  case atStart => exact ⟨0, rfl, ⟨by omega⟩, ⟨HR.out⟩, ⟨HB.out⟩⟩
  case round =>
    obtain ⟨j, rfl, HN, HRj, HBj⟩ := hrel
    by_cases c1 : (j : Int) + 1 ≤ 13
    · have hj : j < 13 := by omega
      have hk := Fact.mk (fun w => wk_c j hj w)
      cases gk with
      | zero => exact absurd HN.out (by omega)
      | succ k1 =>
        have hM := Fact.mk (fun W (h : Below w.heap.size w W) => mkStr_c (wk j) W (hT.out W h))
        simp only [wk_gd j hj, if_true] at hM
        unfold VV at hM
        go_wp2_with (go_at_call 30; refine (hk.out _).mono ?_; rintro e w1 ⟨rfl, hb⟩)
        obtain ⟨h1, h2, h3, h4, k1, k2, m1, m2, a, cap, hp, ho⟩ := HRj.out.keep hb
        have hB1 := Fact.mk (HBj.out.trans (hb.mono HBj.out.size))
        have c0 := (cellP hp).1
        obtain ⟨hi0, hz0, hz1, hz2⟩ := hI.out
        have np := row_ne ho hp (by simp)
        have lp := ltH hp
        have hle := HBj.out.size
        go_region_law (first | (refine step_append_lies _ (by rfl) _ _ _ (by rfl) w.heap.size 35 i0 _ 5 48 Tryz.underlying72 hi0 hz0 hz1 hz2 rfl (by omega) (.slice a j cap) j (flatW j) (by rfl) (ho2.alloc _) ⟨w2.heap.size, 0, none⟩ 1 1 [.int .i64 5, .bool false, .float .f64 0, .string (wk j), .int .i64 0] (by rfl) (by rfl) (World.news_of_block (cs := #[.int .i64 5, .bool false, .float .f64 0, .string (wk j), .int .i64 0]) (t := 35) (fr := (0, 0)) (heap_alloc_new w2 _)) (by simp [Value.oneCell']) (by omega) (by simp only [maxLen]; omega) (by omega) (by simp; omega) (w2.heap.size + 1) (by simp) ?_; intro g cap' w3 hown3 hgrow hat hlt; have cp := (hgrow.cell_far ⟨p, 0, none⟩ (by simp; omega) np).trans (cellP (oldA hp2 _)).1; have fp := (hgrow.frozen_far ⟨p, 0, none⟩ (by simp; omega) np).trans (Lib.frozen_of_heap (oldA hp2 _) 0)) | (go_simp; go_at_call 31; refine (hM.out _ hB1.out.drew).mono ?_; rintro e w2 ⟨rfl, hb2⟩; obtain ⟨hb2', hp2, ho2, hle2⟩ := after_str hp ho hb2; have c0' := (cellP hp2).1; have c0'' := fun o => (cellP (oldA hp2 o)).1))
        all_goals
          obtain ⟨hR3, hB3⟩ := reg_grow h1 h2 h3 h4 (keepA k1 hb2') (keepA k2 hb2') m1 m2 hp2 ho2 ((Below.refl _ _).alloc (Nat.le_refl _) _) hgrow hown3
          have hB4 := (hB1.out.trans (hb2'.mono hB1.out.size)).trans hB3
          have HR4 := Aside0.mk (show Reg w.heap.size p (j + 1) (flatW (j + 1)) w.heap.size b2 (.map #[] 0) (.map #[] 0) _ from hR3)
          have HB4 := Aside0.mk hB4
          clear hR3 hB3 hB4
          generalize w3.setCell ⟨p, 0, none⟩ (.slice (some ⟨g, 0, none⟩) (j + 1) cap') = W3 at *
          clear hown3 hgrow hat hlt cp fp c0' c0'' c0 ho ho2 hp hp2 hb2 hb2' k1 k2 m1 m2 np hI hM hk hT HBj HRj hi0 hz0 hz1 hz2 hb hB1
          go_wp2
          go_roundg k1
          case measure => omega
          case rel => exact ⟨j + 1, by first | rfl | (congr 1; omega), ⟨by have := HN.out; omega⟩, HR4, HB4⟩
    · have hj : j = 13 := by have := HN.out; omega
      subst hj
      go_wp2
      go_ret
      exact ⟨p, rfl, ⟨w.heap.size, b2, HRj.out⟩, HBj.out⟩
end Go.Proofs.YtnknfffldgkgcaaGreatDoor

/- package symbol: the law's works: the chapter's first two examples. -/
namespace Go.Proofs.YtnknfffldgkgcaaGreatDoor
open Go.RowKit Go.Proofs.YtnknfffldgkgcaaGreatDoorW.PrintWords
open Go.ChangeMaps (setBlock)
open Go.MapKept
attribute [local go_sem] run_store_float

section
variable {P : Program} {W : World} {mt kt et : TypeId} {d : TypeDesc} {key : Value} {b c : Nat} {es : Array MapEntry}
theorem lookM {i : Nat} {v : Value} (ht : P.underlying mt = some (.map kt et)) (hd : P.underlying kt = some d) (hk : IsKey d key) (hb : W.heap[b]? = some (.map es c)) (hf : Instr.findNow d key es.toList 0 = some (some (i, v))) :
    (Instr.lookup mt (.map (some b)) key true).run P W = .ok (.tuple #[v, .bool true]) W := by
  simp [Instr.lookup, run_underlying ht, Go.MapKept.run_getObj_map hb, Go.MapKept.run_checkKey hd hk, Go.MapKept.run_findKey hd hf, Result.andThen]
theorem lookN {z : Value} (ht : P.underlying mt = some (.map kt et)) (hd : P.underlying kt = some d) (hk : IsKey d key) (hb : W.heap[b]? = some (.map es c)) (hf : Instr.findNow d key es.toList 0 = some none) (hz : (zeroValue et).run P W = .ok z W) :
    (Instr.lookup mt (.map (some b)) key true).run P W = .ok (.tuple #[z, .bool false]) W := by
  simp [Instr.lookup, run_underlying ht, Go.MapKept.run_getObj_map hb, Go.MapKept.run_checkKey hd hk, Go.MapKept.run_findKey hd hf, hz, Result.andThen]
theorem updN {val : Value} (ht : P.underlying mt = some (.map kt et)) (hd : P.underlying kt = some d) (hk : IsKey d key) (hb : W.heap[b]? = some (.map es c)) (hf : Instr.findNow d key es.toList 0 = some none) :
    (Instr.mapUpdate mt (.map (some b)) key val).run P W = .ok () (setBlock W b (.map (es.push { key, val, born := c }) (c + 1))) := by
  simp [Instr.mapUpdate, run_underlying ht, Go.MapKept.run_getObj_map hb, Go.MapKept.run_checkKey hd hk, Go.MapKept.run_findKey hd hf, Go.MapKept.run_setObj_map _ hb, Result.andThen, setBlock]
end

theorem zInt (W : World) : (zeroValue 3).run Tryz.prog W = .ok (.int .i64 0) W := by kernel_rfl
theorem zEntry (W : World) : (zeroValue 85).run Tryz.prog W = .ok (.agg #[.string ⟨#[]⟩]) W := by kernel_rfl
theorem u66 : Tryz.prog.underlying 70 = some (.map 9 3) := Tryz.underlying70
theorem u67 : Tryz.prog.underlying 71 = some (.map 3 85) := Tryz.underlying71
theorem isKS (s : ByteArray) : IsKey .string (.string s) := by first | trivial | simp [IsKey]
theorem isKI (n : Int) : IsKey (.int .i64) (.int .i64 n) := by first | trivial | simp [IsKey]

def xs15 : List Value := (flatW 13 ++ [.int .i64 1, .bool false, .float .f64 0, .string ⟨#[]⟩, .int .i64 0]) ++ [.int .i64 5, .bool false, .float .f64 0, .string ⟨#[97]⟩, .int .i64 0]
theorem cells4 : xs15[3 * 5]? = some (.int .i64 5) ∧ xs15[3 * 5 + 1]? = some (.bool false) ∧ xs15[3 * 5 + 2]? = some (.float .f64 0) ∧ xs15[3 * 5 + 3]? = some (.string (wk 3)) ∧ xs15[3 * 5 + 4]? = some (.int .i64 0) := ⟨rfl, rfl, rfl, rfl, rfl⟩
theorem gd1 : gd 1 false 0 ⟨#[]⟩ 0 = true := by decide +kernel
theorem val_a : (Pt.all ⟨#[97]⟩).2 = true := by decide +kernel
def s1 : ByteArray := ⟨#[83, 121, 109, 98, 111, 108, 40, 83, 121, 109, 98, 111, 108, 46, 105, 116, 101, 114, 97, 116, 111, 114]⟩
theorem ha1 (W : World) : (Op.stringOp .add ⟨#[83, 121, 109, 98, 111, 108, 40]⟩ (wk 3)).run Tryz.prog W = .ok (.string s1) W := by rw [addS _ _ (by decide +kernel)]; rfl
def s2 : ByteArray := ⟨#[83, 121, 109, 98, 111, 108, 40, 83, 121, 109, 98, 111, 108, 46, 105, 116, 101, 114, 97, 116, 111, 114, 41]⟩
theorem ha2 (W : World) : (Op.stringOp .add s1 ⟨#[41]⟩).run Tryz.prog W = .ok (.string s2) W := by rw [addS _ _ (by decide +kernel)]; rfl
theorem num_c (n : Int) (w : World) : Calls Tryz.prog 13 #[.int .i64 n] w fun e w' => e = .returned (.int .i64 n) ∧ w = w' := by
  go_enter Tryz.func13, Tryz.ntmps13
  go_wp2
  go_ret
  exact ⟨rfl, rfl⟩

end Go.Proofs.YtnknfffldgkgcaaGreatDoor

/- The law SymbolNew: its walk. -/
namespace Go.Proofs.YtnknfffldgkgcaaGreatDoor
open Go.RowKit Go.Proofs.YtnknfffldgkgcaaGreatDoorW.PrintWords
attribute [local go_sem] run_store_float
attribute [local go_sem ↓] Go.wp_at_zero Go.wp_at_succ

/-- A value's five fields. -/
structure Vl where
  k : Int
  b : Bool
  n : Nat
  s : ByteArray
  i : Int
/-- A row of values lies in the world. -/
def VRow (W : World) (A : Option Addr) (L : List Vl) : Prop :=
  0 < L.length → ∃ ad, A = some ad ∧ ∀ j v, L[j]? = some v → W.cell? (ad.add (j * 5)) = some (.int .i64 v.k) ∧ W.cell? (ad.add (j * 5 + 1)) = some (.bool v.b) ∧ W.cell? (ad.add (j * 5 + 2)) = some (.float .f64 v.n) ∧ W.cell? (ad.add (j * 5 + 3)) = some (.string v.s) ∧ W.cell? (ad.add (j * 5 + 4)) = some (.int .i64 v.i)

theorem addQ (ad : Addr) (x q : Nat) (hq : q ≠ 0) : (⟨(ad.add x).block, (ad.add x).off + q, none⟩ : Addr) = ad.add (x + q) := by
  unfold Addr.add
  by_cases hx : x = 0 <;> simp [hx, hq, Nat.add_assoc]
theorem VRow.at {W W' : World} {A : Option Addr} {L : List Vl} (h : VRow W A L) (hb : Below W.heap.size W W') (j : Nat) (hj : j < L.length) : ∃ ad v, A = some ad ∧ L[j]? = some v ∧ W'.cell? (ad.add (j * 5)) = some (.int .i64 v.k) ∧ W'.cell? ⟨(ad.add (j * 5)).block, (ad.add (j * 5)).off + 1, none⟩ = some (.bool v.b) ∧ W'.cell? ⟨(ad.add (j * 5)).block, (ad.add (j * 5)).off + 2, none⟩ = some (.float .f64 v.n) ∧ W'.cell? ⟨(ad.add (j * 5)).block, (ad.add (j * 5)).off + 3, none⟩ = some (.string v.s) ∧ W'.cell? ⟨(ad.add (j * 5)).block, (ad.add (j * 5)).off + 4, none⟩ = some (.int .i64 v.i) := by
  obtain ⟨ad, e, hc⟩ := h (by omega)
  obtain ⟨c0, c1, c2, c3, c4⟩ := hc j _ (List.getElem?_eq_getElem hj)
  have k : ∀ {p : Addr} {x : Value}, W.cell? p = some x → W'.cell? p = some x := fun {p} {x} h => by rw [hb.cell (World.block_lt_of_cell? W p h)]; exact h
  exact ⟨ad, _, e, List.getElem?_eq_getElem hj, k c0, by rw [addQ _ _ 1 (by decide)]; exact k c1, by rw [addQ _ _ 2 (by decide)]; exact k c2, by rw [addQ _ _ 3 (by decide)]; exact k c3, by rw [addQ _ _ 4 (by decide)]; exact k c4⟩

theorem lookE {W : World} {b : Nat} (n : Int) (h : W.heap[b]? = some (.map #[] 0)) : (Instr.lookup 71 (.map (some b)) (.int .i64 n) true).run Tryz.prog W = .ok (.tuple #[.agg #[.string ⟨#[]⟩], .bool false]) W :=
  lookN u67 Tryz.underlying3 (isKI _) h rfl (zEntry W)

theorem keepU {V W W' : World} {q0 q1 q2 q3 q4 q5 q6 q7 q8 q9 : Addr} {x0 x1 x2 x3 x4 x5 x6 x7 x8 x9 : Value} (hb : Below W.heap.size W W') (h : W.cell? q0 = some x0 ∧ W.cell? q1 = some x1 ∧ W.cell? q2 = some x2 ∧ W.cell? q3 = some x3 ∧ W.cell? q4 = some x4 ∧ W.cell? q5 = some x5 ∧ W.cell? q6 = some x6 ∧ W.cell? q7 = some x7 ∧ W.cell? q8 = some x8 ∧ W.cell? q9 = some x9 ∧ Below V.heap.size V W) : W'.cell? q0 = some x0 ∧ W'.cell? q1 = some x1 ∧ W'.cell? q2 = some x2 ∧ W'.cell? q3 = some x3 ∧ W'.cell? q4 = some x4 ∧ W'.cell? q5 = some x5 ∧ W'.cell? q6 = some x6 ∧ W'.cell? q7 = some x7 ∧ W'.cell? q8 = some x8 ∧ W'.cell? q9 = some x9 ∧ Below V.heap.size V W' := by
  have k : ∀ {p : Addr} {x : Value}, W.cell? p = some x → W'.cell? p = some x := fun {p} {x} h => by rw [hb.cell (World.block_lt_of_cell? W p h)]; exact h
  obtain ⟨h0, h1, h2, h3, h4, h5, h6, h7, h8, h9, hB⟩ := h
  exact ⟨k h0, k h1, k h2, k h3, k h4, k h5, k h6, k h7, k h8, k h9, hB.trans (hb.mono hB.size)⟩
theorem belU {V W : World} {q0 q1 q2 q3 q4 q5 q6 q7 q8 q9 : Addr} {x0 x1 x2 x3 x4 x5 x6 x7 x8 x9 : Value} (h : W.cell? q0 = some x0 ∧ W.cell? q1 = some x1 ∧ W.cell? q2 = some x2 ∧ W.cell? q3 = some x3 ∧ W.cell? q4 = some x4 ∧ W.cell? q5 = some x5 ∧ W.cell? q6 = some x6 ∧ W.cell? q7 = some x7 ∧ W.cell? q8 = some x8 ∧ W.cell? q9 = some x9 ∧ Below V.heap.size V W) : Below V.heap.size V W := h.2.2.2.2.2.2.2.2.2.2
theorem getR (xs : List Value) (cnt q : Nat) (ys : List Value) (hx : xs.length = cnt * 5) : (xs ++ ys)[cnt * 5 + q]? = ys[q]? := by
  rw [List.getElem?_append_right (by omega), hx]; congr 1; omega
theorem Reg.len {B p cnt : Nat} {xs : List Value} {b1 b2 : Nat} {o1 o2 : Obj} {W : World} (h : Reg B p cnt xs b1 b2 o1 o2 W) : xs.length = cnt * 5 := by
  obtain ⟨_, _, _, _, _, _, _, _, _, _, _, ho⟩ := h
  exact ho.1

end Go.Proofs.YtnknfffldgkgcaaGreatDoor
