/- package symbol: a registry in a world; what reads it, and what adds to it. -/
import Derived.Test.YtgnifckehopjhaaDoorValG
import Derived.Deep.AppendLies
import Derived.Deep.RegionLaw
import Derived.Deep.RegionHeld3
import Derived.Deep.DrawnRows
import Derived.OwnWalk
import Derived.WalkKit
import Derived.Outline
namespace Go.Proofs.YtgnifckehopjhaaDoor
open Go.RowKit Go.Proofs.YtgnifckehopjhaaDoorW.PrintWords
attribute [local go_sem] run_store_float

theorem infoV : (Tryd.prog.info? 44).map (fun i => (i.zero, i.size, i.bytes)) = some (some (.agg #[.int .i64 0, .bool false, .float .f64 0, .string ⟨#[]⟩, .int .i64 0]), 5, 48) := by kernel_rfl

/-- Block p holds a registry of cnt descriptions (their cells: xs) and two maps (what lies in their blocks: o1, o2); all of it lies from B on. -/
def Reg (B p cnt : Nat) (xs : List Value) (b1 b2 : Nat) (o1 o2 : Obj) (W : World) : Prop :=
  B ≤ p ∧ B ≤ b1 ∧ B ≤ b2 ∧ b1 ≠ b2 ∧ W.heap[b1]? = some o1 ∧ W.heap[b2]? = some o2 ∧ (∃ es c, o1 = .map es c) ∧ (∃ es c, o2 = .map es c) ∧
  ∃ a cap, W.heap[p]? = some (.cells #[.slice a cnt cap, .map (some b1), .map (some b2)] 72 (0, 0)) ∧ W.ownsRow B 44 5 (.slice a cnt cap) cnt xs

theorem ltH {W : World} {g : Nat} {o : Obj} (h : W.heap[g]? = some o) : g < W.heap.size := (Array.getElem?_eq_some_iff.1 h).1
theorem Below.grown {B : Nat} {W W' : World} (h : Below B W W') (hs : W.heap.size = B) : W.grownBy W' none :=
  ⟨h.os, h.tape, h.output, h.size, fun k hk _ => h.block k (by omega)⟩

/-- The registry's own blocks are kept. -/
theorem Reg.keep {B p cnt : Nat} {xs : List Value} {b1 b2 : Nat} {o1 o2 : Obj} {W W' : World} (h : Reg B p cnt xs b1 b2 o1 o2 W) (hb : Below W.heap.size W W') : Reg B p cnt xs b1 b2 o1 o2 W' := by
  obtain ⟨h1, h2, h3, h4, k1, k2, m1, m2, a, cap, hp, ho⟩ := h
  exact ⟨h1, h2, h3, h4, (hb.block _ (ltH k1)).trans k1, (hb.block _ (ltH k2)).trans k2, m1, m2, a, cap, (hb.block _ (ltH hp)).trans hp, ho.kept (row := none) (Below.grown hb rfl) (by cases a <;> simp [Value.ownBlock])⟩

theorem Reg.le {B p cnt : Nat} {xs : List Value} {b1 b2 : Nat} {o1 o2 : Obj} {W : World} (h : Reg B p cnt xs b1 b2 o1 o2 W) : B ≤ W.heap.size := by
  obtain ⟨h1, h2, h3, h4, k1, k2, m1, m2, a, cap, hp, ho⟩ := h
  have := ltH hp; omega

theorem count_c {B p cnt : Nat} {xs : List Value} {b1 b2 : Nat} {o1 o2 : Obj} {W : World} (h : Reg B p cnt xs b1 b2 o1 o2 W) :
    Calls Tryd.prog 13 #[.pointer (some ⟨p, 0, none⟩)] W fun e W' => e = .returned (.int .i64 cnt) ∧ W = W' := by
  obtain ⟨h1, h2, h3, h4, k1, k2, m1, m2, a, cap, hp, ho⟩ := h
  have c0 : W.cell? ⟨p, 0, none⟩ = some (.slice a cnt cap) := by rw [Lib.cell_of_heap hp]; rfl
  clear hp ho k1 k2 m1 m2
  go_enter Tryd.func13, Tryd.ntmps13
  go_wp2
  go_ret
  exact ⟨rfl, rfl⟩

theorem has_c {B p cnt : Nat} {xs : List Value} {b1 b2 : Nat} {o1 o2 : Obj} {W : World} (h : Reg B p cnt xs b1 b2 o1 o2 W) (n : Int) (hn : 1 ≤ n) (hc : n ≤ cnt) :
    Calls Tryd.prog 31 #[.pointer (some ⟨p, 0, none⟩), .int .i64 n] W fun e W' => e = .returned (.bool true) ∧ W = W' := by
  obtain ⟨h1, h2, h3, h4, k1, k2, m1, m2, a, cap, hp, ho⟩ := h
  have c0 : W.cell? ⟨p, 0, none⟩ = some (.slice a cnt cap) := by rw [Lib.cell_of_heap hp]; rfl
  have d1 : decide ((1 : Int) ≤ n) = true := decide_eq_true hn
  have d2 : decide (n ≤ (cnt : Int)) = true := decide_eq_true hc
  clear hp ho k1 k2 m1 m2
  go_enter Tryd.func31, Tryd.ntmps31
  go_wp2
  go_ret
  exact ⟨by simp_all, rfl⟩
theorem hasNot_c {B p cnt : Nat} {xs : List Value} {b1 b2 : Nat} {o1 o2 : Obj} {W : World} (h : Reg B p cnt xs b1 b2 o1 o2 W) (n : Int) (hn : n < 1 ∨ (cnt : Int) < n) :
    Calls Tryd.prog 31 #[.pointer (some ⟨p, 0, none⟩), .int .i64 n] W fun e W' => e = .returned (.bool false) ∧ W = W' := by
  obtain ⟨h1, h2, h3, h4, k1, k2, m1, m2, a, cap, hp, ho⟩ := h
  have c0 : W.cell? ⟨p, 0, none⟩ = some (.slice a cnt cap) := by rw [Lib.cell_of_heap hp]; rfl
  have d1 : (decide ((1 : Int) ≤ n) && decide (n ≤ (cnt : Int))) = false := by
    rw [Bool.and_eq_false_iff, decide_eq_false_iff_not, decide_eq_false_iff_not]; omega
  clear hp ho k1 k2 m1 m2
  go_enter Tryd.func31, Tryd.ntmps31
  go_wp2
  all_goals (go_ret; exact ⟨by simp_all, rfl⟩)

theorem row_ne {B g cnt : Nat} {xs : List Value} {v : Value} {W : World} {o : Obj} (ho : W.ownsRow B 44 5 v cnt xs) (hg : W.heap[g]? = some o) (hn : ∀ cs, o ≠ .cells cs 44 (0, 0)) : some g ≠ v.ownBlock := by
  rcases ho.2 with ⟨rfl, _⟩ | ⟨q, c, cur, rfl, _, hq, _⟩
  · simp [Value.ownBlock]
  · intro e
    have : g = q := by simpa [Value.ownBlock] using e
    subst this
    rw [hq] at hg
    exact hn cur (Option.some.inj hg).symm

theorem reg_grow {B p cnt : Nat} {xs ys : List Value} {b1 b2 : Nat} {o1 o2 : Obj} {a : Option Addr} {cap g cap' : Nat} {W V w1 : World} (h1 : B ≤ p) (h2 : B ≤ b1) (h3 : B ≤ b2) (h4 : b1 ≠ b2) (k1 : W.heap[b1]? = some o1) (k2 : W.heap[b2]? = some o2) (m1 : ∃ es c, o1 = .map es c) (m2 : ∃ es c, o2 = .map es c)
    (hp : W.heap[p]? = some (.cells #[.slice a cnt cap, .map (some b1), .map (some b2)] 72 (0, 0))) (ho : W.ownsRow B 44 5 (.slice a cnt cap) cnt xs)
    (hBV : Below W.heap.size W V) (hgrow : V.grownBy w1 (Value.slice a cnt cap).ownBlock) (hown : w1.ownsRow B 44 5 (.slice (some ⟨g, 0, none⟩) (cnt + 1) cap') (cnt + 1) ys) :
    Reg B p (cnt + 1) ys b1 b2 o1 o2 (w1.setCell ⟨p, 0, none⟩ (.slice (some ⟨g, 0, none⟩) (cnt + 1) cap')) ∧ Below B W (w1.setCell ⟨p, 0, none⟩ (.slice (some ⟨g, 0, none⟩) (cnt + 1) cap')) := by
  have hk : ∀ q, q < W.heap.size → some q ≠ (Value.slice a cnt cap).ownBlock → w1.heap[q]? = W.heap[q]? := fun q hq hne => (hgrow.block q (by have := hBV.size; omega) hne).trans (hBV.block q hq)
  have np := row_ne ho hp (by simp)
  have n1 := row_ne ho k1 (by obtain ⟨es, c, rfl⟩ := m1; simp)
  have n2 := row_ne ho k2 (by obtain ⟨es, c, rfl⟩ := m2; simp)
  have hp1 := (hk p (ltH hp) np).trans hp
  have hb1 := (hk b1 (ltH k1) n1).trans k1
  have hb2 := (hk b2 (ltH k2) n2).trans k2
  have e1 : b1 ≠ p := by rintro rfl; obtain ⟨es, c, rfl⟩ := m1; rw [k1] at hp; cases hp
  have e2 : b2 ≠ p := by rintro rfl; obtain ⟨es, c, rfl⟩ := m2; rw [k2] at hp; cases hp
  have hgp : some p ≠ (Value.slice (some ⟨g, 0, none⟩) (cnt + 1) cap').ownBlock := row_ne hown hp1 (by simp)
  have hs : w1.grownBy (w1.setCell ⟨p, 0, none⟩ (.slice (some ⟨g, 0, none⟩) (cnt + 1) cap')) (some p) :=
    ⟨rfl, rfl, rfl, by simp [World.setCell], fun q _ hne => Below.heap_setCell _ _ _ _ (fun e => hne (by rw [e]))⟩
  refine ⟨⟨h1, h2, h3, h4, ?_, ?_, m1, m2, _, _, ?_, hown.kept hs (.inr (Ne.symm hgp))⟩, ?_⟩
  · rw [Below.heap_setCell _ _ _ _ e1]; exact hb1
  · rw [Below.heap_setCell _ _ _ _ e2]; exact hb2
  · simp [World.setCell, Array.getElem?_modify, hp1]
  · refine ⟨hgrow.os.trans hBV.os, hgrow.tape.trans hBV.tape, hgrow.output.trans hBV.output, ?_, fun q hq => ?_⟩
    · have e := hgrow.size
      have e' := hBV.size
      simp only [World.setCell, Array.size_modify]
      omega
    · have hlt := ltH hp
      rw [Below.heap_setCell _ _ _ _ (show q ≠ p by omega)]
      refine hk q (by omega) fun e => ?_
      have := (ho.lt q e.symm).1
      omega

theorem cp2 {W : World} {p : Nat} {v x y : Value} {t : TypeId} (hp : W.heap[p]? = some (.cells #[v, x, y] t (0, 0))) (o o' : Obj) : ((W.alloc o).alloc o').cell? ⟨p, 0, none⟩ = some v := by
  rw [Lib.cell_of_heap (show ((W.alloc o).alloc o').heap[p]? = _ from by rw [Lib.alloc_old _ o' _ (by have := ltH hp; simp; omega), Lib.alloc_old W o _ (ltH hp)]; exact hp)]; rfl
theorem fp2 {W : World} {p : Nat} {v x y : Value} {t : TypeId} (hp : W.heap[p]? = some (.cells #[v, x, y] t (0, 0))) (o o' : Obj) : ((W.alloc o).alloc o').frozen? ⟨p, 0, none⟩ = false :=
  Lib.frozen_of_heap (show ((W.alloc o).alloc o').heap[p]? = _ from by rw [Lib.alloc_old _ o' _ (by have := ltH hp; simp; omega), Lib.alloc_old W o _ (ltH hp)]; exact hp) 0
set_option maxRecDepth 100000 in
theorem add_c {B p cnt : Nat} {xs : List Value} {b1 b2 : Nat} {o1 o2 : Obj} {W : World} (h : Reg B p cnt xs b1 b2 o1 o2 W) (hc : cnt < 65536) (k : Int) (b : Bool) (n : Nat) (s : ByteArray) (i : Int) :
    Calls Tryd.prog 29 #[.pointer (some ⟨p, 0, none⟩), VV k b n s i] W fun e W' => e = .returned (.tuple #[.int .i64 ((cnt : Int) + 1), .int .i64 0]) ∧ Reg B p (cnt + 1) (xs ++ [.int .i64 k, .bool b, .float .f64 n, .string s, .int .i64 i]) b1 b2 o1 o2 W' ∧ Below B W W' := by
  have hle := h.le
  obtain ⟨h1, h2, h3, h4, k1, k2, m1, m2, a, cap, hp, ho⟩ := h
  obtain ⟨i0, hi0, hz0, hz1, hz2⟩ := info_parts infoV
  have c0 := fun o => (show (W.alloc o).cell? ⟨p, 0, none⟩ = some (.slice a cnt cap) by rw [Lib.cell_of_heap (show (W.alloc o).heap[p]? = _ from by rw [Lib.alloc_old W o _ (ltH hp)]; exact hp)]; rfl)
  have d1 : ¬ (65536 : Int) ≤ (cnt : Int) := by omega
  have np := row_ne ho hp (by simp)
  have lp := ltH hp
  unfold VV at *
  go_enter Tryd.func29, Tryd.ntmps29
  go_wp2_with fail
  have c1 := fun o => (show (W.alloc o).frozen? ⟨p, 0, none⟩ = false from Lib.frozen_of_heap (show (W.alloc o).heap[p]? = _ from by rw [Lib.alloc_old W o _ (ltH hp)]; exact hp) 0)
  go_region_law ((refine step_append_lies _ (by rfl) _ _ _ (by rfl) B 44 i0 _ 5 48 Tryd.underlying34 hi0 hz0 hz1 hz2 rfl (by omega) (.slice a cnt cap) cnt xs (by rfl) (by first | exact ((ho.alloc _).alloc _) | exact ((ho.alloc _).drew).alloc _) ⟨W.heap.size + 1, 0, none⟩ 1 1 [.int .i64 k, .bool b, .float .f64 n, .string s, .int .i64 i] (by rfl) (by rfl) (World.news_of_block (cs := #[.int .i64 k, .bool b, .float .f64 n, .string s, .int .i64 i]) (t := 44) (fr := (0, 0)) (heap_alloc2_new W _ _)) (by simp [Value.oneCell']) (by omega) (by simp only [maxLen]; omega) (by omega) (by simp; omega) (W.heap.size + 2) (by simp) ?_; intro g cap' w1 hown1 hgrow hat hlt; have cp := (hgrow.cell_far ⟨p, 0, none⟩ (by simp; omega) np).trans (cp2 hp _ _); have fp := (hgrow.frozen_far ⟨p, 0, none⟩ (by simp; omega) np).trans (fp2 hp _ _)))
  all_goals
    obtain ⟨hR, hB⟩ := reg_grow h1 h2 h3 h4 k1 k2 m1 m2 hp ho (((((Below.refl W.heap.size W).alloc (Nat.le_refl _) _).alloc (by simp) _)).drew) hgrow hown1
    have cn : (w1.setCell ⟨p, 0, none⟩ (.slice (some ⟨g, 0, none⟩) (cnt + 1) cap')).cell? ⟨p, 0, none⟩ = some (.slice (some ⟨g, 0, none⟩) (cnt + 1) cap') := by
      exact World.cell?_setCell_same' _ _ _ (by rw [cp]; rfl)
    generalize w1.setCell ⟨p, 0, none⟩ (.slice (some ⟨g, 0, none⟩) (cnt + 1) cap') = W2 at *
    clear hown1 hgrow hat hlt cp fp c0 c1
    go_wp2
    go_ret2
    exact ⟨by simp, hR, hB⟩
end Go.Proofs.YtgnifckehopjhaaDoor
