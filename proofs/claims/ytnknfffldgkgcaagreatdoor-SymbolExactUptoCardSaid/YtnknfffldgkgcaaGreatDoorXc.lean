import Derived.Test.YtnknfffldgkgcaaGreatDoorNk
import Derived.Test.YtnknfffldgkgcaaGreatDoorSh
import Derived.Shelf.SlMaps.Clone
import Derived.Test.YtnknfffldgkgcaaGreatDoorProg
import Derived.Lib.SliceRun
set_option linter.all false
/- The reference's registry of symbols, at any list of them: what reads it. -/
namespace Go.Proofs.YtnknfffldgkgcaaGreatDoor
open Go.RowKit Go.Proofs.YtnknfffldgkgcaaGreatDoorW.PrintWords
attribute [local go_sem] run_store_float
attribute [local go_sem ↓] Go.wp_at_zero Go.wp_at_succ

/-- The reference's registry, its row at h. -/
structure RefG (B q h cnt : Nat) (xs : List Value) (W : World) : Prop where
  hB : B ≤ q
  row : ∃ cap, W.heap[q]? = some (.cells #[.slice (some ⟨h, 0, none⟩) cnt cap] 41 (0, 0)) ∧ W.ownsRow B 79 6 (.slice (some ⟨h, 0, none⟩) cnt cap) cnt xs

section
variable {B q h cnt : Nat} {xs : List Value} {W W' : World}
theorem RefG.ref (hR : RefG B q h cnt xs W) : Ref B q cnt xs W := by
  obtain ⟨h1, cap, hp, ho⟩ := hR
  exact ⟨h1, _, cap, hp, ho⟩
theorem Ref.refG (hR : Ref B q cnt xs W) (hc : 0 < cnt) : ∃ h, RefG B q h cnt xs W := by
  obtain ⟨h1, a, cap, hp, ho⟩ := hR
  obtain ⟨g, cap', e, _, _⟩ := ho.form hc
  cases e
  exact ⟨g, h1, cap, hp, ho⟩
theorem RefG.keepX {F : List Nat} (hR : RefG B q h cnt xs W) (hk : KeepX F W W') (h1 : q ∉ F) (h2 : h ∉ F) : RefG B q h cnt xs W' := by
  obtain ⟨hB, cap, hp, ho⟩ := hR
  exact ⟨hB, cap, hk.at hp h1, orow_same ho (hk.block h (orow_lt ho).1 h2)⟩
theorem RefG.keep (hR : RefG B q h cnt xs W) (hk : Below W.heap.size W W') : RefG B q h cnt xs W' := hR.keepX (F := []) (KeepX.of_below hk) (by simp) (by simp)
theorem RefG.lts (hR : RefG B q h cnt xs W) : q < W.heap.size ∧ h < W.heap.size ∧ B ≤ q ∧ B ≤ h := by
  obtain ⟨hB, cap, hp, ho⟩ := hR
  exact ⟨ltH hp, (orow_lt ho).1, hB, (orow_lt ho).2⟩
theorem RefG.nes (hR : RefG B q h cnt xs W) : q ≠ h := by
  obtain ⟨hB, cap, hp, ho⟩ := hR
  have n0 : some q ≠ (Value.slice (some ⟨h, 0, none⟩) cnt cap).ownBlock := rrow_ne ho hp (by simp)
  simpa [Value.ownBlock] using n0
theorem RefG.cell (hR : RefG B q h cnt xs W) : ∃ cap, W.cell? ⟨q, 0, none⟩ = some (.slice (some ⟨h, 0, none⟩) cnt cap) := by
  obtain ⟨hB, cap, hp, ho⟩ := hR
  exact ⟨cap, cellP1 hp⟩
theorem RefG.rd (hR : RefG B q h cnt xs W) {k : Nat} {u : Value} (hu : xs[k]? = some u) : W.cell? ⟨h, k, none⟩ = some u := by
  obtain ⟨hB, cap, hp, ho⟩ := hR
  have hc := ho.cells (g := h) rfl k u hu
  have hadd : (⟨h, 0, none⟩ : Addr).add k = ⟨h, k, none⟩ := by unfold Addr.add; split <;> simp_all
  rw [hadd] at hc; exact hc

theorem rhasX_c (hR : RefG B q h cnt xs W) (n : Int) :
    Calls Tryz.prog 49 #[.pointer (some ⟨q, 0, none⟩), .int .i64 n] W fun e W' => e = .returned (.bool (decide (1 ≤ n) && decide (n ≤ (cnt : Int)))) ∧ W = W' := by
  obtain ⟨cap, c0⟩ := hR.cell
  clear hR
  by_cases h1 : (1 : Int) ≤ n <;> by_cases h2 : n ≤ (cnt : Int)
  all_goals
    go_enter Tryz.func49, Tryz.ntmps49
    go_wp2
    go_ret
    exact ⟨by simp [h1, h2], rfl⟩
theorem rhasY_c (hR : RefG B q h cnt xs W) (j : Nat) (hj : j < cnt) :
    Calls Tryz.prog 49 #[.pointer (some ⟨q, 0, none⟩), .int .i64 ((j : Int) + 1)] W fun e W' => e = .returned (.bool true) ∧ W = W' := by
  have hf : (decide ((1 : Int) ≤ (j : Int) + 1) && decide ((j : Int) + 1 ≤ (cnt : Int))) = true := by simp; omega
  have := rhasX_c hR ((j : Int) + 1)
  rw [hf] at this
  exact this
theorem rhasN_c (hR : RefG B q h cnt xs W) (n : Int) (hn : n < 1 ∨ (cnt : Int) < n) :
    Calls Tryz.prog 49 #[.pointer (some ⟨q, 0, none⟩), .int .i64 n] W fun e W' => e = .returned (.bool false) ∧ W = W' := by
  have hf : (decide (1 ≤ n) && decide (n ≤ (cnt : Int))) = false := by
    rw [Bool.and_eq_false_iff, decide_eq_false_iff_not, decide_eq_false_iff_not]; omega
  have := rhasX_c hR n
  rw [hf] at this
  exact this

set_option maxRecDepth 100000 in
theorem rkeyNoX_c (hR : RefG B q h cnt xs W) (n : Int) (hn : n < 1 ∨ (cnt : Int) < n) :
    Calls Tryz.prog 24 #[.pointer (some ⟨q, 0, none⟩), .int .i64 n] W fun e W' => e = .returned (.tuple #[.string ⟨#[]⟩, .bool false, .int .i64 7]) ∧ W = W' := by
  have hh := Fact.mk (rhasN_c hR n hn)
  clear hR hn
  go_enter Tryz.func24, Tryz.ntmps24
  go_wp2_with (go_at_call 49; refine hh.out.mono ?_; rintro e w1 ⟨rfl, rfl⟩)
  refine bodyPost_ret (results_tmp3 rfl _ _ _) rfl ?_
  exact ⟨rfl, rfl⟩
set_option maxRecDepth 100000 in
theorem rkeyX_c (hR : RefG B q h cnt xs W) (hc : cnt ≤ 65536) (j : Nat) (hj : j < cnt) {s : ByteArray} {kn : Bool} (h3 : xs[j * 6 + 3]? = some (.string s)) (h5 : xs[j * 6 + 5]? = some (.bool kn)) :
    Calls Tryz.prog 24 #[.pointer (some ⟨q, 0, none⟩), .int .i64 ((j : Int) + 1)] W fun e W' => e = .returned (.tuple #[.string (if kn = true then s else ⟨#[]⟩), .bool kn, .int .i64 0]) ∧ W = W' := by
  have hh := Fact.mk (rhasY_c hR j hj)
  obtain ⟨cap, c0⟩ := hR.cell
  have e3 := hR.rd h3
  have e5 := hR.rd h5
  have i1 : (0 : Int) ≤ (j : Int) := by omega
  have i2 : (j : Int) < (cnt : Int) := by omega
  clear hR h3 h5
  cases kn
  all_goals
    go_enter Tryz.func24, Tryz.ntmps24
    go_wp2_with (go_at_call 49; refine hh.out.mono ?_; rintro e w1 ⟨rfl, rfl⟩)
    refine bodyPost_ret (results_tmp3 rfl _ _ _) rfl ?_
    exact ⟨rfl, rfl⟩

set_option maxRecDepth 100000 in
theorem rdescNoX_c (hR : RefG B q h cnt xs W) (n : Int) (hn : n < 1 ∨ (cnt : Int) < n) :
    Calls Tryz.prog 26 #[.pointer (some ⟨q, 0, none⟩), .int .i64 n] W fun e W' => e = .returned (.tuple #[VV 0 false 0 ⟨#[]⟩ 0, .int .i64 7]) ∧ Below W.heap.size W W' := by
  unfold VV
  have hh := Fact.mk (fun w' (hb : Below W.heap.size W w') => rhasN_c (hR.keep hb) n hn)
  clear hR hn
  go_enter Tryz.func26, Tryz.ntmps26
  go_wp2_with (go_at_call 49; refine (hh.out _ ((Below.refl _ _).alloc (Nat.le_refl _) _)).mono ?_; rintro e w1 ⟨rfl, rfl⟩)
  first
    | refine bodyPost_ret (results_ct rfl _ _ W.heap.size _ _ _ _ rfl (heap_alloc_new _ _) Tryz.underlying35 rfl (by kernel_rfl)) rfl ⟨rfl, (Below.refl _ _).alloc (Nat.le_refl _) _⟩
    | refine bodyPost_ret (results_ct rfl _ _ W.heap.size _ _ _ _ rfl (set5 (heap_alloc_new _ _) _ _ _ _ _) Tryz.underlying35 rfl (by kernel_rfl)) rfl ⟨rfl, setB5 ((Below.refl _ _).alloc (Nat.le_refl _) _) (Nat.le_refl _) _ _ _ _ _⟩
set_option maxRecDepth 100000 in
theorem rdescX_c (hR : RefG B q h cnt xs W) (hc : cnt ≤ 65536) (j : Nat) (hj : j < cnt) {k : Int} {b : Bool} {n : Nat} {s : ByteArray} {i : Int} (h0 : xs[j * 6]? = some (.int .i64 k)) (h1 : xs[j * 6 + 1]? = some (.bool b)) (h2 : xs[j * 6 + 2]? = some (.float .f64 n)) (h3 : xs[j * 6 + 3]? = some (.string s)) (h4 : xs[j * 6 + 4]? = some (.int .i64 i)) :
    Calls Tryz.prog 26 #[.pointer (some ⟨q, 0, none⟩), .int .i64 ((j : Int) + 1)] W fun e W' => e = .returned (.tuple #[VV k b n s i, .int .i64 0]) ∧ Below W.heap.size W W' := by
  unfold VV
  have hh := Fact.mk (fun w' (hb : Below W.heap.size W w') => rhasY_c (hR.keep hb) j hj)
  obtain ⟨cap, c0⟩ := hR.cell
  have e0 := hR.rd h0
  have e1 := hR.rd h1
  have e2 := hR.rd h2
  have e3 := hR.rd h3
  have e4 := hR.rd h4
  clear hR h0 h1 h2 h3 h4
  replace c0 := fun o => alloc_cellF c0 o
  replace e0 := fun o => alloc_cellF e0 o
  replace e1 := fun o => alloc_cellF e1 o
  replace e2 := fun o => alloc_cellF e2 o
  replace e3 := fun o => alloc_cellF e3 o
  replace e4 := fun o => alloc_cellF e4 o
  have f : ∀ q, (W.alloc (.cells #[.int .i64 0, .bool false, .float .f64 0, .string ⟨#[]⟩, .int .i64 0] 35)).frozen? ⟨W.heap.size, q, none⟩ = false := fun q => Lib.frozen_of_heap (heap_alloc_new W _) q
  have i1 : (0 : Int) ≤ (j : Int) := by omega
  have i2 : (j : Int) < (cnt : Int) := by omega
  go_enter Tryz.func26, Tryz.ntmps26
  go_wp2_with (go_at_call 49; refine (hh.out _ ((Below.refl _ _).alloc (Nat.le_refl _) _)).mono ?_; rintro e w1 ⟨rfl, rfl⟩)
  first
    | refine bodyPost_ret (results_ct rfl _ _ W.heap.size _ _ _ _ rfl (heap_alloc_new _ _) Tryz.underlying35 rfl (by kernel_rfl)) rfl ⟨rfl, (Below.refl _ _).alloc (Nat.le_refl _) _⟩
    | refine bodyPost_ret (results_ct rfl _ _ W.heap.size _ _ _ _ rfl (set5 (heap_alloc_new _ _) _ _ _ _ _) Tryz.underlying35 rfl (by kernel_rfl)) rfl ⟨rfl, setB5 ((Below.refl _ _).alloc (Nat.le_refl _) _) (Nat.le_refl _) _ _ _ _ _⟩

set_option maxRecDepth 100000 in
theorem rtextNoX_c (hR : RefG B q h cnt xs W) (n : Int) (hn : n < 1 ∨ (cnt : Int) < n) :
    Calls Tryz.prog 28 #[.pointer (some ⟨q, 0, none⟩), .int .i64 n] W fun e W' => e = .returned (.tuple #[.string ⟨#[]⟩, .int .i64 7]) ∧ W = W' := by
  have hh := Fact.mk (rhasN_c hR n hn)
  clear hR hn
  go_enter Tryz.func28, Tryz.ntmps28
  go_wp2_with (go_at_call 49; refine hh.out.mono ?_; rintro e w1 ⟨rfl, rfl⟩)
  go_ret2
  exact ⟨rfl, rfl⟩
set_option maxRecDepth 100000 in
theorem rtextX_c (hR : RefG B q h cnt xs W) (hc : cnt ≤ 65536) (j : Nat) (hj : j < cnt) {s S1 S2 : ByteArray} (h3 : xs[j * 6 + 3]? = some (.string s))
    (ha1 : ∀ W, (Op.stringOp .add ⟨#[83, 121, 109, 98, 111, 108, 40]⟩ s).run Tryz.prog W = .ok (.string S1) W) (ha2 : ∀ W, (Op.stringOp .add S1 ⟨#[41]⟩).run Tryz.prog W = .ok (.string S2) W) :
    Calls Tryz.prog 28 #[.pointer (some ⟨q, 0, none⟩), .int .i64 ((j : Int) + 1)] W fun e W' => e = .returned (.tuple #[.string (if (S2.size : Int) ≤ 1048576 then S2 else ⟨#[]⟩), .int .i64 (if (S2.size : Int) ≤ 1048576 then 0 else 6)]) ∧ W = W' := by
  have hh := Fact.mk (rhasY_c hR j hj)
  obtain ⟨cap, c0⟩ := hR.cell
  have e3 := hR.rd h3
  have i1 : (0 : Int) ≤ (j : Int) := by omega
  have i2 : (j : Int) < (cnt : Int) := by omega
  clear hR h3
  by_cases hs : (1048576 : Int) < (S2.size : Int)
  · have hs' : ¬ (S2.size : Int) ≤ 1048576 := by omega
    rw [if_neg hs', if_neg hs']
    go_enter Tryz.func28, Tryz.ntmps28
    go_wp2_with (go_at_call 49; refine hh.out.mono ?_; rintro e w1 ⟨rfl, rfl⟩)
    go_ret2
    exact ⟨rfl, rfl⟩
  · have hs' : (S2.size : Int) ≤ 1048576 := by omega
    rw [if_pos hs', if_pos hs']
    go_enter Tryz.func28, Tryz.ntmps28
    go_wp2_with (go_at_call 49; refine hh.out.mono ?_; rintro e w1 ⟨rfl, rfl⟩)
    go_ret2
    exact ⟨rfl, rfl⟩
end

/-- The reference's registry holds these symbols. -/
def RefS (A : List Sy) (B q h : Nat) (W : World) : Prop := RefG B q h A.length (f6 A) W
section
variable {A : List Sy} {B q h : Nat} {W : World}
theorem RefS.key (hR : RefS A B q h W) (hI : Inv A) (n : Int) :
    Calls Tryz.prog 24 #[.pointer (some ⟨q, 0, none⟩), .int .i64 n] W fun e W' => e = .returned (.tuple #[.string (keyR A n).1, .bool (keyR A n).2.1, .int .i64 (keyR A n).2.2]) ∧ W = W' := by
  unfold keyR
  rcases look_cases A n with ⟨j, x, hj, rfl, hx, he⟩ | ⟨hn, he⟩
  · rw [he]
    obtain ⟨x0, x1, x2, x3, x4, x5⟩ := f6_six hx
    exact rkeyX_c hR hI.hi j hj x3 x5
  · rw [he]
    exact rkeyNoX_c hR n hn
theorem RefS.desc (hR : RefS A B q h W) (hI : Inv A) (n : Int) :
    Calls Tryz.prog 26 #[.pointer (some ⟨q, 0, none⟩), .int .i64 n] W fun e W' => e = .returned (.tuple #[VV (descR A n).1.k (descR A n).1.b (descR A n).1.n (descR A n).1.s (descR A n).1.i, .int .i64 (descR A n).2]) ∧ Below W.heap.size W W' := by
  unfold descR
  rcases look_cases A n with ⟨j, x, hj, rfl, hx, he⟩ | ⟨hn, he⟩
  · rw [he]
    obtain ⟨x0, x1, x2, x3, x4, x5⟩ := f6_six hx
    exact rdescX_c hR hI.hi j hj x0 x1 x2 x3 x4
  · rw [he]
    exact rdescNoX_c hR n hn
theorem RefS.text (hR : RefS A B q h W) (hI : Inv A) (n : Int) :
    Calls Tryz.prog 28 #[.pointer (some ⟨q, 0, none⟩), .int .i64 n] W fun e W' => e = .returned (.tuple #[.string (textR A n).1, .int .i64 (textR A n).2]) ∧ W = W' := by
  unfold textR
  rcases look_cases A n with ⟨j, x, hj, rfl, hx, he⟩ | ⟨hn, he⟩
  · rw [he]
    obtain ⟨x0, x1, x2, x3, x4, x5⟩ := f6_six hx
    have hz := gd_size (hI.ok x (List.mem_of_getElem? hx))
    have := rtextX_c hR hI.hi j hj x3 (S1_run _ hz) (S2_run _ hz)
    simp only
    split
    · rename_i hs
      rw [if_pos hs, if_pos hs] at this
      exact this
    · rename_i hs
      rw [if_neg hs, if_neg hs] at this
      exact this
  · rw [he]
    exact rtextNoX_c hR n hn
end
end Go.Proofs.YtnknfffldgkgcaaGreatDoor

/- The reference's registry of symbols: Make, For. -/
namespace Go.Proofs.YtnknfffldgkgcaaGreatDoor
open Go.RowKit Go.Proofs.YtnknfffldgkgcaaGreatDoorW.PrintWords
attribute [local go_sem] run_store_float
attribute [local go_sem ↓] Go.wp_at_zero Go.wp_at_succ

theorem ref_growG {B p cnt : Nat} {xs ys : List Value} {g0 cap g cap' : Nat} {W V w1 : World} (h1 : B ≤ p)
    (hp : W.heap[p]? = some (.cells #[.slice (some ⟨g0, 0, none⟩) cnt cap] 41 (0, 0))) (ho : W.ownsRow B 79 6 (.slice (some ⟨g0, 0, none⟩) cnt cap) cnt xs)
    (hBV : Below W.heap.size W V) (hgrow : V.grownBy w1 (Value.slice (some ⟨g0, 0, none⟩) cnt cap).ownBlock) (hown : w1.ownsRow B 79 6 (.slice (some ⟨g, 0, none⟩) (cnt + 1) cap') (cnt + 1) ys) :
    RefG B p g (cnt + 1) ys (w1.setCell ⟨p, 0, none⟩ (.slice (some ⟨g, 0, none⟩) (cnt + 1) cap')) ∧ KeepX [p, g0] W (w1.setCell ⟨p, 0, none⟩ (.slice (some ⟨g, 0, none⟩) (cnt + 1) cap')) := by
  have hk : ∀ q, q < W.heap.size → some q ≠ (Value.slice (some ⟨g0, 0, none⟩) cnt cap).ownBlock → w1.heap[q]? = W.heap[q]? := fun q hq hne => (hgrow.block q (by have := hBV.size; omega) hne).trans (hBV.block q hq)
  have np := rrow_ne ho hp (by simp)
  have hp1 := (hk p (ltH hp) np).trans hp
  have hgp : some p ≠ (Value.slice (some ⟨g, 0, none⟩) (cnt + 1) cap').ownBlock := rrow_ne hown hp1 (by simp)
  have hs : w1.grownBy (w1.setCell ⟨p, 0, none⟩ (.slice (some ⟨g, 0, none⟩) (cnt + 1) cap')) (some p) :=
    ⟨rfl, rfl, rfl, by simp [World.setCell], fun q _ hne => Below.heap_setCell _ _ _ _ (fun e => hne (by rw [e]))⟩
  refine ⟨⟨h1, cap', ?_, hown.kept hs (.inr (Ne.symm hgp))⟩, ?_⟩
  · simp [World.setCell, Array.getElem?_modify, hp1]
  · refine ⟨hgrow.os.trans hBV.os, hgrow.tape.trans hBV.tape, hgrow.output.trans hBV.output, ?_, fun q hq hF => ?_⟩
    · have e := hgrow.size
      have e' := hBV.size
      simp only [World.setCell, Array.size_modify]
      omega
    · simp only [List.mem_cons, List.not_mem_nil, or_false, not_or] at hF
      rw [Below.heap_setCell _ _ _ _ hF.1]
      refine hk q hq fun e => ?_
      exact hF.2 (by simpa [Value.ownBlock] using e)

set_option maxRecDepth 100000 in
theorem rmakeX_c {B q h0 cnt : Nat} {xs : List Value} {W : World} (hR : RefG B q h0 cnt xs W) (hc : cnt < 65536) (k : Int) (b : Bool) (n : Nat) (s : ByteArray) (i : Int) (hn : n < 18446744073709551616) (hG : gd k b n s i = true) (hk : k = 1 ∨ k = 5) :
    Calls Tryz.prog 12 #[.pointer (some ⟨q, 0, none⟩), VV k b n s i] W fun e W' => e = .returned (.tuple #[.int .i64 ((cnt : Int) + 1), .int .i64 0]) ∧ ∃ h, RefG B q h (cnt + 1) (xs ++ [.int .i64 k, .bool b, .float .f64 n, .string s, .int .i64 i, .bool false]) W' ∧ (h = h0 ∨ W.heap.size ≤ h) ∧ KeepX [q, h0] W W' := by
  have hg := Fact.mk (fun w => by have := rGood_c k b n s i hn w; rw [hG] at this; exact this)
  have hR' := Fact.mk hR
  have hle := Fact.mk hR.lts
  obtain ⟨i0, hi0, hz0, hz1, hz2⟩ := info_parts infoS
  clear hR hG hn
  unfold VV at *
  rcases hk with rfl | rfl
  all_goals
    go_enter Tryz.func12, Tryz.ntmps12
    go_wp2_with fail
    refine (hg.out _).mono ?_
    rintro e w1 ⟨rfl, hb⟩
    obtain ⟨c0, c1, c2, c3, c4⟩ := cells5' hb
    have hb1 := below1 hb
    obtain ⟨hB, cap, hp, ho⟩ := hR'.out.keep hb1
    have cq := cellP1 hp
    clear hg
    have d1 : decide ((65536 : Int) ≤ (cnt : Int)) = false := decide_eq_false (by omega)
    go_wp2_with fail
    have np := rrow_ne ho hp (by simp)
    have lp := ltH hp
    have hl := hle.out
    have hl2 := hb1.size
    go_region_law ((refine step_append_lies _ (by rfl) _ _ _ (by rfl) B 79 i0 _ 6 56 Tryz.underlying39 hi0 hz0 hz1 hz2 rfl (by omega) (.slice (some ⟨h0, 0, none⟩) cnt cap) cnt xs (by rfl) (by first | exact ho.alloc _ | exact (ho.drew).alloc _) ⟨w1.heap.size, 0, none⟩ 1 1 _ (by rfl) (by rfl) (World.news_of_block (fr := (0, 0)) (heap_alloc_new _ _)) (by simp [Value.oneCell']) (by omega) (by simp only [maxLen]; omega) (by omega) (by simp; omega) (w1.heap.size + 1) (by simp) ?_; intro g cap' w2 hown hgrow hat hlt; have cp := (hgrow.cell_far ⟨q, 0, none⟩ (by simp; omega) np).trans (cellP1 (oldA hp _)); have fp := (hgrow.frozen_far ⟨q, 0, none⟩ (by simp; omega) np).trans (Lib.frozen_of_heap (oldA hp _) 0)))
    all_goals
      obtain ⟨hR3, hK3⟩ := ref_growG hB hp ho (((Below.refl w1.heap.size w1).drew).alloc (Nat.le_refl _) _) hgrow hown
      have cn : (w2.setCell ⟨q, 0, none⟩ (.slice (some ⟨g, 0, none⟩) (cnt + 1) cap')).cell? ⟨q, 0, none⟩ = some (.slice (some ⟨g, 0, none⟩) (cnt + 1) cap') := by
        exact World.cell?_setCell_same' _ _ _ (by rw [cp]; rfl)
      have hgw : g = h0 ∨ W.heap.size ≤ g := by
        rcases hat with h | h
        · left; have : h0 = g := by simpa [Value.ownBlock] using h
          exact this.symm
        · right; omega
      generalize w2.setCell ⟨q, 0, none⟩ (.slice (some ⟨g, 0, none⟩) (cnt + 1) cap') = W2 at *
      clear hown hgrow hat hlt cp fp c0 c1 c2 c3 c4 cq
      go_wp2
      go_ret2
      exact ⟨by simp, g, hR3, hgw, (KeepX.of_below hb1).trans hK3 (fun x hx => .inl hx)⟩

theorem rmakeFull_c {B q h0 cnt : Nat} {xs : List Value} {W : World} (hR : RefG B q h0 cnt xs W) (hc : 65536 ≤ cnt) (k : Int) (b : Bool) (n : Nat) (s : ByteArray) (i : Int) (hn : n < 18446744073709551616) (hG : gd k b n s i = true) (hk : k = 1 ∨ k = 5) :
    Calls Tryz.prog 12 #[.pointer (some ⟨q, 0, none⟩), VV k b n s i] W fun e W' => e = .returned (.tuple #[.int .i64 0, .int .i64 3]) ∧ Below W.heap.size W W' := by
  have hg := Fact.mk (fun w => by have := rGood_c k b n s i hn w; rw [hG] at this; exact this)
  have hR' := Fact.mk hR
  clear hR hG hn
  unfold VV at *
  rcases hk with rfl | rfl
  all_goals
    go_enter Tryz.func12, Tryz.ntmps12
    go_wp2_with fail
    refine (hg.out _).mono ?_
    rintro e w1 ⟨rfl, hb⟩
    obtain ⟨c0, c1, c2, c3, c4⟩ := cells5' hb
    have hb1 := below1 hb
    obtain ⟨hB, cap, hp, ho⟩ := hR'.out.keep hb1
    have cq := cellP1 hp
    clear hg hp ho hR'
    have d1 : decide ((65536 : Int) ≤ (cnt : Int)) = true := decide_eq_true (by omega)
    go_wp2
    go_ret2
    exact ⟨rfl, hb1⟩
theorem rmakeNot_c {p : Nat} {W : World} (k : Int) (b : Bool) (n : Nat) (s : ByteArray) (i : Int) (hn : n < 18446744073709551616) (hbad : gd k b n s i = false ∨ (k ≠ 1 ∧ k ≠ 5)) :
    Calls Tryz.prog 12 #[.pointer (some ⟨p, 0, none⟩), VV k b n s i] W fun e W' => e = .returned (.tuple #[.int .i64 0, .int .i64 5]) ∧ Below W.heap.size W W' := by
  cases hG : gd k b n s i with
  | false =>
    have hg := Fact.mk (fun w => by have := rGood_c k b n s i hn w; rw [hG] at this; exact this)
    clear hG hbad hn
    unfold VV at *
    go_enter Tryz.func12, Tryz.ntmps12
    go_wp2_with fail
    refine (hg.out _).mono ?_
    rintro e w1 ⟨rfl, hb⟩
    obtain ⟨c0, c1, c2, c3, c4⟩ := cells5' hb
    have hb1 := below1 hb
    clear hg
    go_wp2
    go_ret2
    exact ⟨rfl, hb1⟩
  | true =>
    have hg := Fact.mk (fun w => by have := rGood_c k b n s i hn w; rw [hG] at this; exact this)
    rw [hG] at hbad
    have d1 : (k == 1) = false := by simp at hbad; simpa using hbad.1
    have d5 : (k == 5) = false := by simp at hbad; simpa using hbad.2
    have e1 : (k != 1) = true := by simp [bne, d1]
    have e5 : (k != 5) = true := by simp [bne, d5]
    have E := Fact.mk (And.intro (And.intro d1 d5) (And.intro e1 e5))
    clear hG hbad hn d1 d5 e1 e5
    unfold VV at *
    go_enter Tryz.func12, Tryz.ntmps12
    go_wp2_with fail
    refine (hg.out _).mono ?_
    rintro e w1 ⟨rfl, hb⟩
    obtain ⟨c0, c1, c2, c3, c4⟩ := cells5' hb
    have hb1 := below1 hb
    obtain ⟨⟨d1, d5⟩, e1, e5⟩ := E.out
    clear hg
    go_wp2
    go_ret2
    exact ⟨rfl, hb1⟩

theorem RefS.make {A : List Sy} {B q h0 : Nat} {W : World} (h : RefS A B q h0 W) (hi : A.length ≤ 65536) (v : Vl) (hn : v.n < 18446744073709551616) :
    Calls Tryz.prog 12 #[.pointer (some ⟨q, 0, none⟩), VV v.k v.b v.n v.s v.i] W fun e W' => e = .returned (.tuple #[.int .i64 (mkA A v).2.1, .int .i64 (mkA A v).2.2]) ∧ ∃ h', RefS (mkA A v).1 B q h' W' ∧ (h' = h0 ∨ W.heap.size ≤ h') ∧ KeepX [q, h0] W W' := by
  unfold mkA
  split
  · rename_i hv
    have hv' := hv
    unfold okV at hv'
    simp only [Bool.and_eq_true, Bool.or_eq_true, decide_eq_true_eq] at hv'
    split
    · rename_i hl
      refine (rmakeX_c h hl v.k v.b v.n v.s v.i hn hv'.1 hv'.2).mono ?_
      rintro e W' ⟨rfl, g', hR, hg, hk⟩
      refine ⟨rfl, g', ?_, hg, hk⟩
      unfold RefS
      simp only [f6_snoc, List.length_append, List.length_cons, List.length_nil]
      exact hR
    · rename_i hl
      refine (rmakeFull_c h (by omega) v.k v.b v.n v.s v.i hn hv'.1 hv'.2).mono ?_
      rintro e W' ⟨rfl, hb⟩
      exact ⟨rfl, h0, RefG.keep h hb, .inl rfl, KeepX.of_below hb⟩
  · rename_i hv
    refine (rmakeNot_c (p := q) v.k v.b v.n v.s v.i hn (by
      unfold okV at hv
      cases hg : gd v.k v.b v.n v.s v.i with
      | false => exact .inl rfl
      | true =>
        right
        rw [hg] at hv
        simp at hv
        exact hv)).mono ?_
    rintro e W' ⟨rfl, hb⟩
    exact ⟨rfl, h0, RefG.keep h hb, .inl rfl, KeepX.of_below hb⟩

theorem rplain_c (s : ByteArray) (w : World) : Calls Tryz.prog 38 #[.string s] w fun e w' => e = .returned (.bool (okS s)) ∧ Below w.heap.size w w' := by
  unfold okS
  by_cases h : (s.size : Int) ≤ 1048576
  · rw [decide_eq_true h, Bool.true_and]
    have hV := Fact.mk (U.cameoref01_Valid.calls (40 + 9 * s.size) s (PR.val (PR.by_ s)) w (PR.Valid_eq s (by omega) _ (Nat.le_refl _)))
    rw [← PR.all_val] at hV
    generalize (Pt.all s).2 = V at *
    cases V
    all_goals
      go_enter Tryz.func38, Tryz.ntmps38
      go_wp2_with (go_at_call 55; refine hV.out.mono ?_; rintro e w1 ⟨rfl, hb⟩)
      go_ret
      exact ⟨rfl, hb⟩
  · rw [decide_eq_false h, Bool.false_and]
    go_enter Tryz.func38, Tryz.ntmps38
    go_wp2
    go_ret
    exact ⟨rfl, Below.refl _ _⟩
end Go.Proofs.YtnknfffldgkgcaaGreatDoor

/- The reference's registry of symbols: For. -/
namespace Go.Proofs.YtnknfffldgkgcaaGreatDoor
open Go.RowKit Go.Proofs.YtnknfffldgkgcaaGreatDoorW.PrintWords
attribute [local go_sem] run_store_float
attribute [local go_sem ↓] Go.wp_at_zero Go.wp_at_succ

theorem firstK_of {s : ByteArray} : ∀ {A : List Sy} {j : Nat} {x : Sy}, (∀ r < j, ∀ y, A[r]? = some y → (y.kn && (s == y.v.s)) = false) → A[j]? = some x → (x.kn && (s == x.v.s)) = true → firstK s A = some j
  | [], _, _, _, h, _ => by simp at h
  | y :: t, 0, x, _, h, hx => by
    simp at h; subst h
    simp only [firstK]
    rw [if_pos hx]
  | y :: t, j + 1, x, hl, h, hx => by
    simp only [List.getElem?_cons_succ] at h
    simp only [firstK]
    rw [if_neg (by rw [hl 0 (by omega) y rfl]; decide), firstK_of (fun r hr z hz => hl (r + 1) (by omega) z (by simpa using hz)) h hx]
    rfl
theorem firstK_no {s : ByteArray} : ∀ {A : List Sy}, (∀ (r : Nat) (y : Sy), A[r]? = some y → (y.kn && (s == y.v.s)) = false) → firstK s A = none
  | [], _ => rfl
  | y :: t, h => by
    simp only [firstK]
    rw [if_neg (by rw [h 0 y rfl]; decide), firstK_no (fun r z hz => h (r + 1) z (by simpa using hz))]
    rfl
theorem ba_ne {a b : ByteArray} (h : a ≠ b) : a.toList ≠ b.toList := fun e => h (by
  rw [Lib.toList_data, Lib.toList_data] at e
  cases a; cases b
  simp only at e
  congr 1
  exact Array.toList_inj.1 e)

section
variable {A : List Sy} {B q h0 : Nat} {W : World}
set_option maxRecDepth 100000 in
theorem rforHit_c (hR : RefS A B q h0 W) (hi : A.length ≤ 65536) (s : ByteArray) (hs : okS s = true) (n : Nat) (hf : firstK s A = some n) :
    Calls Tryz.prog 15 #[.pointer (some ⟨q, 0, none⟩), .string s] W fun e W' => e = .returned (.tuple #[.int .i64 ((n : Int) + 1), .int .i64 0]) ∧ Below W.heap.size W W' := by
  have hp := Fact.mk (by have := rplain_c s W; rw [hs] at this; exact this)
  have hR' := Fact.mk hR
  have hF := Fact.mk hf
  clear hR hf hs
  go_enter Tryz.func15, Tryz.ntmps15
  go_wp2_with fail
  refine hp.out.mono ?_
  rintro e w1 ⟨rfl, hb1⟩
  have hB1 := Fact.mk hb1
  have hR1 := Fact.mk (RefG.keep hR'.out hb1)
  obtain ⟨cap, c0⟩ := hR1.out.cell
  clear hp hR' hb1
  go_wp2
  go_loopg [6] A.length (fun kq v6 w' => ∃ j : Nat, v6 = .int .i64 (j : Int) ∧ Aside0 (j + kq = A.length) ∧ Aside0 (∀ r < j, ∀ x, A[r]? = some x → (x.kn && (s == x.v.s)) = false) ∧ w1 = w')
  case atStart => exact ⟨0, rfl, ⟨by omega⟩, ⟨fun r hr => by omega⟩, rfl⟩
  case round =>
    obtain ⟨j, rfl, HN, HL, rfl⟩ := hrel
    by_cases cj : (j : Int) < (A.length : Int)
    · have hj : j < A.length := by omega
      obtain ⟨x, hx⟩ : ∃ x, A[j]? = some x := ⟨_, List.getElem?_eq_getElem hj⟩
      have hx' := Fact.mk hx
      obtain ⟨x0, x1, x2, x3, x4, x5⟩ := f6_six hx
      have e3 := hR1.out.rd x3
      have e5 := hR1.out.rd x5
      have p1 : (0 : Int) ≤ (j : Int) := by omega
      clear x0 x1 x2 x3 x4 x5 hx
      cases gk with
      | zero => exact absurd HN.out (by omega)
      | succ k1 =>
      cases hk : x.kn with
      | false =>
        rw [hk] at e5
        have hL := Aside0.mk (show ∀ r < j + 1, ∀ x, A[r]? = some x → (x.kn && (s == x.v.s)) = false from fun r hr y hy => by
          by_cases hrj : r < j
          · exact HL.out r hrj y hy
          · obtain rfl : r = j := by omega
            rw [hx'.out] at hy
            cases hy
            rw [hk]; rfl)
        clear hk HL hF hx'
        go_wp2
        go_roundg k1
        case measure => omega
        case rel => exact ⟨j + 1, by first | rfl | (congr 1; omega), ⟨by have := HN.out; omega⟩, hL, rfl⟩
      | true =>
        rw [hk] at e5
        by_cases hz : s = x.v.s
        · have hn : n = j := by
            have := firstK_of HL.out hx'.out (by rw [hk, hz]; simp)
            rw [hF.out] at this
            cases this; rfl
          rw [← hz] at e3
          clear hk HL hF hx' hz
          subst hn
          go_wp2
          go_ret2
          exact ⟨rfl, hB1.out⟩
        · have hL := Aside0.mk (show ∀ r < j + 1, ∀ x, A[r]? = some x → (x.kn && (s == x.v.s)) = false from fun r hr y hy => by
            by_cases hrj : r < j
            · exact HL.out r hrj y hy
            · obtain rfl : r = j := by omega
              rw [hx'.out] at hy
              cases hy
              simp [hz])
          have z1 : (x.v.s.toList == s.toList) = false := beq_false_of_ne (ba_ne (Ne.symm hz))
          have z2 := Fact.mk hz
          clear hk HL hF hx' hz
          go_wp2
          go_roundg k1
          case measure => omega
          case rel => exact ⟨j + 1, by first | rfl | (congr 1; omega), ⟨by have := HN.out; omega⟩, hL, rfl⟩
    · have hj : j = A.length := by have := HN.out; omega
      exfalso
      have := firstK_no (s := s) (A := A) (fun r y hr => HL.out r (by rw [hj]; exact (List.getElem?_eq_some_iff.1 hr).1) y hr)
      rw [hF.out] at this
      cases this

set_option maxRecDepth 100000 in
theorem rforBad_c (s : ByteArray) (hs : okS s = false) :
    Calls Tryz.prog 15 #[.pointer (some ⟨q, 0, none⟩), .string s] W fun e W' => e = .returned (.tuple #[.int .i64 0, .int .i64 5]) ∧ Below W.heap.size W W' := by
  have hp := Fact.mk (by have := rplain_c s W; rw [hs] at this; exact this)
  clear hs
  go_enter Tryz.func15, Tryz.ntmps15
  go_wp2_with fail
  refine hp.out.mono ?_
  rintro e w1 ⟨rfl, hb1⟩
  go_wp2
  go_ret2
  exact ⟨rfl, hb1⟩

set_option maxRecDepth 100000 in
set_option maxHeartbeats 1000000 in
theorem rforNew_c (hR : RefS A B q h0 W) (hi : A.length ≤ 65536) (s : ByteArray) (hs : okS s = true) (hf : firstK s A = none) :
    Calls Tryz.prog 15 #[.pointer (some ⟨q, 0, none⟩), .string s] W fun e W' => (A.length < 65536 → e = .returned (.tuple #[.int .i64 ((A.length : Int) + 1), .int .i64 0]) ∧ ∃ h, RefG B q h (A.length + 1) (f6 A ++ [.int .i64 5, .bool false, .float .f64 0, .string s, .int .i64 0, .bool true]) W' ∧ (h = h0 ∨ W.heap.size ≤ h) ∧ KeepX [q, h0] W W') ∧ (¬ A.length < 65536 → e = .returned (.tuple #[.int .i64 0, .int .i64 3]) ∧ Below W.heap.size W W') := by
  have hp := Fact.mk (by have := rplain_c s W; rw [hs] at this; exact this)
  have hR' := Fact.mk hR
  have hle := Fact.mk hR.lts
  have hF := Fact.mk hf
  have hI := info_parts infoS
  have hI := Fact.mk hI
  clear hR hf hs
  go_enter Tryz.func15, Tryz.ntmps15
  go_wp2_with fail
  refine hp.out.mono ?_
  rintro e w1 ⟨rfl, hb1⟩
  have hB1 := Fact.mk hb1
  have hR1 := Fact.mk (RefG.keep hR'.out hb1)
  obtain ⟨cap, c0⟩ := hR1.out.cell
  clear hp hR' hb1
  go_wp2
  go_loopg [6] A.length (fun kq v6 w' => ∃ j : Nat, v6 = .int .i64 (j : Int) ∧ Aside0 (j + kq = A.length) ∧ w1 = w')
  case atStart => exact ⟨0, rfl, ⟨by omega⟩, rfl⟩
  case round =>
    obtain ⟨j, rfl, HN, rfl⟩ := hrel
    by_cases cj : (j : Int) < (A.length : Int)
    · have hj : j < A.length := by omega
      obtain ⟨x, hx⟩ : ∃ x, A[j]? = some x := ⟨_, List.getElem?_eq_getElem hj⟩
      have hx' := Fact.mk hx
      obtain ⟨x0, x1, x2, x3, x4, x5⟩ := f6_six hx
      have e3 := hR1.out.rd x3
      have e5 := hR1.out.rd x5
      have p1 : (0 : Int) ≤ (j : Int) := by omega
      clear x0 x1 x2 x3 x4 x5 hx
      cases gk with
      | zero => exact absurd HN.out (by omega)
      | succ k1 =>
      cases hk : x.kn with
      | false =>
        rw [hk] at e5
        clear hk hF hx'
        go_wp2
        go_roundg k1
        case measure => omega
        case rel => exact ⟨j + 1, by first | rfl | (congr 1; omega), ⟨by have := HN.out; omega⟩, rfl⟩
      | true =>
        rw [hk] at e5
        have z1 : (x.v.s.toList == s.toList) = false := beq_false_of_ne (ba_ne (firstK_none hF.out j x hx'.out hk))
        clear hk hF hx'
        go_wp2
        go_roundg k1
        case measure => omega
        case rel => exact ⟨j + 1, by first | rfl | (congr 1; omega), ⟨by have := HN.out; omega⟩, rfl⟩
    · clear HN hF
      by_cases hc : A.length < 65536
      · obtain ⟨hB, cap, hp, ho⟩ := hR1.out
        obtain ⟨i0, hi0, hz0, hz1, hz2⟩ := hI.out
        have cq := cellP1 hp
        have np := rrow_ne ho hp (by simp)
        have lp := ltH hp
        have hl := hle.out
        have hl2 := hB1.out.size
        have hM := Fact.mk (fun W => rstr_c s W)
        unfold VV at hM
        have d1 : decide ((65536 : Int) ≤ (A.length : Int)) = false := decide_eq_false (by omega)
        clear c0 hR1
        go_wp2_with fail
        go_region_law (first | (refine step_append_lies _ (by rfl) _ _ _ (by rfl) B 79 i0 _ 6 56 Tryz.underlying39 hi0 hz0 hz1 hz2 rfl (by omega) (.slice (some ⟨h0, 0, none⟩) A.length cap) A.length (f6 A) (by rfl) (ho2.alloc _) ⟨w2.heap.size, 0, none⟩ 1 1 [.int .i64 5, .bool false, .float .f64 0, .string s, .int .i64 0, .bool true] (by rfl) (by rfl) (World.news_of_block (cs := #[.int .i64 5, .bool false, .float .f64 0, .string s, .int .i64 0, .bool true]) (t := 79) (fr := (0, 0)) (heap_alloc_new w2 _)) (by simp [Value.oneCell']) (by omega) (by simp only [maxLen]; omega) (by omega) (by simp; omega) (w2.heap.size + 1) (by simp) ?_; intro g cap' w3 hown3 hgrow hat hlt; have cp := (hgrow.cell_far ⟨q, 0, none⟩ (by simp; omega) np).trans (cellP1 (oldA hp2 _)); have fp := (hgrow.frozen_far ⟨q, 0, none⟩ (by simp; omega) np).trans (Lib.frozen_of_heap (oldA hp2 _) 0)) | (go_simp; go_at_call 33; refine (hM.out _).mono ?_; rintro e w2 ⟨rfl, hb2⟩; obtain ⟨hb2', hp2, ho2, hle2⟩ := rafter hp ho hb2; have c0' := cellP1 hp2; have c0'' := fun o => cellP1 (oldA hp2 o)))
        all_goals
          obtain ⟨hR3, hK3⟩ := ref_growG hB hp2 ho2 ((Below.refl _ _).alloc (Nat.le_refl _) _) hgrow hown3
          have cn : (w3.setCell ⟨q, 0, none⟩ (.slice (some ⟨g, 0, none⟩) (A.length + 1) cap')).cell? ⟨q, 0, none⟩ = some (.slice (some ⟨g, 0, none⟩) (A.length + 1) cap') := by
            exact World.cell?_setCell_same' _ _ _ (by rw [cp]; rfl)
          have hgw : g = h0 ∨ W.heap.size ≤ g := by
            rcases hat with h | h
            · left; have : h0 = g := by simpa [Value.ownBlock] using h
              exact this.symm
            · right; omega
          have hK4 := Aside0.mk ((KeepX.of_below (hB1.out.trans (hb2'.mono hB1.out.size))).trans hK3 (fun x hx => .inl hx))
          generalize w3.setCell ⟨q, 0, none⟩ (.slice (some ⟨g, 0, none⟩) (A.length + 1) cap') = W2 at *
          clear hown3 hgrow hat hlt cp fp c0' c0'' cq ho ho2 hp hp2 hb2 hb2' np hI hM hi0 hz0 hz1 hz2 hK3 d1
          go_wp2
          go_ret2
          exact ⟨fun _ => ⟨by simp, g, hR3, hgw, hK4.out⟩, fun h => absurd hc h⟩
      · have d1 : decide ((65536 : Int) ≤ (A.length : Int)) = true := decide_eq_true (by omega)
        clear hR1 hle hI
        go_wp2
        go_ret2
        first | exact ⟨rfl, hB1.out⟩ | exact ⟨fun h => absurd h hc, fun _ => ⟨rfl, hB1.out⟩⟩

theorem RefS.forS (hR : RefS A B q h0 W) (hI : Inv A) (s : ByteArray) :
    Calls Tryz.prog 15 #[.pointer (some ⟨q, 0, none⟩), .string s] W fun e W' => e = .returned (.tuple #[.int .i64 (forA A s).2.1, .int .i64 (forA A s).2.2]) ∧ ∃ h', RefS (forA A s).1 B q h' W' ∧ (h' = h0 ∨ W.heap.size ≤ h') ∧ KeepX [q, h0] W W' := by
  unfold forA
  split
  · rename_i hs
    split
    · rename_i j hj
      refine (rforHit_c hR hI.hi s hs j hj).mono ?_
      rintro e W' ⟨rfl, hb⟩
      exact ⟨rfl, h0, RefG.keep hR hb, .inl rfl, KeepX.of_below hb⟩
    · rename_i hf
      refine (rforNew_c hR hI.hi s hs hf).mono ?_
      rintro e W' ⟨h1, h2⟩
      split
      · rename_i hl
        obtain ⟨rfl, g', hR, hg, hk⟩ := h1 hl
        refine ⟨rfl, g', ?_, hg, hk⟩
        unfold RefS
        simp only [f6_snoc, List.length_append, List.length_cons, List.length_nil]
        exact hR
      · rename_i hl
        obtain ⟨rfl, hb⟩ := h2 hl
        exact ⟨rfl, h0, RefG.keep hR hb, .inl rfl, KeepX.of_below hb⟩
  · rename_i hs
    refine (rforBad_c s (by simpa using hs)).mono ?_
    rintro e W' ⟨rfl, hb⟩
    exact ⟨rfl, h0, RefG.keep hR hb, .inl rfl, KeepX.of_below hb⟩
end
end Go.Proofs.YtnknfffldgkgcaaGreatDoor

/-
  DERIVED: THE SHELF's CONTRACTS AT THIS DUMP, IN PLAIN WORDS (tools/lay-plain.mjs out of 'TryzClnd.lean', which tools/lay-shelf.mjs wrote): THE SAME DECLARATIONS UNDER THE SAME NAMES: 'import', 'namespace', 'open', 'def', 'theorem' AND NOTHING ELSE: no command of the shelf's: FOR A HAND-IN. Each laying: the table of numbers ('.._ren') and one theorem, a field a fact of the dump's own or the kernel's comparison; each contract: ONE APPLICATION.
-/
namespace Go.Proofs
open Go.Shelf
def Tryz.cloneT_ren : Go.Shelf.Ren := ⟨fun | 5 => 40 | 7 => 58 | n => n, fun | 23 => 70 | 25 => 9 | 3 => 3 | 4 => 4 | 20 => 20 | n => n, fun | n => n⟩
theorem Tryz.cloneT : Go.Proofs.SlLaysW.n5 Tryz.prog Tryz.cloneT_ren := {
  mixed := by kernel_rfl
  f5 := ⟨Tryz.f40.name, by decide, Tryz.func40.trans (congrArg some (by kernel_rfl))⟩
  f7 := Tryz.func58.trans (congrArg some (by kernel_rfl))
  t4 := Tryz.underlying4
  a4 := Tryz.isAgg4
  z4 := Tryz.sizeOf4
  v4 := Tryz.zeroValue4
  t20 := Tryz.underlying20
  a20 := Tryz.isAgg20
  z20 := Tryz.sizeOf20
  v20 := Tryz.zeroValue20
  t23 := Tryz.underlying70
  a23 := Tryz.isAgg70
  z23 := Tryz.sizeOf70
  v23 := Tryz.zeroValue70 }
def Tryz.cloneE_ren : Go.Shelf.Ren := ⟨fun | 5 => 41 | 7 => 58 | n => n, fun | 23 => 71 | 25 => 3 | 3 => 85 | 4 => 4 | 20 => 20 | n => n, fun | n => n⟩
theorem Tryz.cloneE : Go.Proofs.SlLaysW.n5 Tryz.prog Tryz.cloneE_ren := {
  mixed := by kernel_rfl
  f5 := ⟨Tryz.f41.name, by decide, Tryz.func41.trans (congrArg some (by kernel_rfl))⟩
  f7 := Tryz.func58.trans (congrArg some (by kernel_rfl))
  t4 := Tryz.underlying4
  a4 := Tryz.isAgg4
  z4 := Tryz.sizeOf4
  v4 := Tryz.zeroValue4
  t20 := Tryz.underlying20
  a20 := Tryz.isAgg20
  z20 := Tryz.sizeOf20
  v20 := Tryz.zeroValue20
  t23 := Tryz.underlying71
  a23 := Tryz.isAgg71
  z23 := Tryz.sizeOf71
  v23 := Tryz.zeroValue71 }
end Go.Proofs

/- The clones of both registries. -/
namespace Go.Proofs.YtnknfffldgkgcaaGreatDoor
open Go.RowKit Go.Proofs.YtnknfffldgkgcaaGreatDoorW.PrintWords
attribute [local go_sem] run_store_float
attribute [local go_sem ↓] Go.wp_at_zero Go.wp_at_succ

theorem cells_one (A : List Sy) : ∀ u ∈ f5 A, u.oneCell' = true := by
  induction A with
  | nil => intro u hu; simp [f5] at hu
  | cons x t ih =>
    intro u hu
    simp only [f5, List.mem_append] at hu
    rcases hu with hu | hu
    · simp only [Vl.cells, List.mem_cons, List.not_mem_nil, or_false] at hu
      rcases hu with rfl | rfl | rfl | rfl | rfl <;> rfl
    · exact ih u hu
theorem cells_one6 (A : List Sy) : ∀ u ∈ f6 A, u.oneCell' = true := by
  induction A with
  | nil => intro u hu; simp [f6] at hu
  | cons x t ih =>
    intro u hu
    simp only [f6, List.mem_append] at hu
    rcases hu with hu | hu
    · simp only [Vl.cells, List.cons_append, List.nil_append, List.mem_cons, List.not_mem_nil, or_false] at hu
      rcases hu with (rfl | rfl | rfl | rfl | rfl) | rfl <;> rfl
    · exact ih u hu

/-- A row of values of the call's own. -/
def RowAt (B : Nat) (e : TypeId) (size g cap n : Nat) (xs : List Value) (V : World) : Prop := V.ownsRow B e size (.slice (some ⟨g, 0, none⟩) n cap) n xs
theorem RowAt.keep {B : Nat} {e : TypeId} {size g cap n : Nat} {xs : List Value} {V V' : World} (h : RowAt B e size g cap n xs V) (hb : Below V.heap.size V V') : RowAt B e size g cap n xs V' :=
  orow_same h (hb.block g (orow_lt h).1)

set_option maxRecDepth 100000 in
theorem sclone_c {b n c : Nat} (A : List Sy) (w : World) (hn : n = A.length) (h0 : 0 < n) (h1 : n ≤ 65536) (hc : ∀ (j : Nat) (u : Value), (f5 A)[j]? = some u → w.cell? ⟨b, j, none⟩ = some u) (hl : (f5 A).length = n * 5) :
    Calls Tryz.prog 39 #[.slice (some ⟨b, 0, none⟩) n c] w fun e w' => ∃ g cap, e = .returned (.slice (some ⟨g, 0, none⟩) n cap) ∧ RowAt w.heap.size 35 5 g cap n (f5 A) w' ∧ Below w.heap.size w w' := by
  obtain ⟨i0, hi0, hz0, hz1, hz2⟩ := info_parts infoV
  have q22 : ∀ (w : World) (a : Option Addr) (n c n' c' : Nat), (binOp .eql 72 (.slice a n c) (.slice none n' c')).run Tryz.prog w = .ok (.bool a.isNone) w := fun w a n c n' c' => Lib.run_eql_slice_nil w _ _ a n c n' c' Tryz.underlying72
  have HC := Fact.mk hc
  have HL := Fact.mk hl
  have HO := Fact.mk (cells_one A)
  clear hc hl hn
  generalize f5 A = news at *
  go_enter Tryz.func39, Tryz.ntmps39
  go_wp2_with (at_builtin; refine wpList_append_own_at _ rfl _ _ 72 rfl w.heap.size 35 i0 _ 5 48 Tryz.underlying72 hi0 hz0 hz1 hz2 rfl (by omega) _ _ _ rfl (World.ownsRow_made w #[] 0 (Nat.le_refl _) (Nat.zero_le _) (by simp)) ⟨b, 0, none⟩ n c news rfl ?qc1 ?qc2 ?qc3 ?qc4 ?qc5 ?qc6 ?_)
  case qc1 => exact HL.out
  case qc2 =>
    intro j u hj
    have hadd : (⟨b, 0, none⟩ : Addr).add j = ⟨b, j, none⟩ := by unfold Addr.add; split <;> simp_all
    rw [hadd]
    exact alloc_cellF (HC.out j u hj) _
  case qc3 => exact HO.out
  case qc4 => rw [Nat.zero_add]; simp only [maxLen]; omega
  case qc5 => rw [Nat.zero_add]; omega
  case qc6 => simp
  intro v' w1 hown hgrow hnil hat
  (try rw [Nat.zero_add, List.nil_append] at hown)
  obtain ⟨g, cap, rfl, _, _⟩ := hown.form h0
  clear hnil hat
  go_wp2
  go_ret
  exact ⟨g, cap, rfl, hown, ((Below.refl _ w).alloc (Nat.le_refl _) _).grown hgrow (by simp) (by intro k hk; simp [Value.ownBlock] at hk; omega)⟩

set_option maxRecDepth 100000 in
theorem RefS.clone {A : List Sy} {B q h0 : Nat} {W : World} (hR : RefS A B q h0 W) (hI : Inv A) :
    Calls Tryz.prog 17 #[.pointer (some ⟨q, 0, none⟩)] W fun e W' => ∃ q' h', e = .returned (.pointer (some ⟨q', 0, none⟩)) ∧ RefS A W.heap.size q' h' W' ∧ Below W.heap.size W W' := by
  obtain ⟨i0, hi0, hz0, hz1, hz2⟩ := info_parts infoS
  obtain ⟨cap, c0⟩ := hR.cell
  have c0 := fun o => alloc_cellF c0 o
  have HC := Fact.mk (fun (j : Nat) (u : Value) (hu : (f6 A)[j]? = some u) => RefG.rd hR hu)
  have HL := Fact.mk (show (f6 A).length = A.length * 6 by obtain ⟨_, _, _, ho⟩ := hR; exact ho.1)
  have HO := Fact.mk (cells_one6 A)
  have h1 := hI.hi
  have h0 := hI.lo
  clear hR
  unfold RefS
  generalize f6 A = news at *
  generalize A.length = n at *
  go_enter Tryz.func17, Tryz.ntmps17
  go_wp2_with (at_builtin; refine wpList_append_own_at _ rfl _ _ 39 rfl W.heap.size 79 i0 _ 6 56 Tryz.underlying39 hi0 hz0 hz1 hz2 rfl (by omega) _ _ _ rfl (World.ownsRow_made W #[] 0 (Nat.le_refl _) (Nat.zero_le _) (by simp)) ⟨_, 0, none⟩ n cap news rfl ?qc1 ?qc2 ?qc3 ?qc4 ?qc5 ?qc6 ?_)
  case qc1 => exact HL.out
  case qc2 =>
    intro j u hj
    have hadd : ∀ b, (⟨b, 0, none⟩ : Addr).add j = ⟨b, j, none⟩ := by intro b; unfold Addr.add; split <;> simp_all
    rw [hadd]
    exact alloc_cellF (HC.out j u hj) _
  case qc3 => exact HO.out
  case qc4 => rw [Nat.zero_add]; simp only [maxLen]; omega
  case qc5 => rw [Nat.zero_add]; omega
  case qc6 => simp
  intro v' w1 hown hgrow hnil hat
  (try rw [Nat.zero_add, List.nil_append] at hown)
  obtain ⟨g, cap', rfl, _, hgl⟩ := hown.form (by omega)
  have hb1 : Below W.heap.size W w1 := ((Below.refl _ W).alloc (Nat.le_refl _) _).grown hgrow (by simp) (by intro k hk; simp [Value.ownBlock] at hk; omega)
  clear hnil hat c0 HC HL HO
  go_wp2
  go_ret
  exact ⟨w1.heap.size, g, rfl, ⟨hb1.size, cap', heap_alloc_new _ _, orow_same hown (Lib.alloc_old w1 _ _ hgl)⟩, hb1.alloc hb1.size _⟩
end Go.Proofs.YtnknfffldgkgcaaGreatDoor

/- The clone of the program's registry. -/
namespace Go.Proofs.YtnknfffldgkgcaaGreatDoor
open Go.RowKit Go.Proofs.YtnknfffldgkgcaaGreatDoorW.PrintWords
attribute [local go_sem] run_store_float
attribute [local go_sem ↓] Go.wp_at_zero Go.wp_at_succ

theorem mcloneT_c (b : Nat) (K : List (ByteArray × Nat)) (w : World) (hb : w.heap[b]? = some (M1 K)) :
    Calls Tryz.prog 40 #[.map (some b)] w fun e w' => e = .returned (.map (some w.heap.size)) ∧ w' = w.alloc (M1 K) :=
  AnyW.maps_Clone (ρ := Tryz.cloneT_ren) Tryz.cloneT b _ _ w hb
theorem mcloneE_c (b : Nat) (K : List (ByteArray × Nat)) (w : World) (hb : w.heap[b]? = some (M2 K)) :
    Calls Tryz.prog 41 #[.map (some b)] w fun e w' => e = .returned (.map (some w.heap.size)) ∧ w' = w.alloc (M2 K) :=
  AnyW.maps_Clone (ρ := Tryz.cloneE_ren) Tryz.cloneE b _ _ w hb

/-- A block of the call's own. -/
def BlkAt (B m : Nat) (o : Obj) (V : World) : Prop := V.heap[m]? = some o ∧ B ≤ m
theorem BlkAt.keep {B m : Nat} {o : Obj} {V V' : World} (h : BlkAt B m o V) (hb : Below V.heap.size V V') : BlkAt B m o V' := ⟨keepA h.1 hb, h.2⟩
theorem RowAt.base {B B' : Nat} {e : TypeId} {size g cap n : Nat} {xs : List Value} {V : World} (h : RowAt B e size g cap n xs V) (hb : B' ≤ B) : RowAt B' e size g cap n xs V := orow_base h hb
theorem bel_drew {V V' : World} (h : Below V.drew.heap.size V.drew V') : Below V.heap.size V V' := ⟨h.os, h.tape, h.output, h.size, h.block⟩

section
variable {A : List Sy} {B p g b1 b2 : Nat} {W : World}
set_option maxRecDepth 100000 in
set_option maxHeartbeats 2000000 in
theorem OwnS.clone (hR : OwnS A B p g b1 b2 W) (hI : Inv A) :
    Calls Tryz.prog 16 #[.pointer (some ⟨p, 0, none⟩)] W fun e W' => ∃ p' g' b1' b2', e = .returned (.pointer (some ⟨p', 0, none⟩)) ∧ OwnS A W.heap.size p' g' b1' b2' W' ∧ Below W.heap.size W W' := by
  have c := Fact.mk (fun (V : World) (hb : Below W.heap.size W V) => show ∃ cap, V.cell? ⟨p, 0, none⟩ = some (.slice (some ⟨g, 0, none⟩) A.length cap) ∧ V.cell? ⟨p, 1, none⟩ = some (.map (some b1)) ∧ V.cell? ⟨p, 2, none⟩ = some (.map (some b2)) by
    obtain ⟨hB, ne, k1, k2, m1, m2, cap, hp, ho⟩ := RegG.keep hR hb
    exact ⟨cap, cellP hp⟩)
  obtain ⟨cap, d0, d1, d2⟩ := c.out W (Below.refl _ _)
  have hS := Fact.mk (fun (V : World) (hb : Below W.heap.size W V) => show Calls Tryz.prog 39 #[.slice (some ⟨g, 0, none⟩) A.length cap] V fun e w' => ∃ g cap, e = .returned (.slice (some ⟨g, 0, none⟩) A.length cap) ∧ RowAt W.heap.size 35 5 g cap A.length (f5 A) w' ∧ Below V.heap.size V w' by
    obtain ⟨hB, ne, k1, k2, m1, m2, cap', hp, ho⟩ := RegG.keep hR hb
    refine (sclone_c A V rfl (by have := hI.lo; omega) hI.hi (fun j u hu => ?_) ho.1).mono ?_
    · have h := ho.cells (g := g) rfl j u hu
      have hadd : (⟨g, 0, none⟩ : Addr).add j = ⟨g, j, none⟩ := by unfold Addr.add; split <;> simp_all
      rw [hadd] at h; exact h
    · rintro e w' ⟨g', cap'', rfl, h1, h2⟩
      exact ⟨g', cap'', rfl, h1.base hb.size, h2⟩)
  have hT := Fact.mk (fun (V : World) (hb : Below W.heap.size W V) => show Calls Tryz.prog 40 #[.map (some b1)] V fun e w' => ∃ m, e = .returned (.map (some m)) ∧ BlkAt W.heap.size m (M1 (kl A 0)) w' ∧ Below V.heap.size V w' by
    refine (mcloneT_c b1 (kl A 0) V (RegG.keep hR hb).k1).mono ?_
    rintro e w' ⟨rfl, rfl⟩
    exact ⟨_, rfl, ⟨heap_alloc_new V _, hb.size⟩, (Below.refl _ _).alloc (Nat.le_refl _) _⟩)
  have hE := Fact.mk (fun (V : World) (hb : Below W.heap.size W V) => show Calls Tryz.prog 41 #[.map (some b2)] V fun e w' => ∃ m, e = .returned (.map (some m)) ∧ V.heap.size ≤ m ∧ BlkAt W.heap.size m (M2 (kl A 0)) w' ∧ Below V.heap.size V w' by
    refine (mcloneE_c b2 (kl A 0) V (RegG.keep hR hb).k2).mono ?_
    rintro e w' ⟨rfl, rfl⟩
    exact ⟨_, rfl, Nat.le_refl _, ⟨heap_alloc_new V _, hb.size⟩, (Below.refl _ _).alloc (Nat.le_refl _) _⟩)
  have hm1 := Fact.mk (show ∃ es c, M1 (kl A 0) = .map es c from ⟨_, _, rfl⟩)
  have hm2 := Fact.mk (show ∃ es c, M2 (kl A 0) = .map es c from ⟨_, _, rfl⟩)
  clear hR
  unfold OwnS
  generalize M1 (kl A 0) = O1 at *
  generalize M2 (kl A 0) = O2 at *
  generalize f5 A = xs at *
  have hlen := hI.lo
  generalize A.length = n at *
  clear hI
  have bw : Below W.heap.size W W.drew := (Below.refl _ _).drew
  have kc := Fact.mk (fun (V : World) (hb : Below W.heap.size W V) => show V.cell? ⟨p, 0, none⟩ = some (.slice (some ⟨g, 0, none⟩) n cap) ∧ V.cell? ⟨p, 1, none⟩ = some (.map (some b1)) ∧ V.cell? ⟨p, 2, none⟩ = some (.map (some b2)) from ⟨keepC d0 hb, keepC d1 hb, keepC d2 hb⟩)
  clear c
  go_enter Tryz.func16, Tryz.ntmps16
  go_wp2_with fail
  go_region_law (first
    | (go_simp; go_at_call 39; refine (hS.out _ bw).mono ?_; rintro e v1 ⟨g', cap', rfl, R1, hb⟩; (try replace T1 := T1.keep hb); (try replace E1 := E1.keep hb); replace bw := bw.trans (hb.mono bw.size); obtain ⟨q0, q1, q2⟩ := kc.out _ bw; clear hb)
    | (go_simp; go_at_call 40; refine (hT.out _ bw).mono ?_; rintro e v1 ⟨m1, rfl, T1, hb⟩; (try replace R1 := R1.keep hb); (try replace E1 := E1.keep hb); replace bw := bw.trans (hb.mono bw.size); obtain ⟨q0, q1, q2⟩ := kc.out _ bw; clear hb)
    | (go_simp; go_at_call 41; refine (hE.out _ bw).mono ?_; rintro e v1 ⟨m2, rfl, hle, E1, hb⟩; (try have hne : m1 ≠ m2 := (by have := ltH T1.1; omega)); (try replace R1 := R1.keep hb); (try replace T1 := T1.keep hb); replace bw := bw.trans (hb.mono bw.size); obtain ⟨q0, q1, q2⟩ := kc.out _ bw; clear hb))
  all_goals
    have hR : RegG W.heap.size v1.heap.size g' n xs m1 m2 O1 O2 (v1.alloc (.cells #[.slice (some ⟨g', 0, none⟩) n cap', .map (some m1), .map (some m2)] 74)) :=
      ⟨⟨bw.size, T1.2, E1.2⟩, hne, oldA T1.1 _, oldA E1.1 _, hm1.out, hm2.out, cap', heap_alloc_new v1 _, orow_same R1 (Lib.alloc_old v1 _ _ (orow_lt R1).1)⟩
    have hB := bw.alloc bw.size (.cells #[.slice (some ⟨g', 0, none⟩) n cap', .map (some m1), .map (some m2)] 74)
    clear q0 q1 q2 hS hT hE kc d0 d1 d2 hm1 hm2
    go_wp2
    go_ret
    exact ⟨_, g', m1, m2, rfl, hR, hB⟩
end
end Go.Proofs.YtnknfffldgkgcaaGreatDoor
