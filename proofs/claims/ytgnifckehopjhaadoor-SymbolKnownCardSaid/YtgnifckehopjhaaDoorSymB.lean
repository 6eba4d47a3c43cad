/- package symbol: Make, Description, KeyFor, Text. -/
import Derived.Test.YtgnifckehopjhaaDoorSymA
namespace Go.Proofs.YtgnifckehopjhaaDoor
open Go.RowKit Go.Proofs.YtgnifckehopjhaaDoorW.PrintWords
attribute [local go_sem] run_store_float

theorem oldA {W : World} {g : Nat} {o' : Obj} (h : W.heap[g]? = some o') (o : Obj) : (W.alloc o).heap[g]? = some o' := by
  rw [Lib.alloc_old W o _ (ltH h)]; exact h
theorem keepA {W W' : World} {b : Nat} {o : Obj} (h : W.heap[b]? = some o) (hb : Below W.heap.size W W') : W'.heap[b]? = some o := by
  rw [hb.block b (ltH h)]; exact h

theorem makeNot_c {B p cnt : Nat} {xs : List Value} {b1 b2 : Nat} {o1 o2 : Obj} {W : World} (k : Int) (b : Bool) (n : Nat) (s : ByteArray) (i : Int) (HT : Tabs W) (hbad : gd k b n s i = false ∨ (k ≠ 1 ∧ k ≠ 5)) :
    Calls Tryd.prog 12 #[.pointer (some ⟨p, 0, none⟩), VV k b n s i] W fun e W' => e = .returned (.tuple #[.int .i64 0, .int .i64 5]) ∧ Below W.heap.size W W' := by
  have hg := Fact.mk (fun w' (h : Below W.heap.size W w') => check_c k b n s i w' (HT.below h))
  clear HT
  cases hG : gd k b n s i with
  | false =>
    rw [hG] at hg
    clear hG hbad
    simp only [Bool.false_eq_true, if_false] at hg
    unfold VV at *
    go_enter Tryd.func12, Tryd.ntmps12
    go_wp2_with (go_at_call 28; refine (hg.out _ ((Below.refl _ _).alloc (Nat.le_refl _) _)).mono ?_; rintro e w1 ⟨rfl, hb⟩; obtain ⟨c0, c1, c2, c3, c4⟩ := cells5' hb)
    go_ret2
    exact ⟨rfl, below1 hb⟩
  | true =>
    rw [hG] at hg hbad
    have d1 : (k == 1) = false := by simp at hbad; simpa using hbad.1
    have d5 : (k == 5) = false := by simp at hbad; simpa using hbad.2
    have e1 : (k != 1) = true := by simp [bne, d1]
    have e5 : (k != 5) = true := by simp [bne, d5]
    clear hG hbad
    simp only [if_true] at hg
    unfold VV at *
    go_enter Tryd.func12, Tryd.ntmps12
    go_wp2_with (go_at_call 28; refine (hg.out _ ((Below.refl _ _).alloc (Nat.le_refl _) _)).mono ?_; rintro e w1 ⟨rfl, hb⟩; obtain ⟨c0, c1, c2, c3, c4⟩ := cells5' hb)
    go_ret2
    exact ⟨rfl, below1 hb⟩

theorem make_c {B p cnt : Nat} {xs : List Value} {b1 b2 : Nat} {o1 o2 : Obj} {W : World} (hR : Reg B p cnt xs b1 b2 o1 o2 W) (hc : cnt < 65536) (k : Int) (b : Bool) (n : Nat) (s : ByteArray) (i : Int) (HT : Tabs W) (hG : gd k b n s i = true) (hk : k = 1 ∨ k = 5) :
    Calls Tryd.prog 12 #[.pointer (some ⟨p, 0, none⟩), VV k b n s i] W fun e W' => e = .returned (.tuple #[.int .i64 ((cnt : Int) + 1), .int .i64 0]) ∧ Reg B p (cnt + 1) (xs ++ [.int .i64 k, .bool b, .float .f64 n, .string s, .int .i64 i]) b1 b2 o1 o2 W' ∧ Below B W W' := by
  have hg := Fact.mk (fun w' (h : Below W.heap.size W w') => check_c k b n s i w' (HT.below h))
  have ha := Fact.mk (fun w' (h : Below W.heap.size W w') => add_c (hR.keep h) hc k b n s i)
  have hle := hR.le
  rw [hG] at hg
  have d1 : (k != 1 && k != 5) = false := by rcases hk with rfl | rfl <;> rfl
  clear HT hG hR
  simp only [if_true] at hg
  unfold VV at *
  rcases hk with rfl | rfl
  all_goals
    clear d1
    go_enter Tryd.func12, Tryd.ntmps12
    go_wp2_with (first | (go_at_call 28; refine (hg.out _ ((Below.refl _ _).alloc (Nat.le_refl _) _)).mono ?_; rintro e w1 ⟨rfl, hb⟩; obtain ⟨c0, c1, c2, c3, c4⟩ := cells5' hb; have hb1 := below1 hb) | (go_at_call 29; refine (ha.out _ hb1).mono ?_; rintro e w2 ⟨rfl, hR2, hb2⟩))
    go_ret2
    exact ⟨rfl, hR2, (hb1.mono hle).trans hb2⟩

theorem rowCells {B g cap cnt : Nat} {xs : List Value} {W : World} (ho : W.ownsRow B 44 5 (.slice (some ⟨g, 0, none⟩) cnt cap) cnt xs) (q : Nat) {u : Value} (hu : xs[q]? = some u) (o : Obj) : (W.alloc o).cell? ⟨g, q, none⟩ = some u := by
  have h := (ho.alloc o).cells (g := g) rfl q u hu
  have hadd : (⟨g, 0, none⟩ : Addr).add q = ⟨g, q, none⟩ := by unfold Addr.add; split <;> simp_all
  rw [hadd] at h; exact h

set_option maxRecDepth 100000 in
theorem desc_c {B p cnt : Nat} {xs : List Value} {b1 b2 : Nat} {o1 o2 : Obj} {W : World} (hR : Reg B p cnt xs b1 b2 o1 o2 W) (hc : cnt ≤ 65536) (j : Nat) (hj : j < cnt) {k : Int} {b : Bool} {n : Nat} {s : ByteArray} {i : Int} (h0 : xs[j * 5]? = some (.int .i64 k)) (h1 : xs[j * 5 + 1]? = some (.bool b)) (h2 : xs[j * 5 + 2]? = some (.float .f64 n)) (h3 : xs[j * 5 + 3]? = some (.string s)) (h4 : xs[j * 5 + 4]? = some (.int .i64 i)) :
    Calls Tryd.prog 17 #[.pointer (some ⟨p, 0, none⟩), .int .i64 ((j : Int) + 1)] W fun e W' => e = .returned (.tuple #[VV k b n s i, .int .i64 0]) ∧ Below W.heap.size W W' := by
  unfold VV
  have hh := Fact.mk (fun w' (h : Below W.heap.size W w') => has_c (hR.keep h) ((j : Int) + 1) (by omega) (by omega))
  obtain ⟨_, _, _, _, k1, k2, m1, m2, a, cap, hp, ho⟩ := hR
  obtain ⟨g, cap', e, _, hlt⟩ := ho.form (by omega)
  cases e
  have c0 := fun o => (show (W.alloc o).cell? ⟨p, 0, none⟩ = some (.slice (some ⟨g, 0, none⟩) cnt cap) by rw [Lib.cell_of_heap (oldA hp o)]; rfl)
  have e0 := rowCells ho _ h0
  have e1 := rowCells ho _ h1
  have e2 := rowCells ho _ h2
  have e3 := rowCells ho _ h3
  have e4 := rowCells ho _ h4
  have f : ∀ q, (W.alloc (.cells #[.int .i64 0, .bool false, .float .f64 0, .string ⟨#[]⟩, .int .i64 0] 44)).frozen? ⟨W.heap.size, q, none⟩ = false := fun q => Lib.frozen_of_heap (heap_alloc_new W _) q
  have i1 : (0 : Int) ≤ (j : Int) := by omega
  have i2 : (j : Int) < (cnt : Int) := by omega
  clear k1 k2 m1 m2 hp ho h0 h1 h2 h3 h4
  go_enter Tryd.func17, Tryd.ntmps17
  go_wp2_with (go_at_call 31; refine (hh.out _ ((Below.refl _ _).alloc (Nat.le_refl _) _)).mono ?_; rintro e w1 ⟨rfl, rfl⟩)
  first
    | refine bodyPost_ret (results_ct rfl _ _ W.heap.size _ _ _ _ rfl (heap_alloc_new _ _) Tryd.underlying44 rfl (by kernel_rfl)) rfl ⟨rfl, (Below.refl _ _).alloc (Nat.le_refl _) _⟩
    | refine bodyPost_ret (results_ct rfl _ _ W.heap.size _ _ _ _ rfl (set5 (heap_alloc_new _ _) _ _ _ _ _) Tryd.underlying44 rfl (by kernel_rfl)) rfl ⟨rfl, setB5 ((Below.refl _ _).alloc (Nat.le_refl _) _) (Nat.le_refl _) _ _ _ _ _⟩

set_option maxRecDepth 100000 in
theorem keyFor_c {B p cnt : Nat} {xs : List Value} {b1 b2 : Nat} {o1 o2 : Obj} {W : World} (hR : Reg B p cnt xs b1 b2 o1 o2 W) (n : Int) (hn : 1 ≤ n) (hc : n ≤ cnt) (t : ByteArray) (kn : Bool) (hl : (Instr.lookup 70 (.map (some b2)) (.int .i64 n) true).run Tryd.prog W = .ok (.tuple #[.agg #[.string t], .bool kn]) W) :
    Calls Tryd.prog 16 #[.pointer (some ⟨p, 0, none⟩), .int .i64 n] W fun e W' => e = .returned (.tuple #[.string t, .bool kn, .int .i64 0]) ∧ Below W.heap.size W W' := by
  have hh := Fact.mk (has_c hR n hn hc)
  obtain ⟨_, _, _, _, k1, k2, m1, m2, a, cap, hp, ho⟩ := hR
  have c2 : W.cell? ⟨p, 2, none⟩ = some (.map (some b2)) := by rw [Lib.cell_of_heap hp]; rfl
  clear k1 k2 m1 m2 hp ho hn hc
  go_enter Tryd.func16, Tryd.ntmps16
  go_wp2_with (go_at_call 31; refine hh.out.mono ?_; rintro e w1 ⟨rfl, rfl⟩)
  refine bodyPost_ret (results_tmp3 rfl _ _ _) rfl ?_
  exact ⟨rfl, (Below.refl _ _).alloc (Nat.le_refl _) _⟩

theorem addS (x y : ByteArray) (h : x.size + y.size ≤ 1000000000) : ∀ W, (Op.stringOp .add x y).run Tryd.prog W = .ok (.string (x ++ y)) W := by
  intro W
  unfold Op.stringOp
  have : ¬ ((x.size + y.size : Nat) : Int) > IntKind.i64.max := by
    have : IntKind.i64.max = 9223372036854775807 := by decide
    omega
  simp only [this, if_false]
  rfl

set_option maxRecDepth 100000 in
theorem text_c {B p cnt : Nat} {xs : List Value} {b1 b2 : Nat} {o1 o2 : Obj} {W : World} (hR : Reg B p cnt xs b1 b2 o1 o2 W) (hc : cnt ≤ 65536) (j : Nat) (hj : j < cnt) {k : Int} {b : Bool} {n : Nat} {s S1 S2 : ByteArray} {i : Int} (h0 : xs[j * 5]? = some (.int .i64 k)) (h1 : xs[j * 5 + 1]? = some (.bool b)) (h2 : xs[j * 5 + 2]? = some (.float .f64 n)) (h3 : xs[j * 5 + 3]? = some (.string s)) (h4 : xs[j * 5 + 4]? = some (.int .i64 i))
    (ha1 : ∀ W, (Op.stringOp .add ⟨#[83, 121, 109, 98, 111, 108, 40]⟩ s).run Tryd.prog W = .ok (.string S1) W) (ha2 : ∀ W, (Op.stringOp .add S1 ⟨#[41]⟩).run Tryd.prog W = .ok (.string S2) W) (hs : (S2.size : Int) ≤ 1048576) :
    Calls Tryd.prog 23 #[.pointer (some ⟨p, 0, none⟩), .int .i64 ((j : Int) + 1)] W fun e W' => e = .returned (.tuple #[.string S2, .int .i64 0]) ∧ Below W.heap.size W W' := by
  have hd := Fact.mk (desc_c hR hc j hj h0 h1 h2 h3 h4)
  clear hR h0 h1 h2 h3 h4
  unfold VV at *
  go_enter Tryd.func23, Tryd.ntmps23
  go_wp2_with (go_at_call 17; refine hd.out.mono ?_; rintro e w1 ⟨rfl, hb⟩)
  go_ret2
  first | exact ⟨rfl, hb.alloc hb.size _⟩ | exact ⟨rfl, setB5 (hb.alloc hb.size _) hb.size _ _ _ _ _⟩
end Go.Proofs.YtgnifckehopjhaaDoor
