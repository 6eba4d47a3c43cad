import Derived.Test.YtgnifckehopjhaaDoorMh
import Derived.Test.YtgnifckehopjhaaDoorKnow
import Derived.RangeFuncNested
import Derived.RangeFuncBound
import Derived.RangeFuncCalls
import Derived.RangeFuncLeaves
import Derived.OwnWalkIn
import Derived.TacticsInMore
import Derived.LoopNIn
import Derived.LoopIn
import Derived.Deep.QuietTactic
set_option linter.all false
/- What both registries say of a symbol; a pair of registries. -/
namespace Go.Proofs.YtgnifckehopjhaaDoor
open Go.RowKit Go.Proofs.YtgnifckehopjhaaDoorW.PrintWords
attribute [local go_sem] run_store_float
attribute [local go_sem ↓] Go.wp_at_zero Go.wp_at_succ

def inR (n : Int) : Bool := decide (1 ≤ n) && decide (n ≤ 13)
def nme (n : Int) : ByteArray := if inR n = true then wk (n - 1).toNat else ⟨#[]⟩
def erA (n : Int) : Int := if inR n = true then 0 else 7
def kdA (n : Int) : Int := if inR n = true then 5 else 0
def txA (n : Int) : ByteArray := if inR n = true then stx (n - 1).toNat else ⟨#[]⟩
theorem inR_cases (n : Int) : (∃ j : Nat, j < 13 ∧ n = (j : Int) + 1 ∧ inR n = true ∧ (n - 1).toNat = j) ∨ ((n < 1 ∨ 13 < n) ∧ inR n = false) := by
  by_cases h : 1 ≤ n ∧ n ≤ 13
  · left
    exact ⟨(n - 1).toNat, by omega, by omega, by simp [inR, h], rfl⟩
  · right
    refine ⟨by omega, ?_⟩
    unfold inR
    rw [Bool.and_eq_false_iff, decide_eq_false_iff_not, decide_eq_false_iff_not]; omega

theorem wkA_c (n : Int) (w : World) : Calls Tryd.prog 5 #[.int .i64 n] w fun e w' => e = .returned (.tuple #[.string (nme n), .bool (inR n)]) ∧ Below w.heap.size w w' := by
  unfold nme
  rcases inR_cases n with ⟨j, hj, rfl, h1, h2⟩ | ⟨hn, h1⟩
  · rw [h1, if_pos rfl, h2]; exact wk_c j hj w
  · rw [h1, if_neg (by decide)]; exact wkNo_c n hn w
theorem rwkA_c (n : Int) (w : World) (HN : NamesT w) : Calls Tryd.prog 6 #[.int .i64 n] w fun e w' => e = .returned (.tuple #[.string (nme n), .bool (inR n)]) ∧ w = w' := by
  unfold nme
  rcases inR_cases n with ⟨j, hj, rfl, h1, h2⟩ | ⟨hn, h1⟩
  · rw [h1, if_pos rfl, h2]; exact rwk_c j hj w HN
  · rw [h1, if_neg (by decide)]; exact rwkNo_c n hn w

/-- A new registry of the program's. -/
def Own (B p : Nat) (W : World) : Prop := ∃ b1 b2, Reg B p 13 (flatW 13) b1 b2 (.map #[] 0) (.map #[] 0) W
theorem Own.keep {B p : Nat} {W W' : World} (h : Own B p W) (hb : Below W.heap.size W W') : Own B p W' := by
  obtain ⟨b1, b2, h⟩ := h
  exact ⟨b1, b2, h.keep hb⟩

set_option maxRecDepth 100000 in
theorem keyNo_c {B p : Nat} {W : World} (h : Own B p W) (n : Int) (hn : n < 1 ∨ 13 < n) :
    Calls Tryd.prog 16 #[.pointer (some ⟨p, 0, none⟩), .int .i64 n] W fun e W' => e = .returned (.tuple #[.string ⟨#[]⟩, .bool false, .int .i64 7]) ∧ Below W.heap.size W W' := by
  obtain ⟨b1, b2, h⟩ := h
  have hh := Fact.mk (hasNot_c h n hn)
  clear h hn
  go_enter Tryd.func16, Tryd.ntmps16
  go_wp2_with (go_at_call 31; refine hh.out.mono ?_; rintro e w1 ⟨rfl, rfl⟩)
  refine bodyPost_ret (results_tmp3 rfl _ _ _) rfl ?_
  first | exact ⟨rfl, Below.refl _ _⟩ | exact ⟨rfl, (Below.refl _ _).alloc (Nat.le_refl _) _⟩
theorem okey_c {B p : Nat} {W : World} (h : Own B p W) (n : Int) :
    Calls Tryd.prog 16 #[.pointer (some ⟨p, 0, none⟩), .int .i64 n] W fun e W' => e = .returned (.tuple #[.string ⟨#[]⟩, .bool false, .int .i64 (erA n)]) ∧ Below W.heap.size W W' := by
  unfold erA
  rcases inR_cases n with ⟨j, hj, rfl, h1, h2⟩ | ⟨hn, h1⟩
  · rw [h1, if_pos rfl]
    obtain ⟨b1, b2, h⟩ := h
    exact keyFor_c h _ (by omega) (by omega) _ _ (lookE _ h.maps.2.2.2)
  · rw [h1, if_neg (by decide)]; exact keyNo_c h n hn

set_option maxRecDepth 100000 in
theorem descNo_c {B p : Nat} {W : World} (h : Own B p W) (n : Int) (hn : n < 1 ∨ 13 < n) :
    Calls Tryd.prog 17 #[.pointer (some ⟨p, 0, none⟩), .int .i64 n] W fun e W' => e = .returned (.tuple #[VV 0 false 0 ⟨#[]⟩ 0, .int .i64 7]) ∧ Below W.heap.size W W' := by
  unfold VV
  obtain ⟨b1, b2, h⟩ := h
  have hh := Fact.mk (fun w' (hb : Below W.heap.size W w') => hasNot_c (h.keep hb) n hn)
  clear h hn
  go_enter Tryd.func17, Tryd.ntmps17
  go_wp2_with (go_at_call 31; refine (hh.out _ ((Below.refl _ _).alloc (Nat.le_refl _) _)).mono ?_; rintro e w1 ⟨rfl, rfl⟩)
  first
    | refine bodyPost_ret (results_ct rfl _ _ W.heap.size _ _ _ _ rfl (heap_alloc_new _ _) Tryd.underlying44 rfl (by kernel_rfl)) rfl ⟨rfl, (Below.refl _ _).alloc (Nat.le_refl _) _⟩
    | refine bodyPost_ret (results_ct rfl _ _ W.heap.size _ _ _ _ rfl (set5 (heap_alloc_new _ _) _ _ _ _ _) Tryd.underlying44 rfl (by kernel_rfl)) rfl ⟨rfl, setB5 ((Below.refl _ _).alloc (Nat.le_refl _) _) (Nat.le_refl _) _ _ _ _ _⟩
theorem odesc_c {B p : Nat} {W : World} (h : Own B p W) (n : Int) :
    Calls Tryd.prog 17 #[.pointer (some ⟨p, 0, none⟩), .int .i64 n] W fun e W' => e = .returned (.tuple #[VV (kdA n) false 0 (nme n) 0, .int .i64 (erA n)]) ∧ Below W.heap.size W W' := by
  unfold erA kdA nme
  rcases inR_cases n with ⟨j, hj, rfl, h1, h2⟩ | ⟨hn, h1⟩
  · rw [h1, if_pos rfl, if_pos rfl, if_pos rfl, h2]
    obtain ⟨b1, b2, h⟩ := h
    obtain ⟨x0, x1, x2, x3, x4⟩ := flatW_at j hj
    exact desc_c h (by decide) j hj x0 x1 x2 x3 x4
  · rw [h1, if_neg (by decide), if_neg (by decide), if_neg (by decide)]; exact descNo_c h n hn

set_option maxRecDepth 100000 in
theorem textNo_c {B p : Nat} {W : World} (h : Own B p W) (n : Int) (hn : n < 1 ∨ 13 < n) :
    Calls Tryd.prog 23 #[.pointer (some ⟨p, 0, none⟩), .int .i64 n] W fun e W' => e = .returned (.tuple #[.string ⟨#[]⟩, .int .i64 7]) ∧ Below W.heap.size W W' := by
  have hd := Fact.mk (descNo_c h n hn)
  clear h hn
  unfold VV at *
  go_enter Tryd.func23, Tryd.ntmps23
  go_wp2_with (go_at_call 17; refine hd.out.mono ?_; rintro e w1 ⟨rfl, hb⟩)
  go_ret2
  first | exact ⟨rfl, hb.alloc hb.size _⟩ | exact ⟨rfl, setB5 (hb.alloc hb.size _) hb.size _ _ _ _ _⟩
theorem otext_c {B p : Nat} {W : World} (h : Own B p W) (n : Int) :
    Calls Tryd.prog 23 #[.pointer (some ⟨p, 0, none⟩), .int .i64 n] W fun e W' => e = .returned (.tuple #[.string (txA n), .int .i64 (erA n)]) ∧ Below W.heap.size W W' := by
  unfold erA txA
  rcases inR_cases n with ⟨j, hj, rfl, h1, h2⟩ | ⟨hn, h1⟩
  · rw [h1, if_pos rfl, if_pos rfl, h2]
    obtain ⟨b1, b2, h⟩ := h
    obtain ⟨x0, x1, x2, x3, x4⟩ := flatW_at j hj
    obtain ⟨y1, y2, y3⟩ := stx_ha j hj
    exact text_c h (by decide) j hj x0 x1 x2 x3 x4 y1 y2 y3
  · rw [h1, if_neg (by decide), if_neg (by decide)]; exact textNo_c h n hn

abbrev RefN (B q : Nat) (W : World) : Prop := Ref B q 13 (flatS 13) W
theorem rkeyA_c {B q : Nat} {W : World} (h : RefN B q W) (n : Int) :
    Calls Tryd.prog 21 #[.pointer (some ⟨q, 0, none⟩), .int .i64 n] W fun e W' => e = .returned (.tuple #[.string ⟨#[]⟩, .bool false, .int .i64 (erA n)]) ∧ W = W' := by
  unfold erA
  rcases inR_cases n with ⟨j, hj, rfl, h1, h2⟩ | ⟨hn, h1⟩
  · rw [h1, if_pos rfl]; exact rkey_c h j hj
  · rw [h1, if_neg (by decide)]; exact rkeyNo_c h n hn
theorem rdescA_c {B q : Nat} {W : World} (h : RefN B q W) (n : Int) :
    Calls Tryd.prog 22 #[.pointer (some ⟨q, 0, none⟩), .int .i64 n] W fun e W' => e = .returned (.tuple #[VV (kdA n) false 0 (nme n) 0, .int .i64 (erA n)]) ∧ Below W.heap.size W W' := by
  unfold erA kdA nme
  rcases inR_cases n with ⟨j, hj, rfl, h1, h2⟩ | ⟨hn, h1⟩
  · rw [h1, if_pos rfl, if_pos rfl, if_pos rfl, h2]; exact rdesc_c h j hj
  · rw [h1, if_neg (by decide), if_neg (by decide), if_neg (by decide)]; exact rdescNo_c h n hn
theorem rtextA_c {B q : Nat} {W : World} (h : RefN B q W) (n : Int) :
    Calls Tryd.prog 24 #[.pointer (some ⟨q, 0, none⟩), .int .i64 n] W fun e W' => e = .returned (.tuple #[.string (txA n), .int .i64 (erA n)]) ∧ W = W' := by
  unfold erA txA
  rcases inR_cases n with ⟨j, hj, rfl, h1, h2⟩ | ⟨hn, h1⟩
  · rw [h1, if_pos rfl, if_pos rfl, h2]; exact rtext_c h j hj
  · rw [h1, if_neg (by decide), if_neg (by decide)]; exact rtextNo_c h n hn
end Go.Proofs.YtgnifckehopjhaaDoor

/- A pair of registries; what is asked of both. -/
namespace Go.Proofs.YtgnifckehopjhaaDoor
open Go.RowKit Go.Proofs.YtgnifckehopjhaaDoorW.PrintWords
attribute [local go_sem] run_store_float
attribute [local go_sem ↓] Go.wp_at_zero Go.wp_at_succ

theorem orow_base {W : World} {base base' : Nat} {e : TypeId} {size : Nat} {v : Value} {k : Nat} {xs : List Value} (h : W.ownsRow base e size v k xs) (hb : base' ≤ base) : W.ownsRow base' e size v k xs :=
  ⟨h.1, h.2.imp id (fun ⟨g, cap, cur, hv, hg, r⟩ => ⟨g, cap, cur, hv, Nat.le_trans hb hg, r⟩)⟩

/-- Block P holds the pair: two new registries of the program's, two of the reference's. -/
def Pair (B P : Nat) (W : World) : Prop := ∃ p0 p1 q0 q1, W.heap[P]? = some (.cells #[.pointer (some ⟨p0, 0, none⟩), .pointer (some ⟨p1, 0, none⟩), .pointer (some ⟨q0, 0, none⟩), .pointer (some ⟨q1, 0, none⟩)] 31 (0, 0)) ∧
  Own B p0 W ∧ Own B p1 W ∧ RefN B q0 W ∧ RefN B q1 W
theorem Pair.keep {B P : Nat} {W W' : World} (h : Pair B P W) (hb : Below W.heap.size W W') : Pair B P W' := by
  obtain ⟨p0, p1, q0, q1, h0, h1, h2, h3, h4⟩ := h
  exact ⟨p0, p1, q0, q1, (hb.block _ (ltH h0)).trans h0, h1.keep hb, h2.keep hb, h3.keep hb, h4.keep hb⟩
theorem Own.base {B B' p : Nat} {W : World} (h : Own B p W) (hb : B' ≤ B) : Own B' p W := by
  obtain ⟨b1, b2, h1, h2, h3, h4, k1, k2, m1, m2, a, cap, hp, ho⟩ := h
  exact ⟨b1, b2, by omega, by omega, by omega, h4, k1, k2, m1, m2, a, cap, hp, orow_base ho hb⟩
theorem RefN.base {B B' q : Nat} {W : World} (h : RefN B q W) (hb : B' ≤ B) : RefN B' q W := by
  obtain ⟨h1, a, cap, hp, ho⟩ := h
  exact ⟨by omega, a, cap, hp, orow_base ho hb⟩

set_option maxRecDepth 100000 in
theorem npair_c (w : World) (HT : Tabs w) (HN : NamesT w) : Calls Tryd.prog 7 #[] w fun e W' => ∃ P, e = .returned (.pointer (some ⟨P, 0, none⟩)) ∧ Pair w.heap.size P W' ∧ Below w.heap.size w W' := by
  have hn := Fact.mk (fun w' (h : Below w.heap.size w w') => new_c w' (HT.below h))
  have hr := Fact.mk (fun w' (h : Below w.heap.size w w') => rnew_c w' (HN.below h))
  clear HT HN
  go_enter Tryd.func7, Tryd.ntmps7
  go_wp2_with fail
  refine (hn.out _ (Below.refl _ _)).mono ?_
  rintro e w1 ⟨p0, b1, b2, rfl, hR1, hB1⟩
  have o1 := Fact.mk (show Own w.heap.size p0 w1 from ⟨b1, b2, hR1⟩)
  have hB1 := Fact.mk hB1
  clear hR1
  go_wp2_with fail
  refine (hn.out _ hB1.out).mono ?_
  rintro e w2 ⟨p1, b3, b4, rfl, hR2, hB2⟩
  have o2 := Fact.mk ((show Own w1.heap.size p1 w2 from ⟨b3, b4, hR2⟩).base hB1.out.size)
  have o1 := Fact.mk (o1.out.keep hB2)
  have hB2 := Fact.mk (hB1.out.trans (hB2.mono hB1.out.size))
  clear hR2 hB1
  go_wp2_with fail
  refine (hr.out _ hB2.out).mono ?_
  rintro e w3 ⟨q0, rfl, hR3, hB3⟩
  have o3 := Fact.mk ((show RefN w2.heap.size q0 w3 from hR3).base hB2.out.size)
  have o1 := Fact.mk (o1.out.keep hB3)
  have o2 := Fact.mk (o2.out.keep hB3)
  have hB3 := Fact.mk (hB2.out.trans (hB3.mono hB2.out.size))
  clear hR3 hB2
  go_wp2_with fail
  refine (hr.out _ hB3.out).mono ?_
  rintro e w4 ⟨q1, rfl, hR4, hB4⟩
  have o4 := Fact.mk ((show RefN w3.heap.size q1 w4 from hR4).base hB3.out.size)
  have o1 := Fact.mk (o1.out.keep hB4)
  have o2 := Fact.mk (o2.out.keep hB4)
  have o3 := Fact.mk (o3.out.keep hB4)
  have hB4 := Fact.mk (hB3.out.trans (hB4.mono hB3.out.size))
  clear hR4 hB3 hn hr
  go_wp2
  go_ret
  have hk := (Below.refl w4.heap.size w4).alloc (Nat.le_refl _) (.cells #[.pointer (some ⟨p0, 0, none⟩), .pointer (some ⟨p1, 0, none⟩), .pointer (some ⟨q0, 0, none⟩), .pointer (some ⟨q1, 0, none⟩)] 31)
  exact ⟨_, rfl, ⟨p0, p1, q0, q1, heap_alloc_new _ _, o1.out.keep hk, o2.out.keep hk, o3.out.keep hk, o4.out.keep hk⟩, hB4.out.alloc hB4.out.size _⟩

theorem Pair.cells {B P : Nat} {W : World} (h : Pair B P W) : ∃ p0 q0, W.cell? ⟨P, 0, none⟩ = some (.pointer (some ⟨p0, 0, none⟩)) ∧ W.cell? ⟨P, 2, none⟩ = some (.pointer (some ⟨q0, 0, none⟩)) ∧ Own B p0 W ∧ RefN B q0 W := by
  obtain ⟨p0, p1, q0, q1, h0, h1, h2, h3, h4⟩ := h
  refine ⟨p0, q0, ?_, ?_, h1, h3⟩ <;> rw [Lib.cell_of_heap h0] <;> rfl
theorem keepC {W W' : World} {a : Addr} {v : Value} (h : W.cell? a = some v) (hb : Below W.heap.size W W') : W'.cell? a = some v :=
  (hb.cell (p := a) (by obtain ⟨b, o, m⟩ := a; exact World.block_lt_of_cell? W _ h)).trans h

def Five (W : World) (B : Nat) (kd : Int) (s : ByteArray) : Prop := W.cell? ⟨B, 0, none⟩ = some (.int .i64 kd) ∧ W.cell? ⟨B, 1, none⟩ = some (.bool false) ∧ W.cell? ⟨B, 2, none⟩ = some (.float .f64 0) ∧ W.cell? ⟨B, 3, none⟩ = some (.string s) ∧ W.cell? ⟨B, 4, none⟩ = some (.int .i64 0)
theorem Five.keep {W W' : World} {B : Nat} {kd : Int} {s : ByteArray} (h : Five W B kd s) (hb : Below W.heap.size W W') : Five W' B kd s :=
  ⟨keepC h.1 hb, keepC h.2.1 hb, keepC h.2.2.1 hb, keepC h.2.2.2.1 hb, keepC h.2.2.2.2 hb⟩
theorem Five.new (W : World) (kd : Int) (s : ByteArray) (t : TypeId) : Five (W.alloc (.cells #[.int .i64 kd, .bool false, .float .f64 0, .string s, .int .i64 0] t)) W.heap.size kd s := by
  have h := heap_alloc_new W (.cells #[.int .i64 kd, .bool false, .float .f64 0, .string s, .int .i64 0] t)
  refine ⟨?_, ?_, ?_, ?_, ?_⟩ <;> rw [Lib.cell_of_heap h] <;> rfl

set_option maxRecDepth 100000 in
set_option maxHeartbeats 1000000 in
theorem asks_c {B P : Nat} {W : World} (h : Pair B P W) (n : Int) :
    Calls Tryd.prog 8 #[.pointer (some ⟨P, 0, none⟩), .int .i64 n] W fun e W' => e = .returned (.bool true) ∧ Below W.heap.size W W' := by
  obtain ⟨p0, q0, c0, c2, hO, hR⟩ := h.cells
  have h1 := Fact.mk (fun w' (hb : Below W.heap.size W w') => okey_c (hO.keep hb) n)
  have h2 := Fact.mk (fun w' (hb : Below W.heap.size W w') => rkeyA_c (hR.keep hb) n)
  have h3 := Fact.mk (fun w' (hb : Below W.heap.size W w') => odesc_c (hO.keep hb) n)
  have h4 := Fact.mk (fun w' (hb : Below W.heap.size W w') => rdescA_c (hR.keep hb) n)
  have h5 := Fact.mk (fun w' (hb : Below W.heap.size W w') => otext_c (hO.keep hb) n)
  have h6 := Fact.mk (fun w' (hb : Below W.heap.size W w') => rtextA_c (hR.keep hb) n)
  have hn := Fact.mk num_c
  have k0 := Fact.mk (fun w' (hb : Below W.heap.size W w') => keepC c0 hb)
  have k2 := Fact.mk (fun w' (hb : Below W.heap.size W w') => keepC c2 hb)
  clear h hO hR
  generalize erA n = er at *
  generalize kdA n = kd at *
  generalize nme n = s at *
  generalize txA n = tx at *
  unfold VV at *
  go_enter Tryd.func8, Tryd.ntmps8
  go_wp2_with fail
  refine (h1.out _ (Below.refl _ _)).mono ?_
  rintro e w1 ⟨rfl, hb1⟩
  have c0 := k0.out _ hb1
  have c2 := k2.out _ hb1
  have hb1 := Fact.mk hb1
  go_wp2_with fail
  refine (h2.out _ hb1.out).mono ?_
  rintro e w2 ⟨rfl, rfl⟩
  go_wp2_with fail
  refine (h3.out _ hb1.out).mono ?_
  rintro e w2 ⟨rfl, hb2⟩
  have hb2 := Fact.mk (hb1.out.trans (hb2.mono hb1.out.size))
  have hba := Fact.mk (hb2.out.alloc hb2.out.size (.cells #[.int .i64 kd, .bool false, .float .f64 0, .string s, .int .i64 0] 44))
  have fa := Fact.mk (Five.new w2 kd s 44)
  have d2 := k2.out _ hba.out
  go_wp2_with fail
  refine (h4.out _ hba.out).mono ?_
  rintro e w3 ⟨rfl, hb3⟩
  have fa := Fact.mk (fa.out.keep hb3)
  have hb3 := Fact.mk (hba.out.trans (hb3.mono hba.out.size))
  generalize w2.heap.size = B1 at *
  clear d2 hba hb2 c0 c2 hb1 h1 h2 h3 h4
  have hbb := Fact.mk (hb3.out.alloc hb3.out.size (.cells #[.int .i64 kd, .bool false, .float .f64 0, .string s, .int .i64 0] 44))
  have fb := Fact.mk (Five.new w3 kd s 44)
  have fa := Fact.mk (fa.out.keep ((Below.refl _ w3).alloc (Nat.le_refl _) (.cells #[.int .i64 kd, .bool false, .float .f64 0, .string s, .int .i64 0] 44)))
  have d0 := k0.out _ hbb.out
  go_wp2_with fail
  refine (h5.out _ hbb.out).mono ?_
  rintro e w4 ⟨rfl, hb4⟩
  have fa := Fact.mk (fa.out.keep hb4)
  have fb := Fact.mk (fb.out.keep hb4)
  have hb4 := Fact.mk (hbb.out.trans (hb4.mono hbb.out.size))
  generalize w3.heap.size = B2 at *
  clear d0 hbb hb3 h5
  have d2 := k2.out _ hb4.out
  go_wp2_with fail
  refine (h6.out _ hb4.out).mono ?_
  rintro e w5 ⟨rfl, rfl⟩
  obtain ⟨a0, a1, a2, a3, a4⟩ := fa.out
  obtain ⟨b0, b1, b2, b3, b4⟩ := fb.out
  have he := Fact.mk (fun w => eqSelf_c kd false 0 s 0 w)
  unfold VV at he
  clear d2 h6 k0 k2
  go_wp2_with (first | (go_at_call 15; refine (hn.out _ _).mono ?_; rintro e w' ⟨rfl, rfl⟩) | (go_at_call 18; refine (he.out _).mono ?_; rintro e w6 ⟨rfl, hb6⟩))
  go_ret
  exact ⟨rfl, hb4.out.trans (hb6.mono hb4.out.size)⟩
end Go.Proofs.YtgnifckehopjhaaDoor

/- Known of a new registry. -/
namespace Go.Proofs.YtgnifckehopjhaaDoor
open Go.RowKit Go.Maps Go.Sort Go.Shelf Go.Proofs.YtgnifckehopjhaaDoorW.PrintWords

theorem insNil_c (fv : Value) (w : World) : Calls Tryd.prog 58 #[.slice none 0 0, .int .i64 0, .int .i64 0, fv] w fun e w' => e = .returned (.tuple #[]) ∧ w = w' := by
  go_enter Tryd.func58, Tryd.ntmps58
  go_wp2
  refine wp_loop_once ?_
  go_wp2
  go_end0
  exact ⟨rfl, rfl⟩

set_option maxRecDepth 100000 in
theorem pdqNil_c (fv : Value) (lim : Int) (w : World) : Calls Tryd.prog 48 #[.slice none 0 0, .int .i64 0, .int .i64 0, .int .i64 lim, fv] w fun e w' => e = .returned (.tuple #[]) ∧ w = w' := by
  have hi := Fact.mk (insNil_c fv)
  go_enter Tryd.func48, Tryd.ntmps48
  go_wp2
  refine wp_loop_once ?_
  go_wp2_with (go_at_call 58; refine (hi.out _).mono ?_; rintro e w' ⟨rfl, rfl⟩)
  refine bodyPost_ret (results_none rfl _ _ _) rfl ?_
  exact ⟨rfl, rfl⟩

theorem sortNil_c (fv : Value) (w : World) : Calls Tryd.prog 35 #[.slice none 0 0, fv] w fun e w' => e = .returned (.tuple #[]) ∧ w = w' := by
  have hi := Fact.mk (pdqNil_c fv)
  have hb := Fact.mk (fun w => Tryd.bits_Len 0 w (by decide) (by decide))
  go_enter Tryd.func35, Tryd.ntmps35
  go_wp2_with (first | (go_at_call 49; refine (hb.out _).mono ?_; rintro e w' ⟨rfl, rfl⟩) | (go_at_call 48; refine (hi.out _ _).mono ?_; rintro e w' ⟨rfl, rfl⟩))
  go_end0
  exact ⟨rfl, rfl⟩

set_option maxRecDepth 100000 in
set_option maxHeartbeats 1000000 in
theorem known0_c {B p : Nat} {W : World} (h : Own B p W) : Calls Tryd.prog 19 #[.pointer (some ⟨p, 0, none⟩)] W fun e W' => e = .returned (.slice none 0 0) ∧ RowKit.Below W.heap.size W W' := by
  obtain ⟨b1, b2, h⟩ := h
  obtain ⟨c1, _, k1, _⟩ := h.maps
  clear h
  have hbl := ltH k1
  have hown : ∀ V : World, V.heap[b1]? = some (.map #[] 0) → V.ownsMap (H := Unit) Tryd.prog 9 (fun _ => none) b1 0 (.map []) := fun V hV => ⟨#[], 0, hV, ⟨by simp, ⟨by simp, by simp, by simp⟩, by simp⟩, Nat.le_refl _, rfl⟩
  refine (callsIn_wide (n := 6)).1 ?_
  have hseq : SeqGives Fence.wide 3 Tryd.prog 47 #[.pointer (some ⟨W.heap.size, 0, none⟩)] encStr (fun ss => ss.Perm (strKeys (.map [] : DataW Unit))) (Maps.size (.map [] : DataW Unit)) (W.alloc (.cells #[.map (some b1)] 37)) :=
    AnyZ.keys_gives (ρ := Tryd.keysA_ren) { Tryd.keysA with } Fence.wide _ trivial rfl (by omega) W.heap.size b1 0 (.map []) _ (by simp) (by simp) (hown _ ((Below.heap_alloc _ _ b1 hbl).trans k1))
  have cK : ∀ mb W, CallsIn Fence.wide 5 Tryd.prog 34 #[.map mb] W fun e w' => e = .returned (.func (.func 47) #[] #[.pointer (some ⟨W.heap.size, 0, none⟩)]) ∧ w' = W.alloc (.cells #[.map mb] 37) := fun mb W => AnyZ.keys_in Tryd.keysA Fence.wide 5 trivial rfl mb W
  have cC := AnyZ.collect_in Tryd.collectA Fence.wide 5 trivial trivial rfl (by omega) 47 #[.pointer (some ⟨W.heap.size, 0, none⟩)] trivial (enters_of Tryd.func47 (by kernel_rfl) rfl) _ _ (show Maps.size (.map [] : DataW Unit) ≤ maxLen from by decide) (show Maps.size (.map [] : DataW Unit) * 16 ≤ 140737488355328 from by decide) _ hseq
  change CallsIn _ _ Tryd.prog 33 _ _ _ at cC
  have hfK : Fence.wide.fn 34 := trivial
  have hfC : Fence.wide.fn 33 := trivial
  have hfS : Fence.wide.fn 35 := trivial
  have hso := Fact.mk sortNil_c
  have hcC := Fact.mk cC
  have hcK := Fact.mk cK
  clear hseq hown cC cK
  refine callsIn_of_wp Tryd.func19 rfl trivial ?_ rfl
  simp only [Tryd.ntmps19, List.size_toArray, List.length_cons, List.length_nil, Nat.reduceAdd, Nat.reduceSub, Array.replicate_succ, Array.replicate_zero, List.push_toArray, List.append_toArray, List.nil_append, List.cons_append]
  gi_wp2_with (first
    | (gi_at_call 34; refine (hcK.out _ _).mono ?_; rintro e w' ⟨rfl, rfl⟩)
    | (gi_at_call 33; refine hcC.out.mono ?_; rintro e w' ⟨v, ss, rfl, hS, hrow, hnil, hb⟩; obtain rfl : ss = [] := List.Perm.nil_eq (hS.symm) |>.symm; obtain rfl := hnil.2 rfl; clear hrow hnil hS)
    | (gi_at_call 35; refine (callsIn_wide.2 (hso.out _ _)).mono ?_; rintro e w' ⟨rfl, rfl⟩))
  go_ret
  exact ⟨rfl, ((Below.refl _ W).alloc (Nat.le_refl _) _).trans (hb.mono (by simp))⟩
end Go.Proofs.YtgnifckehopjhaaDoor

/- What both registries tell; the law SymbolNames. -/
namespace Go.Proofs.YtgnifckehopjhaaDoor
open Go.RowKit Go.Proofs.YtgnifckehopjhaaDoorW.PrintWords
attribute [local go_sem] run_store_float
attribute [local go_sem ↓] Go.wp_at_zero Go.wp_at_succ

theorem sameNil_c (w : World) : Calls Tryd.prog 26 #[.slice none 0 0, .slice none 0 0] w fun e w' => e = .returned (.bool true) ∧ w = w' := by
  go_enter Tryd.func26, Tryd.ntmps26
  go_wp2
  refine wp_loop_once ?_
  go_wp2
  go_ret
  exact ⟨rfl, rfl⟩

set_option maxRecDepth 100000 in
set_option maxHeartbeats 1000000 in
theorem tells_c {B P : Nat} {W : World} (h : Pair B P W) :
    Calls Tryd.prog 9 #[.pointer (some ⟨P, 0, none⟩), .int .i64 0] W fun e W' => e = .returned (.bool true) ∧ Below W.heap.size W W' := by
  obtain ⟨p0, q0, c0, c2, hO, hR⟩ := h.cells
  have h1 := Fact.mk (fun w' (hb : Below W.heap.size W w') => known0_c (hO.keep hb))
  have h2 := Fact.mk (fun w' (hb : Below W.heap.size W w') => rknown_c (hR.keep hb))
  have h3 := Fact.mk (fun w' (hb : Below W.heap.size W w') => (show Calls Tryd.prog 13 #[.pointer (some ⟨p0, 0, none⟩)] w' fun e W' => e = .returned (.int .i64 13) ∧ W' = w' from by obtain ⟨b1, b2, hh⟩ := hO.keep hb; exact (count_c hh).mono (fun _ _ h => ⟨h.1, h.2.symm⟩)))
  have hs := Fact.mk (fun w => (sameNil_c w).mono (fun _ _ h => And.intro h.1 h.2.symm))
  have k0 := Fact.mk (fun w' (hb : Below W.heap.size W w') => keepC c0 hb)
  have k2 := Fact.mk (fun w' (hb : Below W.heap.size W w') => keepC c2 hb)
  have kR := Fact.mk (fun w' (hb : Below W.heap.size W w') => (hR.keep hb : RefN B q0 w').read)
  clear h hO hR
  go_enter Tryd.func9, Tryd.ntmps9
  go_wp2_with fail
  refine (h1.out _ (Below.refl _ _)).mono ?_
  rintro e w1 ⟨rfl, hb1⟩
  have c0 := k0.out _ hb1
  have hb1 := Fact.mk hb1
  go_wp2_with fail
  refine (h1.out _ hb1.out).mono ?_
  rintro e w2 ⟨rfl, hb2⟩
  have hb2 := hb1.out.trans (hb2.mono hb1.out.size)
  have c2 := k2.out _ hb2
  have c0 := k0.out _ hb2
  have hb2 := Fact.mk hb2
  clear hb1
  go_wp2_with fail
  refine (h2.out _ hb2.out).mono ?_
  rintro e w3 ⟨rfl, rfl⟩
  obtain ⟨g, cap, _, cq, _⟩ := kR.out _ hb2.out
  go_wp2_with fail
  go_quiet (first | (go_at_call 13; exact Calls.quiet_of_same (h3.out _ (pw_below_drewN hb2.out _))) | (go_at_call 26; exact Calls.quiet_of_same (hs.out _)))
  generalize hw3 : w2.drewN _ = w3
  have hb3 : Fact (Below W.heap.size W w3) := ⟨by rw [← hw3]; exact pw_below_drewN hb2.out _⟩
  have c0 := k0.out _ hb3.out
  clear hw3
  clear hb2 c2 cq h2 h3
  go_wp2
  refine wp_loop_once ?_
  go_wp2_with fail
  refine (hs.out _).mono ?_
  rintro e w4 ⟨rfl, rfl⟩
  go_wp2_with fail
  refine (h1.out _ hb3.out).mono ?_
  rintro e w4 ⟨rfl, hb4⟩
  go_wp2_with fail
  refine (hs.out _).mono ?_
  rintro e w5 ⟨rfl, rfl⟩
  go_wp2
  go_ret
  exact ⟨rfl, hb3.out.trans (hb4.mono hb3.out.size)⟩

set_option maxRecDepth 100000 in
set_option maxHeartbeats 1000000 in
/-- The law SymbolNames, at every number. -/
theorem law_names (n : Int) (w : World) (HT : Tabs w) (HN : NamesT w) :
    Calls Tryd.prog 3 #[.int .i64 n] w fun e w' => e = .returned (.bool true) ∧ Below w.heap.size w w' := by
  have hk := Fact.mk wkA_c
  have hr := Fact.mk (fun n w' (hb : Below w.heap.size w w') => rwkA_c n w' (HN.below hb))
  have hp := Fact.mk (fun w' (hb : Below w.heap.size w w') => npair_c w' (HT.below hb) (HN.below hb))
  clear HT HN
  go_enter Tryd.func3, Tryd.ntmps3
  go_wp2_with fail
  refine (hk.out _ _).mono ?_
  rintro e w1 ⟨rfl, hb1⟩
  have hb1 := Fact.mk hb1
  go_wp2_with fail
  refine (hr.out _ _ hb1.out).mono ?_
  rintro e w2 ⟨rfl, rfl⟩
  go_wp2_with fail
  refine (hp.out _ hb1.out).mono ?_
  rintro e w2 ⟨P, rfl, hP, hb2⟩
  obtain ⟨p0, q0, c0, _, _, _⟩ := hP.cells
  have hb2 := Fact.mk (hb1.out.trans (hb2.mono hb1.out.size))
  have ha := Fact.mk (fun n w' (hb : Below w2.heap.size w2 w') => asks_c (hP.keep hb) n)
  have ht := Fact.mk (fun w' (hb : Below w2.heap.size w2 w') => tells_c (hP.keep hb))
  clear hP hp hb1
  generalize nme n = s at *
  generalize inR n = bo at *
  go_wp2_with fail
  refine (ha.out _ _ (Below.refl _ _)).mono ?_
  rintro e w3 ⟨rfl, hb3⟩
  have hb3 := Fact.mk hb3
  go_wp2_with fail
  refine (ht.out _ hb3.out).mono ?_
  rintro e w4 ⟨rfl, hb4⟩
  have hb4 := Fact.mk (hb3.out.trans (hb4.mono hb3.out.size))
  clear hb3 c0 ht
  go_wp2
  go_loopg [8] 15 (fun kq v8 w' => ∃ j : Nat, v8 = .int .i64 (j : Int) ∧ Aside0 (j + kq = 15) ∧ Aside0 (Below w2.heap.size w2 w'))
  case atStart => exact ⟨0, rfl, ⟨by omega⟩, ⟨hb4.out⟩⟩
  case round =>
    obtain ⟨j, rfl, HK, HB⟩ := hrel
    by_cases c1 : (j : Int) ≤ 14
    · cases gk with
      | zero => exact absurd HK.out (by omega)
      | succ k1 =>
        have HB := Fact.mk HB.out
        clear hb4
        go_wp2_with fail
        refine (hk.out _ _).mono ?_
        rintro e w5 ⟨rfl, hb5⟩
        have hb5 := Fact.mk (HB.out.trans (hb5.mono HB.out.size))
        go_wp2_with fail
        refine (hr.out _ _ (hb2.out.trans (hb5.out.mono hb2.out.size))).mono ?_
        rintro e w6 ⟨rfl, rfl⟩
        generalize nme (j : Int) = sj at *
        generalize inR (j : Int) = bj at *
        go_wp2_with fail
        refine (ha.out _ _ hb5.out).mono ?_
        rintro e w6 ⟨rfl, hb6⟩
        have hb6 := Aside0.mk (hb5.out.trans (hb6.mono hb5.out.size))
        clear hb5 ha hk hr
        go_wp2
        go_roundg k1
        case measure => omega
        case rel => exact ⟨j + 1, by first | rfl | (congr 1; omega), ⟨by have := HK.out; omega⟩, hb6⟩
    · go_wp2
      go_ret
      exact ⟨rfl, hb2.out.trans (HB.out.mono hb2.out.size)⟩
end Go.Proofs.YtgnifckehopjhaaDoor
