import Derived.Test.YtinaibebdacnmaaDoorMb
import Derived.Test.YtinaibebdacnmaaDoorUnitsC
import Derived.Test.YtinaibebdacnmaaDoorMa
set_option linter.all false
/- Small functions of package desc and of the reference's chapter 5: what each comes to. -/
namespace Go.Proofs.YtinaibebdacnmaaDoor
open Go.RowKit Go.Proofs.YtinaibebdacnmaaDoorW.PrintWords
attribute [local go_sem] run_store_float

/-- Is it the zero value? -/
def nn (k : Int) (b : Bool) (n : Nat) (s : ByteArray) (i : Int) : Bool := decide (k = 0) && (!b && (decide (n = 0) && (decide (s.toList = []) && decide (i = 0))))
/-- May it be a getter or setter, or is it absent? -/
def ca (k : Int) (b : Bool) (n : Nat) (s : ByteArray) (i : Int) : Bool := nn k b n s i || (gd k b n s i && (decide (k = 1) || decide (k = 7)))
def tr (t : Int) : Bool := decide (0 ≤ t) && decide (t ≤ 2)
def rg (n : Int) : Bool := decide (0 ≤ n) && decide (n < 16)
theorem retb {a b : Bool} (h : a = b) : Ending.returned (.bool a) = .returned (.bool b) := by rw [h]

theorem reg_c (n : Int) (w : World) : Calls Tryd.prog 54 #[.int .i64 n] w fun e w' => e = .returned (.bool (rg n)) ∧ w = w' := by
  have h := Fact.mk (show rg n = (decide (0 ≤ n) && decide (n < 16)) from rfl)
  go_enter Tryd.func54, Tryd.ntmps54
  go_wp2
  all_goals
    go_ret
    exact ⟨retb (by rw [h.out]; first | rfl | (simp_all; done) | (simp; omega) | (simp; intros; omega)), rfl⟩
theorem rReg_c (n : Int) (w : World) : Calls Tryd.prog 59 #[.int .i64 n] w fun e w' => e = .returned (.bool (rg n)) ∧ w = w' := by
  have h := Fact.mk (show rg n = (decide (0 ≤ n) && decide (n < 16)) from rfl)
  go_enter Tryd.func59, Tryd.ntmps59
  go_wp2
  all_goals
    go_ret
    exact ⟨retb (by rw [h.out]; first | rfl | (simp_all; done) | (simp; omega) | (simp; intros; omega)), rfl⟩
theorem tri_c (t : Int) (w : World) : Calls Tryd.prog 105 #[.int .i64 t] w fun e w' => e = .returned (.bool (tr t)) ∧ w = w' := by
  have h := Fact.mk (show tr t = (decide (0 ≤ t) && decide (t ≤ 2)) from rfl)
  go_enter Tryd.func105, Tryd.ntmps105
  go_wp2
  all_goals
    go_ret
    exact ⟨retb (by rw [h.out]; first | rfl | (simp_all; done) | (simp; omega) | (simp; intros; omega)), rfl⟩
theorem rTri_c (t : Int) (w : World) : Calls Tryd.prog 87 #[.int .i64 t] w fun e w' => e = .returned (.bool (tr t)) ∧ w = w' := by
  have h := Fact.mk (show tr t = (decide (t = 0) || (decide (t = 1) || decide (t = 2))) by unfold tr; rw [Bool.eq_iff_iff]; simp; omega)
  go_enter Tryd.func87, Tryd.ntmps87
  go_wp2
  all_goals
    go_ret
    exact ⟨retb (by rw [h.out]; first | rfl | (simp_all; done) | (rw [Bool.eq_iff_iff]; simp_all; done) | (rw [Bool.eq_iff_iff]; simp; omega)), rfl⟩
theorem there_c (k : Int) (b : Bool) (n : Nat) (s : ByteArray) (i : Int) (w : World) : Calls Tryd.prog 106 #[VV k b n s i] w fun e w' => e = .returned (.bool (k != 0)) ∧ Below w.heap.size w w' := by
  unfold VV
  go_enter Tryd.func106, Tryd.ntmps106
  go_wp2
  go_ret
  exact ⟨rfl, (Below.refl _ _).alloc (Nat.le_refl _) _⟩
theorem rThere_c (k : Int) (b : Bool) (n : Nat) (s : ByteArray) (i : Int) (w : World) : Calls Tryd.prog 61 #[VV k b n s i] w fun e w' => e = .returned (.bool (k != 0)) ∧ Below w.heap.size w w' := by
  unfold VV
  go_enter Tryd.func61, Tryd.ntmps61
  go_wp2
  go_ret
  exact ⟨rfl, (Below.refl _ _).alloc (Nat.le_refl _) _⟩

theorem eqFl (a b : Nat) (w : World) : (Op.equalIn 9999 30 (.float .f64 a) (.float .f64 b)).run Tryd.prog w = .ok (FloatKind.f64.format.order a b == some .eq) w := by kernel_rfl

set_option maxRecDepth 100000 in
theorem absent_c (k : Int) (b : Bool) (n : Nat) (s : ByteArray) (i : Int) (h : n < 18446744073709551616) (w : World) : Calls Tryd.prog 103 #[VV k b n s i] w fun e w' => e = .returned (.bool (nn k b n s i)) ∧ Below w.heap.size w w' := by
  have ho := ord0 n h
  have he := eqFl n 0
  unfold VV
  by_cases h0 : n = 0
  · subst h0
    have hq : ∀ w, (binOp .quo 30 (.float .f64 4607182418800017408) (.float .f64 0)).run Tryd.prog w = .ok (.float .f64 9218868437227405312) w := fun w => by kernel_rfl
    have h1 : (FloatKind.f64.format.order 0 0 == some .eq) = true := by decide
    have h2 : FloatKind.f64.format.order 9218868437227405312 0 = some .gt := by decide
    rw [h1] at he
    clear ho h h1
    go_enter Tryd.func103, Tryd.ntmps103
    go_wp2
    all_goals
      go_ret
      refine ⟨retb ?_, (Below.refl _ _).alloc (Nat.le_refl _) _⟩
      first | (simp_all [nn]; done) | (rw [Bool.eq_iff_iff]; simp_all [nn]; done)
  · by_cases h1 : n = 9223372036854775808
    · subst h1
      have hq : ∀ w, (binOp .quo 30 (.float .f64 4607182418800017408) (.float .f64 9223372036854775808)).run Tryd.prog w = .ok (.float .f64 18442240474082181120) w := fun w => by kernel_rfl
      have h1 : (FloatKind.f64.format.order 9223372036854775808 0 == some .eq) = true := by decide
      have h2 : FloatKind.f64.format.order 18442240474082181120 0 = some .lt := by decide
      rw [h1] at he
      clear ho h h0 h1
      go_enter Tryd.func103, Tryd.ntmps103
      go_wp2
      all_goals
        go_ret
        refine ⟨retb ?_, (Below.refl _ _).alloc (Nat.le_refl _) _⟩
        first | (simp_all [nn]; done) | (rw [Bool.eq_iff_iff]; simp_all [nn]; done)
    · have h2 : (FloatKind.f64.format.order n 0 == some .eq) = false := by
        rw [Bool.eq_false_iff]; intro e; exact (ho.1 (by simpa using e)).elim h0 h1
      rw [h2] at he
      have h3 := Fact.mk h0
      clear ho h h0 h1 h2
      go_enter Tryd.func103, Tryd.ntmps103
      go_wp2
      all_goals
        go_ret
        refine ⟨retb ?_, (Below.refl _ _).alloc (Nat.le_refl _) _⟩
        have h3 := h3.out
        first | (simp_all [nn]; done) | (rw [Bool.eq_iff_iff]; simp_all [nn]; done)
end Go.Proofs.YtinaibebdacnmaaDoor

/- The reference's none and slot, the program's callable: what each comes to. -/
namespace Go.Proofs.YtinaibebdacnmaaDoor
open Go.RowKit Go.Proofs.YtinaibebdacnmaaDoorW.PrintWords
attribute [local go_sem] run_store_float

set_option maxRecDepth 100000 in
theorem rNone_c (k : Int) (b : Bool) (n : Nat) (s : ByteArray) (i : Int) (h : n < 18446744073709551616) (w : World) : Calls Tryd.prog 85 #[VV k b n s i] w fun e w' => e = .returned (.bool (nn k b n s i)) ∧ Below w.heap.size w w' := by
  have ho := ord0 n h
  unfold VV
  by_cases h0 : n = 0
  · subst h0
    have hq : ∀ w, (binOp .quo 30 (.float .f64 4607182418800017408) (.float .f64 0)).run Tryd.prog w = .ok (.float .f64 9218868437227405312) w := fun w => by kernel_rfl
    have h1 : FloatKind.f64.format.order 0 0 = some .eq := by decide
    have h2 : FloatKind.f64.format.order 9218868437227405312 0 = some .gt := by decide
    clear ho h
    go_enter Tryd.func85, Tryd.ntmps85
    go_wp2
    all_goals
      go_ret
      refine ⟨retb ?_, (Below.refl _ _).alloc (Nat.le_refl _) _⟩
      first | (simp_all [nn]; done) | (rw [Bool.eq_iff_iff]; simp_all [nn]; done)
  · by_cases h1 : n = 9223372036854775808
    · subst h1
      have hq : ∀ w, (binOp .quo 30 (.float .f64 4607182418800017408) (.float .f64 9223372036854775808)).run Tryd.prog w = .ok (.float .f64 18442240474082181120) w := fun w => by kernel_rfl
      have h1 : FloatKind.f64.format.order 9223372036854775808 0 = some .eq := by decide
      have h2 : FloatKind.f64.format.order 18442240474082181120 0 = some .lt := by decide
      clear ho h h0
      go_enter Tryd.func85, Tryd.ntmps85
      go_wp2
      all_goals
        go_ret
        refine ⟨retb ?_, (Below.refl _ _).alloc (Nat.le_refl _) _⟩
        first | (simp_all [nn]; done) | (rw [Bool.eq_iff_iff]; simp_all [nn]; done)
    · have h2 : ¬ FloatKind.f64.format.order n 0 = some .eq := fun e => (ho.1 e).elim h0 h1
      have h3 := Fact.mk h0
      clear ho h h0 h1
      go_enter Tryd.func85, Tryd.ntmps85
      go_wp2
      all_goals
        go_ret
        refine ⟨retb ?_, (Below.refl _ _).alloc (Nat.le_refl _) _⟩
        have h3 := h3.out
        first | (simp_all [nn]; done) | (rw [Bool.eq_iff_iff]; simp_all [nn]; done)

set_option maxRecDepth 100000 in
theorem rSlot_c (k : Int) (b : Bool) (n : Nat) (s : ByteArray) (i : Int) (h : n < 18446744073709551616) (w : World) : Calls Tryd.prog 86 #[VV k b n s i] w fun e w' => e = .returned (.bool (gd k b n s i && (decide (k = 1) || decide (k = 7)))) ∧ Below w.heap.size w w' := by
  have hg := Fact.mk (fun w' => rGood_c k b n s i h w')
  generalize gd k b n s i = G at hg ⊢
  unfold VV at *
  cases G
  all_goals
    go_enter Tryd.func86, Tryd.ntmps86
    go_wp2_with (go_at_call 22; refine (hg.out _).mono ?_; rintro e w1 ⟨rfl, hb⟩; obtain ⟨c0, c1, c2, c3, c4⟩ := cells5' hb)
    all_goals
      go_ret
      refine ⟨retb ?_, below1 hb⟩
      clear hg
      first | rfl | (simp_all; done) | (rw [Bool.eq_iff_iff]; simp_all; done)

set_option maxRecDepth 100000 in
theorem callable_c (k : Int) (b : Bool) (n : Nat) (s : ByteArray) (i : Int) (h : n < 18446744073709551616) (w : World) (HT : Tabs w) : Calls Tryd.prog 104 #[VV k b n s i] w fun e w' => e = .returned (.bool (ca k b n s i)) ∧ Below w.heap.size w w' := by
  have hg := Fact.mk (fun w' (h : Below w.heap.size w w') => check_c k b n s i w' (HT.below h))
  have ha := Fact.mk (fun w' => absent_c k b n s i h w')
  unfold ca
  generalize gd k b n s i = G at hg ⊢
  generalize nn k b n s i = A at ha ⊢
  unfold VV at *
  clear HT
  cases A <;> cases G
  all_goals
    go_enter Tryd.func104, Tryd.ntmps104
    go_wp2_with (first | (go_at_call 103; refine (ha.out _).mono ?_; rintro e w1 ⟨rfl, hb⟩; have hB := below1 hb; obtain ⟨c0, c1, c2, c3, c4⟩ := cells5' hb) | (go_at_call 27; refine (hg.out _ hB).mono ?_; rintro e w2 ⟨rfl, hb2⟩; clear c0 c1 c2 c3 c4; have hB2 := hB.trans (hb2.mono hB.size); obtain ⟨c0, c1, c2, c3, c4⟩ := cells5' (hb.trans (hb2.mono hb.size))))
    all_goals
      go_ret
      refine ⟨retb ?_, ?_⟩
      · clear hg ha
        first | rfl | (simp_all; done) | (rw [Bool.eq_iff_iff]; simp_all; done)
      · first | exact hB2 | exact hB
end Go.Proofs.YtinaibebdacnmaaDoor

/- key.Check and the reference's Good of a key: what each call comes to. -/
namespace Go.Proofs.YtinaibebdacnmaaDoor
open Go.RowKit Go.Proofs.YtinaibebdacnmaaDoorW.PrintWords

/-- A key. -/
def KK (s : ByteArray) (m : Int) : Value := .agg #[.string s, .int .i64 m]
/-- Is a key well formed? -/
def gk (s : ByteArray) (m : Int) : Bool := (decide (m = 0) && (decide ((s.size : Int) ≤ 1048576) && (Pt.all s).2)) || (decide (1 ≤ m) && (decide (m ≤ 65536) && decide (s.toList = [])))
theorem kbelow1 {W W' : World} {o : Obj} (hb : Below (W.alloc o).heap.size (W.alloc o) W') : Below W.heap.size W W' :=
  ((Below.refl _ _).alloc (Nat.le_refl _) o).trans (hb.mono (by simp))
theorem kcells {W W' : World} {t : TypeId} {x0 x1 : Value} (hb : Below (W.alloc (.cells #[x0, x1] t)).heap.size (W.alloc (.cells #[x0, x1] t)) W') :
    W'.cell? ⟨W.heap.size, 0, none⟩ = some x0 ∧ W'.cell? ⟨W.heap.size, 1, none⟩ = some x1 := by
  have h : W'.heap[W.heap.size]? = some (.cells #[x0, x1] t (0, 0)) := by
    rw [hb.block W.heap.size (by simp)]; exact heap_alloc_new W _
  refine ⟨?_, ?_⟩ <;> rw [Lib.cell_of_heap h] <;> rfl
theorem ret_kint {a b : Int} (h : a = b) : Ending.returned (.int .i64 a) = .returned (.int .i64 b) := by rw [h]

set_option maxRecDepth 100000 in
theorem keyCheck_c (s : ByteArray) (m : Int) (w : World) (HT : Tabs w) : Calls Tryd.prog 55 #[KK s m] w fun e w' => e = .returned (.int .i64 (if gk s m = true then 0 else 5)) ∧ Below w.heap.size w w' := by
  unfold KK
  by_cases h0 : m = 0
  · subst h0
    by_cases h1 : (s.size : Int) ≤ 1048576
    · have hV := Fact.mk (units_Valid.calls s (Pt.all s).2 (w.alloc (.cells #[.string s, .int .i64 0] 44)) ⟨HT.below ((Below.refl _ _).alloc (Nat.le_refl _) _)⟩ (by unfold units_Valid.f; rw [if_pos (by omega)]))
      have hg := Fact.mk (show gk s 0 = (Pt.all s).2 by unfold gk; simp [h1])
      clear HT
      rw [hg.out]
      clear hg
      generalize (Pt.all s).2 = V at hV ⊢
      cases V
      all_goals
        go_enter Tryd.func55, Tryd.ntmps55
        go_wp2_with (go_at_call 48; refine hV.out.mono ?_; rintro e w1 ⟨rfl, hb⟩; obtain ⟨c0, c1⟩ := kcells hb)
        all_goals
          go_ret
          exact ⟨rfl, kbelow1 hb⟩
    · have hg := Fact.mk (show gk s 0 = false by unfold gk; simp [h1])
      clear HT
      rw [hg.out]
      clear hg
      go_enter Tryd.func55, Tryd.ntmps55
      go_wp2
      all_goals
        go_ret
        exact ⟨rfl, (Below.refl _ _).alloc (Nat.le_refl _) _⟩
  · have hg := Fact.mk (show gk s m = (decide (1 ≤ m) && (decide (m ≤ 65536) && decide (s.toList = []))) by unfold gk; simp [h0])
    clear HT
    obtain ⟨E, hE⟩ : ∃ E : Int, E = (if gk s m = true then 0 else 5) := ⟨_, rfl⟩
    rw [← hE]
    have hE2 := Fact.mk hE
    clear hE
    go_enter Tryd.func55, Tryd.ntmps55
    go_wp2
    all_goals
      go_ret
      refine ⟨ret_kint ?_, (Below.refl _ _).alloc (Nat.le_refl _) _⟩
      rw [hE2.out, hg.out]
      clear hE2 hg
      first | rfl | (simp_all; done) | (rw [if_neg]; simp only [Bool.and_eq_true, decide_eq_true_eq]; omega)
end Go.Proofs.YtinaibebdacnmaaDoor

/- The reference's Good of a key: what it comes to. -/
namespace Go.Proofs.YtinaibebdacnmaaDoor
open Go.RowKit Go.Proofs.YtinaibebdacnmaaDoorW.PrintWords

theorem retH {a b : Bool} (h : a = b) : Ending.returned (.bool a) = .returned (.bool b) := by rw [h]
set_option maxRecDepth 100000 in
theorem keyGood_c (s : ByteArray) (m : Int) (w : World) : Calls Tryd.prog 58 #[KK s m] w fun e w' => e = .returned (.bool (gk s m)) ∧ Below w.heap.size w w' := by
  unfold KK
  by_cases h0 : m = 0
  · subst h0
    by_cases h1 : (s.size : Int) ≤ 1048576
    · have hV := Fact.mk (U.cameoref01_Valid.calls (40 + 9 * s.size) s (PR.val (PR.by_ s)) (w.alloc (.cells #[.string s, .int .i64 0] 44)) (PR.Valid_eq s (by omega) _ (Nat.le_refl _)))
      have hg : gk s 0 = PR.val (PR.by_ s) := by rw [← PR.all_val]; unfold gk; simp [h1]
      rw [hg]
      clear hg
      generalize PR.val (PR.by_ s) = V at hV ⊢
      cases V
      all_goals
        go_enter Tryd.func58, Tryd.ntmps58
        go_wp2_with (go_at_call 47; refine hV.out.mono ?_; rintro e w1 ⟨rfl, hb⟩; obtain ⟨c0, c1⟩ := kcells hb)
        all_goals
          go_ret
          exact ⟨rfl, kbelow1 hb⟩
    · have hg : gk s 0 = false := by unfold gk; simp [h1]
      rw [hg]
      clear hg
      go_enter Tryd.func58, Tryd.ntmps58
      go_wp2
      all_goals
        go_ret
        exact ⟨rfl, (Below.refl _ _).alloc (Nat.le_refl _) _⟩
  · have hg := Fact.mk (show gk s m = (decide (1 ≤ m) && (decide (m ≤ 65536) && decide (s.toList = []))) by unfold gk; simp [h0])
    generalize gk s m = G at hg ⊢
    go_enter Tryd.func58, Tryd.ntmps58
    go_wp2
    all_goals
      go_ret
      refine ⟨retH ?_, (Below.refl _ _).alloc (Nat.le_refl _) _⟩
      rw [hg.out]
      clear hg
      first | rfl | (simp_all; done) | (simp; intros; omega) | (rw [decide_eq_true (show 1 ≤ m by omega), decide_eq_true (show m ≤ 65536 by omega)]; cases s.toList <;> simp)
end Go.Proofs.YtinaibebdacnmaaDoor
