import Derived.Test.YtnknfffldgkgcaaGreatDoorValCZz
import Derived.Test.YtnknfffldgkgcaaGreatDoorFloat
import Derived.Test.YtnknfffldgkgcaaGreatDoorPu
import Derived.Deep.QuietTactic
import Derived.BigQuiet
set_option linter.all false
/- The reference's Good: what it comes to. -/
namespace Go.Proofs.YtnknfffldgkgcaaGreatDoor
open Go.RowKit Go.Proofs.YtnknfffldgkgcaaGreatDoorW.PrintWords
attribute [local go_sem] run_store_float

theorem ord0 (n : Nat) (h : n < 18446744073709551616) : FloatKind.f64.format.order n 0 = some .eq ↔ (n = 0 ∨ n = 9223372036854775808) := by
  have e := Fl.order_beq n 0
  have z : Fl.isNan 0 = false := by decide
  have q : Fl.pos 0 = 0 := by decide
  rw [z, q] at e
  have e2 : (FloatKind.f64.format.order n 0 = some .eq) ↔ ((Ieee.double.order n 0 == some .eq) = true) := by rw [beq_iff_eq]; rfl
  rw [e2, e]
  simp only [Bool.not_false, Bool.and_true, Bool.and_eq_true, Bool.not_eq_true', decide_eq_true_eq]
  unfold Fl.isNan Fl.pos Fl.sz Fl.sg Fl.inf
  constructor
  · rintro ⟨_, h2⟩
    split at h2 <;> omega
  · rintro (rfl | rfl) <;> decide

theorem minus_c (n : Nat) (h : n < 18446744073709551616) (w : World) : Calls Tryz.prog 54 #[.float .f64 n] w fun e w' => e = .returned (.bool (decide (n = 9223372036854775808))) ∧ w' = w := by
  have ho := ord0 n h
  by_cases h0 : n = 0
  · subst h0
    have hq : ∀ w, (binOp .quo 33 (.float .f64 4607182418800017408) (.float .f64 0)).run Tryz.prog w = .ok (.float .f64 9218868437227405312) w := fun w => by kernel_rfl
    have h1 : FloatKind.f64.format.order 0 0 = some .eq := by decide
    have h2 : FloatKind.f64.format.order 9218868437227405312 0 = some .gt := by decide
    clear ho h
    go_enter Tryz.func54, Tryz.ntmps54
    go_wp2
    go_ret
    exact ⟨rfl, rfl⟩
  · by_cases h1 : n = 9223372036854775808
    · subst h1
      have hq : ∀ w, (binOp .quo 33 (.float .f64 4607182418800017408) (.float .f64 9223372036854775808)).run Tryz.prog w = .ok (.float .f64 18442240474082181120) w := fun w => by kernel_rfl
      have h1 : FloatKind.f64.format.order 9223372036854775808 0 = some .eq := by decide
      have h2 : FloatKind.f64.format.order 18442240474082181120 0 = some .lt := by decide
      clear ho h h0
      go_enter Tryz.func54, Tryz.ntmps54
      go_wp2
      go_ret
      exact ⟨rfl, rfl⟩
    · have h2 : ¬ FloatKind.f64.format.order n 0 = some .eq := fun e => (ho.1 e).elim h0 h1
      have h3 := Fact.mk h1
      clear ho h h0 h1
      go_enter Tryz.func54, Tryz.ntmps54
      go_wp2
      go_ret
      exact ⟨by rw [decide_eq_false h3.out]; rfl, rfl⟩
theorem ret_bool' {a b : Bool} (h : a = b) : Ending.returned (.bool a) = .returned (.bool b) := by rw [h]

set_option maxRecDepth 100000 in
theorem rGood1_c (b : Bool) (n : Nat) (s : ByteArray) (i : Int) (h : n < 18446744073709551616) (w : World) :
    Calls Tryz.prog 36 #[VV 1 b n s i] w fun e w' => e = .returned (.bool (!b && (decide (s.toList = []) && (decide (i = 0) && decide (n = 0))))) ∧ Below w.heap.size w w' := by
  unfold VV
  go_enter Tryz.func36, Tryz.ntmps36
  go_wp2_with ((go_at_call 54; refine (minus_c _ h _).mono ?_; rintro e w1 ⟨rfl, rfl⟩))
  all_goals
    go_ret
    refine ⟨ret_bool' ?_, (Below.refl _ _).alloc (Nat.le_refl _) _⟩
    have ho := ord0 n h
    first | (simp_all; done) | (rw [Bool.eq_iff_iff]; simp_all; done) | (rw [Bool.eq_iff_iff]; simp_all; omega)
set_option maxRecDepth 100000 in
theorem rGood2_c (b : Bool) (n : Nat) (s : ByteArray) (i : Int) (h : n < 18446744073709551616) (w : World) :
    Calls Tryz.prog 36 #[VV 2 b n s i] w fun e w' => e = .returned (.bool (!b && (decide (s.toList = []) && (decide (i = 0) && decide (n = 0))))) ∧ Below w.heap.size w w' := by
  unfold VV
  go_enter Tryz.func36, Tryz.ntmps36
  go_wp2_with ((go_at_call 54; refine (minus_c _ h _).mono ?_; rintro e w1 ⟨rfl, rfl⟩))
  all_goals
    go_ret
    refine ⟨ret_bool' ?_, (Below.refl _ _).alloc (Nat.le_refl _) _⟩
    have ho := ord0 n h
    first | (simp_all; done) | (rw [Bool.eq_iff_iff]; simp_all; done) | (rw [Bool.eq_iff_iff]; simp_all; omega)
set_option maxRecDepth 100000 in
theorem rGood3_c (b : Bool) (n : Nat) (s : ByteArray) (i : Int) (h : n < 18446744073709551616) (w : World) :
    Calls Tryz.prog 36 #[VV 3 b n s i] w fun e w' => e = .returned (.bool (decide (s.toList = []) && (decide (i = 0) && decide (n = 0)))) ∧ Below w.heap.size w w' := by
  unfold VV
  go_enter Tryz.func36, Tryz.ntmps36
  go_wp2_with ((go_at_call 54; refine (minus_c _ h _).mono ?_; rintro e w1 ⟨rfl, rfl⟩))
  all_goals
    go_ret
    refine ⟨ret_bool' ?_, (Below.refl _ _).alloc (Nat.le_refl _) _⟩
    have ho := ord0 n h
    first | (simp_all; done) | (rw [Bool.eq_iff_iff]; simp_all; done) | (rw [Bool.eq_iff_iff]; simp_all; omega)
set_option maxRecDepth 100000 in
theorem rGood4_c (b : Bool) (n : Nat) (s : ByteArray) (i : Int) (h : n < 18446744073709551616) (w : World) :
    Calls Tryz.prog 36 #[VV 4 b n s i] w fun e w' => e = .returned (.bool (!b && (decide (s.toList = []) && decide (i = 0)))) ∧ Below w.heap.size w w' := by
  unfold VV
  go_enter Tryz.func36, Tryz.ntmps36
  go_wp2_with ((go_at_call 54; refine (minus_c _ h _).mono ?_; rintro e w1 ⟨rfl, rfl⟩))
  all_goals
    go_ret
    refine ⟨ret_bool' ?_, (Below.refl _ _).alloc (Nat.le_refl _) _⟩
    have ho := ord0 n h
    first | (simp_all; done) | (rw [Bool.eq_iff_iff]; simp_all; done) | (rw [Bool.eq_iff_iff]; simp_all; omega)
set_option maxRecDepth 100000 in
theorem rGood5_c (b : Bool) (n : Nat) (s : ByteArray) (i : Int) (h : n < 18446744073709551616) (w : World) :
    Calls Tryz.prog 36 #[VV 5 b n s i] w fun e w' => e = .returned (.bool ((decide ((s.size : Int) ≤ 1048576) && (Pt.all s).2) && (!b && (decide (i = 0) && decide (n = 0))))) ∧ Below w.heap.size w w' := by
  unfold VV
  have hbb0 : True := trivial
  have hV := Fact.mk (fun (K : Nat) (hs : (s.size : Int) ≤ 1048576) (hK : 40 + 9 * s.size ≤ K) => PR.Valid_eq s (by omega) K hK)
  have hval := Fact.mk (PR.all_val s)
  go_enter Tryz.func36, Tryz.ntmps36
  go_wp2_with (first | (go_at_call 54; refine (minus_c _ h _).mono ?_; rintro e w1 ⟨rfl, rfl⟩) | (go_at_call 55; refine (U.cameoref01_Valid.calls (40 + 9 * s.size) s _ _ (hV.out _ (by assumption) (Nat.le_refl _))).mono ?_; rintro e w1 ⟨rfl, hb⟩; have hbb := below1 hb))
  all_goals
    go_ret
    refine ⟨ret_bool' ?_, by first | exact hbb | exact (Below.refl _ _).alloc (Nat.le_refl _) _⟩
    have ho := ord0 n h
    have hv := hval.out
    clear hV hval
    first | (simp_all; done) | (rw [Bool.eq_iff_iff]; simp_all; done) | (rw [Bool.eq_iff_iff]; simp_all; omega)
set_option maxRecDepth 100000 in
theorem rGood6_c (b : Bool) (n : Nat) (s : ByteArray) (i : Int) (h : n < 18446744073709551616) (w : World) :
    Calls Tryz.prog 36 #[VV 6 b n s i] w fun e w' => e = .returned (.bool ((decide (1 ≤ i) && decide (i ≤ 65536)) && (!b && (decide (s.toList = []) && decide (n = 0))))) ∧ Below w.heap.size w w' := by
  unfold VV
  go_enter Tryz.func36, Tryz.ntmps36
  go_wp2_with ((go_at_call 54; refine (minus_c _ h _).mono ?_; rintro e w1 ⟨rfl, rfl⟩))
  all_goals
    go_ret
    refine ⟨ret_bool' ?_, (Below.refl _ _).alloc (Nat.le_refl _) _⟩
    have ho := ord0 n h
    first | (simp_all; done) | (rw [Bool.eq_iff_iff]; simp_all; done) | (rw [Bool.eq_iff_iff]; simp_all; omega)
set_option maxRecDepth 100000 in
theorem rGood7_c (b : Bool) (n : Nat) (s : ByteArray) (i : Int) (h : n < 18446744073709551616) (w : World) :
    Calls Tryz.prog 36 #[VV 7 b n s i] w fun e w' => e = .returned (.bool ((decide (1 ≤ i) && decide (i ≤ 65536)) && (!b && (decide (s.toList = []) && decide (n = 0))))) ∧ Below w.heap.size w w' := by
  unfold VV
  go_enter Tryz.func36, Tryz.ntmps36
  go_wp2_with ((go_at_call 54; refine (minus_c _ h _).mono ?_; rintro e w1 ⟨rfl, rfl⟩))
  all_goals
    go_ret
    refine ⟨ret_bool' ?_, (Below.refl _ _).alloc (Nat.le_refl _) _⟩
    have ho := ord0 n h
    first | (simp_all; done) | (rw [Bool.eq_iff_iff]; simp_all; done) | (rw [Bool.eq_iff_iff]; simp_all; omega)
set_option maxRecDepth 100000 in
theorem rGood0_c (k : Int) (b : Bool) (n : Nat) (s : ByteArray) (i : Int) (hk : ¬ (1 ≤ k ∧ k ≤ 7)) (w : World) :
    Calls Tryz.prog 36 #[VV k b n s i] w fun e w' => e = .returned (.bool false) ∧ Below w.heap.size w w' := by
  unfold VV
  by_cases h1 : k < 1
  · clear hk
    go_enter Tryz.func36, Tryz.ntmps36
    go_wp2
    go_ret
    exact ⟨rfl, (Below.refl _ _).alloc (Nat.le_refl _) _⟩
  · have h2 : 7 < k := by omega
    clear hk
    go_enter Tryz.func36, Tryz.ntmps36
    go_wp2
    go_ret
    exact ⟨rfl, (Below.refl _ _).alloc (Nat.le_refl _) _⟩
end Go.Proofs.YtnknfffldgkgcaaGreatDoor

/- Good, Check of the program and of the reference on any value; the makers. -/
namespace Go.Proofs.YtnknfffldgkgcaaGreatDoor
open Go.RowKit Go.Proofs.YtnknfffldgkgcaaGreatDoorW.PrintWords
attribute [local go_sem] run_store_float

/-- Is a value well formed? -/
def gd (k : Int) (b : Bool) (n : Nat) (s : ByteArray) (i : Int) : Bool :=
  if k = 1 then !b && (decide (s.toList = []) && (decide (i = 0) && decide (n = 0)))
  else if k = 2 then !b && (decide (s.toList = []) && (decide (i = 0) && decide (n = 0)))
  else if k = 3 then decide (s.toList = []) && (decide (i = 0) && decide (n = 0))
  else if k = 4 then !b && (decide (s.toList = []) && decide (i = 0))
  else if k = 5 then (decide ((s.size : Int) ≤ 1048576) && (Pt.all s).2) && (!b && (decide (i = 0) && decide (n = 0)))
  else if k = 6 then (decide (1 ≤ i) && decide (i ≤ 65536)) && (!b && (decide (s.toList = []) && decide (n = 0)))
  else if k = 7 then (decide (1 ≤ i) && decide (i ≤ 65536)) && (!b && (decide (s.toList = []) && decide (n = 0)))
  else false
/-- The value as one of the seven types. -/
def oneV (k : Int) (b : Bool) (n : Nat) (s : ByteArray) (i : Int) : Value :=
  if k = 1 then .iface 143 (.agg #[]) else if k = 2 then .iface 144 (.agg #[]) else if k = 3 then .iface 145 (.bool b) else if k = 4 then .iface 146 (.float .f64 n)
  else if k = 5 then .iface 102 (.string s) else if k = 6 then .iface 147 (.int .i64 i) else .iface 148 (.int .i64 i)

theorem good_c (k : Int) (b : Bool) (n : Nat) (s : ByteArray) (i : Int) (w : World) (HT : Tabs w) : Calls Tryz.prog 53 #[VV k b n s i] w fun e w' => (∃ x, e = .returned (.tuple #[x, .bool (gd k b n s i)]) ∧ (gd k b n s i = true → x = oneV k b n s i)) ∧ Below w.heap.size w w' := by
  have no : ∀ {P : Calls Tryz.prog 53 #[VV k b n s i] w fun e w' => e = .returned (.tuple #[.nilIface, .bool false]) ∧ Below w.heap.size w w'} (_ : gd k b n s i = false), Calls Tryz.prog 53 #[VV k b n s i] w fun e w' => (∃ x, e = .returned (.tuple #[x, .bool (gd k b n s i)]) ∧ (gd k b n s i = true → x = oneV k b n s i)) ∧ Below w.heap.size w w' := by
    intro P hg
    refine P.mono ?_
    rintro e w' ⟨rfl, hb⟩
    exact ⟨⟨_, by rw [hg], fun h => by rw [hg] at h; cases h⟩, hb⟩
  by_cases h1 : k = 1
  · subst h1; exact (good1_c b n s i w).mono fun e w' ⟨he, hb⟩ => ⟨⟨_, he, fun _ => rfl⟩, hb⟩
  by_cases h2 : k = 2
  · subst h2; exact (good2_c b n s i w).mono fun e w' ⟨he, hb⟩ => ⟨⟨_, he, fun _ => rfl⟩, hb⟩
  by_cases h3 : k = 3
  · subst h3; exact (good3_c b n s i w).mono fun e w' ⟨he, hb⟩ => ⟨⟨_, he, fun _ => rfl⟩, hb⟩
  by_cases h4 : k = 4
  · subst h4; exact (good4_c b n s i w).mono fun e w' ⟨he, hb⟩ => ⟨⟨_, he, fun _ => rfl⟩, hb⟩
  by_cases h5 : k = 5
  · subst h5
    by_cases g : (s.size : Int) ≤ 1048576 ∧ (Pt.all s).2 = true
    · refine (good5_c b n s i w ⟨HT⟩ g.1 g.2).mono fun e w' ⟨he, hb⟩ => ⟨⟨_, ?_, fun _ => rfl⟩, hb⟩
      rw [he]; refine ret_tb ?_
      simp [gd, g.1, g.2]
    · refine no (P := goodf_c 5 b n s i w ⟨fun w' hb => in5f_c b n s i w' ⟨HT.below hb⟩ g⟩) ?_
      have : (decide ((s.size : Int) ≤ 1048576) && (Pt.all s).2) = false := by
        rw [Bool.eq_false_iff]; intro h; apply g; simpa using h
      simp only [gd]; simp [this]
  by_cases h6 : k = 6
  · subst h6
    by_cases g : 1 ≤ i ∧ i ≤ 65536
    · refine (good6_c b n s i w g.1 g.2).mono fun e w' ⟨he, hb⟩ => ⟨⟨_, ?_, fun _ => rfl⟩, hb⟩
      rw [he]; refine ret_tb ?_
      simp [gd, g.1, g.2]
    · refine no (P := goodf_c 6 b n s i w ⟨fun w' _ => in6f_c b n s i w' g⟩) ?_
      have : (decide (1 ≤ i) && decide (i ≤ 65536)) = false := by
        rw [Bool.eq_false_iff]; intro h; apply g; simpa using h
      simp only [gd]; simp [this]
  by_cases h7 : k = 7
  · subst h7
    by_cases g : 1 ≤ i ∧ i ≤ 65536
    · refine (good7_c b n s i w g.1 g.2).mono fun e w' ⟨he, hb⟩ => ⟨⟨_, ?_, fun _ => rfl⟩, hb⟩
      rw [he]; refine ret_tb ?_
      simp [gd, g.1, g.2]
    · refine no (P := goodf_c 7 b n s i w ⟨fun w' _ => in7f_c b n s i w' g⟩) ?_
      have : (decide (1 ≤ i) && decide (i ≤ 65536)) = false := by
        rw [Bool.eq_false_iff]; intro h; apply g; simpa using h
      simp only [gd]; simp [this]
  refine no (P := goodf_c k b n s i w ⟨fun w' _ => in0_c k b n s i w' h1 h2 h3 h4 h5 h6 h7⟩) ?_
  simp only [gd]
  rw [if_neg h1, if_neg h2, if_neg h3, if_neg h4, if_neg h5, if_neg h6, if_neg h7]

theorem rGood_c (k : Int) (b : Bool) (n : Nat) (s : ByteArray) (i : Int) (h : n < 18446744073709551616) (w : World) : Calls Tryz.prog 36 #[VV k b n s i] w fun e w' => e = .returned (.bool (gd k b n s i)) ∧ Below w.heap.size w w' := by
  by_cases h1 : k = 1
  · subst h1; exact rGood1_c b n s i h w
  by_cases h2 : k = 2
  · subst h2; exact rGood2_c b n s i h w
  by_cases h3 : k = 3
  · subst h3; exact rGood3_c b n s i h w
  by_cases h4 : k = 4
  · subst h4; exact rGood4_c b n s i h w
  by_cases h5 : k = 5
  · subst h5; exact rGood5_c b n s i h w
  by_cases h6 : k = 6
  · subst h6; exact rGood6_c b n s i h w
  by_cases h7 : k = 7
  · subst h7; exact rGood7_c b n s i h w
  refine (rGood0_c k b n s i (by omega) w).mono fun e w' ⟨he, hb⟩ => ⟨?_, hb⟩
  rw [he]
  unfold gd
  rw [if_neg h1, if_neg h2, if_neg h3, if_neg h4, if_neg h5, if_neg h6, if_neg h7]

theorem check_c (k : Int) (b : Bool) (n : Nat) (s : ByteArray) (i : Int) (w : World) (HT : Tabs w) : Calls Tryz.prog 34 #[VV k b n s i] w fun e w' => e = .returned (.int .i64 (if gd k b n s i = true then 0 else 5)) ∧ Below w.heap.size w w' := by
  have hg := Fact.mk (good_c k b n s i (w.alloc (.cells #[.int .i64 k, .bool b, .float .f64 n, .string s, .int .i64 i] 35)) (HT.below ((Below.refl _ _).alloc (Nat.le_refl _) _)))
  generalize gd k b n s i = G at hg ⊢
  unfold VV at *
  cases G
  all_goals
    go_enter Tryz.func34, Tryz.ntmps34
    go_wp2_with (go_at_call 53; refine hg.out.mono ?_; rintro e w1 ⟨⟨x, rfl, _⟩, hb⟩)
    go_ret
    exact ⟨rfl, below1 hb⟩
end Go.Proofs.YtnknfffldgkgcaaGreatDoor

/- made, Made and the makers: what each call comes to. -/
namespace Go.Proofs.YtnknfffldgkgcaaGreatDoor
open Go.RowKit Go.Proofs.YtnknfffldgkgcaaGreatDoorW.PrintWords
attribute [local go_sem] run_store_float

theorem two5 {w W' : World} {t : TypeId} {x0 x1 x2 x3 x4 y0 y1 y2 y3 y4 : Value} (hb : Below ((w.alloc (.cells #[x0, x1, x2, x3, x4] t)).alloc (.cells #[y0, y1, y2, y3, y4] t)).heap.size ((w.alloc (.cells #[x0, x1, x2, x3, x4] t)).alloc (.cells #[y0, y1, y2, y3, y4] t)) W') :
    W'.heap[w.heap.size]? = some (.cells #[x0, x1, x2, x3, x4] t (0, 0)) ∧ W'.heap[w.heap.size + 1]? = some (.cells #[y0, y1, y2, y3, y4] t (0, 0)) ∧ Below w.heap.size w W' := by
  refine ⟨?_, ?_, ?_⟩
  · rw [hb.block w.heap.size (by simp; omega), Lib.alloc_old _ _ _ (by simp)]; exact heap_alloc_new w _
  · rw [hb.block (w.heap.size + 1) (by simp)]; exact heap_alloc2_new w _ _
  · exact (((Below.refl _ _).alloc (Nat.le_refl _) _).alloc (by simp) _).trans (hb.mono (by simp; omega))

theorem facts5 {W : World} {g : Nat} {t : TypeId} {x0 x1 x2 x3 x4 : Value} (h : W.heap[g]? = some (.cells #[x0, x1, x2, x3, x4] t (0, 0))) :
    W.cell? ⟨g, 0, none⟩ = some x0 ∧ W.cell? ⟨g, 1, none⟩ = some x1 ∧ W.cell? ⟨g, 2, none⟩ = some x2 ∧ W.cell? ⟨g, 3, none⟩ = some x3 ∧ W.cell? ⟨g, 4, none⟩ = some x4 ∧
    W.frozen? ⟨g, 0, none⟩ = false ∧ W.frozen? ⟨g, 1, none⟩ = false ∧ W.frozen? ⟨g, 2, none⟩ = false ∧ W.frozen? ⟨g, 3, none⟩ = false ∧ W.frozen? ⟨g, 4, none⟩ = false := by
  refine ⟨?_, ?_, ?_, ?_, ?_, Lib.frozen_of_heap h 0, Lib.frozen_of_heap h 1, Lib.frozen_of_heap h 2, Lib.frozen_of_heap h 3, Lib.frozen_of_heap h 4⟩ <;> rw [Lib.cell_of_heap h] <;> rfl

theorem set5 {W : World} {g : Nat} {t : TypeId} {x0 x1 x2 x3 x4 : Value} (h : W.heap[g]? = some (.cells #[x0, x1, x2, x3, x4] t (0, 0))) (y0 y1 y2 y3 y4 : Value) :
    (((((W.setCell ⟨g, 0, none⟩ y0).setCell ⟨g, 1, none⟩ y1).setCell ⟨g, 2, none⟩ y2).setCell ⟨g, 3, none⟩ y3).setCell ⟨g, 4, none⟩ y4).heap[g]? = some (.cells #[y0, y1, y2, y3, y4] t (0, 0)) := by
  simp [World.setCell, Array.getElem?_modify, h]
theorem setB5 {B g : Nat} {W W' : World} (h : Below B W W') (hg : B ≤ g) (y0 y1 y2 y3 y4 : Value) :
    Below B W (((((W'.setCell ⟨g, 0, none⟩ y0).setCell ⟨g, 1, none⟩ y1).setCell ⟨g, 2, none⟩ y2).setCell ⟨g, 3, none⟩ y3).setCell ⟨g, 4, none⟩ y4) :=
  ((((h.setCell (p := ⟨g, 0, none⟩) hg y0).setCell (p := ⟨g, 1, none⟩) hg y1).setCell (p := ⟨g, 2, none⟩) hg y2).setCell (p := ⟨g, 3, none⟩) hg y3).setCell (p := ⟨g, 4, none⟩) hg y4

set_option maxRecDepth 100000 in
theorem made_c (k : Int) (b : Bool) (n : Nat) (s : ByteArray) (i : Int) (w : World) (HT : Tabs w) : Calls Tryz.prog 51 #[VV k b n s i] w fun e w' => e = .returned (if gd k b n s i = true then VV k b n s i else VV 0 false 0 ⟨#[]⟩ 0) ∧ Below w.heap.size w w' := by
  have hg := Fact.mk (fun w' (h : Below w.heap.size w w') => check_c k b n s i w' (HT.below h))
  generalize gd k b n s i = G at hg ⊢
  unfold VV at *
  cases G
  all_goals
    go_enter Tryz.func51, Tryz.ntmps51
    go_wp2_with (go_at_call 34; refine (hg.out _ (((Below.refl _ _).alloc (Nat.le_refl _) _).alloc (by simp) _)).mono ?_; rintro e w1 ⟨rfl, hb⟩; obtain ⟨hv, hr, hb1⟩ := two5 hb; obtain ⟨c0, c1, c2, c3, c4, f0, f1, f2, f3, f4⟩ := facts5 hr; obtain ⟨d0, d1, d2, d3, d4, _⟩ := facts5 hv)
    refine bodyPost_ret (results_cell_row rfl _ _ (w.heap.size + 1) _ _ _ _ rfl (set5 hr _ _ _ _ _) Tryz.underlying35 rfl (by kernel_rfl)) rfl ?_
    exact ⟨rfl, setB5 hb1 (by omega) _ _ _ _ _⟩
set_option maxRecDepth 100000 in
theorem mkStr_c (s : ByteArray) (w : World) (HT : Tabs w) : Calls Tryz.prog 31 #[.string s] w fun e w' => e = .returned (if gd 5 false 0 s 0 = true then VV 5 false 0 s 0 else VV 0 false 0 ⟨#[]⟩ 0) ∧ Below w.heap.size w w' := by
  have ho := Fact.mk (open5_c s)
  have hg := Fact.mk (fun w' (h : Below w.heap.size w w') => made_c 5 false 0 s 0 w' (HT.below h))
  generalize gd 5 false 0 s 0 = G at hg ⊢
  unfold VV at *
  cases G
  all_goals
    go_enter Tryz.func31, Tryz.ntmps31
    go_wp2_with (first | (go_at_call 52; refine (ho.out _).mono ?_; rintro e w1 ⟨rfl, hb⟩; have hb0 := below1 hb) | (go_at_call 51; refine (hg.out _ hb0).mono ?_; rintro e w2 ⟨rfl, hb2⟩; have hb3 := hb.trans (hb2.mono hb.size); have hr := heap5 hb3; have hb1 := below1 hb3; obtain ⟨c0, c1, c2, c3, c4, f0, f1, f2, f3, f4⟩ := facts5 hr))
    refine bodyPost_ret (results_cell_row rfl _ _ w.heap.size _ _ _ _ rfl (set5 hr _ _ _ _ _) Tryz.underlying35 rfl (by kernel_rfl)) rfl ?_
    exact ⟨rfl, setB5 hb1 (Nat.le_refl _) _ _ _ _ _⟩

theorem ord_self (n : Nat) : (FloatKind.f64.format.order n n = some .eq) ∨ Fl.isNan n = true := by
  have e := Fl.order_self' n
  cases h : Fl.isNan n with
  | true => exact .inr rfl
  | false => rw [h] at e; exact .inl (beq_iff_eq.1 e)
set_option maxRecDepth 100000 in
/-- A value is the same as itself. -/
theorem eqSelf_c (k : Int) (b : Bool) (n : Nat) (s : ByteArray) (i : Int) (w : World) : Calls Tryz.prog 29 #[VV k b n s i, VV k b n s i] w fun e w' => e = .returned (.bool true) ∧ Below w.heap.size w w' := by
  have hb := run_bits n
  unfold VV at *
  go_enter Tryz.func29, Tryz.ntmps29
  go_wp2
  go_quiet (fail)
  go_wp2
  go_ret
  refine ⟨rfl, ?_⟩
  have hB := ((Below.refl w.heap.size w).alloc (Nat.le_refl _) (.cells #[.int .i64 k, .bool b, .float .f64 n, .string s, .int .i64 i] 35)).alloc (by simp) (.cells #[.int .i64 k, .bool b, .float .f64 n, .string s, .int .i64 i] 35)
  exact ⟨hB.os, hB.tape, hB.output, hB.size, hB.block⟩
end Go.Proofs.YtnknfffldgkgcaaGreatDoor
