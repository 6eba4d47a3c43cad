/- Good, Check of the program and of the reference on any value; the makers. -/
import Derived.Test.YtgnifckehopjhaaDoorValE
namespace Go.Proofs.YtgnifckehopjhaaDoor
open Go.RowKit Go.Proofs.YtgnifckehopjhaaDoorW.PrintWords
attribute [local go_sem] run_store_float

/-- Is a value well formed? -/
def gd (k : Int) (b : Bool) (n : Nat) (s : ByteArray) (i : Int) : Bool :=
  if k = 1 then !b && (decide (s.toList = []) && (decide (i = 0) && decide (n = 0)))
  else if k = 2 then !b && (decide (s.toList = []) && (decide (i = 0) && decide (n = 0)))
  else if k = 3 then decide (s.toList = []) && (decide (i = 0) && decide (n = 0))
  else if k = 4 then !b && (decide (s.toList = []) && decide (i = 0))
  else if k = 5 then (decide ((s.size : Int) ≤ 1048576) && (Pt.all s).2) && (!b && (decide (i = 0) && decide (n = 0)))
  else if k = 6 then (decide (1 ≤ i) && decide (i ≤ 65536)) && (!b && (decide (s.toList = []) && decide (n = 0)))
  else if k = 7 then (decide (1 ≤ i) && decide (i ≤ 65536)) && (!b && (decide (s.toList = []) && decide (n = 0)))
  else false
/-- The value as one of the seven types. -/
def oneV (k : Int) (b : Bool) (n : Nat) (s : ByteArray) (i : Int) : Value :=
  if k = 1 then .iface 130 (.agg #[]) else if k = 2 then .iface 131 (.agg #[]) else if k = 3 then .iface 132 (.bool b) else if k = 4 then .iface 133 (.float .f64 n)
  else if k = 5 then .iface 92 (.string s) else if k = 6 then .iface 134 (.int .i64 i) else .iface 135 (.int .i64 i)

theorem good_c (k : Int) (b : Bool) (n : Nat) (s : ByteArray) (i : Int) (w : World) (HT : Tabs w) : Calls Tryd.prog 43 #[VV k b n s i] w fun e w' => (∃ x, e = .returned (.tuple #[x, .bool (gd k b n s i)]) ∧ (gd k b n s i = true → x = oneV k b n s i)) ∧ Below w.heap.size w w' := by
  have no : ∀ {P : Calls Tryd.prog 43 #[VV k b n s i] w fun e w' => e = .returned (.tuple #[.nilIface, .bool false]) ∧ Below w.heap.size w w'} (_ : gd k b n s i = false), Calls Tryd.prog 43 #[VV k b n s i] w fun e w' => (∃ x, e = .returned (.tuple #[x, .bool (gd k b n s i)]) ∧ (gd k b n s i = true → x = oneV k b n s i)) ∧ Below w.heap.size w w' := by
    intro P hg
    refine P.mono ?_
    rintro e w' ⟨rfl, hb⟩
    exact ⟨⟨_, by rw [hg], fun h => by rw [hg] at h; cases h⟩, hb⟩
  by_cases h1 : k = 1
  · subst h1; exact (good1_c b n s i w).mono fun e w' ⟨he, hb⟩ => ⟨⟨_, he, fun _ => rfl⟩, hb⟩
  by_cases h2 : k = 2
  · subst h2; exact (good2_c b n s i w).mono fun e w' ⟨he, hb⟩ => ⟨⟨_, he, fun _ => rfl⟩, hb⟩
  by_cases h3 : k = 3
  · subst h3; exact (good3_c b n s i w).mono fun e w' ⟨he, hb⟩ => ⟨⟨_, he, fun _ => rfl⟩, hb⟩
  by_cases h4 : k = 4
  · subst h4; exact (good4_c b n s i w).mono fun e w' ⟨he, hb⟩ => ⟨⟨_, he, fun _ => rfl⟩, hb⟩
  by_cases h5 : k = 5
  · subst h5
    by_cases g : (s.size : Int) ≤ 1048576 ∧ (Pt.all s).2 = true
    · refine (good5_c b n s i w ⟨HT⟩ g.1 g.2).mono fun e w' ⟨he, hb⟩ => ⟨⟨_, ?_, fun _ => rfl⟩, hb⟩
      rw [he]; refine ret_tb ?_
      simp [gd, g.1, g.2]
    · refine no (P := goodf_c 5 b n s i w ⟨fun w' hb => in5f_c b n s i w' ⟨HT.below hb⟩ g⟩) ?_
      have : (decide ((s.size : Int) ≤ 1048576) && (Pt.all s).2) = false := by
        rw [Bool.eq_false_iff]; intro h; apply g; simpa using h
      simp only [gd]; simp [this]
  by_cases h6 : k = 6
  · subst h6
    by_cases g : 1 ≤ i ∧ i ≤ 65536
    · refine (good6_c b n s i w g.1 g.2).mono fun e w' ⟨he, hb⟩ => ⟨⟨_, ?_, fun _ => rfl⟩, hb⟩
      rw [he]; refine ret_tb ?_
      simp [gd, g.1, g.2]
    · refine no (P := goodf_c 6 b n s i w ⟨fun w' _ => in6f_c b n s i w' g⟩) ?_
      have : (decide (1 ≤ i) && decide (i ≤ 65536)) = false := by
        rw [Bool.eq_false_iff]; intro h; apply g; simpa using h
      simp only [gd]; simp [this]
  by_cases h7 : k = 7
  · subst h7
    by_cases g : 1 ≤ i ∧ i ≤ 65536
    · refine (good7_c b n s i w g.1 g.2).mono fun e w' ⟨he, hb⟩ => ⟨⟨_, ?_, fun _ => rfl⟩, hb⟩
      rw [he]; refine ret_tb ?_
      simp [gd, g.1, g.2]
    · refine no (P := goodf_c 7 b n s i w ⟨fun w' _ => in7f_c b n s i w' g⟩) ?_
      have : (decide (1 ≤ i) && decide (i ≤ 65536)) = false := by
        rw [Bool.eq_false_iff]; intro h; apply g; simpa using h
      simp only [gd]; simp [this]
  refine no (P := goodf_c k b n s i w ⟨fun w' _ => in0_c k b n s i w' h1 h2 h3 h4 h5 h6 h7⟩) ?_
  simp only [gd]
  rw [if_neg h1, if_neg h2, if_neg h3, if_neg h4, if_neg h5, if_neg h6, if_neg h7]

theorem check_c (k : Int) (b : Bool) (n : Nat) (s : ByteArray) (i : Int) (w : World) (HT : Tabs w) : Calls Tryd.prog 28 #[VV k b n s i] w fun e w' => e = .returned (.int .i64 (if gd k b n s i = true then 0 else 5)) ∧ Below w.heap.size w w' := by
  have hg := Fact.mk (good_c k b n s i (w.alloc (.cells #[.int .i64 k, .bool b, .float .f64 n, .string s, .int .i64 i] 44)) (HT.below ((Below.refl _ _).alloc (Nat.le_refl _) _)))
  generalize gd k b n s i = G at hg ⊢
  unfold VV at *
  cases G
  all_goals
    go_enter Tryd.func28, Tryd.ntmps28
    go_wp2_with (go_at_call 43; refine hg.out.mono ?_; rintro e w1 ⟨⟨x, rfl, _⟩, hb⟩)
    go_ret
    exact ⟨rfl, below1 hb⟩
end Go.Proofs.YtgnifckehopjhaaDoor
