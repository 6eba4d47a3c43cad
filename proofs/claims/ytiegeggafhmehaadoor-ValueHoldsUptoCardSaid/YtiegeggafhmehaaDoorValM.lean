/- held, whole; Same, SameZero, Strict. -/
import Derived.Test.YtiegeggafhmehaaDoorValL
namespace Go.Proofs.YtiegeggafhmehaaDoor
open Go.RowKit Go.Proofs.YtiegeggafhmehaaDoorW.PrintWords
attribute [local go_sem] run_store_float

theorem below2 (w : World) (x y : Obj) : Below w.heap.size w ((w.alloc x).alloc y) := ((Below.refl _ _).alloc (Nat.le_refl _) _).alloc (by simp) _

set_option maxRecDepth 100000 in
set_option maxHeartbeats 800000 in
theorem heldn_c (g : Nat) (F : Bool) (eg : ∀ args w, (callFunc g args).run Tryd.prog w = .ok (.enter g args) w) (b : Bool) (n : Nat) (s : ByteArray) (i : Int) (b' : Bool) (n' : Nat) (s' : ByteArray) (i' : Int)
    (hF : Fact (∀ w, Calls Tryd.prog g #[.float .f64 n, .float .f64 n'] w fun e w' => e = .returned (.bool F) ∧ w = w')) (w : World) (HT : Tabs w)
    (ha : gd 4 b n s i = true) (hb : gd 4 b' n' s' i' = true) :
    Calls Tryd.prog 87 #[VV 4 b n s i, VV 4 b' n' s' i', .func (.func g) #[] #[]] w fun e w' => e = .returned (.tuple #[.bool F, .int .i64 0]) ∧ Below w.heap.size w w' := by
  have hga := Fact.mk (fun w' (h : Below w.heap.size w w') => goodT_c 4 b n s i w' (HT.below h) ha)
  have hgb := Fact.mk (fun w' (h : Below w.heap.size w w') => goodT_c 4 b' n' s' i' w' (HT.below h) hb)
  have hta := ta_yes n
  have htb := ta_yes n'
  clear ha hb HT
  have e1 : ∀ b n s i, oU 4 b n s i = .float .f64 n := fun _ _ _ _ => rfl
  have e2 : oT 4 = 117 := rfl
  simp only [e1, e2] at hga hgb
  clear e1 e2
  have hHB := below2 w (.cells #[.int .i64 4, .bool b, .float .f64 n, .string s, .int .i64 i] 42) (.cells #[.int .i64 4, .bool b', .float .f64 n', .string s', .int .i64 i'] 42)
  unfold VV at *
  go_enter Tryd.func87, Tryd.ntmps87
  go_wp2_with (first | (go_at_call 83; with_reducible refine (hga.out _ hHB).mono ?_; rintro e w1 ⟨rfl, hb1⟩; obtain ⟨hv, hr, hbw⟩ := two5 hb1; obtain ⟨c0, c1, c2, c3, c4, _⟩ := facts5 hr; obtain ⟨d0, d1, d2, d3, d4, _⟩ := facts5 hv) | (go_at_call 83; with_reducible refine (hgb.out _ hbw).mono ?_; rintro e w2 ⟨rfl, hb2⟩; have hbw2 := hbw.trans (hb2.mono hbw.size)) | (with_reducible refine (hF.out _).mono ?_; rintro e w3 ⟨rfl, rfl⟩))
  go_ret2
  exact ⟨rfl, hbw2⟩

set_option maxRecDepth 100000 in
set_option maxHeartbeats 800000 in
theorem heldm_c (g : Nat) (b : Bool) (n : Nat) (s : ByteArray) (i : Int) (k' : Int) (b' : Bool) (n' : Nat) (s' : ByteArray) (i' : Int) (w : World) (HT : Tabs w)
    (ha : gd 4 b n s i = true) (hb : gd k' b' n' s' i' = true) (hk : k' ≠ 4) :
    Calls Tryd.prog 87 #[VV 4 b n s i, VV k' b' n' s' i', .func (.func g) #[] #[]] w fun e w' => e = .returned (.tuple #[.bool false, .int .i64 0]) ∧ Below w.heap.size w w' := by
  have hga := Fact.mk (fun w' (h : Below w.heap.size w w') => goodT_c 4 b n s i w' (HT.below h) ha)
  have hgb := Fact.mk (fun w' (h : Below w.heap.size w w') => goodT_c k' b' n' s' i' w' (HT.below h) hb)
  have hT : oT k' ≠ 117 := by
    unfold oT; rw [if_neg (show ¬ k' = 4 from hk)]
    repeat' split
    all_goals decide
  have hta := ta_yes n
  have htb := ta_no (oT k') (oU k' b' n' s' i') hT
  clear ha hb HT hk
  have e1 : ∀ b n s i, oU 4 b n s i = .float .f64 n := fun _ _ _ _ => rfl
  have e2 : oT 4 = 117 := rfl
  simp only [e1, e2] at hga
  clear e1 e2
  generalize oT k' = T' at *; generalize oU k' b' n' s' i' = U' at *
  have hHB := below2 w (.cells #[.int .i64 4, .bool b, .float .f64 n, .string s, .int .i64 i] 42) (.cells #[.int .i64 k', .bool b', .float .f64 n', .string s', .int .i64 i'] 42)
  unfold VV at *
  go_enter Tryd.func87, Tryd.ntmps87
  go_wp2_with (first | (go_at_call 83; with_reducible refine (hga.out _ hHB).mono ?_; rintro e w1 ⟨rfl, hb1⟩; obtain ⟨hv, hr, hbw⟩ := two5 hb1; obtain ⟨c0, c1, c2, c3, c4, _⟩ := facts5 hr; obtain ⟨d0, d1, d2, d3, d4, _⟩ := facts5 hv) | (go_at_call 83; with_reducible refine (hgb.out _ hbw).mono ?_; rintro e w2 ⟨rfl, hb2⟩; have hbw2 := hbw.trans (hb2.mono hbw.size)))
  go_ret2
  exact ⟨rfl, hbw2⟩

set_option maxRecDepth 100000 in
set_option maxHeartbeats 800000 in
theorem heldf_c (g : Nat) (k : Int) (b : Bool) (n : Nat) (s : ByteArray) (i : Int) (k' : Int) (b' : Bool) (n' : Nat) (s' : ByteArray) (i' : Int) (w : World) (HT : Tabs w)
    (h : (gd k b n s i && gd k' b' n' s' i') = false) :
    Calls Tryd.prog 87 #[VV k b n s i, VV k' b' n' s' i', .func (.func g) #[] #[]] w fun e w' => e = .returned (.tuple #[.bool false, .int .i64 5]) ∧ Below w.heap.size w w' := by
  have hga := Fact.mk (fun w' (h : Below w.heap.size w w') => good_c k b n s i w' (HT.below h))
  have hgb := Fact.mk (fun w' (h : Below w.heap.size w w') => good_c k' b' n' s' i' w' (HT.below h))
  have hHB := below2 w (.cells #[.int .i64 k, .bool b, .float .f64 n, .string s, .int .i64 i] 42) (.cells #[.int .i64 k', .bool b', .float .f64 n', .string s', .int .i64 i'] 42)
  clear HT
  generalize gd k b n s i = G at *; generalize gd k' b' n' s' i' = G' at *
  unfold VV at *
  cases G
  · clear h
    go_enter Tryd.func87, Tryd.ntmps87
    go_wp2_with (first | (go_at_call 83; with_reducible refine (hga.out _ hHB).mono ?_; rintro e w1 ⟨⟨x, rfl, _⟩, hb1⟩; obtain ⟨hv, hr, hbw⟩ := two5 hb1; obtain ⟨c0, c1, c2, c3, c4, _⟩ := facts5 hr; obtain ⟨d0, d1, d2, d3, d4, _⟩ := facts5 hv) | (go_at_call 83; with_reducible refine (hgb.out _ hbw).mono ?_; rintro e w2 ⟨⟨y, rfl, _⟩, hb2⟩; have hbw2 := hbw.trans (hb2.mono hbw.size)))
    go_ret2
    exact ⟨rfl, hbw2⟩
  · obtain rfl : G' = false := by simpa using h
    clear h
    go_enter Tryd.func87, Tryd.ntmps87
    go_wp2_with (first | (go_at_call 83; with_reducible refine (hga.out _ hHB).mono ?_; rintro e w1 ⟨⟨x, rfl, _⟩, hb1⟩; obtain ⟨hv, hr, hbw⟩ := two5 hb1; obtain ⟨c0, c1, c2, c3, c4, _⟩ := facts5 hr; obtain ⟨d0, d1, d2, d3, d4, _⟩ := facts5 hv) | (go_at_call 83; with_reducible refine (hgb.out _ hbw).mono ?_; rintro e w2 ⟨⟨y, rfl, _⟩, hb2⟩; have hbw2 := hbw.trans (hb2.mono hbw.size)))
    go_ret2
    exact ⟨rfl, hbw2⟩

/-- Are two values held to be the same, numbers by F? -/
def hv (F : Bool) (k : Int) (b : Bool) (n : Nat) (s : ByteArray) (i : Int) (k' : Int) (b' : Bool) (n' : Nat) (s' : ByteArray) (i' : Int) : Bool :=
  if k = 4 then decide (k' = 4) && F else decide (k = k') && (b == b') && decide (s.toList = s'.toList) && decide (i = i')

theorem held_c (g : Nat) (F : Bool) (eg : ∀ args w, (callFunc g args).run Tryd.prog w = .ok (.enter g args) w) (k : Int) (b : Bool) (n : Nat) (s : ByteArray) (i : Int) (k' : Int) (b' : Bool) (n' : Nat) (s' : ByteArray) (i' : Int)
    (hF : Fact (∀ w, Calls Tryd.prog g #[.float .f64 n, .float .f64 n'] w fun e w' => e = .returned (.bool F) ∧ w = w')) (w : World) (HT : Tabs w) :
    Calls Tryd.prog 87 #[VV k b n s i, VV k' b' n' s' i', .func (.func g) #[] #[]] w fun e w' =>
      e = .returned (.tuple #[.bool (gd k b n s i && gd k' b' n' s' i' && hv F k b n s i k' b' n' s' i'), .int .i64 (if (gd k b n s i && gd k' b' n' s' i') = true then 0 else 5)]) ∧ Below w.heap.size w w' := by
  cases hg : (gd k b n s i && gd k' b' n' s' i')
  · exact heldf_c g k b n s i k' b' n' s' i' w HT hg
  · rw [Bool.and_eq_true] at hg
    by_cases h4 : k = 4
    · subst h4
      by_cases h4' : k' = 4
      · subst h4'
        refine (heldn_c g F eg b n s i b' n' s' i' hF w HT hg.1 hg.2).mono fun e w' ⟨he, hb⟩ => ⟨?_, hb⟩
        rw [he]; simp [hv]
      · refine (heldm_c g b n s i k' b' n' s' i' w HT hg.1 hg.2 h4').mono fun e w' ⟨he, hb⟩ => ⟨?_, hb⟩
        rw [he]; simp [hv, h4']
    · refine (heldc_c g k b n s i k' b' n' s' i' w HT hg.1 hg.2 h4).mono fun e w' ⟨he, hb⟩ => ⟨?_, hb⟩
      rw [he]; simp [hv, h4]
end Go.Proofs.YtiegeggafhmehaaDoor
