/- held: two values held against each other. -/
import Derived.Test.YtiegeggafhmehaaDoorValK
import Derived.Test.YtiegeggafhmehaaDoorValG
namespace Go.Proofs.YtiegeggafhmehaaDoor
open Go.RowKit Go.Proofs.YtiegeggafhmehaaDoorW.PrintWords
attribute [local go_sem] run_store_float

theorem goodT_c (k : Int) (b : Bool) (n : Nat) (s : ByteArray) (i : Int) (w : World) (HT : Tabs w) (h : gd k b n s i = true) : Calls Tryd.prog 83 #[VV k b n s i] w fun e w' => e = .returned (.tuple #[.iface (oT k) (oU k b n s i), .bool true]) ∧ Below w.heap.size w w' := by
  refine (good_c k b n s i w HT).mono ?_
  rintro e w' ⟨⟨x, he, hx⟩, hb⟩
  refine ⟨?_, hb⟩
  rw [he, hx h, oneV_eq, h]
theorem goodF_c (k : Int) (b : Bool) (n : Nat) (s : ByteArray) (i : Int) (w : World) (HT : Tabs w) (h : gd k b n s i = false) : Calls Tryd.prog 83 #[VV k b n s i] w fun e w' => (∃ x, e = .returned (.tuple #[x, .bool false])) ∧ Below w.heap.size w w' := by
  refine (good_c k b n s i w HT).mono ?_
  rintro e w' ⟨⟨x, he, hx⟩, hb⟩
  exact ⟨⟨x, by rw [he, h]⟩, hb⟩

theorem ta_yes (n : Nat) (w : World) : (Instr.typeAssert (.iface 117 (.float .f64 n)) 123 117 true).run Tryd.prog w = .ok (.tuple #[.float .f64 n, .bool true]) w := by kernel_rfl
theorem ta_no (T : Nat) (U : Value) (h : T ≠ 117) (w : World) : (Instr.typeAssert (.iface T U) 123 117 true).run Tryd.prog w = .ok (.tuple #[.float .f64 0, .bool false]) w := by
  have hu := run_underlying Tryd.underlying117
  have hz := Tryd.zeroValue117
  simp [Instr.typeAssert, Sem.run_bind, Result.andThen, hu, h, hz]

theorem eqF (a b : Nat) (w : World) : (Op.equalIn 9999 40 (.float .f64 a) (.float .f64 b)).run Tryd.prog w = .ok (FloatKind.f64.format.order a b == some .eq) w := by kernel_rfl
theorem eqF00 (w : World) : (Op.equalIn 9999 40 (.float .f64 0) (.float .f64 0)).run Tryd.prog w = .ok true w := by rw [eqF]; rfl
theorem ret_be {a b : Bool} {z : Value} (h : a = b) : Ending.returned (.tuple #[.bool a, z]) = .returned (.tuple #[.bool b, z]) := by rw [h]

/-- The two boxes of the arguments. -/
def two (w : World) (k : Int) (b : Bool) (n : Nat) (s : ByteArray) (i : Int) (k' : Int) (b' : Bool) (n' : Nat) (s' : ByteArray) (i' : Int) : World :=
  (w.alloc (.cells #[.int .i64 k, .bool b, .float .f64 n, .string s, .int .i64 i] 42)).alloc (.cells #[.int .i64 k', .bool b', .float .f64 n', .string s', .int .i64 i'] 42)

set_option maxRecDepth 100000 in
set_option maxHeartbeats 800000 in
theorem heldc_c (g : Nat) (k : Int) (b : Bool) (n : Nat) (s : ByteArray) (i : Int) (k' : Int) (b' : Bool) (n' : Nat) (s' : ByteArray) (i' : Int) (w : World) (HT : Tabs w)
    (ha : gd k b n s i = true) (hb : gd k' b' n' s' i' = true) (hk : k ≠ 4) :
    Calls Tryd.prog 87 #[VV k b n s i, VV k' b' n' s' i', .func (.func g) #[] #[]] w fun e w' => e = .returned (.tuple #[.bool (decide (k = k') && (b == b') && decide (s.toList = s'.toList) && decide (i = i')), .int .i64 0]) ∧ Below w.heap.size w w' := by
  obtain ⟨hm, ho, ex, hn⟩ := openAll k b n s i ha
  obtain ⟨hm', ho', ex', hn'⟩ := openAll k' b' n' s' i' hb
  have hga := Fact.mk (fun w' (h : Below w.heap.size w w') => goodT_c k b n s i w' (HT.below h) ha)
  have hgb := Fact.mk (fun w' (h : Below w.heap.size w w') => goodT_c k' b' n' s' i' w' (HT.below h) hb)
  have hT : oT k ≠ 117 := by
    unfold oT; rw [if_neg (show ¬ k = 4 from hk)]
    repeat' split
    all_goals decide
  have hta := ta_no (oT k) (oU k b n s i) hT
  have hfo := Fact.mk ho
  have hfo' := Fact.mk ho'
  obtain rfl := hn hk
  clear ho ho' ha hb hn HT
  generalize oT k = T at *; generalize oU k b 0 s i = U at *; generalize oF k = F at *
  generalize oT k' = T' at *; generalize oU k' b' n' s' i' = U' at *; generalize oF k' = F' at *
  have hHB : Below w.heap.size w (two w k b 0 s i k' b' n' s' i') := ((Below.refl _ _).alloc (Nat.le_refl _) _).alloc (by simp) _
  unfold two at hHB
  unfold VV at *
  have he1 := eqF 0 n'
  have he0 := eqF00
  have hk4 : k = k' → n' = 0 := fun e => hn' (e ▸ hk)
  clear hk hn'
  by_cases hkk : k = k'
  · obtain rfl := hk4 hkk
    subst hkk
    clear hk4 he1
    go_enter Tryd.func87, Tryd.ntmps87
    go_wp2_with (first | (go_at_call 83; with_reducible refine (hga.out _ hHB).mono ?_; rintro e w1 ⟨rfl, hb1⟩; obtain ⟨hv, hr, hbw⟩ := two5 hb1; obtain ⟨c0, c1, c2, c3, c4, _⟩ := facts5 hr; obtain ⟨d0, d1, d2, d3, d4, _⟩ := facts5 hv) | (go_at_call 83; with_reducible refine (hgb.out _ hbw).mono ?_; rintro e w2 ⟨rfl, hb2⟩; have hbw2 := hbw.trans (hb2.mono hbw.size)) | (with_reducible refine (hfo.out _).mono ?_; rintro e w3 ⟨rfl, hb3⟩; have hbw3 := hbw2.trans (hb3.mono hbw2.size)) | (with_reducible refine (hfo'.out _).mono ?_; rintro e w4 ⟨rfl, hb4⟩; have hbw4 := hbw3.trans (hb4.mono hbw3.size)))
    all_goals
      clear he0 hta hga hgb hfo hfo' ex ex' hm hm'
      go_ret2
      refine ⟨ret_be ?_, hbw4⟩
      first | (simp_all; done) | (rw [Bool.eq_iff_iff]; simp_all; done)
  · clear hk4 he0
    go_enter Tryd.func87, Tryd.ntmps87
    go_wp2_with (first | (go_at_call 83; with_reducible refine (hga.out _ hHB).mono ?_; rintro e w1 ⟨rfl, hb1⟩; obtain ⟨hv, hr, hbw⟩ := two5 hb1; obtain ⟨c0, c1, c2, c3, c4, _⟩ := facts5 hr; obtain ⟨d0, d1, d2, d3, d4, _⟩ := facts5 hv) | (go_at_call 83; with_reducible refine (hgb.out _ hbw).mono ?_; rintro e w2 ⟨rfl, hb2⟩; have hbw2 := hbw.trans (hb2.mono hbw.size)) | (with_reducible refine (hfo.out _).mono ?_; rintro e w3 ⟨rfl, hb3⟩; have hbw3 := hbw2.trans (hb3.mono hbw2.size)) | (with_reducible refine (hfo'.out _).mono ?_; rintro e w4 ⟨rfl, hb4⟩; have hbw4 := hbw3.trans (hb4.mono hbw3.size)))
    all_goals
      clear he1 hta hga hgb hfo hfo' ex ex' hm hm'
      go_ret2
      refine ⟨ret_be ?_, hbw4⟩
      first | (simp_all; done) | (rw [Bool.eq_iff_iff]; simp_all; done)
end Go.Proofs.YtiegeggafhmehaaDoor
