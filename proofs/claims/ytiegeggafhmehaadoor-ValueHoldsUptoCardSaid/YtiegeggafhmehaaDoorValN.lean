/- Same, SameZero, Strict: what each call comes to. -/
import Derived.Test.YtiegeggafhmehaaDoorValM
namespace Go.Proofs.YtiegeggafhmehaaDoor
open Go.RowKit Go.Proofs.YtiegeggafhmehaaDoorW.PrintWords
attribute [local go_sem] run_store_float

set_option maxRecDepth 100000 in
theorem same_c (k : Int) (b : Bool) (n : Nat) (s : ByteArray) (i : Int) (k' : Int) (b' : Bool) (n' : Nat) (s' : ByteArray) (i' : Int) (hn : n < 18446744073709551616) (hn' : n' < 18446744073709551616) (w : World) (HT : Tabs w) :
    Calls Tryd.prog 41 #[VV k b n s i, VV k' b' n' s' i'] w fun e w' => e = .returned (.tuple #[.bool (gd k b n s i && gd k' b' n' s' i' && hv (Fl.same n n') k b n s i k' b' n' s' i'), .int .i64 (if (gd k b n s i && gd k' b' n' s' i') = true then 0 else 5)]) ∧ Below w.heap.size w w' := by
  have hHB := below2 w (.cells #[.int .i64 k, .bool b, .float .f64 n, .string s, .int .i64 i] 42) (.cells #[.int .i64 k', .bool b', .float .f64 n', .string s', .int .i64 i'] 42)
  have hc := Fact.mk (held_c 88 (Fl.same n n') (enters_of Tryd.func88 (by kernel_rfl) rfl) k b n s i k' b' n' s' i' ⟨fun w => pSame_c n n' hn hn' w⟩ _ (HT.below hHB))
  generalize (gd k b n s i && gd k' b' n' s' i' && hv (Fl.same n n') k b n s i k' b' n' s' i') = R at hc ⊢
  generalize (if (gd k b n s i && gd k' b' n' s' i') = true then (0 : Int) else 5) = E at hc ⊢
  unfold VV at *
  go_enter Tryd.func41, Tryd.ntmps41
  go_wp2_with (go_at_call 87; refine hc.out.mono ?_; rintro e w1 ⟨rfl, hb⟩)
  go_ret2
  exact ⟨rfl, hHB.trans (hb.mono hHB.size)⟩

set_option maxRecDepth 100000 in
theorem zero_c (k : Int) (b : Bool) (n : Nat) (s : ByteArray) (i : Int) (k' : Int) (b' : Bool) (n' : Nat) (s' : ByteArray) (i' : Int) (hn : n < 18446744073709551616) (hn' : n' < 18446744073709551616) (w : World) (HT : Tabs w) :
    Calls Tryd.prog 42 #[VV k b n s i, VV k' b' n' s' i'] w fun e w' => e = .returned (.tuple #[.bool (gd k b n s i && gd k' b' n' s' i' && hv (Fl.same0 n n') k b n s i k' b' n' s' i'), .int .i64 (if (gd k b n s i && gd k' b' n' s' i') = true then 0 else 5)]) ∧ Below w.heap.size w w' := by
  have hHB := below2 w (.cells #[.int .i64 k, .bool b, .float .f64 n, .string s, .int .i64 i] 42) (.cells #[.int .i64 k', .bool b', .float .f64 n', .string s', .int .i64 i'] 42)
  have hc := Fact.mk (held_c 89 (Fl.same0 n n') (enters_of Tryd.func89 (by kernel_rfl) rfl) k b n s i k' b' n' s' i' ⟨fun w => pSame0_c n n' hn hn' w⟩ _ (HT.below hHB))
  generalize (gd k b n s i && gd k' b' n' s' i' && hv (Fl.same0 n n') k b n s i k' b' n' s' i') = R at hc ⊢
  generalize (if (gd k b n s i && gd k' b' n' s' i') = true then (0 : Int) else 5) = E at hc ⊢
  unfold VV at *
  go_enter Tryd.func42, Tryd.ntmps42
  go_wp2_with (go_at_call 87; refine hc.out.mono ?_; rintro e w1 ⟨rfl, hb⟩)
  go_ret2
  exact ⟨rfl, hHB.trans (hb.mono hHB.size)⟩

set_option maxRecDepth 100000 in
theorem strict_c (k : Int) (b : Bool) (n : Nat) (s : ByteArray) (i : Int) (k' : Int) (b' : Bool) (n' : Nat) (s' : ByteArray) (i' : Int) (w : World) (HT : Tabs w) :
    Calls Tryd.prog 43 #[VV k b n s i, VV k' b' n' s' i'] w fun e w' => e = .returned (.tuple #[.bool (gd k b n s i && gd k' b' n' s' i' && hv (Fl.equal n n') k b n s i k' b' n' s' i'), .int .i64 (if (gd k b n s i && gd k' b' n' s' i') = true then 0 else 5)]) ∧ Below w.heap.size w w' := by
  have hHB := below2 w (.cells #[.int .i64 k, .bool b, .float .f64 n, .string s, .int .i64 i] 42) (.cells #[.int .i64 k', .bool b', .float .f64 n', .string s', .int .i64 i'] 42)
  have hc := Fact.mk (held_c 90 (Fl.equal n n') (enters_of Tryd.func90 (by kernel_rfl) rfl) k b n s i k' b' n' s' i' ⟨fun w => pEqual_c n n' w⟩ _ (HT.below hHB))
  generalize (gd k b n s i && gd k' b' n' s' i' && hv (Fl.equal n n') k b n s i k' b' n' s' i') = R at hc ⊢
  generalize (if (gd k b n s i && gd k' b' n' s' i') = true then (0 : Int) else 5) = E at hc ⊢
  unfold VV at *
  go_enter Tryd.func43, Tryd.ntmps43
  go_wp2_with (go_at_call 87; refine hc.out.mono ?_; rintro e w1 ⟨rfl, hb⟩)
  go_ret2
  exact ⟨rfl, hHB.trans (hb.mono hHB.size)⟩
end Go.Proofs.YtiegeggafhmehaaDoor
