/- The law CallCaught: its walk. -/
import Derived.Test.YtmcibofnanbhpaaDoorCatD
namespace Go.Proofs.YtmcibofnanbhpaaDoor
open Go.RowKit Go.Proofs.YtmcibofnanbhpaaDoorW.PrintWords
attribute [local go_sem] run_store_float

set_option maxRecDepth 100000 in
theorem rThrown_c (kd : Int) (h2 : 2 ≤ kd) (h5 : kd ≤ 5) (w : World) :
    Calls Tryd.prog 33 #[.agg #[.int .i64 0, .int .i64 kd, .int .i64 0, .bool false, .float .f64 0, .string ⟨#[]⟩, .int .i64 0]] w fun e w' => e = .returned (VV 5 false 0 (nmT kd) 0) ∧ Below w.heap.size w w' := by
  have hk : kd = 2 ∨ kd = 3 ∨ kd = 4 ∨ kd = 5 := by omega
  unfold VV
  rcases hk with rfl | rfl | rfl | rfl
  all_goals
    clear h2 h5
    go_enter Tryd.func33, Tryd.ntmps33
    go_wp2
    refine bodyPost_ret (results_cell_row rfl _ _ (w.heap.size + 1) _ _ _ _ rfl (by rw [Lib.alloc_old _ _ _ (by simp)]; exact heap_alloc2_new _ _ _) Tryd.underlying43 rfl (by kernel_rfl)) rfl ?_
    exact ⟨rfl, (((Below.refl _ _).alloc (Nat.le_refl _) _).alloc (by simp) _).alloc (by simp; omega) _⟩
end Go.Proofs.YtmcibofnanbhpaaDoor
