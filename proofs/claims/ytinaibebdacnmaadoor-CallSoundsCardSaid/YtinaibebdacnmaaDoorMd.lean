import Derived.Test.YtinaibebdacnmaaDoorOpKZz
import Derived.WalkKit
set_option linter.all false
/- Package desc: Check, Accessor: a descriptor goes from hand to hand as one value. -/
namespace Go.Proofs.YtinaibebdacnmaaDoor
open Go.RowKit Go.Proofs.YtinaibebdacnmaaDoorW.PrintWords
attribute [local go_sem] run_store_float

/-- A struct's load out of a box of its own, as one value. -/
theorem wpLoadBox {P : Program} {ops : Array Oper} {rest : List Oper} {op : Oper} {a : Act} {w : World} {Q : Exit → Act → World → Prop} (hgd : op.guard = none) (ty : TypeId) (x : Operand) (ho : op.op = .load ty x)
    (b : Nat) (hx : a.eval x = .pointer (some ⟨b, 0, none⟩)) (cs : Array Value) (t : TypeId) (fr : Nat × Nat) (d : TypeDesc) (hb : w.heap[b]? = some (.cells cs t fr))
    (hu : P.underlying ty = some d) (hd : (match d with | .struct _ | .array _ _ => true | _ => false) = true) (hi : (P.info? ty).map (·.size) = some cs.size)
    (h : wpList P ops Q rest (a.put op.dst (.agg cs)) w) : wpList P ops Q (op :: rest) a w :=
  wpList_plain hgd fun _ hK => by
    unfold Oper.wp execOp
    simp only [ho, hx, Instr.loadAt, Instr.sureAddr, Sem.run_bind, Sem.run_pure, Result.andThen_ok, run_loadVar_row w b t ty cs fr d hb hu hd hi]
    exact hK _ _ h

def dcs (d : Dt) : Array Value := #[.int .i64 d.v.k, .bool d.v.b, .float .f64 d.v.n, .string d.v.s, .int .i64 d.v.i, .int .i64 d.g.k, .bool d.g.b, .float .f64 d.g.n, .string d.g.s, .int .i64 d.g.i, .int .i64 d.s.k, .bool d.s.b, .float .f64 d.s.n, .string d.s.s, .int .i64 d.s.i, .int .i64 d.w, .int .i64 d.e, .int .i64 d.c]
theorem DD_dcs (d : Dt) : DD d = .agg (dcs d) := rfl
theorem infoD : (Tryd.prog.info? 47).map (·.size) = some 18 := by kernel_rfl

set_option maxRecDepth 100000 in
theorem dCheck_c (d : Dt) (hf : d.fin) (w : World) (HT : Tabs w) : Calls Tryd.prog 56 #[DD d] w fun e w' => e = .returned (.int .i64 (if gD d = true then 0 else 5)) ∧ Below w.heap.size w w' := by
  have hk := Fact.mk (fun w' (h : Below w.heap.size w w') => kind_c d hf w' (HT.below h))
  have hsz : (Tryd.prog.info? 47).map (·.size) = some (dcs d).size := infoD
  rw [DD_dcs] at hk ⊢
  generalize gD d = G at hk ⊢
  generalize (bif bs d then (bif dat d then 1 else bif acc d then 2 else 0) else 0) = R at hk
  generalize dcs d = cs at *
  have hsz := Fact.mk hsz
  clear HT hf
  cases G
  all_goals
    go_enter Tryd.func56, Tryd.ntmps56
    go_wp2_with (first | (refine wpLoadBox rfl 47 (.tmp 1) rfl w.heap.size (by rfl) cs 47 (0, 0) _ (heap_alloc_new _ _) Tryd.underlying47 rfl hsz.out ?_) | (go_at_call 83; refine (hk.out _ ((Below.refl _ _).alloc (Nat.le_refl _) _)).mono ?_; rintro e w1 ⟨rfl, hb⟩))
    go_ret
    exact ⟨rfl, below1 hb⟩

set_option maxRecDepth 100000 in
theorem is_c (d : Dt) (hf : d.fin) (w : World) (HT : Tabs w) : Calls Tryd.prog 84 #[DD d, .int .i64 2] w fun e w' => e = .returned (.bool (gD d && acc d)) ∧ Below w.heap.size w w' := by
  have hk := Fact.mk (fun w' (h : Below w.heap.size w w') => kind_c d hf w' (HT.below h))
  have hsz : (Tryd.prog.info? 47).map (·.size) = some (dcs d).size := infoD
  rw [DD_dcs] at hk ⊢
  obtain ⟨E, hE⟩ : ∃ E, E = (gD d && acc d) := ⟨_, rfl⟩
  rw [← hE]
  simp only [gD] at hE hk
  generalize bs d = B at *
  generalize dat d = D at *
  generalize acc d = C at *
  generalize dcs d = cs at *
  have hE := Fact.mk hE
  have hsz := Fact.mk hsz
  clear HT hf
  cases B <;> cases D <;> cases C
  all_goals
    simp only [cond_true, cond_false, Bool.not_true, Bool.not_false, Bool.and_true, Bool.and_false, Bool.true_and, Bool.false_and] at hk hE
    go_enter Tryd.func84, Tryd.ntmps84
    go_wp2_with (first | (refine wpLoadBox rfl 47 (.tmp 2) rfl w.heap.size (by rfl) cs 47 (0, 0) _ (heap_alloc_new _ _) Tryd.underlying47 rfl hsz.out ?_) | (go_at_call 83; refine (hk.out _ ((Below.refl _ _).alloc (Nat.le_refl _) _)).mono ?_; rintro e w1 ⟨rfl, hb⟩))
    go_ret
    exact ⟨retb (by rw [hE.out]), below1 hb⟩

set_option maxRecDepth 100000 in
theorem accessor_c (d : Dt) (hf : d.fin) (w : World) (HT : Tabs w) : Calls Tryd.prog 57 #[DD d] w fun e w' => e = .returned (.bool (gD d && acc d)) ∧ Below w.heap.size w w' := by
  have hk := Fact.mk (fun w' (h : Below w.heap.size w w') => is_c d hf w' (HT.below h))
  have hsz : (Tryd.prog.info? 47).map (·.size) = some (dcs d).size := infoD
  rw [DD_dcs] at hk ⊢
  generalize (gD d && acc d) = G at hk ⊢
  generalize dcs d = cs at *
  have hsz := Fact.mk hsz
  clear HT hf
  go_enter Tryd.func57, Tryd.ntmps57
  go_wp2_with (first | (refine wpLoadBox rfl 47 (.tmp 1) rfl w.heap.size (by rfl) cs 47 (0, 0) _ (heap_alloc_new _ _) Tryd.underlying47 rfl hsz.out ?_) | (go_at_call 84; refine (hk.out _ ((Below.refl _ _).alloc (Nat.le_refl _) _)).mono ?_; rintro e w1 ⟨rfl, hb⟩))
  go_ret
  exact ⟨rfl, below1 hb⟩
end Go.Proofs.YtinaibebdacnmaaDoor

/- The cells of a descriptor in its box. -/
namespace Go.Proofs.YtinaibebdacnmaaDoor
open Go.RowKit Go.Proofs.YtinaibebdacnmaaDoorW.PrintWords
attribute [local go_sem] run_store_float
theorem dcV {w W' : World} {t : TypeId} {d : Dt} (hb : Below (w.alloc (.cells #[.int .i64 d.v.k, .bool d.v.b, .float .f64 d.v.n, .string d.v.s, .int .i64 d.v.i, .int .i64 d.g.k, .bool d.g.b, .float .f64 d.g.n, .string d.g.s, .int .i64 d.g.i, .int .i64 d.s.k, .bool d.s.b, .float .f64 d.s.n, .string d.s.s, .int .i64 d.s.i, .int .i64 d.w, .int .i64 d.e, .int .i64 d.c] t)).heap.size (w.alloc (.cells #[.int .i64 d.v.k, .bool d.v.b, .float .f64 d.v.n, .string d.v.s, .int .i64 d.v.i, .int .i64 d.g.k, .bool d.g.b, .float .f64 d.g.n, .string d.g.s, .int .i64 d.g.i, .int .i64 d.s.k, .bool d.s.b, .float .f64 d.s.n, .string d.s.s, .int .i64 d.s.i, .int .i64 d.w, .int .i64 d.e, .int .i64 d.c] t)) W') : W'.cell? ⟨w.heap.size, 0, none⟩ = some (.int .i64 d.v.k) ∧ W'.cell? ⟨w.heap.size, 1, none⟩ = some (.bool d.v.b) ∧ W'.cell? ⟨w.heap.size, 2, none⟩ = some (.float .f64 d.v.n) ∧ W'.cell? ⟨w.heap.size, 3, none⟩ = some (.string d.v.s) ∧ W'.cell? ⟨w.heap.size, 4, none⟩ = some (.int .i64 d.v.i) :=
  ⟨boxCell hb 0 rfl, boxCell hb 1 rfl, boxCell hb 2 rfl, boxCell hb 3 rfl, boxCell hb 4 rfl⟩
theorem dcG {w W' : World} {t : TypeId} {d : Dt} (hb : Below (w.alloc (.cells #[.int .i64 d.v.k, .bool d.v.b, .float .f64 d.v.n, .string d.v.s, .int .i64 d.v.i, .int .i64 d.g.k, .bool d.g.b, .float .f64 d.g.n, .string d.g.s, .int .i64 d.g.i, .int .i64 d.s.k, .bool d.s.b, .float .f64 d.s.n, .string d.s.s, .int .i64 d.s.i, .int .i64 d.w, .int .i64 d.e, .int .i64 d.c] t)).heap.size (w.alloc (.cells #[.int .i64 d.v.k, .bool d.v.b, .float .f64 d.v.n, .string d.v.s, .int .i64 d.v.i, .int .i64 d.g.k, .bool d.g.b, .float .f64 d.g.n, .string d.g.s, .int .i64 d.g.i, .int .i64 d.s.k, .bool d.s.b, .float .f64 d.s.n, .string d.s.s, .int .i64 d.s.i, .int .i64 d.w, .int .i64 d.e, .int .i64 d.c] t)) W') : W'.cell? ⟨w.heap.size, 5, none⟩ = some (.int .i64 d.g.k) ∧ W'.cell? ⟨w.heap.size, 6, none⟩ = some (.bool d.g.b) ∧ W'.cell? ⟨w.heap.size, 7, none⟩ = some (.float .f64 d.g.n) ∧ W'.cell? ⟨w.heap.size, 8, none⟩ = some (.string d.g.s) ∧ W'.cell? ⟨w.heap.size, 9, none⟩ = some (.int .i64 d.g.i) :=
  ⟨boxCell hb 5 rfl, boxCell hb 6 rfl, boxCell hb 7 rfl, boxCell hb 8 rfl, boxCell hb 9 rfl⟩
theorem dcS {w W' : World} {t : TypeId} {d : Dt} (hb : Below (w.alloc (.cells #[.int .i64 d.v.k, .bool d.v.b, .float .f64 d.v.n, .string d.v.s, .int .i64 d.v.i, .int .i64 d.g.k, .bool d.g.b, .float .f64 d.g.n, .string d.g.s, .int .i64 d.g.i, .int .i64 d.s.k, .bool d.s.b, .float .f64 d.s.n, .string d.s.s, .int .i64 d.s.i, .int .i64 d.w, .int .i64 d.e, .int .i64 d.c] t)).heap.size (w.alloc (.cells #[.int .i64 d.v.k, .bool d.v.b, .float .f64 d.v.n, .string d.v.s, .int .i64 d.v.i, .int .i64 d.g.k, .bool d.g.b, .float .f64 d.g.n, .string d.g.s, .int .i64 d.g.i, .int .i64 d.s.k, .bool d.s.b, .float .f64 d.s.n, .string d.s.s, .int .i64 d.s.i, .int .i64 d.w, .int .i64 d.e, .int .i64 d.c] t)) W') : W'.cell? ⟨w.heap.size, 10, none⟩ = some (.int .i64 d.s.k) ∧ W'.cell? ⟨w.heap.size, 11, none⟩ = some (.bool d.s.b) ∧ W'.cell? ⟨w.heap.size, 12, none⟩ = some (.float .f64 d.s.n) ∧ W'.cell? ⟨w.heap.size, 13, none⟩ = some (.string d.s.s) ∧ W'.cell? ⟨w.heap.size, 14, none⟩ = some (.int .i64 d.s.i) :=
  ⟨boxCell hb 10 rfl, boxCell hb 11 rfl, boxCell hb 12 rfl, boxCell hb 13 rfl, boxCell hb 14 rfl⟩
theorem dcW {w W' : World} {t : TypeId} {d : Dt} (hb : Below (w.alloc (.cells #[.int .i64 d.v.k, .bool d.v.b, .float .f64 d.v.n, .string d.v.s, .int .i64 d.v.i, .int .i64 d.g.k, .bool d.g.b, .float .f64 d.g.n, .string d.g.s, .int .i64 d.g.i, .int .i64 d.s.k, .bool d.s.b, .float .f64 d.s.n, .string d.s.s, .int .i64 d.s.i, .int .i64 d.w, .int .i64 d.e, .int .i64 d.c] t)).heap.size (w.alloc (.cells #[.int .i64 d.v.k, .bool d.v.b, .float .f64 d.v.n, .string d.v.s, .int .i64 d.v.i, .int .i64 d.g.k, .bool d.g.b, .float .f64 d.g.n, .string d.g.s, .int .i64 d.g.i, .int .i64 d.s.k, .bool d.s.b, .float .f64 d.s.n, .string d.s.s, .int .i64 d.s.i, .int .i64 d.w, .int .i64 d.e, .int .i64 d.c] t)) W') : W'.cell? ⟨w.heap.size, 15, none⟩ = some (.int .i64 d.w) ∧ W'.cell? ⟨w.heap.size, 16, none⟩ = some (.int .i64 d.e) ∧ W'.cell? ⟨w.heap.size, 17, none⟩ = some (.int .i64 d.c) :=
  ⟨boxCell hb 15 rfl, boxCell hb 16 rfl, boxCell hb 17 rfl⟩
end Go.Proofs.YtinaibebdacnmaaDoor
