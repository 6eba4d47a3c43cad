import Derived.Test.YtinaibebdacnmaaDoorOpNZz
import Derived.Test.YtinaibebdacnmaaDoorOpOZz
import Derived.Test.YtinaibebdacnmaaDoorOpPZz
import Derived.Test.YtinaibebdacnmaaDoorOpQZz
import Derived.Test.YtinaibebdacnmaaDoorMc
import Derived.Deep.WholeRow
import Derived.Deep.MidRow
set_option linter.all false
/- The reference's Good of a descriptor. -/
namespace Go.Proofs.YtinaibebdacnmaaDoor
open Go.RowKit Go.Proofs.YtinaibebdacnmaaDoorW.PrintWords
attribute [local go_sem] run_store_float
theorem rGoodD_c (d : Dt) (hf : d.fin) (w : World) : Calls Tryd.prog 60 #[DD d] w fun e w' => e = .returned (.bool (gD d)) ∧ Below w.heap.size w w' := by
  have n0 := Fact.mk (fun w' => rNone_c d.v.k d.v.b d.v.n d.v.s d.v.i hf.1 w')
  have n1 := Fact.mk (fun w' => rNone_c d.g.k d.g.b d.g.n d.g.s d.g.i hf.2.1 w')
  have n2 := Fact.mk (fun w' => rNone_c d.s.k d.s.b d.s.n d.s.s d.s.i hf.2.2 w')
  have g0 := Fact.mk (fun w' => rGood_c d.v.k d.v.b d.v.n d.v.s d.v.i hf.1 w')
  have s1 := Fact.mk (fun w' => rSlot_c d.g.k d.g.b d.g.n d.g.s d.g.i hf.2.1 w')
  have s2 := Fact.mk (fun w' => rSlot_c d.s.k d.s.b d.s.n d.s.s d.s.i hf.2.2 w')
  have t1 := Fact.mk (rTri_c d.w)
  have t2 := Fact.mk (rTri_c d.e)
  have t3 := Fact.mk (rTri_c d.c)
  have e1 := Fact.mk (rThere_c d.g.k d.g.b d.g.n d.g.s d.g.i)
  have e2 := Fact.mk (rThere_c d.s.k d.s.b d.s.n d.s.s d.s.i)
  have e3 := Fact.mk (rThere_c d.v.k d.v.b d.v.n d.v.s d.v.i)
  obtain ⟨R, hR⟩ : ∃ R : Bool, R = gD d := ⟨_, rfl⟩
  rw [← hR]
  simp only [gD, bs, dat, acc, ca] at hR
  generalize nn d.v.k d.v.b d.v.n d.v.s d.v.i = A at *
  generalize gd d.v.k d.v.b d.v.n d.v.s d.v.i = G at *
  generalize nn d.g.k d.g.b d.g.n d.g.s d.g.i = N1 at *
  generalize nn d.s.k d.s.b d.s.n d.s.s d.s.i = N2 at *
  generalize (gd d.g.k d.g.b d.g.n d.g.s d.g.i && (decide (d.g.k = 1) || decide (d.g.k = 7))) = S1 at *
  generalize (gd d.s.k d.s.b d.s.n d.s.s d.s.i && (decide (d.s.k = 1) || decide (d.s.k = 7))) = S2 at *
  generalize tr d.w = T1 at *
  generalize tr d.e = T2 at *
  generalize tr d.c = T3 at *
  generalize (d.v.k != 0) = X at *
  generalize (d.g.k != 0) = Y at *
  generalize (d.s.k != 0) = Z at *
  obtain ⟨U, hU⟩ : ∃ U, (d.w != 0) = U := ⟨_, rfl⟩
  rw [hU] at hR
  cases A with
  | true =>
    cases N1 with
    | true => exact rgd1 d w G S1 N2 S2 T1 T2 T3 X Y Z U R n0 n1 n2 g0 s1 s2 t1 t2 t3 e1 e2 e3 hU hR
    | false =>
      cases S1 with
      | true => exact rgd2 d w G N2 S2 T1 T2 T3 X Y Z U R n0 n1 n2 g0 s1 s2 t1 t2 t3 e1 e2 e3 hU hR
      | false => exact rgd5 d w G N2 S2 T1 T2 T3 X Y Z U R n0 n1 n2 g0 s1 s2 t1 t2 t3 e1 e2 e3 hU hR
  | false =>
    cases G with
    | false => exact rgd7 d w N1 S1 N2 S2 T1 T2 T3 X Y Z U R n0 n1 n2 g0 s1 s2 t1 t2 t3 e1 e2 e3 hU hR
    | true =>
      cases N1 with
      | true => exact rgd3 d w S1 N2 S2 T1 T2 T3 X Y Z U R n0 n1 n2 g0 s1 s2 t1 t2 t3 e1 e2 e3 hU hR
      | false =>
        cases S1 with
        | true => exact rgd4 d w N2 S2 T1 T2 T3 X Y Z U R n0 n1 n2 g0 s1 s2 t1 t2 t3 e1 e2 e3 hU hR
        | false => exact rgd6 d w N2 S2 T1 T2 T3 X Y Z U R n0 n1 n2 g0 s1 s2 t1 t2 t3 e1 e2 e3 hU hR
end Go.Proofs.YtinaibebdacnmaaDoor

/- call.shapes: the table of all codes. -/
namespace Go.Proofs.YtinaibebdacnmaaDoor
open Go.RowKit Go.Proofs.YtinaibebdacnmaaDoorW.PrintWords
attribute [local go_sem] run_store_float

theorem wpBuild {P : Program} {ops : Array Oper} {rest : List Oper} {op : Oper} {a : Act} {w : World} {Q : Exit → Act → World → Prop} (hgd : op.guard = none) (ty : TypeId) (parts : Array (Nat × Operand)) (ho : op.op = .build ty parts) (vals : Array (Nat × Value)) (hv : (parts.map fun x => (x.fst, a.eval x.snd)) = vals) (v : Value)
    (hr : (Instr.build ty vals).run P w = .ok v w) (h : wpList P ops Q rest (a.put op.dst v) w) : wpList P ops Q (op :: rest) a w :=
  wpList_plain hgd fun _ hK => by
    unfold Oper.wp execOp
    simp only [ho, Sem.run_bind, hv, hr, Result.andThen_ok, Sem.run_pure]
    exact hK _ _ h

def sA (j : Nat) : Bool := match j with
  | 2 => true
  | 7 => true
  | 8 => true
  | 9 => true
  | 10 => true
  | 11 => true
  | 12 => true
  | 13 => true
  | 14 => true
  | 15 => true
  | 16 => true
  | 17 => true
  | 18 => true
  | 19 => true
  | 20 => true
  | 21 => true
  | 22 => true
  | 23 => true
  | 24 => true
  | _ => false
def sB (j : Nat) : Bool := match j with
  | 11 => true
  | 12 => true
  | 17 => true
  | 20 => true
  | 21 => true
  | 23 => true
  | 24 => true
  | _ => false
def sC (j : Nat) : Bool := match j with
  | 20 => true
  | 24 => true
  | _ => false
def sK (j : Nat) : Bool := match j with
  | 10 => true
  | 11 => true
  | 12 => true
  | 13 => true
  | 14 => true
  | 15 => true
  | _ => false
def shTab : Array Value := #[.bool false, .bool false, .bool false, .bool false, .bool false, .bool false, .bool false, .bool false, .bool true, .bool false, .bool false, .bool false, .bool false, .bool false, .bool false, .bool false, .bool false, .bool false, .bool false, .bool false, .bool false, .bool false, .bool false, .bool false, .bool false, .bool false, .bool false, .bool false, .bool true, .bool false, .bool false, .bool false, .bool true, .bool false, .bool false, .bool false, .bool true, .bool false, .bool false, .bool false, .bool true, .bool false, .bool false, .bool true, .bool true, .bool true, .bool false, .bool true, .bool true, .bool true, .bool false, .bool true, .bool true, .bool false, .bool false, .bool true, .bool true, .bool false, .bool false, .bool true, .bool true, .bool false, .bool false, .bool true, .bool true, .bool false, .bool false, .bool false, .bool true, .bool true, .bool false, .bool false, .bool true, .bool false, .bool false, .bool false, .bool true, .bool false, .bool false, .bool false, .bool true, .bool true, .bool true, .bool false, .bool true, .bool true, .bool false, .bool false, .bool true, .bool false, .bool false, .bool false, .bool true, .bool true, .bool false, .bool false, .bool true, .bool true, .bool true, .bool false]
theorem shTab0 (j : Nat) (h : j < 25) : shTab[j * 4]? = some (.bool (sA j)) := by
  match j, h with
  | 0, _ => rfl
  | 1, _ => rfl
  | 2, _ => rfl
  | 3, _ => rfl
  | 4, _ => rfl
  | 5, _ => rfl
  | 6, _ => rfl
  | 7, _ => rfl
  | 8, _ => rfl
  | 9, _ => rfl
  | 10, _ => rfl
  | 11, _ => rfl
  | 12, _ => rfl
  | 13, _ => rfl
  | 14, _ => rfl
  | 15, _ => rfl
  | 16, _ => rfl
  | 17, _ => rfl
  | 18, _ => rfl
  | 19, _ => rfl
  | 20, _ => rfl
  | 21, _ => rfl
  | 22, _ => rfl
  | 23, _ => rfl
  | 24, _ => rfl
  | _ + 25, h => omega
theorem shTab1 (j : Nat) (h : j < 25) : shTab[j * 4 + 1]? = some (.bool (sB j)) := by
  match j, h with
  | 0, _ => rfl
  | 1, _ => rfl
  | 2, _ => rfl
  | 3, _ => rfl
  | 4, _ => rfl
  | 5, _ => rfl
  | 6, _ => rfl
  | 7, _ => rfl
  | 8, _ => rfl
  | 9, _ => rfl
  | 10, _ => rfl
  | 11, _ => rfl
  | 12, _ => rfl
  | 13, _ => rfl
  | 14, _ => rfl
  | 15, _ => rfl
  | 16, _ => rfl
  | 17, _ => rfl
  | 18, _ => rfl
  | 19, _ => rfl
  | 20, _ => rfl
  | 21, _ => rfl
  | 22, _ => rfl
  | 23, _ => rfl
  | 24, _ => rfl
  | _ + 25, h => omega
theorem shTab2 (j : Nat) (h : j < 25) : shTab[j * 4 + 2]? = some (.bool (sC j)) := by
  match j, h with
  | 0, _ => rfl
  | 1, _ => rfl
  | 2, _ => rfl
  | 3, _ => rfl
  | 4, _ => rfl
  | 5, _ => rfl
  | 6, _ => rfl
  | 7, _ => rfl
  | 8, _ => rfl
  | 9, _ => rfl
  | 10, _ => rfl
  | 11, _ => rfl
  | 12, _ => rfl
  | 13, _ => rfl
  | 14, _ => rfl
  | 15, _ => rfl
  | 16, _ => rfl
  | 17, _ => rfl
  | 18, _ => rfl
  | 19, _ => rfl
  | 20, _ => rfl
  | 21, _ => rfl
  | 22, _ => rfl
  | 23, _ => rfl
  | 24, _ => rfl
  | _ + 25, h => omega
theorem shTab3 (j : Nat) (h : j < 25) : shTab[j * 4 + 3]? = some (.bool (sK j)) := by
  match j, h with
  | 0, _ => rfl
  | 1, _ => rfl
  | 2, _ => rfl
  | 3, _ => rfl
  | 4, _ => rfl
  | 5, _ => rfl
  | 6, _ => rfl
  | 7, _ => rfl
  | 8, _ => rfl
  | 9, _ => rfl
  | 10, _ => rfl
  | 11, _ => rfl
  | 12, _ => rfl
  | 13, _ => rfl
  | 14, _ => rfl
  | 15, _ => rfl
  | 16, _ => rfl
  | 17, _ => rfl
  | 18, _ => rfl
  | 19, _ => rfl
  | 20, _ => rfl
  | 21, _ => rfl
  | 22, _ => rfl
  | 23, _ => rfl
  | 24, _ => rfl
  | _ + 25, h => omega
theorem buildT (w : World) : (Instr.build 130 #[(2, .agg #[.bool true, .bool false, .bool false, .bool false]), (7, .agg #[.bool true, .bool false, .bool false, .bool false]), (8, .agg #[.bool true, .bool false, .bool false, .bool false]), (9, .agg #[.bool true, .bool false, .bool false, .bool false]), (10, .agg #[.bool true, .bool false, .bool false, .bool true]), (11, .agg #[.bool true, .bool true, .bool false, .bool true]), (12, .agg #[.bool true, .bool true, .bool false, .bool true]), (13, .agg #[.bool true, .bool false, .bool false, .bool true]), (14, .agg #[.bool true, .bool false, .bool false, .bool true]), (15, .agg #[.bool true, .bool false, .bool false, .bool true]), (16, .agg #[.bool true, .bool false, .bool false, .bool false]), (17, .agg #[.bool true, .bool true, .bool false, .bool false]), (18, .agg #[.bool true, .bool false, .bool false, .bool false]), (19, .agg #[.bool true, .bool false, .bool false, .bool false]), (20, .agg #[.bool true, .bool true, .bool true, .bool false]), (21, .agg #[.bool true, .bool true, .bool false, .bool false]), (22, .agg #[.bool true, .bool false, .bool false, .bool false]), (23, .agg #[.bool true, .bool true, .bool false, .bool false]), (24, .agg #[.bool true, .bool true, .bool true, .bool false])]).run Tryd.prog w = .ok (.agg shTab) w := by kernel_rfl
theorem sizeT : (Tryd.prog.info? 130).map (·.size) = some 100 := by kernel_rfl
theorem storeT (w : World) (o : Obj) (c : Array Value) (hc : c.size = 100) :
    (storeCells ⟨w.heap.size + 1, 0, none⟩ shTab.toList 0).run Tryd.prog ((w.alloc o).alloc (.cells c 130)) = .ok () ((w.alloc o).alloc (.cells shTab 130)) := by
  have := run_storeCells_new (P := Tryd.prog) (w.alloc o) 130 c shTab (by rw [sizeT]; rfl) (by rw [hc]; rfl) (by decide +kernel)
  simpa using this
set_option maxRecDepth 100000 in
set_option maxHeartbeats 4000000 in
theorem shapes_c (j : Nat) (h1 : 1 ≤ j) (h2 : j ≤ 24) (w : World) : Calls Tryd.prog 53 #[.int .i64 j] w fun e w' => e = .returned (.tuple #[.agg #[.bool (sA j), .bool (sB j), .bool (sC j), .bool (sK j)], .bool true]) ∧ Below w.heap.size w w' := by
  have hst := storeT
  have d1 : ¬ (j : Int) < 1 := by omega
  have d2 : ¬ (j : Int) > 24 := by omega
  have d3 : (0 : Int) ≤ (j : Int) := by omega
  have d4 : (j : Int) < 25 := by omega
  have hh : ((w.alloc (.cells #[.bool false, .bool false, .bool false, .bool false] 101)).alloc (.cells shTab 130)).heap[w.heap.size + 1]? = some (.cells shTab 130 (0, 0)) := heap_alloc2_new _ _ _
  have e0 : ((w.alloc (.cells #[.bool false, .bool false, .bool false, .bool false] 101)).alloc (.cells shTab 130)).cell? ⟨w.heap.size + 1, j * 4, none⟩ = some (.bool (sA j)) := by rw [Lib.cell_of_heap hh]; exact shTab0 j (by omega)
  have e1 : ((w.alloc (.cells #[.bool false, .bool false, .bool false, .bool false] 101)).alloc (.cells shTab 130)).cell? ⟨w.heap.size + 1, j * 4 + 1, none⟩ = some (.bool (sB j)) := by rw [Lib.cell_of_heap hh]; exact shTab1 j (by omega)
  have e2 : ((w.alloc (.cells #[.bool false, .bool false, .bool false, .bool false] 101)).alloc (.cells shTab 130)).cell? ⟨w.heap.size + 1, j * 4 + 2, none⟩ = some (.bool (sC j)) := by rw [Lib.cell_of_heap hh]; exact shTab2 j (by omega)
  have e3 : ((w.alloc (.cells #[.bool false, .bool false, .bool false, .bool false] 101)).alloc (.cells shTab 130)).cell? ⟨w.heap.size + 1, j * 4 + 3, none⟩ = some (.bool (sK j)) := by rw [Lib.cell_of_heap hh]; exact shTab3 j (by omega)
  clear hh h1 h2
  go_enter Tryd.func53, Tryd.ntmps53
  go_wp2_with (with_reducible refine wpBuild (op := ⟨some 24, _, _, _, _, _⟩) rfl 130 _ rfl _ ?hv1 (.agg shTab) (buildT _) ?_; (case hv1 => kernel_rfl))
  refine bodyPost_ret (results_ct rfl _ _ w.heap.size _ _ _ _ rfl (by rw [Lib.alloc_old _ _ _ (by simp)]; exact heap_alloc_new _ _) Tryd.underlying101 rfl (by kernel_rfl)) rfl ?_
  exact ⟨rfl, ((Below.refl _ _).alloc (Nat.le_refl _) _).alloc (by simp) _⟩
set_option maxRecDepth 100000 in
set_option maxHeartbeats 4000000 in
theorem shapesNot_c (n : Int) (h : n < 1 ∨ 24 < n) (w : World) : Calls Tryd.prog 53 #[.int .i64 n] w fun e w' => e = .returned (.tuple #[.agg #[.bool false, .bool false, .bool false, .bool false], .bool false]) ∧ Below w.heap.size w w' := by
  have hst := storeT
  rcases h with h | h
  · go_enter Tryd.func53, Tryd.ntmps53
    go_wp2_with (with_reducible refine wpBuild (op := ⟨some 24, _, _, _, _, _⟩) rfl 130 _ rfl _ ?hv1 (.agg shTab) (buildT _) ?_; (case hv1 => kernel_rfl))
    refine bodyPost_ret (results_ct rfl _ _ w.heap.size _ _ _ _ rfl (by rw [Lib.alloc_old _ _ _ (by simp)]; exact heap_alloc_new _ _) Tryd.underlying101 rfl (by kernel_rfl)) rfl ?_
    exact ⟨rfl, ((Below.refl _ _).alloc (Nat.le_refl _) _).alloc (by simp) _⟩
  · have h2 : ¬ n < 1 := by omega
    go_enter Tryd.func53, Tryd.ntmps53
    go_wp2_with (with_reducible refine wpBuild (op := ⟨some 24, _, _, _, _, _⟩) rfl 130 _ rfl _ ?hv1 (.agg shTab) (buildT _) ?_; (case hv1 => kernel_rfl))
    refine bodyPost_ret (results_ct rfl _ _ w.heap.size _ _ _ _ rfl (by rw [Lib.alloc_old _ _ _ (by simp)]; exact heap_alloc_new _ _) Tryd.underlying101 rfl (by kernel_rfl)) rfl ?_
    exact ⟨rfl, ((Below.refl _ _).alloc (Nat.le_refl _) _).alloc (by simp) _⟩
end Go.Proofs.YtinaibebdacnmaaDoor

/- The cells of an operation in its box. -/
namespace Go.Proofs.YtinaibebdacnmaaDoor
open Go.RowKit Go.Proofs.YtinaibebdacnmaaDoorW.PrintWords
attribute [local go_sem] run_store_float

theorem boxO {W W' : World} {cs : Array Value} {t : TypeId} (hb : Below (W.alloc (.cells cs t)).heap.size (W.alloc (.cells cs t)) W') (q : Nat) {u : Value} (hu : cs[q]? = some u) (o : Obj) : (W'.alloc o).cell? ⟨W.heap.size, q, none⟩ = some u := by
  have h := heap5 hb
  have h' : (W'.alloc o).heap[W.heap.size]? = some (.cells cs t (0, 0)) := by
    rw [Lib.alloc_old W' o _ (Array.getElem?_eq_some_iff.1 h).1]; exact h
  rw [Lib.cell_of_heap h']; simpa using hu
theorem boxP {W W' W'' : World} {cs : Array Value} {t : TypeId} (hb : Below (W.alloc (.cells cs t)).heap.size (W.alloc (.cells cs t)) W') {o : Obj} (hb2 : Below (W'.alloc o).heap.size (W'.alloc o) W'') : Below (W.alloc (.cells cs t)).heap.size (W.alloc (.cells cs t)) W'' :=
  (hb.alloc hb.size o).trans (hb2.mono (hb.alloc hb.size o).size)
/-- A struct's load out of the midst of a block, as one value, under a guard or none. -/
theorem wpLoadMid {P : Program} {ops : Array Oper} {rest : List Oper} {op : Oper} {a : Act} {w : World} {Q : Exit → Act → World → Prop} (hw : Region.wanted op (yielded ops a.tmps) = true) (ty : TypeId) (x : Operand) (ho : op.op = .load ty x)
    (b o : Nat) (hx : a.eval x = .pointer (some ⟨b, o, none⟩)) (dd : Array Value) (d : TypeDesc) (hc : w.rangeAt b o dd.toList)
    (hu : P.underlying ty = some d) (hd : d.isRow = true) (hi : (P.info? ty).map (·.size) = some dd.size)
    (h : wpList P ops Q rest (a.put op.dst (.agg dd)) w) : wpList P ops Q (op :: rest) a w :=
  wpList_step fun K hK => by
    rw [if_pos hw]
    have hl := run_loadAt_mid (P := P) w b o ty dd.toList d hc hu hd (by simpa using hi)
    simp only [Array.toArray_toList] at hl
    unfold Oper.wp execOp
    simp only [ho, hx, Sem.run_bind, hl, Result.andThen_ok, Sem.run_pure]
    exact hK _ _ h
theorem rangeD {w W' : World} {cs dd : Array Value} {t : TypeId} (hB : Below (w.alloc (.cells cs t)).heap.size (w.alloc (.cells cs t)) W') (hdd : ∀ q, q < dd.size → cs[12 + q]? = dd[q]?) : W'.rangeAt w.heap.size 12 dd.toList := fun j v hv => by
  have hv' : dd[j]? = some v := by simpa using hv
  exact boxCell hB (12 + j) ((hdd j (Array.getElem?_eq_some_iff.1 hv').1).trans hv')
end Go.Proofs.YtinaibebdacnmaaDoor

/- An operation: its fields, its cells, when it is sound. -/
namespace Go.Proofs.YtinaibebdacnmaaDoor
open Go.RowKit Go.Proofs.YtinaibebdacnmaaDoorW.PrintWords
attribute [local go_sem] run_store_float

structure Ot where
  o : Int
  t : Int
  a : Int
  b : Int
  c : Int
  ks : ByteArray
  km : Int
  v : Vt
  d : Dt
  f : Bool
  q : Bool
def Ot.fin (x : Ot) : Prop := x.v.n < 18446744073709551616 ∧ x.d.fin
def ocs (x : Ot) : Array Value := #[.int .i64 x.o, .int .i64 x.t, .int .i64 x.a, .int .i64 x.b, .int .i64 x.c, .string x.ks, .int .i64 x.km, .int .i64 x.v.k, .bool x.v.b, .float .f64 x.v.n, .string x.v.s, .int .i64 x.v.i, .int .i64 x.d.v.k, .bool x.d.v.b, .float .f64 x.d.v.n, .string x.d.v.s, .int .i64 x.d.v.i, .int .i64 x.d.g.k, .bool x.d.g.b, .float .f64 x.d.g.n, .string x.d.g.s, .int .i64 x.d.g.i, .int .i64 x.d.s.k, .bool x.d.s.b, .float .f64 x.d.s.n, .string x.d.s.s, .int .i64 x.d.s.i, .int .i64 x.d.w, .int .i64 x.d.e, .int .i64 x.d.c, .bool x.f, .bool x.q]
def snd (x : Ot) : Bool :=
  if x.o = 1 then rg x.t && gd x.v.k x.v.b x.v.n x.v.s x.v.i else
  if x.o = 2 then rg x.t && (rg x.a) else
  if x.o = 3 then rg x.t else
  if x.o = 4 then rg x.t && decide (0 ≤ x.a) else
  if x.o = 5 then rg x.t else
  if x.o = 6 then rg x.t else
  if x.o = 7 then rg x.t && (rg x.a) else
  if x.o = 8 then rg x.t && (rg x.a) else
  if x.o = 9 then rg x.t && (rg x.a && decide (0 ≤ x.b)) else
  if x.o = 10 then rg x.t && (rg x.a && (gk x.ks x.km)) else
  if x.o = 11 then rg x.t && (rg x.a && (rg x.b && (gk x.ks x.km))) else
  if x.o = 12 then rg x.t && (rg x.a && (rg x.b && (gk x.ks x.km && (gD x.d && !(x.f && acc x.d))))) else
  if x.o = 13 then rg x.t && (rg x.a && (gk x.ks x.km)) else
  if x.o = 14 then rg x.t && (rg x.a && (gk x.ks x.km)) else
  if x.o = 15 then rg x.t && (rg x.a && (gk x.ks x.km)) else
  if x.o = 16 then rg x.t && (rg x.a) else
  if x.o = 17 then rg x.t && (rg x.a && (rg x.b)) else
  if x.o = 18 then rg x.t && (rg x.a) else
  if x.o = 19 then rg x.t && (rg x.a) else
  if x.o = 20 then rg x.t && (rg x.a && (rg x.b && (rg x.c))) else
  if x.o = 21 then rg x.t && (rg x.a && (rg x.b)) else
  if x.o = 22 then rg x.t && (rg x.a) else
  if x.o = 23 then rg x.t && (rg x.a && (rg x.b)) else
  if x.o = 24 then rg x.t && (rg x.a && (rg x.b && (rg x.c))) else
  false
theorem condIf (b : Bool) (x y : Int) : (if b = true then x else y) = (bif b then x else y) := by cases b <;> rfl
theorem ddO (x : Ot) : ∀ q, q < (dcs x.d).size → (ocs x)[12 + q]? = (dcs x.d)[q]? := by
  suffices h : ∀ q, q < 18 → (ocs x)[12 + q]? = (dcs x.d)[q]? from fun q hq => h q hq
  intro q hq
  match q, hq with
  | 0, _ => rfl
  | 1, _ => rfl
  | 2, _ => rfl
  | 3, _ => rfl
  | 4, _ => rfl
  | 5, _ => rfl
  | 6, _ => rfl
  | 7, _ => rfl
  | 8, _ => rfl
  | 9, _ => rfl
  | 10, _ => rfl
  | 11, _ => rfl
  | 12, _ => rfl
  | 13, _ => rfl
  | 14, _ => rfl
  | 15, _ => rfl
  | 16, _ => rfl
  | 17, _ => rfl
  | q + 18, h => exact absurd h (by omega)
theorem keyI (ks : ByteArray) (km : Int) (w : World) (HT : Tabs w) : Calls Tryd.prog 55 #[.agg #[.string ks, .int .i64 km]] w fun e w' => e = .returned (.int .i64 (bif gk ks km then 0 else 5)) ∧ Below w.heap.size w w' := by
  have h := keyCheck_c ks km w HT
  rw [condIf] at h
  exact h
theorem valI (k : Int) (b : Bool) (n : Nat) (s : ByteArray) (i : Int) (w : World) (HT : Tabs w) : Calls Tryd.prog 27 #[.agg #[.int .i64 k, .bool b, .float .f64 n, .string s, .int .i64 i]] w fun e w' => e = .returned (.int .i64 (bif gd k b n s i then 0 else 5)) ∧ Below w.heap.size w w' := by
  have h := check_c k b n s i w HT
  rw [condIf] at h
  exact h
theorem dI (d : Dt) (hf : d.fin) (w : World) (HT : Tabs w) : Calls Tryd.prog 56 #[.agg (dcs d)] w fun e w' => e = .returned (.int .i64 (bif gD d then 0 else 5)) ∧ Below w.heap.size w w' := by
  have h := dCheck_c d hf w HT
  rw [condIf] at h
  exact h
end Go.Proofs.YtinaibebdacnmaaDoor
