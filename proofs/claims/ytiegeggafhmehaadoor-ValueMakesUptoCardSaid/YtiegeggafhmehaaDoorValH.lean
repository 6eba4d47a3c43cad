/- The law ValueMakes: its walk. -/
import Derived.Test.YtiegeggafhmehaaDoorValG
import Derived.Deep.RegionHeld3
import Derived.Deep.WholeRow
namespace Go.Proofs.YtiegeggafhmehaaDoor
open Go.RowKit Go.Proofs.YtiegeggafhmehaaDoorW.PrintWords
attribute [local go_sem] run_store_float

/-- What a maker makes of a value's fields. -/
def mK (k : Int) (b : Bool) (n : Nat) (s : ByteArray) (i : Int) : Int := if gd k b n s i = true then k else 0
def mB (k : Int) (b : Bool) (n : Nat) (s : ByteArray) (i : Int) : Bool := if gd k b n s i = true then b else false
def mN (k : Int) (b : Bool) (n : Nat) (s : ByteArray) (i : Int) : Nat := if gd k b n s i = true then n else 0
def mS (k : Int) (b : Bool) (n : Nat) (s : ByteArray) (i : Int) : ByteArray := if gd k b n s i = true then s else ⟨#[]⟩
def mI (k : Int) (b : Bool) (n : Nat) (s : ByteArray) (i : Int) : Int := if gd k b n s i = true then i else 0
theorem mV (k : Int) (b : Bool) (n : Nat) (s : ByteArray) (i : Int) : (if gd k b n s i = true then VV k b n s i else VV 0 false 0 ⟨#[]⟩ 0) = VV (mK k b n s i) (mB k b n s i) (mN k b n s i) (mS k b n s i) (mI k b n s i) := by
  unfold mK mB mN mS mI
  cases gd k b n s i <;> rfl

theorem wpList_build {P : Program} {ops : Array Oper} {rest : List Oper} {op : Oper} {a : Act} {w : World} {Q : Exit → Act → World → Prop} (hgd : op.guard = none) (ty : TypeId) (parts : Array (Nat × Operand)) (ho : op.op = .build ty parts) (vals : Array (Nat × Value)) (hv : (parts.map fun x => (x.fst, a.eval x.snd)) = vals) (v : Value)
    (hr : (Instr.build ty vals).run P w = .ok v w) (h : wpList P ops Q rest (a.put op.dst v) w) : wpList P ops Q (op :: rest) a w :=
  wpList_plain hgd fun _ hK => by
    unfold Oper.wp execOp
    simp only [ho, Sem.run_bind, hv, hr, Result.andThen_ok, Sem.run_pure]
    exact hK _ _ h

/-- A row of seven values, built. -/
theorem build7 (fk : Nat → Int) (fb : Nat → Bool) (fn : Nat → Nat) (fs : Nat → ByteArray) (fi : Nat → Int) : ∃ M : Array Value,
    (∀ w, (Instr.build 48 #[(0, VV (fk 0) (fb 0) (fn 0) (fs 0) (fi 0)), (1, VV (fk 1) (fb 1) (fn 1) (fs 1) (fi 1)), (2, VV (fk 2) (fb 2) (fn 2) (fs 2) (fi 2)), (3, VV (fk 3) (fb 3) (fn 3) (fs 3) (fi 3)), (4, VV (fk 4) (fb 4) (fn 4) (fs 4) (fi 4)), (5, VV (fk 5) (fb 5) (fn 5) (fs 5) (fi 5)), (6, VV (fk 6) (fb 6) (fn 6) (fs 6) (fi 6))]).run Tryd.prog w = .ok (.agg M) w) ∧ M.size = 35 ∧ M.all (·.oneCell') = true ∧
    ∀ j, j < 7 → M[5 * j]? = some (.int .i64 (fk j)) ∧ M[5 * j + 1]? = some (.bool (fb j)) ∧ M[5 * j + 2]? = some (.float .f64 (fn j)) ∧ M[5 * j + 3]? = some (.string (fs j)) ∧ M[5 * j + 4]? = some (.int .i64 (fi j)) := by
  refine ⟨#[.int .i64 (fk 0), .bool (fb 0), .float .f64 (fn 0), .string (fs 0), .int .i64 (fi 0), .int .i64 (fk 1), .bool (fb 1), .float .f64 (fn 1), .string (fs 1), .int .i64 (fi 1), .int .i64 (fk 2), .bool (fb 2), .float .f64 (fn 2), .string (fs 2), .int .i64 (fi 2), .int .i64 (fk 3), .bool (fb 3), .float .f64 (fn 3), .string (fs 3), .int .i64 (fi 3), .int .i64 (fk 4), .bool (fb 4), .float .f64 (fn 4), .string (fs 4), .int .i64 (fi 4), .int .i64 (fk 5), .bool (fb 5), .float .f64 (fn 5), .string (fs 5), .int .i64 (fi 5), .int .i64 (fk 6), .bool (fb 6), .float .f64 (fn 6), .string (fs 6), .int .i64 (fi 6)], fun w => by kernel_rfl, rfl, by simp [Value.oneCell'], ?_⟩
  intro j hj
  match j, hj with
  | 0, _ => exact ⟨rfl, rfl, rfl, rfl, rfl⟩
  | 1, _ => exact ⟨rfl, rfl, rfl, rfl, rfl⟩
  | 2, _ => exact ⟨rfl, rfl, rfl, rfl, rfl⟩
  | 3, _ => exact ⟨rfl, rfl, rfl, rfl, rfl⟩
  | 4, _ => exact ⟨rfl, rfl, rfl, rfl, rfl⟩
  | 5, _ => exact ⟨rfl, rfl, rfl, rfl, rfl⟩
  | 6, _ => exact ⟨rfl, rfl, rfl, rfl, rfl⟩

theorem size7 : (Tryd.prog.info? 48).map (·.size) = some 35 := by kernel_rfl
theorem store7 (M : Array Value) (hs : M.size = 35) (h1 : M.all (·.oneCell') = true) (w : World) (c : Array Value) (hc : c.size = 35) :
    (storeCells ⟨w.heap.size, 0, none⟩ M.toList 0).run Tryd.prog (w.alloc (.cells c 48)) = .ok () (w.alloc (.cells M 48)) :=
  run_storeCells_new w 48 c M (by rw [size7, hs]) (by rw [hc, hs]) h1
theorem store7b (M : Array Value) (hs : M.size = 35) (h1 : M.all (·.oneCell') = true) (w : World) (o : Obj) (c : Array Value) (hc : c.size = 35) :
    (storeCells ⟨w.heap.size + 1, 0, none⟩ M.toList 0).run Tryd.prog ((w.alloc o).alloc (.cells c 48)) = .ok () ((w.alloc o).alloc (.cells M 48)) := by
  have := store7 M hs h1 (w.alloc o) c hc
  simpa using this

def fk (sk yk rk : Int) : Nat → Int := fun j => if j = 0 then 1 else if j = 1 then 2 else if j = 2 then 3 else if j = 3 then 4 else if j = 4 then sk else if j = 5 then yk else rk
def fb (b sb yb rb : Bool) : Nat → Bool := fun j => if j = 2 then b else if j = 4 then sb else if j = 5 then yb else if j = 6 then rb else false
def fn (n sn yn rn : Nat) : Nat → Nat := fun j => if j = 3 then n else if j = 4 then sn else if j = 5 then yn else if j = 6 then rn else 0
def fs (ss ys rs : ByteArray) : Nat → ByteArray := fun j => if j = 4 then ss else if j = 5 then ys else if j = 6 then rs else ⟨#[]⟩
def fi (si yi ri : Int) : Nat → Int := fun j => if j = 4 then si else if j = 5 then yi else if j = 6 then ri else 0

theorem keepC {W W' : World} {p : Addr} {x : Value} (h : W.cell? p = some x) (hb : Below W.heap.size W W') : W'.cell? p = some x := by
  rw [hb.cell (World.block_lt_of_cell? W p h)]; exact h
theorem keepH {W W' : World} {b : Nat} {o : Obj} (h : W.heap[b]? = some o) (hb : Below W.heap.size W W') : W'.heap[b]? = some o := by
  rw [hb.block b (Array.getElem?_eq_some_iff.1 h).1]; exact h
theorem keepS {V W W' : World} {p0 p1 p2 p3 p4 p5 p6 p7 p8 p9 : Addr} {x0 x1 x2 x3 x4 x5 x6 x7 x8 x9 : Value} {b1 b2 : Nat} {o1 o2 : Obj} (hb : Below W.heap.size W W') (h : W.cell? p0 = some x0 ∧ W.cell? p1 = some x1 ∧ W.cell? p2 = some x2 ∧ W.cell? p3 = some x3 ∧ W.cell? p4 = some x4 ∧ W.cell? p5 = some x5 ∧ W.cell? p6 = some x6 ∧ W.cell? p7 = some x7 ∧ W.cell? p8 = some x8 ∧ W.cell? p9 = some x9 ∧ Below V.heap.size V W ∧ W.heap[b1]? = some o1 ∧ W.heap[b2]? = some o2) : W'.cell? p0 = some x0 ∧ W'.cell? p1 = some x1 ∧ W'.cell? p2 = some x2 ∧ W'.cell? p3 = some x3 ∧ W'.cell? p4 = some x4 ∧ W'.cell? p5 = some x5 ∧ W'.cell? p6 = some x6 ∧ W'.cell? p7 = some x7 ∧ W'.cell? p8 = some x8 ∧ W'.cell? p9 = some x9 ∧ Below V.heap.size V W' ∧ W'.heap[b1]? = some o1 ∧ W'.heap[b2]? = some o2 := by
  obtain ⟨h0, h1, h2, h3, h4, h5, h6, h7, h8, h9, hB, k1, k2⟩ := h
  exact ⟨keepC h0 hb, keepC h1 hb, keepC h2 hb, keepC h3 hb, keepC h4 hb, keepC h5 hb, keepC h6 hb, keepC h7 hb, keepC h8 hb, keepC h9 hb, hB.trans (hb.mono hB.size), keepH k1 hb, keepH k2 hb⟩
theorem tabsS {V W : World} {p0 p1 p2 p3 p4 p5 p6 p7 p8 p9 : Addr} {x0 x1 x2 x3 x4 x5 x6 x7 x8 x9 : Value} {b1 b2 : Nat} {o1 o2 : Obj} (HT : Tabs V) (h : W.cell? p0 = some x0 ∧ W.cell? p1 = some x1 ∧ W.cell? p2 = some x2 ∧ W.cell? p3 = some x3 ∧ W.cell? p4 = some x4 ∧ W.cell? p5 = some x5 ∧ W.cell? p6 = some x6 ∧ W.cell? p7 = some x7 ∧ W.cell? p8 = some x8 ∧ W.cell? p9 = some x9 ∧ Below V.heap.size V W ∧ W.heap[b1]? = some o1 ∧ W.heap[b2]? = some o2) : Tabs W := HT.below h.2.2.2.2.2.2.2.2.2.2.1
theorem lastS {V W : World} {p0 p1 p2 p3 p4 p5 p6 p7 p8 p9 : Addr} {x0 x1 x2 x3 x4 x5 x6 x7 x8 x9 : Value} {b1 b2 : Nat} {o1 o2 : Obj} (h : W.cell? p0 = some x0 ∧ W.cell? p1 = some x1 ∧ W.cell? p2 = some x2 ∧ W.cell? p3 = some x3 ∧ W.cell? p4 = some x4 ∧ W.cell? p5 = some x5 ∧ W.cell? p6 = some x6 ∧ W.cell? p7 = some x7 ∧ W.cell? p8 = some x8 ∧ W.cell? p9 = some x9 ∧ Below V.heap.size V W ∧ W.heap[b1]? = some o1 ∧ W.heap[b2]? = some o2) : Below V.heap.size V W ∧ W.heap[b1]? = some o1 ∧ W.heap[b2]? = some o2 := h.2.2.2.2.2.2.2.2.2.2
theorem keep5 {V W W' : World} {p0 p1 p2 p3 p4 : Addr} {x0 x1 x2 x3 x4 : Value} (hb : Below W.heap.size W W') (h : W.cell? p0 = some x0 ∧ W.cell? p1 = some x1 ∧ W.cell? p2 = some x2 ∧ W.cell? p3 = some x3 ∧ W.cell? p4 = some x4 ∧ Below V.heap.size V W) : W'.cell? p0 = some x0 ∧ W'.cell? p1 = some x1 ∧ W'.cell? p2 = some x2 ∧ W'.cell? p3 = some x3 ∧ W'.cell? p4 = some x4 ∧ Below V.heap.size V W' := by
  obtain ⟨h0, h1, h2, h3, h4, hB⟩ := h
  exact ⟨keepC h0 hb, keepC h1 hb, keepC h2 hb, keepC h3 hb, keepC h4 hb, hB.trans (hb.mono hB.size)⟩
theorem last5 {V W : World} {p0 p1 p2 p3 p4 : Addr} {x0 x1 x2 x3 x4 : Value} (h : W.cell? p0 = some x0 ∧ W.cell? p1 = some x1 ∧ W.cell? p2 = some x2 ∧ W.cell? p3 = some x3 ∧ W.cell? p4 = some x4 ∧ Below V.heap.size V W) : Below V.heap.size V W := h.2.2.2.2.2
theorem cellOf {W : World} {b o : Nat} {M : Array Value} {t : TypeId} {fz : Nat × Nat} {x : Value} (h : W.heap[b]? = some (.cells M t fz)) (hx : M[o]? = some x) : W.cell? ⟨b, o, none⟩ = some x := by
  rw [Lib.cell_of_heap h]; exact hx
theorem nilL : (⟨#[]⟩ : ByteArray).toList = [] := by rw [Lib.toList_data]

set_option maxRecDepth 100000 in
set_option maxHeartbeats 4000000 in
theorem law_makes (b : Bool) (n : Nat) (s : ByteArray) (i : Int) (k' : Int) (b' : Bool) (n' : Nat) (s' : ByteArray) (i' : Int) (hn : n < 18446744073709551616) (hn' : n' < 18446744073709551616) (w : World) (HT : Tabs w) :
    Calls Tryd.prog 5 #[.bool b, .float .f64 n, .string s, .int .i64 i, VV k' b' n' s' i'] w fun e w' => e = .returned (.bool true) ∧ Below w.heap.size w w' := by
  have hU := Fact.mk mkUndefined_c
  have hN := Fact.mk mkNull_c
  have hBo := Fact.mk (mkBool_c b)
  have hNu := Fact.mk (mkNum_c n)
  have hS := Fact.mk (fun w' (h : Below (w.alloc (.cells #[.int .i64 k', .bool b', .float .f64 n', .string s', .int .i64 i'] 42)).heap.size (w.alloc (.cells #[.int .i64 k', .bool b', .float .f64 n', .string s', .int .i64 i'] 42)) w') => mkStr_c s w' (HT.below (below1 h)))
  have hY := Fact.mk (fun w' (h : Below (w.alloc (.cells #[.int .i64 k', .bool b', .float .f64 n', .string s', .int .i64 i'] 42)).heap.size (w.alloc (.cells #[.int .i64 k', .bool b', .float .f64 n', .string s', .int .i64 i'] 42)) w') => mkSym_c i w' (HT.below (below1 h)))
  have hR := Fact.mk (fun w' (h : Below (w.alloc (.cells #[.int .i64 k', .bool b', .float .f64 n', .string s', .int .i64 i'] 42)).heap.size (w.alloc (.cells #[.int .i64 k', .bool b', .float .f64 n', .string s', .int .i64 i'] 42)) w') => mkRef_c i w' (HT.below (below1 h)))
  simp only [mV] at hS hY hR
  have hmk : ∀ j, j < 7 → ∀ W, Calls Tryd.prog 28 #[VV (fk 5 6 7 j) (fb b false false false j) (fn n 0 0 0 j) (fs s ⟨#[]⟩ ⟨#[]⟩ j) (fi 0 i i j)] W fun e W' =>
      e = .returned (VV (fk (mK 5 false 0 s 0) (mK 6 false 0 ⟨#[]⟩ i) (mK 7 false 0 ⟨#[]⟩ i) j) (fb b (mB 5 false 0 s 0) (mB 6 false 0 ⟨#[]⟩ i) (mB 7 false 0 ⟨#[]⟩ i) j) (fn n (mN 5 false 0 s 0) (mN 6 false 0 ⟨#[]⟩ i) (mN 7 false 0 ⟨#[]⟩ i) j) (fs (mS 5 false 0 s 0) (mS 6 false 0 ⟨#[]⟩ i) (mS 7 false 0 ⟨#[]⟩ i) j) (fi (mI 5 false 0 s 0) (mI 6 false 0 ⟨#[]⟩ i) (mI 7 false 0 ⟨#[]⟩ i) j)) ∧ Below W.heap.size W W' := by
    intro j hj W
    match j, hj with
    | 0, _ => exact (rMade_c 1 false 0 ⟨#[]⟩ 0 W (by decide)).mono fun e W' ⟨he, hb⟩ => ⟨by rw [he, if_pos (by simp [gd])]; rfl, hb⟩
    | 1, _ => exact (rMade_c 2 false 0 ⟨#[]⟩ 0 W (by decide)).mono fun e W' ⟨he, hb⟩ => ⟨by rw [he, if_pos (by simp [gd])]; rfl, hb⟩
    | 2, _ => exact (rMade_c 3 b 0 ⟨#[]⟩ 0 W (by decide)).mono fun e W' ⟨he, hb⟩ => ⟨by rw [he, if_pos (by simp [gd])]; rfl, hb⟩
    | 3, _ => exact (rMade_c 4 false n ⟨#[]⟩ 0 W hn).mono fun e W' ⟨he, hb⟩ => ⟨by rw [he, if_pos (by simp [gd])]; rfl, hb⟩
    | 4, _ => exact (rMade_c 5 false 0 s 0 W (by decide)).mono fun e W' ⟨he, hb⟩ => ⟨by rw [he, mV]; rfl, hb⟩
    | 5, _ => exact (rMade_c 6 false 0 ⟨#[]⟩ i W (by decide)).mono fun e W' ⟨he, hb⟩ => ⟨by rw [he, mV]; rfl, hb⟩
    | 6, _ => exact (rMade_c 7 false 0 ⟨#[]⟩ i W (by decide)).mono fun e W' ⟨he, hb⟩ => ⟨by rw [he, mV]; rfl, hb⟩
  have hgn : ∀ j, fn n 0 0 0 j < 18446744073709551616 := by
    intro j; unfold fn; repeat' split
    all_goals omega
  have HTV : Tabs (w.alloc (.cells #[.int .i64 k', .bool b', .float .f64 n', .string s', .int .i64 i'] 42)) := HT.below ((Below.refl _ _).alloc (Nat.le_refl _) _)
  have HB := Fact.mk (Below.refl (w.alloc (.cells #[.int .i64 k', .bool b', .float .f64 n', .string s', .int .i64 i'] 42)).heap.size (w.alloc (.cells #[.int .i64 k', .bool b', .float .f64 n', .string s', .int .i64 i'] 42)))
  generalize mK 5 false 0 s 0 = sk at *; generalize mB 5 false 0 s 0 = sb at *; generalize mN 5 false 0 s 0 = sn at *; generalize mS 5 false 0 s 0 = ss at *; generalize mI 5 false 0 s 0 = si at *
  generalize mK 6 false 0 ⟨#[]⟩ i = yk at *; generalize mB 6 false 0 ⟨#[]⟩ i = yb at *; generalize mN 6 false 0 ⟨#[]⟩ i = yn at *; generalize mS 6 false 0 ⟨#[]⟩ i = ys at *; generalize mI 6 false 0 ⟨#[]⟩ i = yi at *
  generalize mK 7 false 0 ⟨#[]⟩ i = rk at *; generalize mB 7 false 0 ⟨#[]⟩ i = rb at *; generalize mN 7 false 0 ⟨#[]⟩ i = rn at *; generalize mS 7 false 0 ⟨#[]⟩ i = rs at *; generalize mI 7 false 0 ⟨#[]⟩ i = ri at *
  have hmk := Fact.mk hmk
  have hgn := Fact.mk hgn
  obtain ⟨M, hM, hMs, hM1, hMc⟩ := build7 (fk sk yk rk) (fb b sb yb rb) (fn n sn yn rn) (fs ss ys rs) (fi si yi ri)
  obtain ⟨L, hL, hLs, hL1, hLc⟩ := build7 (fk 5 6 7) (fb b false false false) (fn n 0 0 0) (fs s ⟨#[]⟩ ⟨#[]⟩) (fi 0 i i)
  have hst := store7 M hMs hM1
  have hst2 := store7b L hLs hL1
  have hM' := Fact.mk hM
  have hL' := Fact.mk hL
  clear hM hL
  unfold VV at *
  go_enter Tryd.func5, Tryd.ntmps5
  go_wp2_with (first | (go_at_call 20; with_reducible refine (hU.out _).mono ?_; rintro e w1 ⟨rfl, hb⟩; have n0_ := Fact.mk (HB.out.trans (hb.mono HB.out.size)); clear HB; have HB := n0_; clear n0_ hb) | (go_at_call 21; with_reducible refine (hN.out _).mono ?_; rintro e w2 ⟨rfl, hb⟩; have n0_ := Fact.mk (HB.out.trans (hb.mono HB.out.size)); clear HB; have HB := n0_; clear n0_ hb) | (go_at_call 22; with_reducible refine (hBo.out _).mono ?_; rintro e w3 ⟨rfl, hb⟩; have n0_ := Fact.mk (HB.out.trans (hb.mono HB.out.size)); clear HB; have HB := n0_; clear n0_ hb) | (go_at_call 23; with_reducible refine (hNu.out _).mono ?_; rintro e w4 ⟨rfl, hb⟩; have n0_ := Fact.mk (HB.out.trans (hb.mono HB.out.size)); clear HB; have HB := n0_; clear n0_ hb) | (go_at_call 24; with_reducible refine (hS.out _ HB.out).mono ?_; rintro e w5 ⟨rfl, hb⟩; have n0_ := Fact.mk (HB.out.trans (hb.mono HB.out.size)); clear HB; have HB := n0_; clear n0_ hb) | (go_at_call 25; with_reducible refine (hY.out _ HB.out).mono ?_; rintro e w6 ⟨rfl, hb⟩; have n0_ := Fact.mk (HB.out.trans (hb.mono HB.out.size)); clear HB; have HB := n0_; clear n0_ hb) | (go_at_call 26; with_reducible refine (hR.out _ HB.out).mono ?_; rintro e w7 ⟨rfl, hb⟩; have n0_ := Fact.mk (HB.out.trans (hb.mono HB.out.size)); clear HB; have HB := n0_; clear n0_ hb) | (with_reducible refine wpList_build (op := ⟨some 26, _, _, _, _, _⟩) rfl 48 _ rfl _ ?hv1 (.agg M) (hM'.out _) ?_; (case hv1 => kernel_rfl)) | (with_reducible refine wpList_build (op := ⟨some 39, _, _, _, _, _⟩) rfl 48 _ rfl _ ?hv2 (.agg L) (hL'.out _) ?_; (case hv2 => kernel_rfl)))
  have hB0 : Below (w.alloc (.cells #[.int .i64 k', .bool b', .float .f64 n', .string s', .int .i64 i'] 42)).heap.size (w.alloc (.cells #[.int .i64 k', .bool b', .float .f64 n', .string s', .int .i64 i'] 42)) ((w7.alloc (.cells M 48)).alloc (.cells L 48)) := (HB.out.alloc HB.out.size _).alloc (by have := HB.out.size; simp at this ⊢; omega) _
  have hm0 : ((w7.alloc (.cells M 48)).alloc (.cells L 48)).heap[w7.heap.size]? = some (.cells M 48 (0, 0)) := by rw [Lib.alloc_old _ _ _ (by simp)]; exact heap_alloc_new _ _
  have hl0 : ((w7.alloc (.cells M 48)).alloc (.cells L 48)).heap[w7.heap.size + 1]? = some (.cells L 48 (0, 0)) := heap_alloc2_new _ _ _
  generalize w7.heap.size = B1 at *
  clear hst hst2 hM' hL' hU hN hBo hNu hS hY hR HB
  go_loopw [13] (fun v13 wr => ∃ j : Nat, v13 = .int .i64 (j : Nat) ∧ j ≤ 7 ∧ Below (w.alloc (.cells #[.int .i64 k', .bool b', .float .f64 n', .string s', .int .i64 i'] 42)).heap.size (w.alloc (.cells #[.int .i64 k', .bool b', .float .f64 n', .string s', .int .i64 i'] 42)) wr ∧ wr.heap[B1]? = some (.cells M 48 (0, 0)) ∧ wr.heap[B1 + 1]? = some (.cells L 48 (0, 0))) (fun v13 _ => 7 - (intOf v13).toNat)
  case atStart => exact ⟨0, rfl, by omega, hB0, hm0, hl0⟩
  case round =>
    obtain ⟨j, rfl, hj, hbw, hm, hl⟩ := hrel
    by_cases hlt : j < 7
    · have hltz : (j : Int) < 7 := by omega
      have hmj := hMc j hlt
      have hlj := hLc j hlt
      have q1 := Fact.mk (hmk.out j hlt)
      have q2 := hgn.out j
      clear hmk hgn
      generalize fk sk yk rk j = mk at *; generalize fb b sb yb rb j = mb at *; generalize fn n sn yn rn j = mn at *; generalize fs ss ys rs j = ms at *; generalize fi si yi ri j = mi at *
      generalize fk 5 6 7 j = gk at *; generalize fb b false false false j = gb at *; generalize fn n 0 0 0 j = gn at *; generalize fs s ⟨#[]⟩ ⟨#[]⟩ j = gs at *; generalize fi 0 i i j = gi at *
      have q3 := Fact.mk (eqSelf_c mk mb mn ms mi)
      have q4 := Fact.mk (check_c gk gb gn gs gi)
      have q5 := Fact.mk (rCheck_c gk gb gn gs gi q2)
      generalize (if gd gk gb gn gs gi = true then (0 : Int) else 5) = E at *
      clear hMc hLc
      unfold VV at *
      rw [Nat.mul_comm 5 j] at hmj hlj
      have hS0 : wr.drew.cell? ⟨B1, j * 5, none⟩ = some (.int .i64 mk) ∧ wr.drew.cell? ⟨B1, j * 5 + 1, none⟩ = some (.bool mb) ∧ wr.drew.cell? ⟨B1, j * 5 + 2, none⟩ = some (.float .f64 mn) ∧ wr.drew.cell? ⟨B1, j * 5 + 3, none⟩ = some (.string ms) ∧ wr.drew.cell? ⟨B1, j * 5 + 4, none⟩ = some (.int .i64 mi) ∧ wr.drew.cell? ⟨B1 + 1, j * 5, none⟩ = some (.int .i64 gk) ∧ wr.drew.cell? ⟨B1 + 1, j * 5 + 1, none⟩ = some (.bool gb) ∧ wr.drew.cell? ⟨B1 + 1, j * 5 + 2, none⟩ = some (.float .f64 gn) ∧ wr.drew.cell? ⟨B1 + 1, j * 5 + 3, none⟩ = some (.string gs) ∧ wr.drew.cell? ⟨B1 + 1, j * 5 + 4, none⟩ = some (.int .i64 gi) ∧ Below (w.alloc (.cells #[.int .i64 k', .bool b', .float .f64 n', .string s', .int .i64 i'] 42)).heap.size (w.alloc (.cells #[.int .i64 k', .bool b', .float .f64 n', .string s', .int .i64 i'] 42)) wr.drew ∧ wr.drew.heap[B1]? = some (.cells M 48 (0, 0)) ∧ wr.drew.heap[B1 + 1]? = some (.cells L 48 (0, 0)) := ⟨cellOf hm hmj.1, cellOf hm hmj.2.1, cellOf hm hmj.2.2.1, cellOf hm hmj.2.2.2.1, cellOf hm hmj.2.2.2.2, cellOf hl hlj.1, cellOf hl hlj.2.1, cellOf hl hlj.2.2.1, cellOf hl hlj.2.2.2.1, cellOf hl hlj.2.2.2.2, hbw.drew, hm, hl⟩
      go_wp2
      go_region_held3 (fun W => W.cell? ⟨B1, j * 5, none⟩ = some (.int .i64 mk) ∧ W.cell? ⟨B1, j * 5 + 1, none⟩ = some (.bool mb) ∧ W.cell? ⟨B1, j * 5 + 2, none⟩ = some (.float .f64 mn) ∧ W.cell? ⟨B1, j * 5 + 3, none⟩ = some (.string ms) ∧ W.cell? ⟨B1, j * 5 + 4, none⟩ = some (.int .i64 mi) ∧ W.cell? ⟨B1 + 1, j * 5, none⟩ = some (.int .i64 gk) ∧ W.cell? ⟨B1 + 1, j * 5 + 1, none⟩ = some (.bool gb) ∧ W.cell? ⟨B1 + 1, j * 5 + 2, none⟩ = some (.float .f64 gn) ∧ W.cell? ⟨B1 + 1, j * 5 + 3, none⟩ = some (.string gs) ∧ W.cell? ⟨B1 + 1, j * 5 + 4, none⟩ = some (.int .i64 gi) ∧ Below (w.alloc (.cells #[.int .i64 k', .bool b', .float .f64 n', .string s', .int .i64 i'] 42)).heap.size (w.alloc (.cells #[.int .i64 k', .bool b', .float .f64 n', .string s', .int .i64 i'] 42)) W ∧ W.heap[B1]? = some (.cells M 48 (0, 0)) ∧ W.heap[B1 + 1]? = some (.cells L 48 (0, 0))) (first | exact hS0 | exact keepS (by assumption) (by assumption)) (first | (go_at_call 28; with_reducible refine (q1.out _).mono ?_; rintro e W1 ⟨rfl, hb⟩) | (go_at_call 27; with_reducible refine (q3.out _).mono ?_; rintro e W2 ⟨rfl, hb⟩) | (go_at_call 29; with_reducible refine (q4.out _ (tabsS HTV (by assumption))).mono ?_; rintro e W3 ⟨rfl, hb⟩) | (go_at_call 30; with_reducible refine (q5.out _).mono ?_; rintro e W4 ⟨rfl, hb⟩))
      all_goals
        go_wp2
        go_roundw
        case rel => exact ⟨j + 1, by go_num, by omega, (lastS (by assumption)).1, (lastS (by assumption)).2.1, (lastS (by assumption)).2.2⟩
        case measure => simp [intOf]; omega
    · have hgez : ¬ (j : Int) < 7 := by omega
      have q4 := Fact.mk (check_c k' b' n' s' i')
      have q5 := Fact.mk (rCheck_c k' b' n' s' i' hn')
      generalize (if gd k' b' n' s' i' = true then (0 : Int) else 5) = E at *
      clear hMc hLc hmk hgn
      unfold VV at *
      obtain ⟨e0, e1, e2, e3, e4⟩ := cells5' hbw
      have hS5 : wr.drew.cell? ⟨w.heap.size, 0, none⟩ = some (.int .i64 k') ∧ wr.drew.cell? ⟨w.heap.size, 1, none⟩ = some (.bool b') ∧ wr.drew.cell? ⟨w.heap.size, 2, none⟩ = some (.float .f64 n') ∧ wr.drew.cell? ⟨w.heap.size, 3, none⟩ = some (.string s') ∧ wr.drew.cell? ⟨w.heap.size, 4, none⟩ = some (.int .i64 i') ∧ Below (w.alloc (.cells #[.int .i64 k', .bool b', .float .f64 n', .string s', .int .i64 i'] 42)).heap.size (w.alloc (.cells #[.int .i64 k', .bool b', .float .f64 n', .string s', .int .i64 i'] 42)) wr.drew := ⟨e0, e1, e2, e3, e4, hbw.drew⟩
      clear e0 e1 e2 e3 e4
      go_wp2
      go_region_held3 (fun W => W.cell? ⟨w.heap.size, 0, none⟩ = some (.int .i64 k') ∧ W.cell? ⟨w.heap.size, 1, none⟩ = some (.bool b') ∧ W.cell? ⟨w.heap.size, 2, none⟩ = some (.float .f64 n') ∧ W.cell? ⟨w.heap.size, 3, none⟩ = some (.string s') ∧ W.cell? ⟨w.heap.size, 4, none⟩ = some (.int .i64 i') ∧ Below (w.alloc (.cells #[.int .i64 k', .bool b', .float .f64 n', .string s', .int .i64 i'] 42)).heap.size (w.alloc (.cells #[.int .i64 k', .bool b', .float .f64 n', .string s', .int .i64 i'] 42)) W) (first | exact hS5 | exact keep5 (by assumption) (by assumption)) (first | (go_at_call 29; with_reducible refine (q4.out _ (HTV.below (last5 (by assumption)))).mono ?_; rintro e W3 ⟨rfl, hb⟩) | (go_at_call 30; with_reducible refine (q5.out _).mono ?_; rintro e W4 ⟨rfl, hb⟩))
      all_goals
        go_wp2
        go_ret
        exact ⟨by first | rfl | (simp; done), below1 (last5 (by assumption))⟩
end Go.Proofs.YtiegeggafhmehaaDoor
