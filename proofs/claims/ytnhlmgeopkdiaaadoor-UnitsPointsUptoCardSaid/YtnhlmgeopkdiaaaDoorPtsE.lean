/- UnitsPoints' loop body: one row of Points against the reference's. -/
import Derived.Test.YtnhlmgeopkdiaaaDoorPtsD
namespace Go.Proofs.YtnhlmgeopkdiaaaDoor
open Go.RowKit Go.Proofs.YtnhlmgeopkdiaaaDoorW.PrintWords Go.Proofs.YtnhlmgeopkdiaaaDoor.U Go.Proofs.YtnhlmgeopkdiaaaDoor.PR
attribute [local go_sem] Oper.semAt_some run_store_fn eq_fn28

def cL : Code → Code | .seq a _ => a | c => c
def cR : Code → Code | .seq _ b => b | c => c
def cB : Code → Code | .block _ c => c | c => c
def cO : Code → Code | .loop c => c | c => c
def cY : Code → Code | .rangeFunc _ _ _ c => c | c => c
/-- The body of 'for turn'. -/
noncomputable def LB : Code := cO (cB (cR (cL (cR (cR (cR (cR (cR (cR (Tryd.f3.body.getD .skip))))))))))
/-- The body of 'for at, c := range all'. -/
noncomputable def OB : Code := cY (cB (cR (cL (cR (cB (cL (cR LB)))))))

theorem Ex.then_below {x : Nat} {w w' w'' : World} (h : Ex x w w') (hb : Below w.heap.size w' w'') : Ex x w w'' :=
  ⟨hb.os.trans h.os, hb.tape.trans h.tape, hb.output.trans h.output, Nat.le_trans h.size hb.size, fun k hk hx => (hb.block k hk).trans (h.same k hk hx)⟩
theorem Ex.frozen {x : Nat} {w w' : World} (h : Ex x w w') {b : Nat} {v : Value} (hc : w.cell? ⟨b, 0, none⟩ = some v) (hx : b ≠ x) : w'.frozen? ⟨b, 0, none⟩ = w.frozen? ⟨b, 0, none⟩ :=
  World.frozen?_of_block (w := w) (a := ⟨b, 0, none⟩) (h.same b (pc_lt hc) hx)
/-- What is new does not count. -/
theorem Ex.new {x m : Nat} {w w' w'' : World} (h : Below w.heap.size w w') (h2 : Ex m w' w'') (hm : w.heap.size ≤ m) : Ex x w w'' :=
  ⟨h2.os.trans h.os, h2.tape.trans h.tape, h2.output.trans h.output, Nat.le_trans h.size h2.size, fun k hk _ => (h2.same k (Nat.lt_of_lt_of_le hk h.size) (by omega)).trans (h.block k hk)⟩

theorem IterC.inRound {α : Type} {F : Fence} {n : Nat} {P : Program} {g : Nat} {lb : Array Value} {encs : α → Array Value} {full : List α} {w0 w : World} {l : Nat} (l₀ : Nat) (h : IterC F n P g lb encs full w0 w l) : IterC (F.inRound l₀) n P g lb encs full w0 w l := h

theorem rangeS {α : Type} {F : Fence} {n : Nat} {P : Program} {g : Operand} {ps : Array Tmp} {body : Code} {Q : Exit → Act → World → Prop} {a : Act} {w : World}
    (l : Nat) (mark : List Deferred) (X : World → Prop)
    (hent : ∀ fn, ∃ (dl : Nat) (W1 : World), (Instr.enterLoop fn a.tmps ps .skip body F.round).run P w = .ok (l, mark) W1 ∧
      W1.heap[l]? = some (.loop { state := .ready, pending := none, fn := fn, tmps := a.tmps, params := ps, assign := .skip, body := body, defers := dl }) ∧ W1.heap.size = l + 1 ∧ Below w.heap.size w W1 ∧ X W1)
    (hlw : w.heap.size ≤ l) (hXb : ∀ W W', X W → Below (l + 1) W W' → X W') (hXk : ∀ W W', X W → KpC w.heap.size W W' → X W') (hXl : ∀ W o, X W → X (W.putObj l o))
    (h1 : 1 ≤ n) {gf : Nat} {lb : Array Value} (hg : a.eval g = .func (.func gf) #[] lb) (hFg : F.fn gf) (eg : ∀ args w, (callFunc gf args).run P w = .ok (.enter gf args) w)
    {encs : α → Array Value} {full : List α} {w0 : World} (hseq : IterC F (n - 1) P gf lb encs full w0 w l) (hps : ∀ x, (encs x).size = ps.size)
    (I : List α → World → Prop) (Ix : Code → List α → World → Prop) (hI : Abd w.heap.size I) (hIx : ∀ c, Abd w.heap.size (Ix c)) (hIw : ∀ pre W, I pre W → Below w0.heap.size w0 W) (h0 : I [] w)
    (hbody : ∀ (pre : List α) (x : α) (W : World), I pre W → pre ++ [x] <+: full → l < W.heap.size → (∃ r, W.heap[l]? = some (.loop r)) → body.wpIn (F.inRound l) (n - 1 - 1) P (ownPostC w.heap.size I Ix (pre ++ [x]) W) { tmps := (ps.zip (encs x)).foldl (fun t (p, v) => t.setIfInBounds p v) a.tmps, defers := [] } W)
    (hdone : ∀ (W : World), X W → I full W → Q .normal { a with defers := mark ++ a.defers } W)
    (hstop : ∀ (c : Code) (pre : List α) (W : World), X W → pre <+: full → Ix c pre W → c.wpIn F n P Q { a with defers := mark ++ a.defers } W) :
    (Code.rangeFunc g ps .skip body).wpIn F n P Q a w :=
  rangeC l mark X hent hlw hXb hXk hXl h1 hg hFg eg hseq hps I Ix hI hIx hIw h0 (fun x => { tmps := (ps.zip (encs x)).foldl (fun t (p, v) => t.setIfInBounds p v) a.tmps, defers := [] }) (fun _ _ _ hK => wpIn_skip hK) hbody hdone hstop

set_option maxRecDepth 100000 in
set_option maxHeartbeats 4000000 in
theorem obody_c (t : Nat → Value) (b4 b5 b6 b7 b10 b11 nb l n : Nat) (full pre : List (Nat × Nat)) (x : Nat × Nat) (W : World) (cap : Nat) (ok : Nat → Prop) (base : Nat) (stop inner turn : Int) (ad : Addr)
    (hp : pre ++ [x] <+: full) (hx2 : x.2 ≤ 1114111) (hlen : full.length < 4611686018427387904)
    (c4 : W.cell? ⟨b4, 0, none⟩ = some (.int .i64 stop)) (c5 : W.cell? ⟨b5, 0, none⟩ = some (.int .i64 inner)) (c7 : W.cell? ⟨b7, 0, none⟩ = some (.slice (some ad) full.length cap))
    (c11 : W.cell? ⟨b11, 0, none⟩ = some (.int .i64 turn)) (c12 : W.cell? ⟨nb, 0, none⟩ = some (.int .i64 (pre.length : Nat))) (f12 : W.frozen? ⟨nb, 0, none⟩ = false)
    (hn4 : b4 ≠ nb) (hn11 : b11 ≠ nb) (hturn : turn = 0 ∨ turn = 1) (w0 : World) (HT : Tabs w0) (hw0 : Fact (Below w0.heap.size w0 W)) (hnw : w0.heap.size ≤ nb) (s : ByteArray) (hs : s.size ≤ 140737488351232) (sb : Nat) (hsb : sb ≠ nb) (cs : W.cell? ⟨sb, 0, none⟩ = some (.string s)) (hfull : Fact (full = ptsAll s)) (c10 : W.cell? ⟨b10, 0, none⟩ = some (.func (.func 11) #[] #[.pointer (some ⟨sb, 0, none⟩)])) (hn10 : b10 ≠ nb) (r : Loop) (hl : Fact (W.heap[l]? = some (.loop r))) (hn1 : 1 ≤ n) (hn7 : b7 ≠ nb) (hR : Kd.R k31 31 W base ok (.slice (some ad) full.length cap) (full.map rowOf)) :
    OB.wpIn (Fence.wide.inRound l) n Tryd.prog (fun e _ W' => Ex nb W W' ∧ W'.cell? ⟨nb, 0, none⟩ = some (.int .i64 ((pre.length : Int) + 1)) ∧ W'.frozen? ⟨nb, 0, none⟩ = false ∧
      ((e = .normal) ∨ (e = .exit 2 ∧ turn = 0 ∧ wrap64 (stop + 1) = (pre.length : Int) + 1)))
      { tmps := #[t 0, t 1, t 2, t 3, .pointer (some ⟨b4, 0, none⟩), .pointer (some ⟨b5, 0, none⟩), .pointer (some ⟨b6, 0, none⟩), .pointer (some ⟨b7, 0, none⟩), t 8, t 9, .pointer (some ⟨b10, 0, none⟩), .pointer (some ⟨b11, 0, none⟩), .pointer (some ⟨nb, 0, none⟩), .int .i64 (x.1 : Nat), .int .i32 (x.2 : Nat), t 15, t 16, t 17, t 18, t 19, t 20, t 21, t 22, t 23, t 24, t 25, t 26, t 27, t 28, t 29, t 30, t 31, t 32, t 33, t 34, t 35, t 36, t 37, t 38, t 39, t 40, t 41, t 42, t 43, t 44, t 45, t 46, t 47, t 48, t 49, t 50, t 51, t 52, t 53, t 54, t 55, t 56, t 57, t 58, t 59, t 60, t 61, t 62, t 63, t 64, t 65, t 66, t 67, t 68, t 69, t 70, t 71, t 72, t 73, t 74, t 75, t 76, t 77, t 78, t 79, t 80, t 81, t 82, t 83, t 84, t 85, t 86, t 87, t 88, t 89, t 90, t 91, t 92, t 93, t 94, t 95], defers := [] } W := by
  have hlt : pre.length < full.length := by have := hp.length_le; simp at this; omega
  have hx : full[pre.length]? = some x := by obtain ⟨r, rfl⟩ := hp; simp
  have hrd : rd_T31 (full.map rowOf) (pre.length : Int) = rowOf x := by unfold rd_T31; simp [List.getD_eq_getElem?_getD, hx]
  obtain ⟨ad', e', h1, h2⟩ := at_T31 (Kd.R_reads' hR).2.2 (pre.length : Int) (by omega) (by simpa using hlt)
  obtain rfl := Option.some.inj e'
  rw [hrd] at h1 h2
  simp only [Int.toNat_natCast, rowOf] at h1 h2
  have hle : ¬ full.length ≤ pre.length := by omega
  clear hrd hR e' hp hx
  simp only [OB, LB, cL, cR, cB, cO, cY, Tryd.f3, Option.getD_some]
  have hS1 := Fact.mk (Ex.setCell nb W (.int .i64 ((pre.length : Int) + 1)))
  have hS2 : Fact ((W.setCell ⟨nb, 0, none⟩ (.int .i64 ((pre.length : Int) + 1))).cell? ⟨nb, 0, none⟩ = some (.int .i64 ((pre.length : Int) + 1))) := ⟨World.cell?_setCell_same _ _ _ c12⟩
  by_cases hin : (pre.length : Int) = inner
  · subst hin
    have ca := cell_alloc_of W ⟨b10, 0, none⟩ (.cells #[.int .i64 0] 3) _ c10
    gi_wp2
    have hlt2 := (Array.getElem?_eq_some_iff.1 hl.out).1
    have hla := Fact.mk ((Below.heap_alloc W (.cells #[.int .i64 0] 3) l hlt2).trans hl.out)
    have bm := Boxed.new W 3 (.int .i64 0)
    have hb1 := Fact.mk ((Below.refl W.heap.size W).alloc (Nat.le_refl _) (.cells #[.int .i64 0] 3))
    have csa := cell_alloc_of W ⟨sb, 0, none⟩ (.cells #[.int .i64 0] 3) _ cs
    have hbw := hw0.out.size
    have hsa : (W.alloc (.cells #[.int .i64 0] 3)).heap.size = W.heap.size + 1 := by simp
    refine rangeS (l := W.heap.size + 1) (mark := []) (X := fun _ => True) ?hent (by simp) (fun _ _ _ _ => trivial) (fun _ _ _ _ => trivial) (fun _ _ _ => trivial) hn1 (gf := 11) (lb := #[.pointer (some ⟨sb, 0, none⟩)]) rfl trivial (enters_of Tryd.func11 (by kernel_rfl) rfl)
      ((points_iter s hs sb w0 _ HT csa (W.heap.size + 1) (n - 1)).inRound l) (fun _ => rfl)
      (fun pre' W' => Ex W.heap.size (W.alloc (.cells #[.int .i64 0] 3)) W' ∧ W'.cell? ⟨W.heap.size, 0, none⟩ = some (.int .i64 (pre'.length : Nat)) ∧ W'.frozen? ⟨W.heap.size, 0, none⟩ = false)
      (fun _ _ _ => False) ?hI (fun _ _ _ _ h _ => h) ?hIw ⟨Ex.refl _ _, bm.cell, bm.frozen⟩ ?hbody ?hdone ?hstop
    case hent =>
      intro fn
      have hh := run_enterLoop_inner (P := Tryd.prog) hla.out fn
      have hn := World.alloc_heap_new (W.alloc (.cells #[.int .i64 0] 3))
      rw [hsa] at hh hn
      exact ⟨r.defers, _, hh _ _ _ _, hn _, by simp, (Below.refl _ _).alloc (Nat.le_refl _) _, trivial⟩
    case hI =>
      rintro pre' A B ⟨e1, e2, e3⟩ hb
      exact ⟨e1.then_below hb, (hb.cell (p := ⟨W.heap.size, 0, none⟩) (by simp)).trans e2, (hb.frozen (p := ⟨W.heap.size, 0, none⟩) (by simp)).trans e3⟩
    case hIw =>
      rintro pre' A ⟨e1, _, _⟩
      exact hw0.out.trans ((hb1.out.mono hbw).trans (e1.below hbw (by simp; omega)))
    case hbody =>
      rintro pre' y W' ⟨e1, e2, e3⟩ hpre hlt3 hr3
      have hle2 : pre'.length < full.length := by rw [hfull.out]; have := hpre.length_le; simp at this; omega
      have k1 := Fact.mk (Ex.setCell W.heap.size W' (.int .i64 ((pre'.length : Int) + 1)))
      have k2 := Fact.mk ((e1.trans k1.out))
      clear hb1 bm
      unfold encP
      gi_wp2
      refine ⟨k1.out.kpc (by simp), k2.out, ?_, ?_⟩
      · rw [World.cell?_setCell_same _ _ _ e2]; simp
      · rw [World.frozen?_setCell]; exact e3
    case hdone =>
      rintro W2 _ ⟨e1, e2, e3⟩
      have ex := Ex.new (x := nb) hb1.out e1 (Nat.le_refl _)
      have g7 := ex.cell c7 hn7
      rw [← hfull.out] at e2
      have g12 : W2.cell? ⟨nb, 0, none⟩ = some (.int .i64 (pre.length : Nat)) :=
        (World.cell?_of_block (w := W) (a := ⟨nb, 0, none⟩) ((e1.same nb (by have := pc_lt c12; simp; omega) (by have := pc_lt c12; omega)).trans (hb1.out.block nb (pc_lt c12)))).trans c12
      have z12 : W2.frozen? ⟨nb, 0, none⟩ = false :=
        (World.frozen?_of_block (w := W) (a := ⟨nb, 0, none⟩) ((e1.same nb (by have := pc_lt c12; simp; omega) (by have := pc_lt c12; omega)).trans (hb1.out.block nb (pc_lt c12)))).trans f12
      have x1 := Ex.setCell nb W2 (.int .i64 ((pre.length : Int) + 1))
      have x2 := Fact.mk (ex.trans x1)
      have g11 := x2.out.cell c11 hn11
      have g4 := x2.out.cell c4 hn4
      clear hb1 bm hS1 hS2 x1 ex
      gi_wp2
      all_goals first | exact x2.out | (refine ⟨x2.out, ?_⟩; first | assumption | (symm; assumption) | simp_all)
    case hstop => exact fun _ _ _ _ _ h => h.elim
  · have e11 := (hS1.out.cell c11 hn11)
    have e4 := (hS1.out.cell c4 hn4)
    gi_wp2
    all_goals first | exact hS1.out | (refine ⟨hS1.out, ?_⟩; first | assumption | (symm; assumption) | simp_all)
end Go.Proofs.YtnhlmgeopkdiaaaDoor
