/- The law UnitsPoints, walked. -/
import Derived.Test.YtnhlmgeopkdiaaaDoorPtsE
namespace Go.Proofs.YtnhlmgeopkdiaaaDoor
open Go.RowKit Go.Proofs.YtnhlmgeopkdiaaaDoorW.PrintWords Go.Proofs.YtnhlmgeopkdiaaaDoor.U Go.Proofs.YtnhlmgeopkdiaaaDoor.PR
attribute [local go_sem] Oper.semAt_some run_store_fn eq_fn28

/-- Marks of loops that are over, each with its block. -/
def Marks (B : Nat) : List Deferred → World → Prop
  | [], _ => True
  | d :: ds, W => (∃ D, d = { target := .collected D, args := #[] } ∧ B ≤ D ∧ W.heap[D]? = some (.deferred (some [])) ∧ ∀ d' ∈ ds, d'.target ≠ .collected D) ∧ Marks B ds W

theorem Marks.lt {B : Nat} {ds : List Deferred} {W : World} (h : Marks B ds W) : ∀ d ∈ ds, ∃ D, d.target = .collected D ∧ D < W.heap.size := by
  induction ds with
  | nil => intro d hd; simp at hd
  | cons a t ih =>
    intro d hd
    obtain ⟨⟨D, e, _, h2, _⟩, h3⟩ := h
    rcases List.mem_cons.1 hd with rfl | hd
    · exact ⟨D, by rw [e], (Array.getElem?_eq_some_iff.1 h2).1⟩
    · exact ih h3 d hd
theorem Marks.obj {B : Nat} {ds : List Deferred} {W : World} (h : Marks B ds W) : ∀ d ∈ ds, ∃ D, d.target = .collected D ∧ W.heap[D]? = some (.deferred (some [])) := by
  induction ds with
  | nil => intro d hd; simp at hd
  | cons a t ih =>
    intro d hd
    obtain ⟨⟨D, e, _, h2, _⟩, h3⟩ := h
    rcases List.mem_cons.1 hd with rfl | hd
    · exact ⟨D, by rw [e], h2⟩
    · exact ih h3 d hd
theorem Marks.keep {B : Nat} {ds : List Deferred} {W W' : World} (h : Marks B ds W) (hk : ∀ k, (∃ d ∈ ds, d.target = .collected k) → W'.heap[k]? = W.heap[k]?) : Marks B ds W' := by
  induction ds with
  | nil => trivial
  | cons a t ih =>
    obtain ⟨⟨D, e, h1, h2, h4⟩, h3⟩ := h
    exact ⟨⟨D, e, h1, (hk D ⟨a, by simp, by rw [e]⟩).trans h2, h4⟩, ih h3 (fun k ⟨d, hd, he⟩ => hk k ⟨d, by simp [hd], he⟩)⟩
theorem Marks.below {B : Nat} {ds : List Deferred} {W W' : World} (h : Marks B ds W) (hb : Below W.heap.size W W') : Marks B ds W' :=
  h.keep (fun k ⟨d, hd, he⟩ => by
    obtain ⟨D, e, hl⟩ := h.lt d hd
    rw [he] at e
    injection e with e
    subst e
    exact hb.block k hl)

/-- A frame whose marks are all of loops that are over leaves. -/
theorem leaves_marks {F : Fence} {n : Nat} {P : Program} {fn : Func} {tmps : Array Value} {R : Ending → World → Prop} {B : Nat} : ∀ (ds : List Deferred) (W : World), Marks B ds W →
    (∀ W', Below B W W' → (∀ a v, W.cell? a = some v → W'.cell? a = some v) → LeavesIn F n P fn tmps R [] .returning W') → LeavesInM F n P fn tmps R ds .returning W
  | [], W, _, h => h W (Below.refl _ _) (fun _ _ h => h)
  | d :: ds, W, ⟨⟨D, e, h1, h2, h4⟩, h3⟩, h => by
    have hlt := (Array.getElem?_eq_some_iff.1 h2).1
    refine ⟨by simp, .inl ⟨D, _, by rw [e], run_takeDeferred h2, ?_⟩⟩
    refine leaves_marks ds _ (h3.keep (fun k ⟨d, hd, he⟩ => World.putObj_heap_other (fun ek => h4 d hd (by rw [he, ek])))) ?_
    intro W' hb hc
    refine h W' ((below_putObj W D _ (Nat.le_of_lt hlt)).mono h1 |>.trans hb) (fun a v hv => hc a v ?_)
    exact cell_kept hv (grownBy_putObj' _ D (.deferred none)) (fun r e => by cases e; exact ⟨_, h2, rfl⟩)

/-- The temporaries at the head of 'for turn'. -/
def LPa (b4 b5 b6 b7 b10 b11 : Nat) (t : Nat → Value) : Array Value := #[t 0, t 1, t 2, t 3, .pointer (some ⟨b4, 0, none⟩), .pointer (some ⟨b5, 0, none⟩), .pointer (some ⟨b6, 0, none⟩), .pointer (some ⟨b7, 0, none⟩), t 8, t 9, .pointer (some ⟨b10, 0, none⟩), .pointer (some ⟨b11, 0, none⟩), t 12, t 13, t 14, t 15, t 16, t 17, t 18, t 19, t 20, t 21, t 22, t 23, t 24, t 25, t 26, t 27, t 28, t 29, t 30, t 31, t 32, t 33, t 34, t 35, t 36, t 37, t 38, t 39, t 40, t 41, t 42, t 43, t 44, t 45, t 46, t 47, t 48, t 49, t 50, t 51, t 52, t 53, t 54, t 55, t 56, t 57, t 58, t 59, t 60, t 61, t 62, t 63, t 64, t 65, t 66, t 67, t 68, t 69, t 70, t 71, t 72, t 73, t 74, t 75, t 76, t 77, t 78, t 79, t 80, t 81, t 82, t 83, t 84, t 85, t 86, t 87, t 88, t 89, t 90, t 91, t 92, t 93, t 94, t 95]

/-- What the loop keeps. -/
structure Lp (w : World) (b4 b5 b6 b7 b10 sb B1 N : Nat) (s : ByteArray) (stop inner : Int) (v : Value) (W : World) : Prop where
  c4 : Boxed W b4 3 (.int .i64 stop)
  c5 : Boxed W b5 3 (.int .i64 inner)
  c6 : Boxed W b6 4 (.bool false)
  c7 : Boxed W b7 22 v
  c10 : Boxed W b10 28 (.func (.func 11) #[] #[.pointer (some ⟨sb, 0, none⟩)])
  cs : Boxed W sb 9 (.string s)
  hR : Kd.R k31 31 W B1 (fun k => k < N) v ((ptsAll s).map rowOf)
  hN : N ≤ W.heap.size
  hb : Below w.heap.size w W
theorem Lp.below {w : World} {b4 b5 b6 b7 b10 sb B1 N : Nat} {s : ByteArray} {stop inner : Int} {v : Value} {W W' : World} (h : Lp w b4 b5 b6 b7 b10 sb B1 N s stop inner v W) (hb : Below W.heap.size W W') : Lp w b4 b5 b6 b7 b10 sb B1 N s stop inner v W' :=
  ⟨bx_below h.c4 hb, bx_below h.c5 hb, bx_below h.c6 hb, bx_below h.c7 hb, bx_below h.c10 hb, bx_below h.cs hb, Kd.R_step h.hR (fun k _ hl => hb.block k hl), Nat.le_trans h.hN hb.size, h.hb.trans (hb.mono h.hb.size)⟩
theorem Ex.belowAll {x : Nat} {w w1 w' : World} (h : Below w.heap.size w w1) (e : Ex x w1 w') (hx : w.heap.size ≤ x) : Below w.heap.size w w' :=
  h.trans (e.below hx h.size)

theorem pts_length : ∀ (l : List (Nat × Nat)) (k : Nat), (pts k l).length = l.length
  | [], _ => rfl
  | x :: t, k => by simp [pts, pts_length t]

theorem pts_mem : ∀ (l : List (Nat × Nat)) (k : Nat) (x : Nat × Nat), x ∈ pts k l → ∃ y ∈ l, y.2 = x.2
  | [], _, x, h => by simp [pts] at h
  | z :: t, k, x, h => by
    simp only [pts, List.mem_cons] at h
    rcases h with rfl | h
    · exact ⟨z, by simp, rfl⟩
    · obtain ⟨y, hy, e⟩ := pts_mem t _ x h
      exact ⟨y, by simp [hy], e⟩
theorem ptsAll_rune (s : ByteArray) (x : Nat × Nat) (h : x ∈ ptsAll s) : x.2 ≤ 1114111 := by
  unfold ptsAll at h
  split at h
  · obtain ⟨y, hy, e⟩ := pts_mem _ _ _ h
    rw [← e]; exact Pt.scan_rune s _ _ _ y hy
  · simp at h

/-- Behind a turn: a new turn's box. -/
theorem fin_c (w : World) (b4 b5 b6 b7 b10 sb B1 N : Nat) (s : ByteArray) (stop inner : Int) (v : Value) (ds : List Deferred) (W W' : World)
    (hL : Lp w b4 b5 b6 b7 b10 sb B1 N s stop inner v W) (hm : Marks w.heap.size ds W) (e1 : Ex W.heap.size (W.alloc (.cells #[.int .i64 0] 3)) W') (hX : W'.heap[W.heap.size + 1]? = some (.deferred (some []))) (Q : Exit → Act → World → Prop)
    (hQ : ∀ (a : Act) (b11' : Nat) (d : Deferred) (W' : World), a.tmps = LPa b4 b5 b6 b7 b10 b11' (fun k => a.tmps.getD k undef) → a.defers = d :: ds → Lp w b4 b5 b6 b7 b10 sb B1 N s stop inner v W' →
      Boxed W' b11' 3 (.int .i64 ((d :: ds).length : Nat)) → Marks w.heap.size (d :: ds) W' → Q .normal a W')
    (a : Act) (h1 : a.tmps = LPa b4 b5 b6 b7 b10 W'.heap.size (fun k => a.tmps.getD k undef)) (h2 : a.defers = { target := .collected (W.heap.size + 1), args := #[] } :: ds) :
    Q .normal a (W'.alloc (.cells #[.int .i64 ((ds.length : Int) + 1)] 3)) := by
  have hb1 : Below W.heap.size W (W.alloc (.cells #[.int .i64 0] 3)) := (Below.refl W.heap.size W).alloc (Nat.le_refl _) _
  have hb2 : Below W.heap.size W W' := hb1.trans (e1.below (Nat.le_refl _) (by simp))
  have hb3 : Below W.heap.size W (W'.alloc (.cells #[.int .i64 ((ds.length : Int) + 1)] 3)) := hb2.alloc hb2.size _
  have hlt := (Array.getElem?_eq_some_iff.1 hX).1
  refine hQ a _ _ _ h1 h2 (hL.below hb3) ?_ ⟨⟨_, rfl, ?_, ?_, ?_⟩, hm.below hb3⟩
  · have := Boxed.new W' 3 (.int .i64 ((ds.length : Int) + 1))
    simpa using this
  · have := hL.hb.size; omega
  · exact (Below.heap_alloc _ _ _ hlt).trans hX
  · intro d' hd' he
    obtain ⟨D, e, hl⟩ := hm.lt d' hd'
    rw [he] at e
    injection e with e
    omega

set_option maxRecDepth 100000 in
set_option maxHeartbeats 4000000 in
theorem round_c (w : World) (b4 b5 b6 b7 b10 b11 sb B1 N : Nat) (s : ByteArray) (hs : s.size ≤ 1099511627776) (stop inner : Int) (v : Value) (HT : Tabs w) (t : Nat → Value) (ds : List Deferred) (W : World)
    (hL : Lp w b4 b5 b6 b7 b10 sb B1 N s stop inner v W) (h11 : Boxed W b11 3 (.int .i64 (ds.length : Nat))) (hm : Marks w.heap.size ds W) (hd : ds.length < 2) (Q : Exit → Act → World → Prop)
    (hQ : ∀ (a : Act) (b11' : Nat) (d : Deferred) (W' : World), a.tmps = LPa b4 b5 b6 b7 b10 b11' (fun k => a.tmps.getD k undef) → a.defers = d :: ds → Lp w b4 b5 b6 b7 b10 sb B1 N s stop inner v W' →
      Boxed W' b11' 3 (.int .i64 ((d :: ds).length : Nat)) → Marks w.heap.size (d :: ds) W' → Q .normal a W') :
    LB.wpIn Fence.wide 20 Tryd.prog Q { tmps := LPa b4 b5 b6 b7 b10 b11 t, defers := ds } W := by
  obtain ⟨A, cap, rfl⟩ := Kd.R_slice hL.hR
  simp only [LB, cL, cR, cB, cO, Tryd.f3, Option.getD_some, LPa]
  have c11 := h11.cell
  have ca := cell_alloc_of W ⟨b10, 0, none⟩ (.cells #[.int .i64 0] 3) _ hL.c10.cell
  have hlt2 : ((ds.length : Nat) : Int) < 2 := by omega
  have hsa : (W.alloc (.cells #[.int .i64 0] 3)).heap.size = W.heap.size + 1 := by simp
  have hb1 : Below W.heap.size W (W.alloc (.cells #[.int .i64 0] 3)) := (Below.refl W.heap.size W).alloc (Nat.le_refl _) _
  have L1 := Fact.mk (hL.below hb1)
  have bn := Boxed.new W 3 (.int .i64 0)
  have hb11 := Fact.mk (bx_below h11 hb1)
  have hlen : (ptsAll s).length ≤ s.size := by
    unfold ptsAll; split
    · rw [pts_length]; have := Pt.scan_len s (s.size + 1) 0 0; unfold Pt.all; omega
    · simp
  have hbw := hL.hb.size
  have hb2 := Fact.mk hb1
  clear hb1
  gi_wp2
  refine rangeC (l := W.heap.size + 2) (mark := [{ target := .collected (W.heap.size + 1), args := #[] }]) (X := fun W' => W'.heap[W.heap.size + 1]? = some (.deferred (some []))) ?hent (by simp) ?hXb ?hXk ?hXl (by decide) (gf := 11) (lb := #[.pointer (some ⟨sb, 0, none⟩)]) rfl trivial (enters_of Tryd.func11 (by kernel_rfl) rfl)
    (points_iter s (by omega) sb w _ HT L1.out.cs.cell (W.heap.size + 2) 19) (fun _ => rfl)
    (fun pre W' => Ex W.heap.size (W.alloc (.cells #[.int .i64 0] 3)) W' ∧ W'.cell? ⟨W.heap.size, 0, none⟩ = some (.int .i64 (pre.length : Nat)) ∧ W'.frozen? ⟨W.heap.size, 0, none⟩ = false)
    (fun c pre W' => c = .exit 2 ∧ Ex W.heap.size (W.alloc (.cells #[.int .i64 0] 3)) W' ∧ W'.cell? ⟨W.heap.size, 0, none⟩ = some (.int .i64 (pre.length : Nat)) ∧ ds.length = 0 ∧ wrap64 (stop + 1) = (pre.length : Int))
    ?hI ?hIx ?hIw ⟨Ex.refl _ _, bn.cell, bn.frozen⟩ (fun x => { tmps := #[t 0, t 1, t 2, t 3, .pointer (some ⟨b4, 0, none⟩), .pointer (some ⟨b5, 0, none⟩), .pointer (some ⟨b6, 0, none⟩), .pointer (some ⟨b7, 0, none⟩), t 8, t 9, .pointer (some ⟨b10, 0, none⟩), .pointer (some ⟨b11, 0, none⟩), .pointer (some ⟨W.heap.size, 0, none⟩), .int .i64 (x.1 : Nat), .int .i32 (x.2 : Nat), t 15, t 16, t 17, t 18, t 19, t 20, t 21, t 22, t 23, t 24, t 25, t 26, t 27, t 28, .int .i64 (ds.length : Nat), .bool true, t 31, t 32, .func (.func 11) #[] #[.pointer (some ⟨sb, 0, none⟩)], .int .i64 (x.1 : Nat), .int .i32 (x.2 : Nat), t 36, t 37, t 38, t 39, t 40, t 41, t 42, t 43, t 44, t 45, t 46, t 47, t 48, t 49, t 50, t 51, t 52, t 53, t 54, t 55, t 56, t 57, t 58, t 59, t 60, t 61, t 62, t 63, t 64, t 65, t 66, t 67, t 68, t 69, t 70, t 71, t 72, t 73, t 74, t 75, t 76, t 77, t 78, t 79, t 80, t 81, t 82, t 83, t 84, t 85, t 86, t 87, t 88, t 89, t 90, t 91, t 92, t 93, t 94, t 95], defers := [] }) ?hassign ?hbody ?hdone ?hstop
  case hent =>
    intro fn
    have hh := fun (tm : Array Value) (ps : Array Tmp) (ac bo : Code) => run_enterLoop_outer (P := Tryd.prog) (w := W.alloc (.cells #[.int .i64 0] 3)) fn tm ps ac bo
    simp only [hsa] at hh
    refine ⟨W.heap.size + 1, _, hh _ _ _ _, ?_, by simp, ?_, ?_⟩
    · have hn := World.alloc_heap_new ((W.alloc (.cells #[.int .i64 0] 3)).alloc (.deferred (some [])))
      simp only [World.size_alloc] at hn
      exact hn _
    · exact ((Below.refl _ _).alloc (Nat.le_refl _) _).alloc (by simp) _
    · have hn := World.alloc_heap_new (W.alloc (.cells #[.int .i64 0] 3)) (.deferred (some []))
      simp only [World.size_alloc] at hn
      exact (Below.heap_alloc _ _ _ (by simp)).trans hn
  case hXb => exact fun A B h hb => (hb.block _ (by omega)).trans h
  case hXk => exact fun A B h hk => (hk.same _ (by simp) (Array.getElem?_eq_some_iff.1 h).1).trans h
  case hXl => exact fun A o h => (World.putObj_heap_other (by omega)).trans h
  case hI =>
    rintro pre A B ⟨e1, e2, e3⟩ hb
    exact ⟨e1.then_below hb, (hb.cell (p := ⟨W.heap.size, 0, none⟩) (by simp)).trans e2, (hb.frozen (p := ⟨W.heap.size, 0, none⟩) (by simp)).trans e3⟩
  case hIx =>
    rintro c pre A B ⟨e0, e1, e2, e3⟩ hb
    exact ⟨e0, e1.then_below hb, (hb.cell (p := ⟨W.heap.size, 0, none⟩) (by simp)).trans e2, e3⟩
  case hIw =>
    rintro pre A ⟨e1, _, _⟩
    exact hL.hb.trans ((hb2.out.mono hbw).trans (e1.below hbw (by simp; omega)))
  case hassign =>
    intro x W' K hK
    unfold encP
    gi_wp2
    exact hK
  case hbody =>
    rintro pre x W' ⟨e1, e2, e3⟩ hpre hlt3 ⟨r, hr⟩
    have hl4 := hL.c4.lt
    have hl5 := hL.c5.lt
    have hl7 := hL.c7.lt
    have hl10 := hL.c10.lt
    have hls := hL.cs.lt
    have hl11 := h11.lt
    have hsz := e1.size
    have hNW := hL.hN
    have hR' := Kd.R_step L1.out.hR (fun k ok hl => e1.same k hl (by omega))
    have hpos : 0 < ((ptsAll s).map rowOf).length := by have := hpre.length_le; simp at this ⊢; omega
    obtain ⟨ad, cap', hv⟩ := Kd.R_slice1 hR' hpos
    rw [hv] at hR'
    rw [List.length_map] at hR' hv
    have k7 := e1.cell L1.out.c7.cell (by show b7 ≠ _; omega)
    rw [List.length_map, hv] at k7
    have hw' : Below w.heap.size w W' := hL.hb.trans ((hb2.out.mono hbw).trans (e1.below hbw (by simp; omega)))
    have ho := obody_c (fun k => match k with | 29 => .int .i64 (ds.length : Nat) | 30 => .bool true | 33 => .func (.func 11) #[] #[.pointer (some ⟨sb, 0, none⟩)] | 34 => .int .i64 (x.1 : Nat) | 35 => .int .i32 (x.2 : Nat) | k => t k)
      b4 b5 b6 b7 b10 b11 W.heap.size (W.heap.size + 2) 18 (ptsAll s) pre x W' cap' (fun k => k < N) B1 stop inner (ds.length : Nat) ad hpre (ptsAll_rune s x (hpre.subset (by simp))) (by omega)
      (e1.cell L1.out.c4.cell (by show b4 ≠ _; omega)) (e1.cell L1.out.c5.cell (by show b5 ≠ _; omega)) k7 (e1.cell hb11.out.cell (by show b11 ≠ _; omega)) e2 e3 (by omega) (by omega) (by omega)
      w HT ⟨hw'⟩ hbw s (by omega) sb (by omega) (e1.cell L1.out.cs.cell (by show sb ≠ _; omega)) ⟨rfl⟩ (e1.cell L1.out.c10.cell (by show b10 ≠ _; omega)) (by omega) r ⟨hr⟩ (by omega) (by omega) hR'
    refine wpIn_mono ho ?_
    rintro e a' W'' ⟨x1, x2, x3, (rfl | ⟨rfl, ht, hst⟩)⟩
    · exact ⟨x1.kpc (by simp), e1.trans x1, by simpa using x2, x3⟩
    · exact ⟨x1.kpc (by simp), rfl, e1.trans x1, by simpa using x2, by omega, by simpa using hst⟩
  case hdone =>
    rintro W' hX ⟨e1, e2, e3⟩
    have hl7 := hL.c7.lt
    have hl11 := h11.lt
    have k7 := e1.cell L1.out.c7.cell (by show b7 ≠ _; omega)
    have k11 := e1.cell hb11.out.cell (by show b11 ≠ _; omega)
    rw [List.length_map] at k7
    have hfin := Fact.mk (fun (a : Act) h1 h2 => fin_c w b4 b5 b6 b7 b10 sb B1 N s stop inner _ ds W W' hL hm e1 hX Q hQ a h1 h2)
    clear ca L1 bn hb11
    gi_wp2
    exact hfin.out _ rfl rfl
  case hstop =>
    rintro c pre W' hX hpre ⟨rfl, e1, e2, hds, hst⟩
    have hl7 := hL.c7.lt
    have hl4 := hL.c4.lt
    have hl11 := h11.lt
    have k7 := e1.cell L1.out.c7.cell (by show b7 ≠ _; omega)
    have k4 := e1.cell L1.out.c4.cell (by show b4 ≠ _; omega)
    have k11 := e1.cell hb11.out.cell (by show b11 ≠ _; omega)
    rw [hds] at k11
    rw [List.length_map] at k7
    have hfin := Fact.mk (fun (a : Act) h1 h2 => fin_c w b4 b5 b6 b7 b10 sb B1 N s stop inner _ ds W W' hL hm e1 hX Q hQ a h1 h2)
    clear ca L1 bn hb11
    simp only [show ((ds.length : Nat) : Int) + 1 = 1 by omega] at hfin
    gi_wp2
    all_goals exact hfin.out _ rfl rfl

set_option maxRecDepth 100000 in
set_option maxHeartbeats 4000000 in
/-- 'for turn', from its head on: it goes on behind with two turns over. -/
theorem loop_c (w : World) (b4 b5 b6 b7 b10 b11 sb B1 N : Nat) (s : ByteArray) (hs : s.size ≤ 1099511627776) (stop inner : Int) (v : Value) (HT : Tabs w) (W : World) (a0 : Act) (ha : a0.tmps = LPa b4 b5 b6 b7 b10 b11 (fun k => a0.tmps.getD k undef)) (hd0 : a0.defers = [])
    (hL : Lp w b4 b5 b6 b7 b10 sb B1 N s stop inner v W) (h11 : Boxed W b11 3 (.int .i64 0)) (Q : Exit → Act → World → Prop)
    (hQ : ∀ (a : Act) (t' : Nat → Value) (b11' : Nat) (W' : World), a.tmps = LPa b4 b5 b6 b7 b10 b11' t' → Lp w b4 b5 b6 b7 b10 sb B1 N s stop inner v W' → Marks w.heap.size a.defers W' → Q (.exit 0) a W') :
    (Code.loop LB).wpIn Fence.wide 20 Tryd.prog Q a0 W := by
  refine wpIn_loop (fun a W => ∃ t b11, a.tmps = LPa b4 b5 b6 b7 b10 b11 t ∧ Lp w b4 b5 b6 b7 b10 sb B1 N s stop inner v W ∧ Boxed W b11 3 (.int .i64 (a.defers.length : Nat)) ∧ Marks w.heap.size a.defers W ∧ a.defers.length ≤ 2) (fun a _ => 2 - a.defers.length)
    ⟨_, b11, ha, hL, by rw [hd0]; exact h11, by rw [hd0]; trivial, by rw [hd0]; simp⟩ ?_
  rintro ⟨tm, ds⟩ W1 ⟨t1, b1, e1, hL1, hb1, hm1, hle⟩
  simp only at e1 hb1 hm1 hle
  subst e1
  by_cases hd : ds.length < 2
  · refine round_c w b4 b5 b6 b7 b10 b1 sb B1 N s hs stop inner v HT t1 ds W1 hL1 hb1 hm1 hd _ ?_
    intro a b11' d W' h1 h2 h3 h4 h5
    exact ⟨⟨_, b11', h1, h3, by rw [h2]; exact h4, by rw [h2]; exact h5, by rw [h2]; simp; omega⟩, by rw [h2]; simp; omega⟩
  · have h2 : ds.length = 2 := by omega
    have c11 := hb1.cell
    rw [h2] at c11
    have hfin : Fact (∀ (a : Act) (t' : Nat → Value), a.tmps = LPa b4 b5 b6 b7 b10 b1 t' → a.defers = ds → Q (.exit 0) a W1) := ⟨fun a t' h1 h2 => hQ a t' b1 W1 h1 hL1 (by rw [h2]; exact hm1)⟩
    simp only [LB, cL, cR, cB, cO, Tryd.f3, Option.getD_some, LPa]
    clear hL h11 hQ hm1 hL1
    gi_wp2
    exact hfin.out _ (fun k => match k with | 29 => .int .i64 2 | 30 => .bool false | k => t1 k) rfl rfl
end Go.Proofs.YtnhlmgeopkdiaaaDoor
