import Derived.Test.YtinaibebdacnmaaDoorMf
import Derived.Test.YtinaibebdacnmaaDoorMg
import Derived.Deep.Cut
set_option linter.all false
/- The two functions sound of any operation. -/
set_option linter.unusedVariables false
namespace Go.Proofs.YtinaibebdacnmaaDoor
open Go.RowKit Go.Proofs.YtinaibebdacnmaaDoorW.PrintWords
attribute [local go_sem] run_store_float

set_option maxRecDepth 100000 in
set_option maxHeartbeats 4000000 in
theorem sp0 (cs : Array Value) (n : Int) (w : World) (h0 : cs[0]? = some (.int .i64 n)) (hn : n < 1 ∨ 24 < n) :
    Calls Tryd.prog 33 #[.agg cs] w fun e w' => e = .returned (.bool false) ∧ Below w.heap.size w w' := by
  have hs := Fact.mk (fun w' => shapesNot_c n hn w')
  clear hn
  go_enter Tryd.func33, Tryd.ntmps33
  go_wp2_with (first | (go_at_call 53; with_reducible refine (hs.out _).mono ?_; rintro e w1 ⟨rfl, hb⟩; have hB1 := fun o => (below1 hb).alloc (below1 hb).size o; have g0 := boxO hb 0 h0))
  go_ret
  exact ⟨rfl, hB1 _⟩
set_option maxRecDepth 100000 in
set_option maxHeartbeats 4000000 in
theorem sr0 (cs : Array Value) (n t0 : Int) (R : Bool) (w : World) (h0 : cs[0]? = some (.int .i64 n)) (h1 : cs[1]? = some (.int .i64 t0)) (hr : Fact (∀ w', Calls Tryd.prog 59 #[.int .i64 t0] w' fun e w'' => e = .returned (.bool R) ∧ w' = w'')) (hn : n < 1 ∨ 24 < n) :
    Calls Tryd.prog 34 #[.agg cs] w fun e w' => e = .returned (.bool false) ∧ Below w.heap.size w w' := by
  have hB := Below.refl (w.alloc (.cells cs 49)).heap.size (w.alloc (.cells cs 49))
  have g0 := boxCell hB 0 h0; have g1 := boxCell hB 1 h1
  rcases hn with hn | hn
  · have z1 : decide (10 ≤ n) = false := decide_eq_false (by omega)
    cases R
    all_goals
      go_enter Tryd.func34, Tryd.ntmps34
      go_wp2_with (first | (go_at_call 59; with_reducible refine (hr.out _).mono ?_; rintro e w' ⟨rfl, rfl⟩))
      go_ret
      exact ⟨rfl, below1 hB⟩
  · have z1 : decide (10 ≤ n) = true := decide_eq_true (by omega)
    have z2 : decide (n ≤ 15) = false := decide_eq_false (by omega)
    cases R
    all_goals
      go_enter Tryd.func34, Tryd.ntmps34
      go_wp2_with (first | (go_at_call 59; with_reducible refine (hr.out _).mono ?_; rintro e w' ⟨rfl, rfl⟩))
      go_ret
      exact ⟨rfl, below1 hB⟩
theorem soundP_c (x : Ot) (hf : x.fin) (w : World) (HT : Tabs w) : Calls Tryd.prog 33 #[.agg (ocs x)] w fun e w' => e = .returned (.bool (snd x)) ∧ Below w.heap.size w w' := by
  obtain ⟨o, t, a, b, c, ks, km, v, d, f, q⟩ := x
  by_cases h1 : o = 1
  · subst h1; exact sP1 t a b c ks km v d f q w HT
  by_cases h2 : o = 2
  · subst h2; exact sP2 t a b c ks km v d f q w HT
  by_cases h3 : o = 3
  · subst h3; exact sP3 t a b c ks km v d f q w HT
  by_cases h4 : o = 4
  · subst h4; exact sP4 t a b c ks km v d f q w HT
  by_cases h5 : o = 5
  · subst h5; exact sP5 t a b c ks km v d f q w HT
  by_cases h6 : o = 6
  · subst h6; exact sP6 t a b c ks km v d f q w HT
  by_cases h7 : o = 7
  · subst h7; exact sP7 t a b c ks km v d f q w HT
  by_cases h8 : o = 8
  · subst h8; exact sP8 t a b c ks km v d f q w HT
  by_cases h9 : o = 9
  · subst h9; exact sP9 t a b c ks km v d f q w HT
  by_cases h10 : o = 10
  · subst h10; exact sP10 t a b c ks km v d f q w HT
  by_cases h11 : o = 11
  · subst h11; exact sP11 t a b c ks km v d f q w HT
  by_cases h12 : o = 12
  · subst h12; exact sP12 t a b c ks km v d hf.2 f q w HT
  by_cases h13 : o = 13
  · subst h13; exact sP13 t a b c ks km v d f q w HT
  by_cases h14 : o = 14
  · subst h14; exact sP14 t a b c ks km v d f q w HT
  by_cases h15 : o = 15
  · subst h15; exact sP15 t a b c ks km v d f q w HT
  by_cases h16 : o = 16
  · subst h16; exact sP16 t a b c ks km v d f q w HT
  by_cases h17 : o = 17
  · subst h17; exact sP17 t a b c ks km v d f q w HT
  by_cases h18 : o = 18
  · subst h18; exact sP18 t a b c ks km v d f q w HT
  by_cases h19 : o = 19
  · subst h19; exact sP19 t a b c ks km v d f q w HT
  by_cases h20 : o = 20
  · subst h20; exact sP20 t a b c ks km v d f q w HT
  by_cases h21 : o = 21
  · subst h21; exact sP21 t a b c ks km v d f q w HT
  by_cases h22 : o = 22
  · subst h22; exact sP22 t a b c ks km v d f q w HT
  by_cases h23 : o = 23
  · subst h23; exact sP23 t a b c ks km v d f q w HT
  by_cases h24 : o = 24
  · subst h24; exact sP24 t a b c ks km v d f q w HT
  have hz : snd ⟨o, t, a, b, c, ks, km, v, d, f, q⟩ = false := by simp only [snd, h1, h2, h3, h4, h5, h6, h7, h8, h9, h10, h11, h12, h13, h14, h15, h16, h17, h18, h19, h20, h21, h22, h23, h24, if_false]
  rw [hz]
  exact sp0 _ o w rfl (by omega)
theorem soundR_c (x : Ot) (hf : x.fin) (w : World) : Calls Tryd.prog 34 #[.agg (ocs x)] w fun e w' => e = .returned (.bool (snd x)) ∧ Below w.heap.size w w' := by
  obtain ⟨o, t, a, b, c, ks, km, v, d, f, q⟩ := x
  by_cases h1 : o = 1
  · subst h1; exact sR1 t a b c ks km v d  f q hf.1 w
  by_cases h2 : o = 2
  · subst h2; exact sR2 t a b c ks km v d  f q hf.1 w
  by_cases h3 : o = 3
  · subst h3; exact sR3 t a b c ks km v d  f q hf.1 w
  by_cases h4 : o = 4
  · subst h4; exact sR4 t a b c ks km v d  f q hf.1 w
  by_cases h5 : o = 5
  · subst h5; exact sR5 t a b c ks km v d  f q hf.1 w
  by_cases h6 : o = 6
  · subst h6; exact sR6 t a b c ks km v d  f q hf.1 w
  by_cases h7 : o = 7
  · subst h7; exact sR7 t a b c ks km v d  f q hf.1 w
  by_cases h8 : o = 8
  · subst h8; exact sR8 t a b c ks km v d  f q hf.1 w
  by_cases h9 : o = 9
  · subst h9; exact sR9 t a b c ks km v d  f q hf.1 w
  by_cases h10 : o = 10
  · subst h10; exact sR10 t a b c ks km v d  f q hf.1 w
  by_cases h11 : o = 11
  · subst h11; exact sR11 t a b c ks km v d  f q hf.1 w
  by_cases h12 : o = 12
  · subst h12; exact sR12 t a b c ks km v d hf.2 f q  w
  by_cases h13 : o = 13
  · subst h13; exact sR13 t a b c ks km v d  f q hf.1 w
  by_cases h14 : o = 14
  · subst h14; exact sR14 t a b c ks km v d  f q hf.1 w
  by_cases h15 : o = 15
  · subst h15; exact sR15 t a b c ks km v d  f q hf.1 w
  by_cases h16 : o = 16
  · subst h16; exact sR16 t a b c ks km v d  f q hf.1 w
  by_cases h17 : o = 17
  · subst h17; exact sR17 t a b c ks km v d  f q hf.1 w
  by_cases h18 : o = 18
  · subst h18; exact sR18 t a b c ks km v d  f q hf.1 w
  by_cases h19 : o = 19
  · subst h19; exact sR19 t a b c ks km v d  f q hf.1 w
  by_cases h20 : o = 20
  · subst h20; exact sR20 t a b c ks km v d  f q hf.1 w
  by_cases h21 : o = 21
  · subst h21; exact sR21 t a b c ks km v d  f q hf.1 w
  by_cases h22 : o = 22
  · subst h22; exact sR22 t a b c ks km v d  f q hf.1 w
  by_cases h23 : o = 23
  · subst h23; exact sR23 t a b c ks km v d  f q hf.1 w
  by_cases h24 : o = 24
  · subst h24; exact sR24 t a b c ks km v d  f q hf.1 w
  have hz : snd ⟨o, t, a, b, c, ks, km, v, d, f, q⟩ = false := by simp only [snd, h1, h2, h3, h4, h5, h6, h7, h8, h9, h10, h11, h12, h13, h14, h15, h16, h17, h18, h19, h20, h21, h22, h23, h24, if_false]
  rw [hz]
  exact sr0 _ o t (rg t) w rfl rfl (Fact.mk (rReg_c t)) (by omega)
theorem infoO : (Tryd.prog.info? 49).map (·.size) = some 32 := by kernel_rfl
set_option maxRecDepth 100000 in
theorem sound1_c (x : Ot) (hf : x.fin) (w : World) (HT : Tabs w) : Calls Tryd.prog 32 #[.agg (ocs x)] w fun e w' => e = .returned (.bool (!snd x)) ∧ Below w.heap.size w w' := by
  have hk := Fact.mk (fun w' (h : Below w.heap.size w w') => soundP_c x hf w' (HT.below h))
  have hsz : (Tryd.prog.info? 49).map (·.size) = some (ocs x).size := infoO
  generalize snd x = G at hk ⊢
  generalize ocs x = cs at *
  have hsz := Fact.mk hsz
  clear HT hf
  go_enter Tryd.func32, Tryd.ntmps32
  go_wp2_with (first | (refine wpLoadBox rfl 49 (.tmp 1) rfl w.heap.size (by rfl) cs 49 (0, 0) _ (heap_alloc_new _ _) Tryd.underlying49 rfl hsz.out ?_) | (go_at_call 33; refine (hk.out _ ((Below.refl _ _).alloc (Nat.le_refl _) _)).mono ?_; rintro e w1 ⟨rfl, hb⟩))
  go_ret
  exact ⟨rfl, below1 hb⟩
end Go.Proofs.YtinaibebdacnmaaDoor

/- A row of operations. -/
namespace Go.Proofs.YtinaibebdacnmaaDoor
open Go.RowKit Go.Proofs.YtinaibebdacnmaaDoorW.PrintWords
attribute [local go_sem] run_store_float

/-- A row of operations lies in the world. -/
def ORow (W : World) (A : Option Addr) (L : List Ot) : Prop :=
  0 < L.length → ∃ ad, A = some ad ∧ ∀ j x, L[j]? = some x → ∀ q v, (ocs x)[q]? = some v → W.cell? ((ad.add (j * 32)).add q) = some v
theorem ORow.at {W W' : World} {A : Option Addr} {L : List Ot} (h : ORow W A L) (hb : Below W.heap.size W W') (j : Nat) (hj : j < L.length) : ∃ ad x, A = some ad ∧ L[j]? = some x ∧ x ∈ L ∧ ∀ q v, (ocs x)[q]? = some v → W'.cell? ((ad.add (j * 32)).add q) = some v := by
  obtain ⟨ad, e, hc⟩ := h (by omega)
  refine ⟨ad, _, e, List.getElem?_eq_getElem hj, List.getElem_mem hj, fun q v hq => ?_⟩
  have h := hc j _ (List.getElem?_eq_getElem hj) q v hq
  rw [hb.cell (World.block_lt_of_cell? W _ h)]; exact h
theorem ORow.keep {W W' : World} {A : Option Addr} {L : List Ot} (h : ORow W A L) (hb : Below W.heap.size W W') : ORow W' A L := fun h0 => by
  obtain ⟨ad, e, hc⟩ := h h0
  refine ⟨ad, e, fun j x hj q v hq => ?_⟩
  have h := hc j x hj q v hq
  rw [hb.cell (World.block_lt_of_cell? W _ h)]; exact h

/-- A struct's load at any address, as one value. -/
theorem run_loadAt_any {P : Program} (w : World) (p : Addr) (ty : TypeId) (dd : Array Value) (d : TypeDesc) (hc : ∀ q v, dd[q]? = some v → w.cell? (p.add q) = some v)
    (hu : P.underlying ty = some d) (hd : d.isRow = true) (hi : (P.info? ty).map (·.size) = some dd.size) :
    (Instr.loadAt ty (.pointer (some p))).run P w = .ok (.agg dd) w := by
  have hl : (loadCells p dd.toList.length).run P w = .ok dd.toList.toArray w :=
    run_loadCells_list (P := P) w p dd.toList (fun j v hv => hc j v (by simpa using hv))
  cases hq : P.info? ty with
  | none => simp [hq] at hi
  | some i =>
    have hs : i.size = dd.toList.length := by simpa [hq] using hi
    have hagg : (isAgg ty).run P w = .ok true w := by
      unfold isAgg
      rw [Sem.run_bind, run_underlying hu w]
      cases d <;> simp_all
    simp only [Instr.loadAt, Instr.sureAddr, Sem.run_bind, Sem.run_pure, Result.andThen_ok]
    rw [← Array.toArray_toList (xs := dd)]
    have hl' : (loadCells p dd.size).run P w = .ok dd w := by simpa using hl
    simp [loadVar, Sem.run_bind, hagg, sizeOf, typeInfo, hq, hs, hl']
theorem wpLoadAny {P : Program} {ops : Array Oper} {rest : List Oper} {op : Oper} {a : Act} {w : World} {Q : Exit → Act → World → Prop} (hw : Region.wanted op (yielded ops a.tmps) = true) (ty : TypeId) (x : Operand) (ho : op.op = .load ty x)
    (p : Addr) (hx : a.eval x = .pointer (some p)) (dd : Array Value) (d : TypeDesc) (hc : ∀ q v, dd[q]? = some v → w.cell? (p.add q) = some v)
    (hu : P.underlying ty = some d) (hd : d.isRow = true) (hi : (P.info? ty).map (·.size) = some dd.size)
    (h : wpList P ops Q rest (a.put op.dst (.agg dd)) w) : wpList P ops Q (op :: rest) a w :=
  wpList_step fun K hK => by
    rw [if_pos hw]
    unfold Oper.wp execOp
    simp only [ho, hx, Sem.run_bind, run_loadAt_any w p ty dd d hc hu hd hi, Result.andThen_ok, Sem.run_pure]
    exact hK _ _ h
end Go.Proofs.YtinaibebdacnmaaDoor

/- The reference's Sound. -/
namespace Go.Proofs.YtinaibebdacnmaaDoor
open Go.RowKit Go.Proofs.YtinaibebdacnmaaDoorW.PrintWords
attribute [local go_sem] run_store_float
def snds (L : List Ot) : Bool := decide (L.length ≤ 256) && L.all snd
theorem takeStep {L : List Ot} {j : Nat} {x : Ot} (hv : L[j]? = some x) (h : (L.take j).all snd = true) (hx : snd x = true) : (L.take (j + 1)).all snd = true := by
  rw [List.take_add_one, hv]; simp [List.all_append, h, hx]
theorem sndsT {L : List Ot} {j : Nat} (h1 : L.length ≤ 256) (h : (L.take j).all snd = true) (hj : ¬ j < L.length) : true = snds L := by
  rw [List.take_of_length_le (by omega)] at h
  simp [snds, h1, h]
theorem sndsF {L : List Ot} {x : Ot} (hm : x ∈ L) (hx : snd x = false) : false = snds L := by
  have : L.all snd = false := by
    cases h : L.all snd with
    | false => rfl
    | true => rw [List.all_eq_true] at h; rw [h x hm] at hx; exact hx
  simp [snds, this]
set_option maxRecDepth 100000 in
theorem rSound_c (A : Option Addr) (L : List Ot) (cap : Nat) (hf : ∀ x ∈ L, x.fin) (w : World) (hL : ORow w A L) : Calls Tryd.prog 16 #[.slice A L.length cap] w fun e w' => e = .returned (.bool (snds L)) ∧ Below w.heap.size w w' := by
  have HL := Fact.mk hL
  have HF := Fact.mk hf
  clear hL hf
  go_enter Tryd.func16, Tryd.ntmps16
  by_cases c1 : (256 : Int) < (L.length : Int)
  · go_wp2
    go_ret
    exact ⟨retb (by simp [snds]; intro h; omega), Below.refl _ _⟩
  · have h1 : Fact (L.length ≤ 256) := ⟨by omega⟩
    go_wp2
    go_loopg [3] L.length (fun kq v3 w' => ∃ (j : Nat), v3 = .int .i64 j ∧ Aside0 (j + kq = L.length) ∧ Aside0 ((L.take j).all snd = true) ∧ Aside0 (Below w.heap.size w w'))
    case atStart => exact ⟨0, rfl, ⟨by omega⟩, ⟨rfl⟩, ⟨Below.refl _ _⟩⟩
    case round =>
      obtain ⟨j, rfl, HN, HA, HB⟩ := hrel
      by_cases c2 : (j : Int) < (L.length : Int)
      · have hj : j < L.length := by omega
        obtain ⟨ad, x, rfl, hv, hm, hx⟩ := HL.out.at HB.out j hj
        have p1 : (0 : Int) ≤ (j : Int) := by omega
        have hk := Fact.mk (fun W => soundR_c x (HF.out x hm) W)
        have hsz : (Tryd.prog.info? 49).map (·.size) = some (ocs x).size := infoO
        cases hs : snd x with
        | false =>
          have hz := Fact.mk (sndsF hm hs)
          rw [hs] at hk
          clear hs
          generalize ocs x = cs at *
          cases gk with
          | zero => exact absurd HN.out (by omega)
          | succ k1 =>
            have hsz := Fact.mk hsz
            have hx := Fact.mk hx
            go_wp2_with (first | (refine wpLoadAny (op := ⟨some 16, _, _, _, _, _⟩) rfl 49 (.tmp 15) rfl (ad.add (j * 32)) (by rfl) cs _ hx.out Tryd.underlying49 rfl hsz.out ?_) | (go_at_call 34; refine (hk.out _).mono ?_; rintro e w1 ⟨rfl, hb⟩))
            go_ret
            exact ⟨retb hz.out, HB.out.trans (hb.mono HB.out.size)⟩
        | true =>
          have hz := Fact.mk (takeStep hv HA.out hs)
          rw [hs] at hk
          clear hs
          generalize ocs x = cs at *
          cases gk with
          | zero => exact absurd HN.out (by omega)
          | succ k1 =>
            have hsz := Fact.mk hsz
            have hx := Fact.mk hx
            go_wp2_with (first | (refine wpLoadAny (op := ⟨some 16, _, _, _, _, _⟩) rfl 49 (.tmp 15) rfl (ad.add (j * 32)) (by rfl) cs _ hx.out Tryd.underlying49 rfl hsz.out ?_) | (go_at_call 34; refine (hk.out _).mono ?_; rintro e w1 ⟨rfl, hb⟩))
            go_roundg k1
            case measure => omega
            case rel => exact ⟨j + 1, by first | rfl | (congr 1; omega), ⟨by have := HN.out; omega⟩, ⟨hz.out⟩, ⟨HB.out.trans (hb.mono HB.out.size)⟩⟩
      · go_wp2
        go_ret
        exact ⟨retb (sndsT h1.out HA.out (by omega)), HB.out⟩
end Go.Proofs.YtinaibebdacnmaaDoor

/- call.Sound. -/
namespace Go.Proofs.YtinaibebdacnmaaDoor
open Go.RowKit Go.Proofs.YtinaibebdacnmaaDoorW.PrintWords
attribute [local go_sem] run_store_float
theorem allT {L : List Ot} {j : Nat} (h : (L.take j).all snd = true) (hj : ¬ j < L.length) : L.all snd = true := by
  rw [List.take_of_length_le (by omega)] at h
  exact h
theorem allF {L : List Ot} {x : Ot} (hm : x ∈ L) (hx : snd x = false) : L.all snd = false := by
  cases h : L.all snd with
  | false => rfl
  | true => rw [List.all_eq_true] at h; rw [h x hm] at hx; exact absurd hx (by decide)
set_option maxRecDepth 100000 in
theorem index_c (A : Option Addr) (L : List Ot) (cap : Nat) (hf : ∀ x ∈ L, x.fin) (w : World) (HT : Tabs w) (hL : ORow w A L) (hle : L.length ≤ 256) : Calls Tryd.prog 52 #[.slice A L.length cap, .func (Fn.func 32) #[] #[]] w fun e w' => (∃ r : Int, e = .returned (.int .i64 r) ∧ decide (0 ≤ r) = !(L.all snd)) ∧ Below w.heap.size w w' := by
  have HL := Fact.mk hL
  have HF := Fact.mk hf
  have HT := Fact.mk HT
  have h1 := Fact.mk hle
  clear hL hf hle
  go_enter Tryd.func52, Tryd.ntmps52
  go_wp2
  go_loopg [8] L.length (fun kq v3 w' => ∃ (j : Nat), v3 = .int .i64 j ∧ Aside0 (j + kq = L.length) ∧ Aside0 ((L.take j).all snd = true) ∧ Aside0 (Below w.heap.size w w'))
  case atStart => exact ⟨0, rfl, ⟨by omega⟩, ⟨rfl⟩, ⟨Below.refl _ _⟩⟩
  case round =>
    obtain ⟨j, rfl, HN, HA, HB⟩ := hrel
    have h2 := h1.out
    by_cases c2 : (j : Int) < (L.length : Int)
    · have hj : j < L.length := by omega
      obtain ⟨ad, x, rfl, hv, hm, hx⟩ := HL.out.at HB.out j hj
      have p1 : (0 : Int) ≤ (j : Int) := by omega
      have hk := Fact.mk (fun W (h : Below w.heap.size w W) => sound1_c x (HF.out x hm) W (HT.out.below h))
      have hsz : (Tryd.prog.info? 49).map (·.size) = some (ocs x).size := infoO
      cases hs : snd x with
      | false =>
        have hz := Fact.mk (allF hm hs)
        rw [hs] at hk
        clear hs
        generalize ocs x = cs at *
        cases gk with
        | zero => exact absurd HN.out (by omega)
        | succ k1 =>
          have hsz := Fact.mk hsz
          have hx := Fact.mk hx
          go_wp2_with (first | (refine wpLoadAny (op := ⟨some 15, _, _, _, _, _⟩) rfl 49 (.tmp 14) rfl (ad.add (j * 32)) (by rfl) cs _ hx.out Tryd.underlying49 rfl hsz.out ?_) | (go_at_call 32; refine (hk.out _ HB.out).mono ?_; rintro e w1 ⟨rfl, hb⟩))
          go_ret
          exact ⟨⟨_, rfl, by rw [hz.out]; simp⟩, HB.out.trans (hb.mono HB.out.size)⟩
      | true =>
        have hz := Fact.mk (takeStep hv HA.out hs)
        rw [hs] at hk
        clear hs
        generalize ocs x = cs at *
        cases gk with
        | zero => exact absurd HN.out (by omega)
        | succ k1 =>
          have hsz := Fact.mk hsz
          have hx := Fact.mk hx
          go_wp2_with (first | (refine wpLoadAny (op := ⟨some 15, _, _, _, _, _⟩) rfl 49 (.tmp 14) rfl (ad.add (j * 32)) (by rfl) cs _ hx.out Tryd.underlying49 rfl hsz.out ?_) | (go_at_call 32; refine (hk.out _ HB.out).mono ?_; rintro e w1 ⟨rfl, hb⟩))
          go_roundg k1
          case measure => omega
          case rel => exact ⟨j + 1, by first | rfl | (congr 1; omega), ⟨by have := HN.out; omega⟩, ⟨hz.out⟩, ⟨HB.out.trans (hb.mono HB.out.size)⟩⟩
    · go_wp2
      go_ret
      exact ⟨⟨_, rfl, by rw [allT HA.out (by omega)]; decide⟩, HB.out⟩
set_option maxRecDepth 100000 in
theorem contains_c (A : Option Addr) (L : List Ot) (cap : Nat) (hf : ∀ x ∈ L, x.fin) (w : World) (HT : Tabs w) (hL : ORow w A L) (hle : L.length ≤ 256) : Calls Tryd.prog 31 #[.slice A L.length cap, .func (Fn.func 32) #[] #[]] w fun e w' => e = .returned (.bool (!(L.all snd))) ∧ Below w.heap.size w w' := by
  have hk := Fact.mk (index_c A L cap hf w HT hL hle)
  clear HT hL hf hle
  generalize (!(L.all snd)) = Z at *
  go_enter Tryd.func31, Tryd.ntmps31
  go_wp2_with fail
  refine hk.out.mono ?_
  rintro e w1 ⟨⟨r, rfl, hr⟩, hb⟩
  go_wp2
  go_ret
  first | exact ⟨retb hr, hb⟩ | exact ⟨rfl, hb⟩
set_option maxRecDepth 100000 in
theorem pSound_c (A : Option Addr) (L : List Ot) (cap : Nat) (hf : ∀ x ∈ L, x.fin) (w : World) (HT : Tabs w) (hL : ORow w A L) : Calls Tryd.prog 15 #[.slice A L.length cap] w fun e w' => e = .returned (.bool (snds L)) ∧ Below w.heap.size w w' := by
  by_cases c1 : (L.length : Int) ≤ (256 : Int)
  · have hk := Fact.mk (contains_c A L cap hf w HT hL (by omega))
    clear HT hL hf
    have hz : L.all snd = snds L := by simp [snds]; omega
    rw [hz] at hk
    generalize snds L = Z at *
    clear hz
    go_enter Tryd.func15, Tryd.ntmps15
    go_wp2_with fail
    refine hk.out.mono ?_
    rintro e w1 ⟨rfl, hb⟩
    go_wp2
    go_ret
    exact ⟨retb (by simp), hb⟩
  · have hz := Fact.mk (show false = snds L by simp [snds]; intro h; omega)
    clear hL hf
    go_enter Tryd.func15, Tryd.ntmps15
    go_wp2
    go_ret
    exact ⟨retb hz.out, Below.refl _ _⟩
end Go.Proofs.YtinaibebdacnmaaDoor

/- One operation made in place: laws of its block and of a row of one. -/
namespace Go.Proofs.YtinaibebdacnmaaDoor
open Go.RowKit Go.Proofs.YtinaibebdacnmaaDoorW.PrintWords
attribute [local go_sem] run_store_float

def dz : Dt := ⟨⟨0, false, 0, ⟨#[]⟩, 0⟩, ⟨0, false, 0, ⟨#[]⟩, 0⟩, ⟨0, false, 0, ⟨#[]⟩, 0⟩, 0, 0, 0⟩
/-- An operation of a code, with its four numbers. -/
def mkO (o t a b c : Int) : Ot := ⟨o, t, a, b, c, ⟨#[]⟩, 0, ⟨2, false, 0, ⟨#[]⟩, 0⟩, dz, false, false⟩
theorem mkO_fin (o t a b c : Int) : (mkO o t a b c).fin := ⟨by show (0 : Nat) < _; decide, by show (0 : Nat) < _; decide, by show (0 : Nat) < _; decide, by show (0 : Nat) < _; decide⟩
theorem buildO (o : Int) (w : World) : (Instr.build 49 #[(0, .int .i64 o), (6, .agg #[.int .i64 2, .bool false, .float .f64 0, .string ⟨#[]⟩, .int .i64 0])]).run Tryd.prog w = .ok (.agg (ocs (mkO o 0 0 0 0))) w := by kernel_rfl
theorem buildV (w : World) : (Instr.build 32 #[(0, .int .i64 2)]).run Tryd.prog w = .ok (.agg #[.int .i64 2, .bool false, .float .f64 0, .string ⟨#[]⟩, .int .i64 0]) w := by kernel_rfl
theorem rowO (x : Ot) (w : World) : (Instr.buildSlice 40 1 #[(0, .agg (ocs x))]).run Tryd.prog w = .ok (.slice (some ⟨w.heap.size, 0, none⟩) 1 1) (w.alloc (.cells (ocs x) 49)) := by kernel_rfl
theorem allocO : ∃ c : Array Value, c.size = 32 ∧ ∀ w, (Instr.alloc 49 true (.tuple #[])).run Tryd.prog w = .ok (.pointer (some ⟨w.heap.size, 0, none⟩)) (w.alloc (.cells c 49)) :=
  ⟨#[.int .i64 0, .int .i64 0, .int .i64 0, .int .i64 0, .int .i64 0, .string ⟨#[]⟩, .int .i64 0, .int .i64 0, .bool false, .float .f64 0, .string ⟨#[]⟩, .int .i64 0, .int .i64 0, .bool false, .float .f64 0, .string ⟨#[]⟩, .int .i64 0, .int .i64 0, .bool false, .float .f64 0, .string ⟨#[]⟩, .int .i64 0, .int .i64 0, .bool false, .float .f64 0, .string ⟨#[]⟩, .int .i64 0, .int .i64 0, .int .i64 0, .int .i64 0, .bool false, .bool false], rfl, fun w => by kernel_rfl⟩
theorem storeO (x : Ot) (c : Array Value) (hc : c.size = 32) (w : World) : (Instr.storeAt 49 (.pointer (some ⟨w.heap.size, 0, none⟩)) (.agg (ocs x))).run Tryd.prog (w.alloc (.cells c 49)) = .ok () (w.alloc (.cells (ocs x) 49)) :=
  run_storeAt_new w _ c (ocs x) infoO hc (by simp [ocs, Value.oneCell'])
theorem wpAllocS {P : Program} {ops : Array Oper} {rest : List Oper} {op : Oper} {a : Act} {w : World} {Q : Exit → Act → World → Prop} (hgd : op.guard = none) (ty : TypeId) (ho : op.op = .alloc ty) (v : Value) (W : World)
    (hr : (Instr.alloc ty true (.tuple #[])).run P w = .ok v W) (h : wpList P ops Q rest (a.put op.dst v) W) : wpList P ops Q (op :: rest) a w :=
  wpList_plain hgd fun _ hK => by
    unfold Oper.wp execOp
    simp only [ho, Sem.run_bind, hr, Result.andThen_ok, Sem.run_pure]
    exact hK _ _ h
theorem wpStoreS {P : Program} {ops : Array Oper} {rest : List Oper} {op : Oper} {a : Act} {w : World} {Q : Exit → Act → World → Prop} (hgd : op.guard = none) (hd : op.dst = none) (ty : TypeId) (x y : Operand) (ho : op.op = .store ty x y) (p v : Value) (hx : a.eval x = p) (hy : a.eval y = v) (W : World)
    (hr : (Instr.storeAt ty p v).run P w = .ok () W) (h : wpList P ops Q rest a W) : wpList P ops Q (op :: rest) a w :=
  wpList_plain hgd fun _ hK => by
    unfold Oper.wp execOp
    simp only [ho, hx, hy, Sem.run_bind, hr, Result.andThen_ok, Sem.run_pure]
    exact hK _ _ (by rw [hd]; exact h)
theorem wpRowS {P : Program} {ops : Array Oper} {rest : List Oper} {op : Oper} {a : Act} {w : World} {Q : Exit → Act → World → Prop} (hgd : op.guard = none) (ty : TypeId) (n : Nat) (parts : Array (Nat × Operand)) (ho : op.op = .buildSlice ty n parts) (vals : Array (Nat × Value)) (hv : (parts.map fun x => (x.fst, a.eval x.snd)) = vals) (v : Value) (W : World)
    (hr : (Instr.buildSlice ty n vals).run P w = .ok v W) (h : wpList P ops Q rest (a.put op.dst v) W) : wpList P ops Q (op :: rest) a w :=
  wpList_plain hgd fun _ hK => by
    unfold Oper.wp execOp
    simp only [ho, Sem.run_bind, hv, hr, Result.andThen_ok, Sem.run_pure]
    exact hK _ _ h
theorem oneRow {W : World} {b : Nat} {x : Ot} {fr : Nat × Nat} (h : W.heap[b]? = some (.cells (ocs x) 49 fr)) : ORow W (some ⟨b, 0, none⟩) [x] := fun _ => by
  refine ⟨_, rfl, fun j y hj q v hq => ?_⟩
  match j, hj with
  | 0, hj =>
    obtain rfl : x = y := by simpa using hj
    have e : (Addr.add ⟨b, 0, none⟩ (0 * 32)).add q = ⟨b, q, none⟩ := by unfold Addr.add; by_cases hq : q = 0 <;> simp [hq]
    rw [e, Lib.cell_of_heap h]; exact hq
  | j + 1, hj => simp at hj
theorem oneP (x : Ot) (hf : x.fin) (W : World) (b : Nat) (HT : Tabs W) (fr : Nat × Nat) (h : W.heap[b]? = some (.cells (ocs x) 49 fr)) : Calls Tryd.prog 15 #[.slice (some ⟨b, 0, none⟩) 1 1] W fun e W' => e = .returned (.bool (snds [x])) ∧ Below W.heap.size W W' :=
  pSound_c (some ⟨b, 0, none⟩) [x] 1 (fun y hy => by rw [List.mem_singleton.1 hy]; exact hf) W HT (oneRow h)
theorem oneR (x : Ot) (hf : x.fin) (W : World) (b : Nat) (fr : Nat × Nat) (h : W.heap[b]? = some (.cells (ocs x) 49 fr)) : Calls Tryd.prog 16 #[.slice (some ⟨b, 0, none⟩) 1 1] W fun e W' => e = .returned (.bool (snds [x])) ∧ Below W.heap.size W W' :=
  rSound_c (some ⟨b, 0, none⟩) [x] 1 (fun y hy => by rw [List.mem_singleton.1 hy]; exact hf) W (oneRow h)
theorem setOf {W : World} {g q : Nat} {y : Value} {cs cs' : Array Value} {t : TypeId} {fr : Nat × Nat} (h : W.heap[g]? = some (.cells cs t fr)) (he : cs.setIfInBounds q y = cs') : (W.setCell ⟨g, q, none⟩ y).heap[g]? = some (.cells cs' t fr) := by
  subst he
  simp [World.setCell, Array.getElem?_modify, h]
end Go.Proofs.YtinaibebdacnmaaDoor

/- The law CallSounds: its walk. -/
namespace Go.Proofs.YtinaibebdacnmaaDoor
open Go.RowKit Go.Proofs.YtinaibebdacnmaaDoorW.PrintWords
attribute [local go_sem] run_store_float
theorem keepH {W W' : World} {b : Nat} {o : Obj} (h : W.heap[b]? = some o) (hb : Below W.heap.size W W') : W'.heap[b]? = some o := by
  rw [hb.block b (Array.getElem?_eq_some_iff.1 h).1]; exact h
def edg : Array Value := #[.int .i64 (-1), .int .i64 0, .int .i64 15, .int .i64 16]
theorem cellOfE {V W : World} {b : Nat} (h : V.heap[b]? = some (.cells edg 42 (0, 0))) (hb : Below V.heap.size V W) (k : Nat) : W.cell? ⟨b, k, none⟩ = edg[k]? := by
  rw [Lib.cell_of_heap (keepH h hb)]
theorem cellOfO {W : World} {b : Nat} {cs : Array Value} {t : TypeId} {fr : Nat × Nat} (h : W.heap[b]? = some (.cells cs t fr)) (q : Nat) {v : Value} (hv : cs[q]? = some v) : W.cell? ⟨b, q, none⟩ = some v := by
  rw [Lib.cell_of_heap h]; exact hv
theorem setO0 (o e : Int) : (ocs (mkO o 0 0 0 0)).setIfInBounds 1 (.int .i64 e) = ocs (mkO o e 0 0 0) := rfl
theorem setO1 (o e : Int) : (ocs (mkO o 0 0 0 0)).setIfInBounds 2 (.int .i64 e) = ocs (mkO o 0 e 0 0) := rfl
theorem setO2 (o e : Int) : (ocs (mkO o 0 0 0 0)).setIfInBounds 3 (.int .i64 e) = ocs (mkO o 0 0 e 0) := rfl
theorem setO3 (o e : Int) : (ocs (mkO o 0 0 0 0)).setIfInBounds 4 (.int .i64 e) = ocs (mkO o 0 0 0 e) := rfl
theorem infoX (x : Ot) : (Tryd.prog.info? 49).map (·.size) = some (ocs x).size := infoO
theorem allocE (w : World) : (Instr.alloc 42 true (.tuple #[])).run Tryd.prog w = .ok (.pointer (some ⟨w.heap.size, 0, none⟩)) (w.alloc (.cells #[.int .i64 0, .int .i64 0, .int .i64 0, .int .i64 0] 42)) := by kernel_rfl
theorem storeE (w : World) : (Instr.storeAt 42 (.pointer (some ⟨w.heap.size, 0, none⟩)) (.agg edg)).run Tryd.prog (w.alloc (.cells #[.int .i64 0, .int .i64 0, .int .i64 0, .int .i64 0] 42)) = .ok () (w.alloc (.cells edg 42)) :=
  run_storeAt_new w _ _ edg (by kernel_rfl) rfl (by simp [edg, Value.oneCell'])
theorem buildE (w : World) : (Instr.build 42 #[(0, .int .i64 (-1)), (1, .int .i64 0), (2, .int .i64 15), (3, .int .i64 16)]).run Tryd.prog w = .ok (.agg edg) w := by kernel_rfl
set_option maxRecDepth 100000 in
set_option maxHeartbeats 1000000 in
theorem law_sounds (A : Option Addr) (L : List Ot) (cap : Nat) (hf : ∀ x ∈ L, x.fin) (w : World) (HT : Tabs w) (hL : ORow w A L) : Calls Tryd.prog 4 #[.slice A L.length cap] w fun e w' => e = .returned (.bool true) ∧ Below w.heap.size w w' := by
  have hP := Fact.mk (pSound_c A L cap hf w HT hL)
  have hR := Fact.mk (fun W (h : Below w.heap.size w W) => rSound_c A L cap hf W (hL.keep h))
  obtain ⟨c0, hc0, hal⟩ := allocO
  replace hc0 := Fact.mk hc0
  replace hal := Fact.mk hal
  replace HT := Fact.mk HT
  clear hL hf
  generalize snds L = Z at *
  go_enter Tryd.func4, Tryd.ntmps4
  go_wp2_with (first
    | (go_at_call 15; refine hP.out.mono ?_; rintro e w1 ⟨rfl, hb1⟩)
    | (go_at_call 16; refine (hR.out _ hb1).mono ?_; rintro e w2 ⟨rfl, hb2⟩; have hB2 := Fact.mk (hb1.trans (hb2.mono hb1.size)); clear hb1 hb2)
    | ((with_reducible refine wpBuild (op := ⟨some 14, _, _, _, _, _⟩) rfl 42 _ rfl _ ?hvb (.agg edg) (buildE _) ?_); (case hvb => kernel_rfl))
    | (with_reducible refine wpAllocS (op := ⟨some 3, _, _, _, _, _⟩) rfl 42 rfl _ _ (allocE _) ?_)
    | ((with_reducible refine wpStoreS (op := ⟨none, .store 42 _ _, _, _, _, _⟩) rfl rfl 42 (.tmp 3) (.tmp 14) rfl _ _ ?hx1 ?hy1 _ (storeE w2) ?_); (case hx1 => rfl); (case hy1 => rfl)))
  obtain ⟨V, hV⟩ : ∃ V, V = w2.alloc (.cells edg 42) := ⟨_, rfl⟩
  rw [← hV]
  have hE := Fact.mk (show V.heap[w2.heap.size]? = some (.cells edg 42 (0, 0)) from hV ▸ heap_alloc_new w2 _)
  have hBV := Fact.mk (show Below w.heap.size w V from hV ▸ hB2.out.alloc hB2.out.size _)
  have HTV := Fact.mk (HT.out.below hBV.out)
  clear hV hP hR
  go_loopg [4] 26 (fun kq v4 w' => ∃ (j : Nat), v4 = .int .i64 j ∧ Aside0 (j + kq = 26) ∧ Aside0 (Below V.heap.size V w'))
  case atStart => exact ⟨0, rfl, ⟨by omega⟩, ⟨Below.refl _ _⟩⟩
  case round =>
    obtain ⟨j, rfl, HN1, HB1⟩ := hrel
    by_cases q1 : (j : Int) ≤ (25 : Int)
    · cases gk with
      | zero => exact absurd HN1.out (by omega)
      | succ k1 =>
      go_wp2
      go_loopg [5] 4 (fun kq v5 w' => ∃ (f : Nat), v5 = .int .i64 f ∧ Aside0 (f + kq = 4) ∧ Aside0 (Below V.heap.size V w'))
      case atStart => exact ⟨0, rfl, ⟨by omega⟩, ⟨HB1.out⟩⟩
      case round =>
        obtain ⟨f, rfl, HN2, HB2⟩ := hrel
        by_cases q2 : (f : Int) < (4 : Int)
        · cases gk with
          | zero => exact absurd HN2.out (by omega)
          | succ k2 =>
          have hf4 : f = 0 ∨ f = 1 ∨ f = 2 ∨ f = 3 := by omega
          clear q2
          rcases hf4 with rfl | rfl | rfl | rfl
          · go_wp2
            go_loopg [6] 4 (fun kq v6 w' => ∃ (k : Nat), v6 = .int .i64 k ∧ Aside0 (k + kq = 4) ∧ Aside0 (Below V.heap.size V w'))
            case atStart => exact ⟨0, rfl, ⟨by omega⟩, ⟨HB2.out⟩⟩
            case round =>
            obtain ⟨k, rfl, HN3, HB3⟩ := hrel
            by_cases q3 : (k : Int) < (4 : Int)
            · cases gk with
              | zero => exact absurd HN3.out (by omega)
              | succ k3 =>
              have hk4 : k = 0 ∨ k = 1 ∨ k = 2 ∨ k = 3 := by omega
              clear q3
              rcases hk4 with rfl | rfl | rfl | rfl
              · have hn0 : wr.heap.size = wr.heap.size := rfl
                have e0 := Fact.mk (cellOfE hE.out HB3.out 0)
                go_wp2_with (first
                  | ((with_reducible refine wpBuild (op := ⟨some 29, _, _, _, _, _⟩) rfl 49 _ rfl _ ?hvb (.agg (ocs (mkO (j : Int) 0 0 0 0))) (buildO (j : Int) _) ?_); (case hvb => kernel_rfl))
                  | (with_reducible refine wpAllocS (op := ⟨some 7, _, _, _, _, _⟩) rfl 49 rfl _ _ (hal.out _) ?_)
                  | ((with_reducible refine wpStoreS (op := ⟨none, .store 49 _ _, _, _, _, _⟩) rfl rfl 49 (.tmp 7) (.tmp 29) rfl _ _ ?hx1 ?hy1 _ (storeO (mkO (j : Int) 0 0 0 0) c0 hc0.out wr) ?_); (case hx1 => rfl); (case hy1 => rfl); (obtain ⟨W, hW⟩ : ∃ W, W = wr.alloc (.cells (ocs (mkO (j : Int) 0 0 0 0)) 49) := ⟨_, rfl⟩); rw [← hW]; have hh := Fact.mk (show W.heap[wr.heap.size]? = some (.cells (ocs (mkO (j : Int) 0 0 0 0)) 49 (0, 0)) from hW ▸ heap_alloc_new wr _); have hBW := Fact.mk (show Below V.heap.size V W from hW ▸ HB3.out.alloc HB3.out.size _); clear hW; have z1 : W.frozen? ⟨wr.heap.size, 1, none⟩ = false := Lib.frozen_of_heap hh.out 1; have z2 : W.cell? ⟨wr.heap.size, 1, none⟩ = some (.int .i64 0) := cellOfO hh.out 1 rfl; have z3 : W.cell? ⟨w2.heap.size, 0, none⟩ = some (.int .i64 (-1)) := cellOfE hE.out hBW.out 0)
                  | ((with_reducible refine wpLoadBox (op := ⟨some 55, _, _, _, _, _⟩) rfl 49 (.tmp 7) rfl wr.heap.size ?hx2 (ocs (mkO (j : Int) (-1) 0 0 0)) 49 (0, 0) _ (setOf hh.out (setO0 (j : Int) (-1))) Tryd.underlying49 ?hd2 (infoX _) ?_); (case hx2 => rfl); (case hd2 => rfl))
                  | ((with_reducible refine wpRowS (op := ⟨some 56, _, _, _, _, _⟩) rfl 40 1 _ rfl _ ?hv3 _ _ (rowO (mkO (j : Int) (-1) 0 0 0) _) ?_); (case hv3 => kernel_rfl); (obtain ⟨Y, hY⟩ : ∃ Y, Y = W.setCell ⟨wr.heap.size, 1, none⟩ (.int .i64 (-1)) := ⟨_, rfl⟩); rw [← hY]; have hBY := hY ▸ Below.setCell hBW.out (p := ⟨wr.heap.size, 1, none⟩) HB3.out.size (.int .i64 (-1)); (obtain ⟨U, hU⟩ : ∃ U, U = Y.alloc (.cells (ocs (mkO (j : Int) (-1) 0 0 0)) 49) := ⟨_, rfl⟩); rw [← hU]; have hhU := Fact.mk (show U.heap[Y.heap.size]? = some (.cells (ocs (mkO (j : Int) (-1) 0 0 0)) 49 (0, 0)) from hU ▸ heap_alloc_new Y _); have hBU := Fact.mk (show Below V.heap.size V U from hU ▸ hBY.alloc hBY.size _); clear hY hU hBY)
                  | (go_at_call 15; refine (oneP (mkO (j : Int) (-1) 0 0 0) (mkO_fin _ _ _ _ _) U Y.heap.size (HTV.out.below hBU.out) _ hhU.out).mono ?_; rintro e w4 ⟨rfl, hb4⟩)
                  | (go_at_call 16; refine (oneR (mkO (j : Int) (-1) 0 0 0) (mkO_fin _ _ _ _ _) w4 Y.heap.size _ (keepH hhU.out hb4)).mono ?_; rintro e w5 ⟨rfl, hb5⟩; have hB5 := Fact.mk ((hBU.out.trans (hb4.mono hBU.out.size)).trans (hb5.mono (Nat.le_trans hBU.out.size hb4.size)))))
                have hz : (snds [(mkO (j : Int) (-1) 0 0 0)] != snds [(mkO (j : Int) (-1) 0 0 0)]) = false := bne_self_eq_false _
                go_wp2
                go_roundg k3
                case measure => omega
                case rel => exact ⟨1, by first | rfl | (congr 1; omega), ⟨by have := HN3.out; omega⟩, ⟨hB5.out⟩⟩
              · have hn0 : wr.heap.size = wr.heap.size := rfl
                have e0 := Fact.mk (cellOfE hE.out HB3.out 1)
                go_wp2_with (first
                  | ((with_reducible refine wpBuild (op := ⟨some 29, _, _, _, _, _⟩) rfl 49 _ rfl _ ?hvb (.agg (ocs (mkO (j : Int) 0 0 0 0))) (buildO (j : Int) _) ?_); (case hvb => kernel_rfl))
                  | (with_reducible refine wpAllocS (op := ⟨some 7, _, _, _, _, _⟩) rfl 49 rfl _ _ (hal.out _) ?_)
                  | ((with_reducible refine wpStoreS (op := ⟨none, .store 49 _ _, _, _, _, _⟩) rfl rfl 49 (.tmp 7) (.tmp 29) rfl _ _ ?hx1 ?hy1 _ (storeO (mkO (j : Int) 0 0 0 0) c0 hc0.out wr) ?_); (case hx1 => rfl); (case hy1 => rfl); (obtain ⟨W, hW⟩ : ∃ W, W = wr.alloc (.cells (ocs (mkO (j : Int) 0 0 0 0)) 49) := ⟨_, rfl⟩); rw [← hW]; have hh := Fact.mk (show W.heap[wr.heap.size]? = some (.cells (ocs (mkO (j : Int) 0 0 0 0)) 49 (0, 0)) from hW ▸ heap_alloc_new wr _); have hBW := Fact.mk (show Below V.heap.size V W from hW ▸ HB3.out.alloc HB3.out.size _); clear hW; have z1 : W.frozen? ⟨wr.heap.size, 1, none⟩ = false := Lib.frozen_of_heap hh.out 1; have z2 : W.cell? ⟨wr.heap.size, 1, none⟩ = some (.int .i64 0) := cellOfO hh.out 1 rfl; have z3 : W.cell? ⟨w2.heap.size, 1, none⟩ = some (.int .i64 0) := cellOfE hE.out hBW.out 1)
                  | ((with_reducible refine wpLoadBox (op := ⟨some 55, _, _, _, _, _⟩) rfl 49 (.tmp 7) rfl wr.heap.size ?hx2 (ocs (mkO (j : Int) 0 0 0 0)) 49 (0, 0) _ (setOf hh.out (setO0 (j : Int) 0)) Tryd.underlying49 ?hd2 (infoX _) ?_); (case hx2 => rfl); (case hd2 => rfl))
                  | ((with_reducible refine wpRowS (op := ⟨some 56, _, _, _, _, _⟩) rfl 40 1 _ rfl _ ?hv3 _ _ (rowO (mkO (j : Int) 0 0 0 0) _) ?_); (case hv3 => kernel_rfl); (obtain ⟨Y, hY⟩ : ∃ Y, Y = W.setCell ⟨wr.heap.size, 1, none⟩ (.int .i64 0) := ⟨_, rfl⟩); rw [← hY]; have hBY := hY ▸ Below.setCell hBW.out (p := ⟨wr.heap.size, 1, none⟩) HB3.out.size (.int .i64 0); (obtain ⟨U, hU⟩ : ∃ U, U = Y.alloc (.cells (ocs (mkO (j : Int) 0 0 0 0)) 49) := ⟨_, rfl⟩); rw [← hU]; have hhU := Fact.mk (show U.heap[Y.heap.size]? = some (.cells (ocs (mkO (j : Int) 0 0 0 0)) 49 (0, 0)) from hU ▸ heap_alloc_new Y _); have hBU := Fact.mk (show Below V.heap.size V U from hU ▸ hBY.alloc hBY.size _); clear hY hU hBY)
                  | (go_at_call 15; refine (oneP (mkO (j : Int) 0 0 0 0) (mkO_fin _ _ _ _ _) U Y.heap.size (HTV.out.below hBU.out) _ hhU.out).mono ?_; rintro e w4 ⟨rfl, hb4⟩)
                  | (go_at_call 16; refine (oneR (mkO (j : Int) 0 0 0 0) (mkO_fin _ _ _ _ _) w4 Y.heap.size _ (keepH hhU.out hb4)).mono ?_; rintro e w5 ⟨rfl, hb5⟩; have hB5 := Fact.mk ((hBU.out.trans (hb4.mono hBU.out.size)).trans (hb5.mono (Nat.le_trans hBU.out.size hb4.size)))))
                have hz : (snds [(mkO (j : Int) 0 0 0 0)] != snds [(mkO (j : Int) 0 0 0 0)]) = false := bne_self_eq_false _
                go_wp2
                go_roundg k3
                case measure => omega
                case rel => exact ⟨2, by first | rfl | (congr 1; omega), ⟨by have := HN3.out; omega⟩, ⟨hB5.out⟩⟩
              · have hn0 : wr.heap.size = wr.heap.size := rfl
                have e0 := Fact.mk (cellOfE hE.out HB3.out 2)
                go_wp2_with (first
                  | ((with_reducible refine wpBuild (op := ⟨some 29, _, _, _, _, _⟩) rfl 49 _ rfl _ ?hvb (.agg (ocs (mkO (j : Int) 0 0 0 0))) (buildO (j : Int) _) ?_); (case hvb => kernel_rfl))
                  | (with_reducible refine wpAllocS (op := ⟨some 7, _, _, _, _, _⟩) rfl 49 rfl _ _ (hal.out _) ?_)
                  | ((with_reducible refine wpStoreS (op := ⟨none, .store 49 _ _, _, _, _, _⟩) rfl rfl 49 (.tmp 7) (.tmp 29) rfl _ _ ?hx1 ?hy1 _ (storeO (mkO (j : Int) 0 0 0 0) c0 hc0.out wr) ?_); (case hx1 => rfl); (case hy1 => rfl); (obtain ⟨W, hW⟩ : ∃ W, W = wr.alloc (.cells (ocs (mkO (j : Int) 0 0 0 0)) 49) := ⟨_, rfl⟩); rw [← hW]; have hh := Fact.mk (show W.heap[wr.heap.size]? = some (.cells (ocs (mkO (j : Int) 0 0 0 0)) 49 (0, 0)) from hW ▸ heap_alloc_new wr _); have hBW := Fact.mk (show Below V.heap.size V W from hW ▸ HB3.out.alloc HB3.out.size _); clear hW; have z1 : W.frozen? ⟨wr.heap.size, 1, none⟩ = false := Lib.frozen_of_heap hh.out 1; have z2 : W.cell? ⟨wr.heap.size, 1, none⟩ = some (.int .i64 0) := cellOfO hh.out 1 rfl; have z3 : W.cell? ⟨w2.heap.size, 2, none⟩ = some (.int .i64 15) := cellOfE hE.out hBW.out 2)
                  | ((with_reducible refine wpLoadBox (op := ⟨some 55, _, _, _, _, _⟩) rfl 49 (.tmp 7) rfl wr.heap.size ?hx2 (ocs (mkO (j : Int) 15 0 0 0)) 49 (0, 0) _ (setOf hh.out (setO0 (j : Int) 15)) Tryd.underlying49 ?hd2 (infoX _) ?_); (case hx2 => rfl); (case hd2 => rfl))
                  | ((with_reducible refine wpRowS (op := ⟨some 56, _, _, _, _, _⟩) rfl 40 1 _ rfl _ ?hv3 _ _ (rowO (mkO (j : Int) 15 0 0 0) _) ?_); (case hv3 => kernel_rfl); (obtain ⟨Y, hY⟩ : ∃ Y, Y = W.setCell ⟨wr.heap.size, 1, none⟩ (.int .i64 15) := ⟨_, rfl⟩); rw [← hY]; have hBY := hY ▸ Below.setCell hBW.out (p := ⟨wr.heap.size, 1, none⟩) HB3.out.size (.int .i64 15); (obtain ⟨U, hU⟩ : ∃ U, U = Y.alloc (.cells (ocs (mkO (j : Int) 15 0 0 0)) 49) := ⟨_, rfl⟩); rw [← hU]; have hhU := Fact.mk (show U.heap[Y.heap.size]? = some (.cells (ocs (mkO (j : Int) 15 0 0 0)) 49 (0, 0)) from hU ▸ heap_alloc_new Y _); have hBU := Fact.mk (show Below V.heap.size V U from hU ▸ hBY.alloc hBY.size _); clear hY hU hBY)
                  | (go_at_call 15; refine (oneP (mkO (j : Int) 15 0 0 0) (mkO_fin _ _ _ _ _) U Y.heap.size (HTV.out.below hBU.out) _ hhU.out).mono ?_; rintro e w4 ⟨rfl, hb4⟩)
                  | (go_at_call 16; refine (oneR (mkO (j : Int) 15 0 0 0) (mkO_fin _ _ _ _ _) w4 Y.heap.size _ (keepH hhU.out hb4)).mono ?_; rintro e w5 ⟨rfl, hb5⟩; have hB5 := Fact.mk ((hBU.out.trans (hb4.mono hBU.out.size)).trans (hb5.mono (Nat.le_trans hBU.out.size hb4.size)))))
                have hz : (snds [(mkO (j : Int) 15 0 0 0)] != snds [(mkO (j : Int) 15 0 0 0)]) = false := bne_self_eq_false _
                go_wp2
                go_roundg k3
                case measure => omega
                case rel => exact ⟨3, by first | rfl | (congr 1; omega), ⟨by have := HN3.out; omega⟩, ⟨hB5.out⟩⟩
              · have hn0 : wr.heap.size = wr.heap.size := rfl
                have e0 := Fact.mk (cellOfE hE.out HB3.out 3)
                go_wp2_with (first
                  | ((with_reducible refine wpBuild (op := ⟨some 29, _, _, _, _, _⟩) rfl 49 _ rfl _ ?hvb (.agg (ocs (mkO (j : Int) 0 0 0 0))) (buildO (j : Int) _) ?_); (case hvb => kernel_rfl))
                  | (with_reducible refine wpAllocS (op := ⟨some 7, _, _, _, _, _⟩) rfl 49 rfl _ _ (hal.out _) ?_)
                  | ((with_reducible refine wpStoreS (op := ⟨none, .store 49 _ _, _, _, _, _⟩) rfl rfl 49 (.tmp 7) (.tmp 29) rfl _ _ ?hx1 ?hy1 _ (storeO (mkO (j : Int) 0 0 0 0) c0 hc0.out wr) ?_); (case hx1 => rfl); (case hy1 => rfl); (obtain ⟨W, hW⟩ : ∃ W, W = wr.alloc (.cells (ocs (mkO (j : Int) 0 0 0 0)) 49) := ⟨_, rfl⟩); rw [← hW]; have hh := Fact.mk (show W.heap[wr.heap.size]? = some (.cells (ocs (mkO (j : Int) 0 0 0 0)) 49 (0, 0)) from hW ▸ heap_alloc_new wr _); have hBW := Fact.mk (show Below V.heap.size V W from hW ▸ HB3.out.alloc HB3.out.size _); clear hW; have z1 : W.frozen? ⟨wr.heap.size, 1, none⟩ = false := Lib.frozen_of_heap hh.out 1; have z2 : W.cell? ⟨wr.heap.size, 1, none⟩ = some (.int .i64 0) := cellOfO hh.out 1 rfl; have z3 : W.cell? ⟨w2.heap.size, 3, none⟩ = some (.int .i64 16) := cellOfE hE.out hBW.out 3)
                  | ((with_reducible refine wpLoadBox (op := ⟨some 55, _, _, _, _, _⟩) rfl 49 (.tmp 7) rfl wr.heap.size ?hx2 (ocs (mkO (j : Int) 16 0 0 0)) 49 (0, 0) _ (setOf hh.out (setO0 (j : Int) 16)) Tryd.underlying49 ?hd2 (infoX _) ?_); (case hx2 => rfl); (case hd2 => rfl))
                  | ((with_reducible refine wpRowS (op := ⟨some 56, _, _, _, _, _⟩) rfl 40 1 _ rfl _ ?hv3 _ _ (rowO (mkO (j : Int) 16 0 0 0) _) ?_); (case hv3 => kernel_rfl); (obtain ⟨Y, hY⟩ : ∃ Y, Y = W.setCell ⟨wr.heap.size, 1, none⟩ (.int .i64 16) := ⟨_, rfl⟩); rw [← hY]; have hBY := hY ▸ Below.setCell hBW.out (p := ⟨wr.heap.size, 1, none⟩) HB3.out.size (.int .i64 16); (obtain ⟨U, hU⟩ : ∃ U, U = Y.alloc (.cells (ocs (mkO (j : Int) 16 0 0 0)) 49) := ⟨_, rfl⟩); rw [← hU]; have hhU := Fact.mk (show U.heap[Y.heap.size]? = some (.cells (ocs (mkO (j : Int) 16 0 0 0)) 49 (0, 0)) from hU ▸ heap_alloc_new Y _); have hBU := Fact.mk (show Below V.heap.size V U from hU ▸ hBY.alloc hBY.size _); clear hY hU hBY)
                  | (go_at_call 15; refine (oneP (mkO (j : Int) 16 0 0 0) (mkO_fin _ _ _ _ _) U Y.heap.size (HTV.out.below hBU.out) _ hhU.out).mono ?_; rintro e w4 ⟨rfl, hb4⟩)
                  | (go_at_call 16; refine (oneR (mkO (j : Int) 16 0 0 0) (mkO_fin _ _ _ _ _) w4 Y.heap.size _ (keepH hhU.out hb4)).mono ?_; rintro e w5 ⟨rfl, hb5⟩; have hB5 := Fact.mk ((hBU.out.trans (hb4.mono hBU.out.size)).trans (hb5.mono (Nat.le_trans hBU.out.size hb4.size)))))
                have hz : (snds [(mkO (j : Int) 16 0 0 0)] != snds [(mkO (j : Int) 16 0 0 0)]) = false := bne_self_eq_false _
                go_wp2
                go_roundg k3
                case measure => omega
                case rel => exact ⟨4, by first | rfl | (congr 1; omega), ⟨by have := HN3.out; omega⟩, ⟨hB5.out⟩⟩
            · go_wp2
              go_roundg k2
              case measure => omega
              case rel => exact ⟨0+1, by first | rfl | (congr 1; omega), ⟨by have := HN2.out; omega⟩, ⟨HB3.out⟩⟩
          · go_wp2
            go_loopg [6] 4 (fun kq v6 w' => ∃ (k : Nat), v6 = .int .i64 k ∧ Aside0 (k + kq = 4) ∧ Aside0 (Below V.heap.size V w'))
            case atStart => exact ⟨0, rfl, ⟨by omega⟩, ⟨HB2.out⟩⟩
            case round =>
            obtain ⟨k, rfl, HN3, HB3⟩ := hrel
            by_cases q3 : (k : Int) < (4 : Int)
            · cases gk with
              | zero => exact absurd HN3.out (by omega)
              | succ k3 =>
              have hk4 : k = 0 ∨ k = 1 ∨ k = 2 ∨ k = 3 := by omega
              clear q3
              rcases hk4 with rfl | rfl | rfl | rfl
              · have hn0 : wr.heap.size = wr.heap.size := rfl
                have e0 := Fact.mk (cellOfE hE.out HB3.out 0)
                go_wp2_with (first
                  | ((with_reducible refine wpBuild (op := ⟨some 29, _, _, _, _, _⟩) rfl 49 _ rfl _ ?hvb (.agg (ocs (mkO (j : Int) 0 0 0 0))) (buildO (j : Int) _) ?_); (case hvb => kernel_rfl))
                  | (with_reducible refine wpAllocS (op := ⟨some 7, _, _, _, _, _⟩) rfl 49 rfl _ _ (hal.out _) ?_)
                  | ((with_reducible refine wpStoreS (op := ⟨none, .store 49 _ _, _, _, _, _⟩) rfl rfl 49 (.tmp 7) (.tmp 29) rfl _ _ ?hx1 ?hy1 _ (storeO (mkO (j : Int) 0 0 0 0) c0 hc0.out wr) ?_); (case hx1 => rfl); (case hy1 => rfl); (obtain ⟨W, hW⟩ : ∃ W, W = wr.alloc (.cells (ocs (mkO (j : Int) 0 0 0 0)) 49) := ⟨_, rfl⟩); rw [← hW]; have hh := Fact.mk (show W.heap[wr.heap.size]? = some (.cells (ocs (mkO (j : Int) 0 0 0 0)) 49 (0, 0)) from hW ▸ heap_alloc_new wr _); have hBW := Fact.mk (show Below V.heap.size V W from hW ▸ HB3.out.alloc HB3.out.size _); clear hW; have z1 : W.frozen? ⟨wr.heap.size, 2, none⟩ = false := Lib.frozen_of_heap hh.out 2; have z2 : W.cell? ⟨wr.heap.size, 2, none⟩ = some (.int .i64 0) := cellOfO hh.out 2 rfl; have z3 : W.cell? ⟨w2.heap.size, 0, none⟩ = some (.int .i64 (-1)) := cellOfE hE.out hBW.out 0)
                  | ((with_reducible refine wpLoadBox (op := ⟨some 55, _, _, _, _, _⟩) rfl 49 (.tmp 7) rfl wr.heap.size ?hx2 (ocs (mkO (j : Int) 0 (-1) 0 0)) 49 (0, 0) _ (setOf hh.out (setO1 (j : Int) (-1))) Tryd.underlying49 ?hd2 (infoX _) ?_); (case hx2 => rfl); (case hd2 => rfl))
                  | ((with_reducible refine wpRowS (op := ⟨some 56, _, _, _, _, _⟩) rfl 40 1 _ rfl _ ?hv3 _ _ (rowO (mkO (j : Int) 0 (-1) 0 0) _) ?_); (case hv3 => kernel_rfl); (obtain ⟨Y, hY⟩ : ∃ Y, Y = W.setCell ⟨wr.heap.size, 2, none⟩ (.int .i64 (-1)) := ⟨_, rfl⟩); rw [← hY]; have hBY := hY ▸ Below.setCell hBW.out (p := ⟨wr.heap.size, 2, none⟩) HB3.out.size (.int .i64 (-1)); (obtain ⟨U, hU⟩ : ∃ U, U = Y.alloc (.cells (ocs (mkO (j : Int) 0 (-1) 0 0)) 49) := ⟨_, rfl⟩); rw [← hU]; have hhU := Fact.mk (show U.heap[Y.heap.size]? = some (.cells (ocs (mkO (j : Int) 0 (-1) 0 0)) 49 (0, 0)) from hU ▸ heap_alloc_new Y _); have hBU := Fact.mk (show Below V.heap.size V U from hU ▸ hBY.alloc hBY.size _); clear hY hU hBY)
                  | (go_at_call 15; refine (oneP (mkO (j : Int) 0 (-1) 0 0) (mkO_fin _ _ _ _ _) U Y.heap.size (HTV.out.below hBU.out) _ hhU.out).mono ?_; rintro e w4 ⟨rfl, hb4⟩)
                  | (go_at_call 16; refine (oneR (mkO (j : Int) 0 (-1) 0 0) (mkO_fin _ _ _ _ _) w4 Y.heap.size _ (keepH hhU.out hb4)).mono ?_; rintro e w5 ⟨rfl, hb5⟩; have hB5 := Fact.mk ((hBU.out.trans (hb4.mono hBU.out.size)).trans (hb5.mono (Nat.le_trans hBU.out.size hb4.size)))))
                have hz : (snds [(mkO (j : Int) 0 (-1) 0 0)] != snds [(mkO (j : Int) 0 (-1) 0 0)]) = false := bne_self_eq_false _
                go_wp2
                go_roundg k3
                case measure => omega
                case rel => exact ⟨1, by first | rfl | (congr 1; omega), ⟨by have := HN3.out; omega⟩, ⟨hB5.out⟩⟩
              · have hn0 : wr.heap.size = wr.heap.size := rfl
                have e0 := Fact.mk (cellOfE hE.out HB3.out 1)
                go_wp2_with (first
                  | ((with_reducible refine wpBuild (op := ⟨some 29, _, _, _, _, _⟩) rfl 49 _ rfl _ ?hvb (.agg (ocs (mkO (j : Int) 0 0 0 0))) (buildO (j : Int) _) ?_); (case hvb => kernel_rfl))
                  | (with_reducible refine wpAllocS (op := ⟨some 7, _, _, _, _, _⟩) rfl 49 rfl _ _ (hal.out _) ?_)
                  | ((with_reducible refine wpStoreS (op := ⟨none, .store 49 _ _, _, _, _, _⟩) rfl rfl 49 (.tmp 7) (.tmp 29) rfl _ _ ?hx1 ?hy1 _ (storeO (mkO (j : Int) 0 0 0 0) c0 hc0.out wr) ?_); (case hx1 => rfl); (case hy1 => rfl); (obtain ⟨W, hW⟩ : ∃ W, W = wr.alloc (.cells (ocs (mkO (j : Int) 0 0 0 0)) 49) := ⟨_, rfl⟩); rw [← hW]; have hh := Fact.mk (show W.heap[wr.heap.size]? = some (.cells (ocs (mkO (j : Int) 0 0 0 0)) 49 (0, 0)) from hW ▸ heap_alloc_new wr _); have hBW := Fact.mk (show Below V.heap.size V W from hW ▸ HB3.out.alloc HB3.out.size _); clear hW; have z1 : W.frozen? ⟨wr.heap.size, 2, none⟩ = false := Lib.frozen_of_heap hh.out 2; have z2 : W.cell? ⟨wr.heap.size, 2, none⟩ = some (.int .i64 0) := cellOfO hh.out 2 rfl; have z3 : W.cell? ⟨w2.heap.size, 1, none⟩ = some (.int .i64 0) := cellOfE hE.out hBW.out 1)
                  | ((with_reducible refine wpLoadBox (op := ⟨some 55, _, _, _, _, _⟩) rfl 49 (.tmp 7) rfl wr.heap.size ?hx2 (ocs (mkO (j : Int) 0 0 0 0)) 49 (0, 0) _ (setOf hh.out (setO1 (j : Int) 0)) Tryd.underlying49 ?hd2 (infoX _) ?_); (case hx2 => rfl); (case hd2 => rfl))
                  | ((with_reducible refine wpRowS (op := ⟨some 56, _, _, _, _, _⟩) rfl 40 1 _ rfl _ ?hv3 _ _ (rowO (mkO (j : Int) 0 0 0 0) _) ?_); (case hv3 => kernel_rfl); (obtain ⟨Y, hY⟩ : ∃ Y, Y = W.setCell ⟨wr.heap.size, 2, none⟩ (.int .i64 0) := ⟨_, rfl⟩); rw [← hY]; have hBY := hY ▸ Below.setCell hBW.out (p := ⟨wr.heap.size, 2, none⟩) HB3.out.size (.int .i64 0); (obtain ⟨U, hU⟩ : ∃ U, U = Y.alloc (.cells (ocs (mkO (j : Int) 0 0 0 0)) 49) := ⟨_, rfl⟩); rw [← hU]; have hhU := Fact.mk (show U.heap[Y.heap.size]? = some (.cells (ocs (mkO (j : Int) 0 0 0 0)) 49 (0, 0)) from hU ▸ heap_alloc_new Y _); have hBU := Fact.mk (show Below V.heap.size V U from hU ▸ hBY.alloc hBY.size _); clear hY hU hBY)
                  | (go_at_call 15; refine (oneP (mkO (j : Int) 0 0 0 0) (mkO_fin _ _ _ _ _) U Y.heap.size (HTV.out.below hBU.out) _ hhU.out).mono ?_; rintro e w4 ⟨rfl, hb4⟩)
                  | (go_at_call 16; refine (oneR (mkO (j : Int) 0 0 0 0) (mkO_fin _ _ _ _ _) w4 Y.heap.size _ (keepH hhU.out hb4)).mono ?_; rintro e w5 ⟨rfl, hb5⟩; have hB5 := Fact.mk ((hBU.out.trans (hb4.mono hBU.out.size)).trans (hb5.mono (Nat.le_trans hBU.out.size hb4.size)))))
                have hz : (snds [(mkO (j : Int) 0 0 0 0)] != snds [(mkO (j : Int) 0 0 0 0)]) = false := bne_self_eq_false _
                go_wp2
                go_roundg k3
                case measure => omega
                case rel => exact ⟨2, by first | rfl | (congr 1; omega), ⟨by have := HN3.out; omega⟩, ⟨hB5.out⟩⟩
              · have hn0 : wr.heap.size = wr.heap.size := rfl
                have e0 := Fact.mk (cellOfE hE.out HB3.out 2)
                go_wp2_with (first
                  | ((with_reducible refine wpBuild (op := ⟨some 29, _, _, _, _, _⟩) rfl 49 _ rfl _ ?hvb (.agg (ocs (mkO (j : Int) 0 0 0 0))) (buildO (j : Int) _) ?_); (case hvb => kernel_rfl))
                  | (with_reducible refine wpAllocS (op := ⟨some 7, _, _, _, _, _⟩) rfl 49 rfl _ _ (hal.out _) ?_)
                  | ((with_reducible refine wpStoreS (op := ⟨none, .store 49 _ _, _, _, _, _⟩) rfl rfl 49 (.tmp 7) (.tmp 29) rfl _ _ ?hx1 ?hy1 _ (storeO (mkO (j : Int) 0 0 0 0) c0 hc0.out wr) ?_); (case hx1 => rfl); (case hy1 => rfl); (obtain ⟨W, hW⟩ : ∃ W, W = wr.alloc (.cells (ocs (mkO (j : Int) 0 0 0 0)) 49) := ⟨_, rfl⟩); rw [← hW]; have hh := Fact.mk (show W.heap[wr.heap.size]? = some (.cells (ocs (mkO (j : Int) 0 0 0 0)) 49 (0, 0)) from hW ▸ heap_alloc_new wr _); have hBW := Fact.mk (show Below V.heap.size V W from hW ▸ HB3.out.alloc HB3.out.size _); clear hW; have z1 : W.frozen? ⟨wr.heap.size, 2, none⟩ = false := Lib.frozen_of_heap hh.out 2; have z2 : W.cell? ⟨wr.heap.size, 2, none⟩ = some (.int .i64 0) := cellOfO hh.out 2 rfl; have z3 : W.cell? ⟨w2.heap.size, 2, none⟩ = some (.int .i64 15) := cellOfE hE.out hBW.out 2)
                  | ((with_reducible refine wpLoadBox (op := ⟨some 55, _, _, _, _, _⟩) rfl 49 (.tmp 7) rfl wr.heap.size ?hx2 (ocs (mkO (j : Int) 0 15 0 0)) 49 (0, 0) _ (setOf hh.out (setO1 (j : Int) 15)) Tryd.underlying49 ?hd2 (infoX _) ?_); (case hx2 => rfl); (case hd2 => rfl))
                  | ((with_reducible refine wpRowS (op := ⟨some 56, _, _, _, _, _⟩) rfl 40 1 _ rfl _ ?hv3 _ _ (rowO (mkO (j : Int) 0 15 0 0) _) ?_); (case hv3 => kernel_rfl); (obtain ⟨Y, hY⟩ : ∃ Y, Y = W.setCell ⟨wr.heap.size, 2, none⟩ (.int .i64 15) := ⟨_, rfl⟩); rw [← hY]; have hBY := hY ▸ Below.setCell hBW.out (p := ⟨wr.heap.size, 2, none⟩) HB3.out.size (.int .i64 15); (obtain ⟨U, hU⟩ : ∃ U, U = Y.alloc (.cells (ocs (mkO (j : Int) 0 15 0 0)) 49) := ⟨_, rfl⟩); rw [← hU]; have hhU := Fact.mk (show U.heap[Y.heap.size]? = some (.cells (ocs (mkO (j : Int) 0 15 0 0)) 49 (0, 0)) from hU ▸ heap_alloc_new Y _); have hBU := Fact.mk (show Below V.heap.size V U from hU ▸ hBY.alloc hBY.size _); clear hY hU hBY)
                  | (go_at_call 15; refine (oneP (mkO (j : Int) 0 15 0 0) (mkO_fin _ _ _ _ _) U Y.heap.size (HTV.out.below hBU.out) _ hhU.out).mono ?_; rintro e w4 ⟨rfl, hb4⟩)
                  | (go_at_call 16; refine (oneR (mkO (j : Int) 0 15 0 0) (mkO_fin _ _ _ _ _) w4 Y.heap.size _ (keepH hhU.out hb4)).mono ?_; rintro e w5 ⟨rfl, hb5⟩; have hB5 := Fact.mk ((hBU.out.trans (hb4.mono hBU.out.size)).trans (hb5.mono (Nat.le_trans hBU.out.size hb4.size)))))
                have hz : (snds [(mkO (j : Int) 0 15 0 0)] != snds [(mkO (j : Int) 0 15 0 0)]) = false := bne_self_eq_false _
                go_wp2
                go_roundg k3
                case measure => omega
                case rel => exact ⟨3, by first | rfl | (congr 1; omega), ⟨by have := HN3.out; omega⟩, ⟨hB5.out⟩⟩
              · have hn0 : wr.heap.size = wr.heap.size := rfl
                have e0 := Fact.mk (cellOfE hE.out HB3.out 3)
                go_wp2_with (first
                  | ((with_reducible refine wpBuild (op := ⟨some 29, _, _, _, _, _⟩) rfl 49 _ rfl _ ?hvb (.agg (ocs (mkO (j : Int) 0 0 0 0))) (buildO (j : Int) _) ?_); (case hvb => kernel_rfl))
                  | (with_reducible refine wpAllocS (op := ⟨some 7, _, _, _, _, _⟩) rfl 49 rfl _ _ (hal.out _) ?_)
                  | ((with_reducible refine wpStoreS (op := ⟨none, .store 49 _ _, _, _, _, _⟩) rfl rfl 49 (.tmp 7) (.tmp 29) rfl _ _ ?hx1 ?hy1 _ (storeO (mkO (j : Int) 0 0 0 0) c0 hc0.out wr) ?_); (case hx1 => rfl); (case hy1 => rfl); (obtain ⟨W, hW⟩ : ∃ W, W = wr.alloc (.cells (ocs (mkO (j : Int) 0 0 0 0)) 49) := ⟨_, rfl⟩); rw [← hW]; have hh := Fact.mk (show W.heap[wr.heap.size]? = some (.cells (ocs (mkO (j : Int) 0 0 0 0)) 49 (0, 0)) from hW ▸ heap_alloc_new wr _); have hBW := Fact.mk (show Below V.heap.size V W from hW ▸ HB3.out.alloc HB3.out.size _); clear hW; have z1 : W.frozen? ⟨wr.heap.size, 2, none⟩ = false := Lib.frozen_of_heap hh.out 2; have z2 : W.cell? ⟨wr.heap.size, 2, none⟩ = some (.int .i64 0) := cellOfO hh.out 2 rfl; have z3 : W.cell? ⟨w2.heap.size, 3, none⟩ = some (.int .i64 16) := cellOfE hE.out hBW.out 3)
                  | ((with_reducible refine wpLoadBox (op := ⟨some 55, _, _, _, _, _⟩) rfl 49 (.tmp 7) rfl wr.heap.size ?hx2 (ocs (mkO (j : Int) 0 16 0 0)) 49 (0, 0) _ (setOf hh.out (setO1 (j : Int) 16)) Tryd.underlying49 ?hd2 (infoX _) ?_); (case hx2 => rfl); (case hd2 => rfl))
                  | ((with_reducible refine wpRowS (op := ⟨some 56, _, _, _, _, _⟩) rfl 40 1 _ rfl _ ?hv3 _ _ (rowO (mkO (j : Int) 0 16 0 0) _) ?_); (case hv3 => kernel_rfl); (obtain ⟨Y, hY⟩ : ∃ Y, Y = W.setCell ⟨wr.heap.size, 2, none⟩ (.int .i64 16) := ⟨_, rfl⟩); rw [← hY]; have hBY := hY ▸ Below.setCell hBW.out (p := ⟨wr.heap.size, 2, none⟩) HB3.out.size (.int .i64 16); (obtain ⟨U, hU⟩ : ∃ U, U = Y.alloc (.cells (ocs (mkO (j : Int) 0 16 0 0)) 49) := ⟨_, rfl⟩); rw [← hU]; have hhU := Fact.mk (show U.heap[Y.heap.size]? = some (.cells (ocs (mkO (j : Int) 0 16 0 0)) 49 (0, 0)) from hU ▸ heap_alloc_new Y _); have hBU := Fact.mk (show Below V.heap.size V U from hU ▸ hBY.alloc hBY.size _); clear hY hU hBY)
                  | (go_at_call 15; refine (oneP (mkO (j : Int) 0 16 0 0) (mkO_fin _ _ _ _ _) U Y.heap.size (HTV.out.below hBU.out) _ hhU.out).mono ?_; rintro e w4 ⟨rfl, hb4⟩)
                  | (go_at_call 16; refine (oneR (mkO (j : Int) 0 16 0 0) (mkO_fin _ _ _ _ _) w4 Y.heap.size _ (keepH hhU.out hb4)).mono ?_; rintro e w5 ⟨rfl, hb5⟩; have hB5 := Fact.mk ((hBU.out.trans (hb4.mono hBU.out.size)).trans (hb5.mono (Nat.le_trans hBU.out.size hb4.size)))))
                have hz : (snds [(mkO (j : Int) 0 16 0 0)] != snds [(mkO (j : Int) 0 16 0 0)]) = false := bne_self_eq_false _
                go_wp2
                go_roundg k3
                case measure => omega
                case rel => exact ⟨4, by first | rfl | (congr 1; omega), ⟨by have := HN3.out; omega⟩, ⟨hB5.out⟩⟩
            · go_wp2
              go_roundg k2
              case measure => omega
              case rel => exact ⟨1+1, by first | rfl | (congr 1; omega), ⟨by have := HN2.out; omega⟩, ⟨HB3.out⟩⟩
          · go_wp2
            go_loopg [6] 4 (fun kq v6 w' => ∃ (k : Nat), v6 = .int .i64 k ∧ Aside0 (k + kq = 4) ∧ Aside0 (Below V.heap.size V w'))
            case atStart => exact ⟨0, rfl, ⟨by omega⟩, ⟨HB2.out⟩⟩
            case round =>
            obtain ⟨k, rfl, HN3, HB3⟩ := hrel
            by_cases q3 : (k : Int) < (4 : Int)
            · cases gk with
              | zero => exact absurd HN3.out (by omega)
              | succ k3 =>
              have hk4 : k = 0 ∨ k = 1 ∨ k = 2 ∨ k = 3 := by omega
              clear q3
              rcases hk4 with rfl | rfl | rfl | rfl
              · have hn0 : wr.heap.size = wr.heap.size := rfl
                have e0 := Fact.mk (cellOfE hE.out HB3.out 0)
                go_wp2_with (first
                  | ((with_reducible refine wpBuild (op := ⟨some 29, _, _, _, _, _⟩) rfl 49 _ rfl _ ?hvb (.agg (ocs (mkO (j : Int) 0 0 0 0))) (buildO (j : Int) _) ?_); (case hvb => kernel_rfl))
                  | (with_reducible refine wpAllocS (op := ⟨some 7, _, _, _, _, _⟩) rfl 49 rfl _ _ (hal.out _) ?_)
                  | ((with_reducible refine wpStoreS (op := ⟨none, .store 49 _ _, _, _, _, _⟩) rfl rfl 49 (.tmp 7) (.tmp 29) rfl _ _ ?hx1 ?hy1 _ (storeO (mkO (j : Int) 0 0 0 0) c0 hc0.out wr) ?_); (case hx1 => rfl); (case hy1 => rfl); (obtain ⟨W, hW⟩ : ∃ W, W = wr.alloc (.cells (ocs (mkO (j : Int) 0 0 0 0)) 49) := ⟨_, rfl⟩); rw [← hW]; have hh := Fact.mk (show W.heap[wr.heap.size]? = some (.cells (ocs (mkO (j : Int) 0 0 0 0)) 49 (0, 0)) from hW ▸ heap_alloc_new wr _); have hBW := Fact.mk (show Below V.heap.size V W from hW ▸ HB3.out.alloc HB3.out.size _); clear hW; have z1 : W.frozen? ⟨wr.heap.size, 3, none⟩ = false := Lib.frozen_of_heap hh.out 3; have z2 : W.cell? ⟨wr.heap.size, 3, none⟩ = some (.int .i64 0) := cellOfO hh.out 3 rfl; have z3 : W.cell? ⟨w2.heap.size, 0, none⟩ = some (.int .i64 (-1)) := cellOfE hE.out hBW.out 0)
                  | ((with_reducible refine wpLoadBox (op := ⟨some 55, _, _, _, _, _⟩) rfl 49 (.tmp 7) rfl wr.heap.size ?hx2 (ocs (mkO (j : Int) 0 0 (-1) 0)) 49 (0, 0) _ (setOf hh.out (setO2 (j : Int) (-1))) Tryd.underlying49 ?hd2 (infoX _) ?_); (case hx2 => rfl); (case hd2 => rfl))
                  | ((with_reducible refine wpRowS (op := ⟨some 56, _, _, _, _, _⟩) rfl 40 1 _ rfl _ ?hv3 _ _ (rowO (mkO (j : Int) 0 0 (-1) 0) _) ?_); (case hv3 => kernel_rfl); (obtain ⟨Y, hY⟩ : ∃ Y, Y = W.setCell ⟨wr.heap.size, 3, none⟩ (.int .i64 (-1)) := ⟨_, rfl⟩); rw [← hY]; have hBY := hY ▸ Below.setCell hBW.out (p := ⟨wr.heap.size, 3, none⟩) HB3.out.size (.int .i64 (-1)); (obtain ⟨U, hU⟩ : ∃ U, U = Y.alloc (.cells (ocs (mkO (j : Int) 0 0 (-1) 0)) 49) := ⟨_, rfl⟩); rw [← hU]; have hhU := Fact.mk (show U.heap[Y.heap.size]? = some (.cells (ocs (mkO (j : Int) 0 0 (-1) 0)) 49 (0, 0)) from hU ▸ heap_alloc_new Y _); have hBU := Fact.mk (show Below V.heap.size V U from hU ▸ hBY.alloc hBY.size _); clear hY hU hBY)
                  | (go_at_call 15; refine (oneP (mkO (j : Int) 0 0 (-1) 0) (mkO_fin _ _ _ _ _) U Y.heap.size (HTV.out.below hBU.out) _ hhU.out).mono ?_; rintro e w4 ⟨rfl, hb4⟩)
                  | (go_at_call 16; refine (oneR (mkO (j : Int) 0 0 (-1) 0) (mkO_fin _ _ _ _ _) w4 Y.heap.size _ (keepH hhU.out hb4)).mono ?_; rintro e w5 ⟨rfl, hb5⟩; have hB5 := Fact.mk ((hBU.out.trans (hb4.mono hBU.out.size)).trans (hb5.mono (Nat.le_trans hBU.out.size hb4.size)))))
                have hz : (snds [(mkO (j : Int) 0 0 (-1) 0)] != snds [(mkO (j : Int) 0 0 (-1) 0)]) = false := bne_self_eq_false _
                go_wp2
                go_roundg k3
                case measure => omega
                case rel => exact ⟨1, by first | rfl | (congr 1; omega), ⟨by have := HN3.out; omega⟩, ⟨hB5.out⟩⟩
              · have hn0 : wr.heap.size = wr.heap.size := rfl
                have e0 := Fact.mk (cellOfE hE.out HB3.out 1)
                go_wp2_with (first
                  | ((with_reducible refine wpBuild (op := ⟨some 29, _, _, _, _, _⟩) rfl 49 _ rfl _ ?hvb (.agg (ocs (mkO (j : Int) 0 0 0 0))) (buildO (j : Int) _) ?_); (case hvb => kernel_rfl))
                  | (with_reducible refine wpAllocS (op := ⟨some 7, _, _, _, _, _⟩) rfl 49 rfl _ _ (hal.out _) ?_)
                  | ((with_reducible refine wpStoreS (op := ⟨none, .store 49 _ _, _, _, _, _⟩) rfl rfl 49 (.tmp 7) (.tmp 29) rfl _ _ ?hx1 ?hy1 _ (storeO (mkO (j : Int) 0 0 0 0) c0 hc0.out wr) ?_); (case hx1 => rfl); (case hy1 => rfl); (obtain ⟨W, hW⟩ : ∃ W, W = wr.alloc (.cells (ocs (mkO (j : Int) 0 0 0 0)) 49) := ⟨_, rfl⟩); rw [← hW]; have hh := Fact.mk (show W.heap[wr.heap.size]? = some (.cells (ocs (mkO (j : Int) 0 0 0 0)) 49 (0, 0)) from hW ▸ heap_alloc_new wr _); have hBW := Fact.mk (show Below V.heap.size V W from hW ▸ HB3.out.alloc HB3.out.size _); clear hW; have z1 : W.frozen? ⟨wr.heap.size, 3, none⟩ = false := Lib.frozen_of_heap hh.out 3; have z2 : W.cell? ⟨wr.heap.size, 3, none⟩ = some (.int .i64 0) := cellOfO hh.out 3 rfl; have z3 : W.cell? ⟨w2.heap.size, 1, none⟩ = some (.int .i64 0) := cellOfE hE.out hBW.out 1)
                  | ((with_reducible refine wpLoadBox (op := ⟨some 55, _, _, _, _, _⟩) rfl 49 (.tmp 7) rfl wr.heap.size ?hx2 (ocs (mkO (j : Int) 0 0 0 0)) 49 (0, 0) _ (setOf hh.out (setO2 (j : Int) 0)) Tryd.underlying49 ?hd2 (infoX _) ?_); (case hx2 => rfl); (case hd2 => rfl))
                  | ((with_reducible refine wpRowS (op := ⟨some 56, _, _, _, _, _⟩) rfl 40 1 _ rfl _ ?hv3 _ _ (rowO (mkO (j : Int) 0 0 0 0) _) ?_); (case hv3 => kernel_rfl); (obtain ⟨Y, hY⟩ : ∃ Y, Y = W.setCell ⟨wr.heap.size, 3, none⟩ (.int .i64 0) := ⟨_, rfl⟩); rw [← hY]; have hBY := hY ▸ Below.setCell hBW.out (p := ⟨wr.heap.size, 3, none⟩) HB3.out.size (.int .i64 0); (obtain ⟨U, hU⟩ : ∃ U, U = Y.alloc (.cells (ocs (mkO (j : Int) 0 0 0 0)) 49) := ⟨_, rfl⟩); rw [← hU]; have hhU := Fact.mk (show U.heap[Y.heap.size]? = some (.cells (ocs (mkO (j : Int) 0 0 0 0)) 49 (0, 0)) from hU ▸ heap_alloc_new Y _); have hBU := Fact.mk (show Below V.heap.size V U from hU ▸ hBY.alloc hBY.size _); clear hY hU hBY)
                  | (go_at_call 15; refine (oneP (mkO (j : Int) 0 0 0 0) (mkO_fin _ _ _ _ _) U Y.heap.size (HTV.out.below hBU.out) _ hhU.out).mono ?_; rintro e w4 ⟨rfl, hb4⟩)
                  | (go_at_call 16; refine (oneR (mkO (j : Int) 0 0 0 0) (mkO_fin _ _ _ _ _) w4 Y.heap.size _ (keepH hhU.out hb4)).mono ?_; rintro e w5 ⟨rfl, hb5⟩; have hB5 := Fact.mk ((hBU.out.trans (hb4.mono hBU.out.size)).trans (hb5.mono (Nat.le_trans hBU.out.size hb4.size)))))
                have hz : (snds [(mkO (j : Int) 0 0 0 0)] != snds [(mkO (j : Int) 0 0 0 0)]) = false := bne_self_eq_false _
                go_wp2
                go_roundg k3
                case measure => omega
                case rel => exact ⟨2, by first | rfl | (congr 1; omega), ⟨by have := HN3.out; omega⟩, ⟨hB5.out⟩⟩
              · have hn0 : wr.heap.size = wr.heap.size := rfl
                have e0 := Fact.mk (cellOfE hE.out HB3.out 2)
                go_wp2_with (first
                  | ((with_reducible refine wpBuild (op := ⟨some 29, _, _, _, _, _⟩) rfl 49 _ rfl _ ?hvb (.agg (ocs (mkO (j : Int) 0 0 0 0))) (buildO (j : Int) _) ?_); (case hvb => kernel_rfl))
                  | (with_reducible refine wpAllocS (op := ⟨some 7, _, _, _, _, _⟩) rfl 49 rfl _ _ (hal.out _) ?_)
                  | ((with_reducible refine wpStoreS (op := ⟨none, .store 49 _ _, _, _, _, _⟩) rfl rfl 49 (.tmp 7) (.tmp 29) rfl _ _ ?hx1 ?hy1 _ (storeO (mkO (j : Int) 0 0 0 0) c0 hc0.out wr) ?_); (case hx1 => rfl); (case hy1 => rfl); (obtain ⟨W, hW⟩ : ∃ W, W = wr.alloc (.cells (ocs (mkO (j : Int) 0 0 0 0)) 49) := ⟨_, rfl⟩); rw [← hW]; have hh := Fact.mk (show W.heap[wr.heap.size]? = some (.cells (ocs (mkO (j : Int) 0 0 0 0)) 49 (0, 0)) from hW ▸ heap_alloc_new wr _); have hBW := Fact.mk (show Below V.heap.size V W from hW ▸ HB3.out.alloc HB3.out.size _); clear hW; have z1 : W.frozen? ⟨wr.heap.size, 3, none⟩ = false := Lib.frozen_of_heap hh.out 3; have z2 : W.cell? ⟨wr.heap.size, 3, none⟩ = some (.int .i64 0) := cellOfO hh.out 3 rfl; have z3 : W.cell? ⟨w2.heap.size, 2, none⟩ = some (.int .i64 15) := cellOfE hE.out hBW.out 2)
                  | ((with_reducible refine wpLoadBox (op := ⟨some 55, _, _, _, _, _⟩) rfl 49 (.tmp 7) rfl wr.heap.size ?hx2 (ocs (mkO (j : Int) 0 0 15 0)) 49 (0, 0) _ (setOf hh.out (setO2 (j : Int) 15)) Tryd.underlying49 ?hd2 (infoX _) ?_); (case hx2 => rfl); (case hd2 => rfl))
                  | ((with_reducible refine wpRowS (op := ⟨some 56, _, _, _, _, _⟩) rfl 40 1 _ rfl _ ?hv3 _ _ (rowO (mkO (j : Int) 0 0 15 0) _) ?_); (case hv3 => kernel_rfl); (obtain ⟨Y, hY⟩ : ∃ Y, Y = W.setCell ⟨wr.heap.size, 3, none⟩ (.int .i64 15) := ⟨_, rfl⟩); rw [← hY]; have hBY := hY ▸ Below.setCell hBW.out (p := ⟨wr.heap.size, 3, none⟩) HB3.out.size (.int .i64 15); (obtain ⟨U, hU⟩ : ∃ U, U = Y.alloc (.cells (ocs (mkO (j : Int) 0 0 15 0)) 49) := ⟨_, rfl⟩); rw [← hU]; have hhU := Fact.mk (show U.heap[Y.heap.size]? = some (.cells (ocs (mkO (j : Int) 0 0 15 0)) 49 (0, 0)) from hU ▸ heap_alloc_new Y _); have hBU := Fact.mk (show Below V.heap.size V U from hU ▸ hBY.alloc hBY.size _); clear hY hU hBY)
                  | (go_at_call 15; refine (oneP (mkO (j : Int) 0 0 15 0) (mkO_fin _ _ _ _ _) U Y.heap.size (HTV.out.below hBU.out) _ hhU.out).mono ?_; rintro e w4 ⟨rfl, hb4⟩)
                  | (go_at_call 16; refine (oneR (mkO (j : Int) 0 0 15 0) (mkO_fin _ _ _ _ _) w4 Y.heap.size _ (keepH hhU.out hb4)).mono ?_; rintro e w5 ⟨rfl, hb5⟩; have hB5 := Fact.mk ((hBU.out.trans (hb4.mono hBU.out.size)).trans (hb5.mono (Nat.le_trans hBU.out.size hb4.size)))))
                have hz : (snds [(mkO (j : Int) 0 0 15 0)] != snds [(mkO (j : Int) 0 0 15 0)]) = false := bne_self_eq_false _
                go_wp2
                go_roundg k3
                case measure => omega
                case rel => exact ⟨3, by first | rfl | (congr 1; omega), ⟨by have := HN3.out; omega⟩, ⟨hB5.out⟩⟩
              · have hn0 : wr.heap.size = wr.heap.size := rfl
                have e0 := Fact.mk (cellOfE hE.out HB3.out 3)
                go_wp2_with (first
                  | ((with_reducible refine wpBuild (op := ⟨some 29, _, _, _, _, _⟩) rfl 49 _ rfl _ ?hvb (.agg (ocs (mkO (j : Int) 0 0 0 0))) (buildO (j : Int) _) ?_); (case hvb => kernel_rfl))
                  | (with_reducible refine wpAllocS (op := ⟨some 7, _, _, _, _, _⟩) rfl 49 rfl _ _ (hal.out _) ?_)
                  | ((with_reducible refine wpStoreS (op := ⟨none, .store 49 _ _, _, _, _, _⟩) rfl rfl 49 (.tmp 7) (.tmp 29) rfl _ _ ?hx1 ?hy1 _ (storeO (mkO (j : Int) 0 0 0 0) c0 hc0.out wr) ?_); (case hx1 => rfl); (case hy1 => rfl); (obtain ⟨W, hW⟩ : ∃ W, W = wr.alloc (.cells (ocs (mkO (j : Int) 0 0 0 0)) 49) := ⟨_, rfl⟩); rw [← hW]; have hh := Fact.mk (show W.heap[wr.heap.size]? = some (.cells (ocs (mkO (j : Int) 0 0 0 0)) 49 (0, 0)) from hW ▸ heap_alloc_new wr _); have hBW := Fact.mk (show Below V.heap.size V W from hW ▸ HB3.out.alloc HB3.out.size _); clear hW; have z1 : W.frozen? ⟨wr.heap.size, 3, none⟩ = false := Lib.frozen_of_heap hh.out 3; have z2 : W.cell? ⟨wr.heap.size, 3, none⟩ = some (.int .i64 0) := cellOfO hh.out 3 rfl; have z3 : W.cell? ⟨w2.heap.size, 3, none⟩ = some (.int .i64 16) := cellOfE hE.out hBW.out 3)
                  | ((with_reducible refine wpLoadBox (op := ⟨some 55, _, _, _, _, _⟩) rfl 49 (.tmp 7) rfl wr.heap.size ?hx2 (ocs (mkO (j : Int) 0 0 16 0)) 49 (0, 0) _ (setOf hh.out (setO2 (j : Int) 16)) Tryd.underlying49 ?hd2 (infoX _) ?_); (case hx2 => rfl); (case hd2 => rfl))
                  | ((with_reducible refine wpRowS (op := ⟨some 56, _, _, _, _, _⟩) rfl 40 1 _ rfl _ ?hv3 _ _ (rowO (mkO (j : Int) 0 0 16 0) _) ?_); (case hv3 => kernel_rfl); (obtain ⟨Y, hY⟩ : ∃ Y, Y = W.setCell ⟨wr.heap.size, 3, none⟩ (.int .i64 16) := ⟨_, rfl⟩); rw [← hY]; have hBY := hY ▸ Below.setCell hBW.out (p := ⟨wr.heap.size, 3, none⟩) HB3.out.size (.int .i64 16); (obtain ⟨U, hU⟩ : ∃ U, U = Y.alloc (.cells (ocs (mkO (j : Int) 0 0 16 0)) 49) := ⟨_, rfl⟩); rw [← hU]; have hhU := Fact.mk (show U.heap[Y.heap.size]? = some (.cells (ocs (mkO (j : Int) 0 0 16 0)) 49 (0, 0)) from hU ▸ heap_alloc_new Y _); have hBU := Fact.mk (show Below V.heap.size V U from hU ▸ hBY.alloc hBY.size _); clear hY hU hBY)
                  | (go_at_call 15; refine (oneP (mkO (j : Int) 0 0 16 0) (mkO_fin _ _ _ _ _) U Y.heap.size (HTV.out.below hBU.out) _ hhU.out).mono ?_; rintro e w4 ⟨rfl, hb4⟩)
                  | (go_at_call 16; refine (oneR (mkO (j : Int) 0 0 16 0) (mkO_fin _ _ _ _ _) w4 Y.heap.size _ (keepH hhU.out hb4)).mono ?_; rintro e w5 ⟨rfl, hb5⟩; have hB5 := Fact.mk ((hBU.out.trans (hb4.mono hBU.out.size)).trans (hb5.mono (Nat.le_trans hBU.out.size hb4.size)))))
                have hz : (snds [(mkO (j : Int) 0 0 16 0)] != snds [(mkO (j : Int) 0 0 16 0)]) = false := bne_self_eq_false _
                go_wp2
                go_roundg k3
                case measure => omega
                case rel => exact ⟨4, by first | rfl | (congr 1; omega), ⟨by have := HN3.out; omega⟩, ⟨hB5.out⟩⟩
            · go_wp2
              go_roundg k2
              case measure => omega
              case rel => exact ⟨2+1, by first | rfl | (congr 1; omega), ⟨by have := HN2.out; omega⟩, ⟨HB3.out⟩⟩
          · go_wp2
            go_loopg [6] 4 (fun kq v6 w' => ∃ (k : Nat), v6 = .int .i64 k ∧ Aside0 (k + kq = 4) ∧ Aside0 (Below V.heap.size V w'))
            case atStart => exact ⟨0, rfl, ⟨by omega⟩, ⟨HB2.out⟩⟩
            case round =>
            obtain ⟨k, rfl, HN3, HB3⟩ := hrel
            by_cases q3 : (k : Int) < (4 : Int)
            · cases gk with
              | zero => exact absurd HN3.out (by omega)
              | succ k3 =>
              have hk4 : k = 0 ∨ k = 1 ∨ k = 2 ∨ k = 3 := by omega
              clear q3
              rcases hk4 with rfl | rfl | rfl | rfl
              · have hn0 : wr.heap.size = wr.heap.size := rfl
                have e0 := Fact.mk (cellOfE hE.out HB3.out 0)
                go_wp2_with (first
                  | ((with_reducible refine wpBuild (op := ⟨some 29, _, _, _, _, _⟩) rfl 49 _ rfl _ ?hvb (.agg (ocs (mkO (j : Int) 0 0 0 0))) (buildO (j : Int) _) ?_); (case hvb => kernel_rfl))
                  | (with_reducible refine wpAllocS (op := ⟨some 7, _, _, _, _, _⟩) rfl 49 rfl _ _ (hal.out _) ?_)
                  | ((with_reducible refine wpStoreS (op := ⟨none, .store 49 _ _, _, _, _, _⟩) rfl rfl 49 (.tmp 7) (.tmp 29) rfl _ _ ?hx1 ?hy1 _ (storeO (mkO (j : Int) 0 0 0 0) c0 hc0.out wr) ?_); (case hx1 => rfl); (case hy1 => rfl); (obtain ⟨W, hW⟩ : ∃ W, W = wr.alloc (.cells (ocs (mkO (j : Int) 0 0 0 0)) 49) := ⟨_, rfl⟩); rw [← hW]; have hh := Fact.mk (show W.heap[wr.heap.size]? = some (.cells (ocs (mkO (j : Int) 0 0 0 0)) 49 (0, 0)) from hW ▸ heap_alloc_new wr _); have hBW := Fact.mk (show Below V.heap.size V W from hW ▸ HB3.out.alloc HB3.out.size _); clear hW; have z1 : W.frozen? ⟨wr.heap.size, 4, none⟩ = false := Lib.frozen_of_heap hh.out 4; have z2 : W.cell? ⟨wr.heap.size, 4, none⟩ = some (.int .i64 0) := cellOfO hh.out 4 rfl; have z3 : W.cell? ⟨w2.heap.size, 0, none⟩ = some (.int .i64 (-1)) := cellOfE hE.out hBW.out 0)
                  | ((with_reducible refine wpLoadBox (op := ⟨some 55, _, _, _, _, _⟩) rfl 49 (.tmp 7) rfl wr.heap.size ?hx2 (ocs (mkO (j : Int) 0 0 0 (-1))) 49 (0, 0) _ (setOf hh.out (setO3 (j : Int) (-1))) Tryd.underlying49 ?hd2 (infoX _) ?_); (case hx2 => rfl); (case hd2 => rfl))
                  | ((with_reducible refine wpRowS (op := ⟨some 56, _, _, _, _, _⟩) rfl 40 1 _ rfl _ ?hv3 _ _ (rowO (mkO (j : Int) 0 0 0 (-1)) _) ?_); (case hv3 => kernel_rfl); (obtain ⟨Y, hY⟩ : ∃ Y, Y = W.setCell ⟨wr.heap.size, 4, none⟩ (.int .i64 (-1)) := ⟨_, rfl⟩); rw [← hY]; have hBY := hY ▸ Below.setCell hBW.out (p := ⟨wr.heap.size, 4, none⟩) HB3.out.size (.int .i64 (-1)); (obtain ⟨U, hU⟩ : ∃ U, U = Y.alloc (.cells (ocs (mkO (j : Int) 0 0 0 (-1))) 49) := ⟨_, rfl⟩); rw [← hU]; have hhU := Fact.mk (show U.heap[Y.heap.size]? = some (.cells (ocs (mkO (j : Int) 0 0 0 (-1))) 49 (0, 0)) from hU ▸ heap_alloc_new Y _); have hBU := Fact.mk (show Below V.heap.size V U from hU ▸ hBY.alloc hBY.size _); clear hY hU hBY)
                  | (go_at_call 15; refine (oneP (mkO (j : Int) 0 0 0 (-1)) (mkO_fin _ _ _ _ _) U Y.heap.size (HTV.out.below hBU.out) _ hhU.out).mono ?_; rintro e w4 ⟨rfl, hb4⟩)
                  | (go_at_call 16; refine (oneR (mkO (j : Int) 0 0 0 (-1)) (mkO_fin _ _ _ _ _) w4 Y.heap.size _ (keepH hhU.out hb4)).mono ?_; rintro e w5 ⟨rfl, hb5⟩; have hB5 := Fact.mk ((hBU.out.trans (hb4.mono hBU.out.size)).trans (hb5.mono (Nat.le_trans hBU.out.size hb4.size)))))
                have hz : (snds [(mkO (j : Int) 0 0 0 (-1))] != snds [(mkO (j : Int) 0 0 0 (-1))]) = false := bne_self_eq_false _
                go_wp2
                go_roundg k3
                case measure => omega
                case rel => exact ⟨1, by first | rfl | (congr 1; omega), ⟨by have := HN3.out; omega⟩, ⟨hB5.out⟩⟩
              · have hn0 : wr.heap.size = wr.heap.size := rfl
                have e0 := Fact.mk (cellOfE hE.out HB3.out 1)
                go_wp2_with (first
                  | ((with_reducible refine wpBuild (op := ⟨some 29, _, _, _, _, _⟩) rfl 49 _ rfl _ ?hvb (.agg (ocs (mkO (j : Int) 0 0 0 0))) (buildO (j : Int) _) ?_); (case hvb => kernel_rfl))
                  | (with_reducible refine wpAllocS (op := ⟨some 7, _, _, _, _, _⟩) rfl 49 rfl _ _ (hal.out _) ?_)
                  | ((with_reducible refine wpStoreS (op := ⟨none, .store 49 _ _, _, _, _, _⟩) rfl rfl 49 (.tmp 7) (.tmp 29) rfl _ _ ?hx1 ?hy1 _ (storeO (mkO (j : Int) 0 0 0 0) c0 hc0.out wr) ?_); (case hx1 => rfl); (case hy1 => rfl); (obtain ⟨W, hW⟩ : ∃ W, W = wr.alloc (.cells (ocs (mkO (j : Int) 0 0 0 0)) 49) := ⟨_, rfl⟩); rw [← hW]; have hh := Fact.mk (show W.heap[wr.heap.size]? = some (.cells (ocs (mkO (j : Int) 0 0 0 0)) 49 (0, 0)) from hW ▸ heap_alloc_new wr _); have hBW := Fact.mk (show Below V.heap.size V W from hW ▸ HB3.out.alloc HB3.out.size _); clear hW; have z1 : W.frozen? ⟨wr.heap.size, 4, none⟩ = false := Lib.frozen_of_heap hh.out 4; have z2 : W.cell? ⟨wr.heap.size, 4, none⟩ = some (.int .i64 0) := cellOfO hh.out 4 rfl; have z3 : W.cell? ⟨w2.heap.size, 1, none⟩ = some (.int .i64 0) := cellOfE hE.out hBW.out 1)
                  | ((with_reducible refine wpLoadBox (op := ⟨some 55, _, _, _, _, _⟩) rfl 49 (.tmp 7) rfl wr.heap.size ?hx2 (ocs (mkO (j : Int) 0 0 0 0)) 49 (0, 0) _ (setOf hh.out (setO3 (j : Int) 0)) Tryd.underlying49 ?hd2 (infoX _) ?_); (case hx2 => rfl); (case hd2 => rfl))
                  | ((with_reducible refine wpRowS (op := ⟨some 56, _, _, _, _, _⟩) rfl 40 1 _ rfl _ ?hv3 _ _ (rowO (mkO (j : Int) 0 0 0 0) _) ?_); (case hv3 => kernel_rfl); (obtain ⟨Y, hY⟩ : ∃ Y, Y = W.setCell ⟨wr.heap.size, 4, none⟩ (.int .i64 0) := ⟨_, rfl⟩); rw [← hY]; have hBY := hY ▸ Below.setCell hBW.out (p := ⟨wr.heap.size, 4, none⟩) HB3.out.size (.int .i64 0); (obtain ⟨U, hU⟩ : ∃ U, U = Y.alloc (.cells (ocs (mkO (j : Int) 0 0 0 0)) 49) := ⟨_, rfl⟩); rw [← hU]; have hhU := Fact.mk (show U.heap[Y.heap.size]? = some (.cells (ocs (mkO (j : Int) 0 0 0 0)) 49 (0, 0)) from hU ▸ heap_alloc_new Y _); have hBU := Fact.mk (show Below V.heap.size V U from hU ▸ hBY.alloc hBY.size _); clear hY hU hBY)
                  | (go_at_call 15; refine (oneP (mkO (j : Int) 0 0 0 0) (mkO_fin _ _ _ _ _) U Y.heap.size (HTV.out.below hBU.out) _ hhU.out).mono ?_; rintro e w4 ⟨rfl, hb4⟩)
                  | (go_at_call 16; refine (oneR (mkO (j : Int) 0 0 0 0) (mkO_fin _ _ _ _ _) w4 Y.heap.size _ (keepH hhU.out hb4)).mono ?_; rintro e w5 ⟨rfl, hb5⟩; have hB5 := Fact.mk ((hBU.out.trans (hb4.mono hBU.out.size)).trans (hb5.mono (Nat.le_trans hBU.out.size hb4.size)))))
                have hz : (snds [(mkO (j : Int) 0 0 0 0)] != snds [(mkO (j : Int) 0 0 0 0)]) = false := bne_self_eq_false _
                go_wp2
                go_roundg k3
                case measure => omega
                case rel => exact ⟨2, by first | rfl | (congr 1; omega), ⟨by have := HN3.out; omega⟩, ⟨hB5.out⟩⟩
              · have hn0 : wr.heap.size = wr.heap.size := rfl
                have e0 := Fact.mk (cellOfE hE.out HB3.out 2)
                go_wp2_with (first
                  | ((with_reducible refine wpBuild (op := ⟨some 29, _, _, _, _, _⟩) rfl 49 _ rfl _ ?hvb (.agg (ocs (mkO (j : Int) 0 0 0 0))) (buildO (j : Int) _) ?_); (case hvb => kernel_rfl))
                  | (with_reducible refine wpAllocS (op := ⟨some 7, _, _, _, _, _⟩) rfl 49 rfl _ _ (hal.out _) ?_)
                  | ((with_reducible refine wpStoreS (op := ⟨none, .store 49 _ _, _, _, _, _⟩) rfl rfl 49 (.tmp 7) (.tmp 29) rfl _ _ ?hx1 ?hy1 _ (storeO (mkO (j : Int) 0 0 0 0) c0 hc0.out wr) ?_); (case hx1 => rfl); (case hy1 => rfl); (obtain ⟨W, hW⟩ : ∃ W, W = wr.alloc (.cells (ocs (mkO (j : Int) 0 0 0 0)) 49) := ⟨_, rfl⟩); rw [← hW]; have hh := Fact.mk (show W.heap[wr.heap.size]? = some (.cells (ocs (mkO (j : Int) 0 0 0 0)) 49 (0, 0)) from hW ▸ heap_alloc_new wr _); have hBW := Fact.mk (show Below V.heap.size V W from hW ▸ HB3.out.alloc HB3.out.size _); clear hW; have z1 : W.frozen? ⟨wr.heap.size, 4, none⟩ = false := Lib.frozen_of_heap hh.out 4; have z2 : W.cell? ⟨wr.heap.size, 4, none⟩ = some (.int .i64 0) := cellOfO hh.out 4 rfl; have z3 : W.cell? ⟨w2.heap.size, 2, none⟩ = some (.int .i64 15) := cellOfE hE.out hBW.out 2)
                  | ((with_reducible refine wpLoadBox (op := ⟨some 55, _, _, _, _, _⟩) rfl 49 (.tmp 7) rfl wr.heap.size ?hx2 (ocs (mkO (j : Int) 0 0 0 15)) 49 (0, 0) _ (setOf hh.out (setO3 (j : Int) 15)) Tryd.underlying49 ?hd2 (infoX _) ?_); (case hx2 => rfl); (case hd2 => rfl))
                  | ((with_reducible refine wpRowS (op := ⟨some 56, _, _, _, _, _⟩) rfl 40 1 _ rfl _ ?hv3 _ _ (rowO (mkO (j : Int) 0 0 0 15) _) ?_); (case hv3 => kernel_rfl); (obtain ⟨Y, hY⟩ : ∃ Y, Y = W.setCell ⟨wr.heap.size, 4, none⟩ (.int .i64 15) := ⟨_, rfl⟩); rw [← hY]; have hBY := hY ▸ Below.setCell hBW.out (p := ⟨wr.heap.size, 4, none⟩) HB3.out.size (.int .i64 15); (obtain ⟨U, hU⟩ : ∃ U, U = Y.alloc (.cells (ocs (mkO (j : Int) 0 0 0 15)) 49) := ⟨_, rfl⟩); rw [← hU]; have hhU := Fact.mk (show U.heap[Y.heap.size]? = some (.cells (ocs (mkO (j : Int) 0 0 0 15)) 49 (0, 0)) from hU ▸ heap_alloc_new Y _); have hBU := Fact.mk (show Below V.heap.size V U from hU ▸ hBY.alloc hBY.size _); clear hY hU hBY)
                  | (go_at_call 15; refine (oneP (mkO (j : Int) 0 0 0 15) (mkO_fin _ _ _ _ _) U Y.heap.size (HTV.out.below hBU.out) _ hhU.out).mono ?_; rintro e w4 ⟨rfl, hb4⟩)
                  | (go_at_call 16; refine (oneR (mkO (j : Int) 0 0 0 15) (mkO_fin _ _ _ _ _) w4 Y.heap.size _ (keepH hhU.out hb4)).mono ?_; rintro e w5 ⟨rfl, hb5⟩; have hB5 := Fact.mk ((hBU.out.trans (hb4.mono hBU.out.size)).trans (hb5.mono (Nat.le_trans hBU.out.size hb4.size)))))
                have hz : (snds [(mkO (j : Int) 0 0 0 15)] != snds [(mkO (j : Int) 0 0 0 15)]) = false := bne_self_eq_false _
                go_wp2
                go_roundg k3
                case measure => omega
                case rel => exact ⟨3, by first | rfl | (congr 1; omega), ⟨by have := HN3.out; omega⟩, ⟨hB5.out⟩⟩
              · have hn0 : wr.heap.size = wr.heap.size := rfl
                have e0 := Fact.mk (cellOfE hE.out HB3.out 3)
                go_wp2_with (first
                  | ((with_reducible refine wpBuild (op := ⟨some 29, _, _, _, _, _⟩) rfl 49 _ rfl _ ?hvb (.agg (ocs (mkO (j : Int) 0 0 0 0))) (buildO (j : Int) _) ?_); (case hvb => kernel_rfl))
                  | (with_reducible refine wpAllocS (op := ⟨some 7, _, _, _, _, _⟩) rfl 49 rfl _ _ (hal.out _) ?_)
                  | ((with_reducible refine wpStoreS (op := ⟨none, .store 49 _ _, _, _, _, _⟩) rfl rfl 49 (.tmp 7) (.tmp 29) rfl _ _ ?hx1 ?hy1 _ (storeO (mkO (j : Int) 0 0 0 0) c0 hc0.out wr) ?_); (case hx1 => rfl); (case hy1 => rfl); (obtain ⟨W, hW⟩ : ∃ W, W = wr.alloc (.cells (ocs (mkO (j : Int) 0 0 0 0)) 49) := ⟨_, rfl⟩); rw [← hW]; have hh := Fact.mk (show W.heap[wr.heap.size]? = some (.cells (ocs (mkO (j : Int) 0 0 0 0)) 49 (0, 0)) from hW ▸ heap_alloc_new wr _); have hBW := Fact.mk (show Below V.heap.size V W from hW ▸ HB3.out.alloc HB3.out.size _); clear hW; have z1 : W.frozen? ⟨wr.heap.size, 4, none⟩ = false := Lib.frozen_of_heap hh.out 4; have z2 : W.cell? ⟨wr.heap.size, 4, none⟩ = some (.int .i64 0) := cellOfO hh.out 4 rfl; have z3 : W.cell? ⟨w2.heap.size, 3, none⟩ = some (.int .i64 16) := cellOfE hE.out hBW.out 3)
                  | ((with_reducible refine wpLoadBox (op := ⟨some 55, _, _, _, _, _⟩) rfl 49 (.tmp 7) rfl wr.heap.size ?hx2 (ocs (mkO (j : Int) 0 0 0 16)) 49 (0, 0) _ (setOf hh.out (setO3 (j : Int) 16)) Tryd.underlying49 ?hd2 (infoX _) ?_); (case hx2 => rfl); (case hd2 => rfl))
                  | ((with_reducible refine wpRowS (op := ⟨some 56, _, _, _, _, _⟩) rfl 40 1 _ rfl _ ?hv3 _ _ (rowO (mkO (j : Int) 0 0 0 16) _) ?_); (case hv3 => kernel_rfl); (obtain ⟨Y, hY⟩ : ∃ Y, Y = W.setCell ⟨wr.heap.size, 4, none⟩ (.int .i64 16) := ⟨_, rfl⟩); rw [← hY]; have hBY := hY ▸ Below.setCell hBW.out (p := ⟨wr.heap.size, 4, none⟩) HB3.out.size (.int .i64 16); (obtain ⟨U, hU⟩ : ∃ U, U = Y.alloc (.cells (ocs (mkO (j : Int) 0 0 0 16)) 49) := ⟨_, rfl⟩); rw [← hU]; have hhU := Fact.mk (show U.heap[Y.heap.size]? = some (.cells (ocs (mkO (j : Int) 0 0 0 16)) 49 (0, 0)) from hU ▸ heap_alloc_new Y _); have hBU := Fact.mk (show Below V.heap.size V U from hU ▸ hBY.alloc hBY.size _); clear hY hU hBY)
                  | (go_at_call 15; refine (oneP (mkO (j : Int) 0 0 0 16) (mkO_fin _ _ _ _ _) U Y.heap.size (HTV.out.below hBU.out) _ hhU.out).mono ?_; rintro e w4 ⟨rfl, hb4⟩)
                  | (go_at_call 16; refine (oneR (mkO (j : Int) 0 0 0 16) (mkO_fin _ _ _ _ _) w4 Y.heap.size _ (keepH hhU.out hb4)).mono ?_; rintro e w5 ⟨rfl, hb5⟩; have hB5 := Fact.mk ((hBU.out.trans (hb4.mono hBU.out.size)).trans (hb5.mono (Nat.le_trans hBU.out.size hb4.size)))))
                have hz : (snds [(mkO (j : Int) 0 0 0 16)] != snds [(mkO (j : Int) 0 0 0 16)]) = false := bne_self_eq_false _
                go_wp2
                go_roundg k3
                case measure => omega
                case rel => exact ⟨4, by first | rfl | (congr 1; omega), ⟨by have := HN3.out; omega⟩, ⟨hB5.out⟩⟩
            · go_wp2
              go_roundg k2
              case measure => omega
              case rel => exact ⟨3+1, by first | rfl | (congr 1; omega), ⟨by have := HN2.out; omega⟩, ⟨HB3.out⟩⟩
        · go_wp2
          go_roundg k1
          case measure => omega
          case rel => exact ⟨j + 1, by first | rfl | (congr 1; omega), ⟨by have := HN1.out; omega⟩, ⟨HB2.out⟩⟩
    · go_wp2
      go_ret
      exact ⟨rfl, hBV.out.trans (HB1.out.mono hBV.out.size)⟩
end Go.Proofs.YtinaibebdacnmaaDoor
