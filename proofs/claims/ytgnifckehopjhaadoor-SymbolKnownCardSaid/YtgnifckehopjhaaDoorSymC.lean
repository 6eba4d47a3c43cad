/- package symbol: For. -/
import Derived.Test.YtgnifckehopjhaaDoorSymB
import Derived.ChangeMaps4
namespace Go.Proofs.YtgnifckehopjhaaDoor
open Go.RowKit Go.Proofs.YtgnifckehopjhaaDoorW.PrintWords
open Go.ChangeMaps (setBlock)
attribute [local go_sem] run_store_float

theorem cellP {W : World} {p : Nat} {x y z : Value} {t : TypeId} (h : W.heap[p]? = some (.cells #[x, y, z] t (0, 0))) : W.cell? ⟨p, 0, none⟩ = some x ∧ W.cell? ⟨p, 1, none⟩ = some y ∧ W.cell? ⟨p, 2, none⟩ = some z := by
  refine ⟨?_, ?_, ?_⟩ <;> rw [Lib.cell_of_heap h] <;> rfl
theorem Reg.maps {B p cnt : Nat} {xs : List Value} {b1 b2 : Nat} {o1 o2 : Obj} {W : World} (h : Reg B p cnt xs b1 b2 o1 o2 W) : W.cell? ⟨p, 1, none⟩ = some (.map (some b1)) ∧ W.cell? ⟨p, 2, none⟩ = some (.map (some b2)) ∧ W.heap[b1]? = some o1 ∧ W.heap[b2]? = some o2 := by
  obtain ⟨h1, h2, h3, h4, k1, k2, m1, m2, a, cap, hp, ho⟩ := h
  exact ⟨(cellP hp).2.1, (cellP hp).2.2, k1, k2⟩

theorem setBlock_heap (W : World) (b : Nat) (o : Obj) (h : b < W.heap.size) : (setBlock W b o).heap[b]? = some o := by simp [setBlock, h]
theorem setBlock_far (W : World) (b q : Nat) (o : Obj) (h : q ≠ b) : (setBlock W b o).heap[q]? = W.heap[q]? := by
  simp [setBlock, Array.getElem?_setIfInBounds_ne (Ne.symm h)]
theorem setBlock_grown (W : World) (b : Nat) (o : Obj) : W.grownBy (setBlock W b o) (some b) :=
  ⟨rfl, rfl, rfl, by simp [setBlock], fun q _ h => setBlock_far W b q o (fun e => h (by rw [e]))⟩

theorem Reg.put {B p cnt : Nat} {xs : List Value} {b1 b2 : Nat} {o1 o2 o1' o2' : Obj} {W : World} (h : Reg B p cnt xs b1 b2 o1 o2 W) (m1' : ∃ es c, o1' = .map es c) (m2' : ∃ es c, o2' = .map es c) :
    Reg B p cnt xs b1 b2 o1' o2 (setBlock W b1 o1') ∧ Reg B p cnt xs b1 b2 o1 o2' (setBlock W b2 o2') ∧ Below B W (setBlock W b1 o1') ∧ Below B W (setBlock W b2 o2') := by
  obtain ⟨h1, h2, h3, h4, k1, k2, m1, m2, a, cap, hp, ho⟩ := h
  have n1 := row_ne ho k1 (by obtain ⟨es, c, rfl⟩ := m1; simp)
  have n2 := row_ne ho k2 (by obtain ⟨es, c, rfl⟩ := m2; simp)
  have e1 : p ≠ b1 := by rintro rfl; obtain ⟨es, c, rfl⟩ := m1; rw [k1] at hp; cases hp
  have e2 : p ≠ b2 := by rintro rfl; obtain ⟨es, c, rfl⟩ := m2; rw [k2] at hp; cases hp
  refine ⟨⟨h1, h2, h3, h4, setBlock_heap _ _ _ (ltH k1), ?_, m1', m2, a, cap, ?_, ho.kept (setBlock_grown W b1 o1') (.inr (Ne.symm n1))⟩, ⟨h1, h2, h3, h4, ?_, setBlock_heap _ _ _ (ltH k2), m1, m2', a, cap, ?_, ho.kept (setBlock_grown W b2 o2') (.inr (Ne.symm n2))⟩, ?_, ?_⟩
  · rw [setBlock_far _ _ _ _ (Ne.symm h4)]; exact k2
  · rw [setBlock_far _ _ _ _ e1]; exact hp
  · rw [setBlock_far _ _ _ _ h4]; exact k1
  · rw [setBlock_far _ _ _ _ e2]; exact hp
  · exact ⟨rfl, rfl, rfl, by simp [setBlock], fun q hq => setBlock_far _ _ _ _ (by omega)⟩
  · exact ⟨rfl, rfl, rfl, by simp [setBlock], fun q hq => setBlock_far _ _ _ _ (by omega)⟩

set_option maxRecDepth 100000 in
theorem forHit_c {B p cnt : Nat} {xs : List Value} {b1 b2 : Nat} {o1 o2 : Obj} {W : World} (hR : Reg B p cnt xs b1 b2 o1 o2 W) (HT : Tabs W) (s : ByteArray) (hs : (s.size : Int) ≤ 1048576) (hv : (Pt.all s).2 = true) (m : Int)
    (hl : ∀ W', W'.heap[b1]? = some o1 → (Instr.lookup 37 (.map (some b1)) (.string s) true).run Tryd.prog W' = .ok (.tuple #[.int .i64 m, .bool true]) W') :
    Calls Tryd.prog 14 #[.pointer (some ⟨p, 0, none⟩), .string s] W fun e W' => e = .returned (.tuple #[.int .i64 m, .int .i64 0]) ∧ Below W.heap.size W W' := by
  have hV := Fact.mk (show units_Valid.f s = some true by unfold units_Valid.f; rw [if_pos (by omega), hv])
  have HT' := Fact.mk HT
  have hR' := Fact.mk hR
  have hl' := Fact.mk hl
  clear hv HT hR hl
  go_enter Tryd.func14, Tryd.ntmps14
  go_wp2_with (go_at_call 30; refine (units_Valid.calls s _ _ ⟨HT'.out⟩ hV.out).mono ?_; rintro e w1 ⟨rfl, hb⟩; obtain ⟨c1, c2, k1, k2⟩ := (hR'.out.keep hb).maps; have q := hl'.out w1 k1)
  go_ret2
  exact ⟨rfl, hb⟩

set_option maxRecDepth 100000 in
theorem forNew_c {B p cnt : Nat} {xs : List Value} {b1 b2 : Nat} {o1 o2 o1' o2' : Obj} {W : World} (hR : Reg B p cnt xs b1 b2 o1 o2 W) (hc : cnt < 65536) (HT : Tabs W) (s : ByteArray) (hs : (s.size : Int) ≤ 1048576) (hv : (Pt.all s).2 = true)
    (m1' : ∃ es c, o1' = .map es c) (m2' : ∃ es c, o2' = .map es c)
    (hl : ∀ W', W'.heap[b1]? = some o1 → (Instr.lookup 37 (.map (some b1)) (.string s) true).run Tryd.prog W' = .ok (.tuple #[.int .i64 0, .bool false]) W')
    (hu1 : ∀ W', W'.heap[b1]? = some o1 → (Instr.mapUpdate 37 (.map (some b1)) (.string s) (.int .i64 ((cnt : Int) + 1))).run Tryd.prog W' = .ok () (setBlock W' b1 o1'))
    (hu2 : ∀ W', W'.heap[b2]? = some o2 → (Instr.mapUpdate 70 (.map (some b2)) (.int .i64 ((cnt : Int) + 1)) (.agg #[.string s])).run Tryd.prog W' = .ok () (setBlock W' b2 o2')) :
    Calls Tryd.prog 14 #[.pointer (some ⟨p, 0, none⟩), .string s] W fun e W' => e = .returned (.tuple #[.int .i64 ((cnt : Int) + 1), .int .i64 0]) ∧ Reg B p (cnt + 1) (xs ++ [.int .i64 5, .bool false, .float .f64 0, .string s, .int .i64 0]) b1 b2 o1' o2' W' ∧ Below B W W' := by
  have hV := Fact.mk (show units_Valid.f s = some true by unfold units_Valid.f; rw [if_pos (by omega), hv])
  have hgd : gd 5 false 0 s 0 = true := by simp [gd, hv, hs]
  have hle := hR.le
  have hM := Fact.mk (fun w' (h : Below W.heap.size W w') => mkStr_c s w' (HT.below h))
  simp only [hgd, if_true] at hM
  have ha := Fact.mk (fun w' (h : Below W.heap.size W w') => add_c (hR.keep h) hc 5 false 0 s 0)
  have HT' := Fact.mk HT
  have hR' := Fact.mk hR
  have hl' := Fact.mk hl
  have hu1' := Fact.mk hu1
  have hu2' := Fact.mk hu2
  have mm1 := Fact.mk m1'
  have mm2 := Fact.mk m2'
  clear hv HT hR hl hgd hu1 hu2 m1' m2'
  unfold VV at *
  go_enter Tryd.func14, Tryd.ntmps14
  go_wp2_with (first | (go_at_call 30; refine (units_Valid.calls s _ _ ⟨HT'.out⟩ hV.out).mono ?_; rintro e w1 ⟨rfl, hb⟩; obtain ⟨c1, c2, k1, k2⟩ := (hR'.out.keep hb).maps; have q := hl'.out w1 k1) | (go_at_call 27; refine (hM.out _ hb).mono ?_; rintro e w2 ⟨rfl, hb2⟩; have hb3 := hb.trans (hb2.mono hb.size)) | (go_at_call 29; refine (ha.out _ hb3).mono ?_; rintro e w3 ⟨rfl, hR3, hb4⟩; obtain ⟨P1, P2, B1, B2⟩ := hR3.put mm1.out mm2.out; obtain ⟨Q1, Q2, B3, B4⟩ := P1.put mm1.out mm2.out; have d1 := hR3.maps; have q1 := hu1'.out w3 d1.2.2.1; have d2 := P1.maps; have q2 := hu2'.out _ d2.2.2.2; have c3 := d1.1; have c4 := d2.2.1))
  go_ret2
  exact ⟨rfl, Q2, (((hb3.mono hle).trans hb4).trans B1).trans B4⟩
end Go.Proofs.YtgnifckehopjhaaDoor
