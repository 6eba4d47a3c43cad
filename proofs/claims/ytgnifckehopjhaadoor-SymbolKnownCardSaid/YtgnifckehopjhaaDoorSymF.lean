/- package symbol: the law's works: the chapter's first two examples. -/
import Derived.Test.YtgnifckehopjhaaDoorSymE
import Derived.MapKept
namespace Go.Proofs.YtgnifckehopjhaaDoor
open Go.RowKit Go.Proofs.YtgnifckehopjhaaDoorW.PrintWords
open Go.ChangeMaps (setBlock)
open Go.MapKept
attribute [local go_sem] run_store_float

section
variable {P : Program} {W : World} {mt kt et : TypeId} {d : TypeDesc} {key : Value} {b c : Nat} {es : Array MapEntry}
theorem lookM {i : Nat} {v : Value} (ht : P.underlying mt = some (.map kt et)) (hd : P.underlying kt = some d) (hk : IsKey d key) (hb : W.heap[b]? = some (.map es c)) (hf : Instr.findNow d key es.toList 0 = some (some (i, v))) :
    (Instr.lookup mt (.map (some b)) key true).run P W = .ok (.tuple #[v, .bool true]) W := by
  simp [Instr.lookup, run_underlying ht, Go.MapKept.run_getObj_map hb, Go.MapKept.run_checkKey hd hk, Go.MapKept.run_findKey hd hf, Result.andThen]
theorem lookN {z : Value} (ht : P.underlying mt = some (.map kt et)) (hd : P.underlying kt = some d) (hk : IsKey d key) (hb : W.heap[b]? = some (.map es c)) (hf : Instr.findNow d key es.toList 0 = some none) (hz : (zeroValue et).run P W = .ok z W) :
    (Instr.lookup mt (.map (some b)) key true).run P W = .ok (.tuple #[z, .bool false]) W := by
  simp [Instr.lookup, run_underlying ht, Go.MapKept.run_getObj_map hb, Go.MapKept.run_checkKey hd hk, Go.MapKept.run_findKey hd hf, hz, Result.andThen]
theorem updN {val : Value} (ht : P.underlying mt = some (.map kt et)) (hd : P.underlying kt = some d) (hk : IsKey d key) (hb : W.heap[b]? = some (.map es c)) (hf : Instr.findNow d key es.toList 0 = some none) :
    (Instr.mapUpdate mt (.map (some b)) key val).run P W = .ok () (setBlock W b (.map (es.push { key, val, born := c }) (c + 1))) := by
  simp [Instr.mapUpdate, run_underlying ht, Go.MapKept.run_getObj_map hb, Go.MapKept.run_checkKey hd hk, Go.MapKept.run_findKey hd hf, Go.MapKept.run_setObj_map _ hb, Result.andThen, setBlock]
end

theorem zInt (W : World) : (zeroValue 3).run Tryd.prog W = .ok (.int .i64 0) W := by kernel_rfl
theorem zEntry (W : World) : (zeroValue 77).run Tryd.prog W = .ok (.agg #[.string ⟨#[]⟩]) W := by kernel_rfl
theorem u66 : Tryd.prog.underlying 37 = some (.map 9 3) := Tryd.underlying37
theorem u67 : Tryd.prog.underlying 70 = some (.map 3 77) := Tryd.underlying70
theorem isKS (s : ByteArray) : IsKey .string (.string s) := by first | trivial | simp [IsKey]
theorem isKI (n : Int) : IsKey (.int .i64) (.int .i64 n) := by first | trivial | simp [IsKey]

def xs15 : List Value := (flatW 13 ++ [.int .i64 1, .bool false, .float .f64 0, .string ⟨#[]⟩, .int .i64 0]) ++ [.int .i64 5, .bool false, .float .f64 0, .string ⟨#[97]⟩, .int .i64 0]
theorem cells4 : xs15[3 * 5]? = some (.int .i64 5) ∧ xs15[3 * 5 + 1]? = some (.bool false) ∧ xs15[3 * 5 + 2]? = some (.float .f64 0) ∧ xs15[3 * 5 + 3]? = some (.string (wk 3)) ∧ xs15[3 * 5 + 4]? = some (.int .i64 0) := ⟨rfl, rfl, rfl, rfl, rfl⟩
theorem gd1 : gd 1 false 0 ⟨#[]⟩ 0 = true := by decide +kernel
theorem val_a : (Pt.all ⟨#[97]⟩).2 = true := by decide +kernel
def s1 : ByteArray := ⟨#[83, 121, 109, 98, 111, 108, 40, 83, 121, 109, 98, 111, 108, 46, 105, 116, 101, 114, 97, 116, 111, 114]⟩
theorem ha1 (W : World) : (Op.stringOp .add ⟨#[83, 121, 109, 98, 111, 108, 40]⟩ (wk 3)).run Tryd.prog W = .ok (.string s1) W := by rw [addS _ _ (by decide +kernel)]; rfl
def s2 : ByteArray := ⟨#[83, 121, 109, 98, 111, 108, 40, 83, 121, 109, 98, 111, 108, 46, 105, 116, 101, 114, 97, 116, 111, 114, 41]⟩
theorem ha2 (W : World) : (Op.stringOp .add s1 ⟨#[41]⟩).run Tryd.prog W = .ok (.string s2) W := by rw [addS _ _ (by decide +kernel)]; rfl
theorem num_c (n : Int) (w : World) : Calls Tryd.prog 15 #[.int .i64 n] w fun e w' => e = .returned (.int .i64 n) ∧ w = w' := by
  go_enter Tryd.func15, Tryd.ntmps15
  go_wp2
  go_ret
  exact ⟨rfl, rfl⟩

set_option maxRecDepth 100000 in
theorem works_c (w : World) (HT : Tabs w) : Calls Tryd.prog 10 #[] w fun e w' => e = .returned (.bool true) ∧ Below w.heap.size w w' := by
  have hT := Fact.mk (fun w' (h : Below w.heap.size w w') => HT.below h)
  have hN := Fact.mk (new_c w HT)
  have hn := Fact.mk num_c
  have hz := gd1
  clear HT hz
  go_enter Tryd.func10, Tryd.ntmps10
  go_wp2_with fail
  refine hN.out.mono ?_
  rintro e w1 ⟨p, b1, b2, rfl, hR1, hB1⟩
  have hM := Fact.mk (make_c hR1 (by decide) 1 false 0 ⟨#[]⟩ 0 (hT.out _ hB1) gd1 (.inl rfl))
  unfold VV at hM
  go_wp2_with fail
  refine hM.out.mono ?_
  rintro e w2 ⟨rfl, hR2, hB2⟩
  have hB2 := hB1.trans hB2
  have hF := Fact.mk (forNew_c (o1' := .map #[{ key := .string ⟨#[97]⟩, val := .int .i64 15, born := 0 }] 1) (o2' := .map #[{ key := .int .i64 15, val := .agg #[.string ⟨#[97]⟩], born := 0 }] 1) hR2 (by decide) (hT.out _ hB2) ⟨#[97]⟩ (by decide) val_a ⟨_, _, rfl⟩ ⟨_, _, rfl⟩
    (fun W' h => lookN u66 Tryd.underlying9 (isKS _) h rfl (zInt W'))
    (fun W' h => updN u66 Tryd.underlying9 (isKS _) h rfl)
    (fun W' h => updN u67 Tryd.underlying3 (isKI _) h rfl))
  clear hM hN
  go_wp2_with fail
  refine hF.out.mono ?_
  rintro e w3 ⟨rfl, hR3, hB3⟩
  have hB3 := hB2.trans hB3
  have hF2 := Fact.mk (forHit_c hR3 (hT.out _ hB3) ⟨#[97]⟩ (by decide) val_a 15 (fun W' h => lookM u66 Tryd.underlying9 (isKS _) h (i := 0) (by rfl)))
  clear hF
  go_wp2_with fail
  refine hF2.out.mono ?_
  rintro e w4 ⟨rfl, hB4⟩
  have hR4 := hR3.keep hB4
  have hB4 := hB3.trans (hB4.mono hB3.size)
  obtain ⟨x0, x1, x2, x3, x4⟩ := cells4
  have hX := Fact.mk (text_c (s := wk 3) hR4 (by decide) 3 (by decide) x0 x1 x2 x3 x4 ha1 ha2 (by decide +kernel))
  clear hF2 x0 x1 x2 x3 x4
  go_wp2_with fail
  refine hX.out.mono ?_
  rintro e w5 ⟨rfl, hB5⟩
  have hC := Fact.mk (count_c (hR4.keep hB5))
  have hB5 := hB4.trans (hB5.mono hB4.size)
  clear hX
  unfold s2
  go_wp2_with (first | (go_at_call 15; refine (hn.out _ _).mono ?_; rintro e w' ⟨rfl, rfl⟩) | (go_at_call 13; refine hC.out.mono ?_; rintro e w' ⟨rfl, rfl⟩))
  go_ret
  exact ⟨rfl, hB5⟩
end Go.Proofs.YtgnifckehopjhaaDoor
