/- An argument that is a value of the language: what the reading gives. -/
import Derived.Test.YtinaibebdacnmaaDoorCardC
import Derived.Test.YtinaibebdacnmaaDoorValC
import Derived.OpenShut
namespace Go.Proofs.YtinaibebdacnmaaDoor.CC
open Go.ChangeShapes Go.WideShapes Go.ChangeAt Go.RowKit

theorem laidOut : laidOutB Tryd.prog = true := by kernel_rfl
theorem bulk_any {H : Type} (d : DataW H) (r : List (DataW H)) : Rows.uptoBulkAll (d :: r) = Rows.uptoBulk d + Rows.uptoBulkAll r := by
  simp only [Rows.uptoBulkAll]
theorem types_val : Tryd.prog.cellTypes Tryd.prog.depth 32 = some [3, 4, 30, 9, 3] := by kernel_rfl
theorem size_val : Tryd.prog.cellsOf 32 = 5 := by kernel_rfl
set_option maxRecDepth 100000 in
theorem cell_int {W : World} {base : Nat} {v : Value} (h : Cell.okWide Tryd.prog W .any base 3 v) : ∃ n, v = .int .i64 n := by
  simp only [Cell.okWide, Cell.ok, Tryd.underlying3] at h
  cases v <;> simp at h
  exact ⟨_, by rw [h.1]⟩
set_option maxRecDepth 100000 in
theorem cell_bool {W : World} {base : Nat} {v : Value} (h : Cell.okWide Tryd.prog W .any base 4 v) : ∃ b, v = .bool b := by
  simp only [Cell.okWide, Cell.ok, Tryd.underlying4] at h
  cases v <;> simp at h
  exact ⟨_, rfl⟩
set_option maxRecDepth 100000 in
theorem cell_string {W : World} {base : Nat} {v : Value} (h : Cell.okWide Tryd.prog W .any base 9 v) : ∃ s, v = .string s := by
  simp only [Cell.okWide, Cell.ok, Tryd.underlying9] at h
  cases v <;> simp at h
  exact ⟨_, rfl⟩
set_option maxRecDepth 100000 in
theorem cell_float {W : World} {base : Nat} {v : Value} (h : Cell.okWide Tryd.prog W .any base 30 v) : ∃ n, v = .float .f64 n ∧ n < 18446744073709551616 := by
  simp only [Cell.okWide, Cell.ok, Tryd.underlying30] at h
  cases v <;> simp at h
  obtain ⟨rfl, h2⟩ := h
  exact ⟨_, rfl, by simpa [FloatKind.has] using h2⟩
set_option maxRecDepth 100000 in
theorem open_f64 {W : World} {base : Nat} {v : Value} (h : Value.okWide Tryd.prog W .any base 30 v) : ∃ n, v = .float .f64 n ∧ n < 18446744073709551616 := by
  simp only [Value.okWide, Tryd.underlying30] at h
  exact cell_float h
set_option maxRecDepth 100000 in
theorem open_val {W : World} {base : Nat} {v : Value} (h : Value.okWide Tryd.prog W .any base 32 v) : ∃ (k : Int) (b : Bool) (n : Nat) (s : ByteArray) (i : Int), v = VV k b n s i ∧ n < 18446744073709551616 := by
  simp only [Value.okWide, Tryd.underlying32] at h
  obtain ⟨cs, rfl, hsz, ts, hts, _, hc⟩ := h
  rw [types_val] at hts
  obtain rfl := Option.some.inj hts.symm
  rw [size_val] at hsz
  obtain ⟨l, rfl⟩ : ∃ l : List Value, cs = l.toArray := ⟨cs.toList, by simp⟩
  simp only [List.size_toArray] at hsz
  match l, hsz with
  | [c0, c1, c2, c3, c4], _ =>
    obtain ⟨u0, e0, g0⟩ := hc 0 c0 rfl
    obtain ⟨u1, e1, g1⟩ := hc 1 c1 rfl
    obtain ⟨u2, e2, g2⟩ := hc 2 c2 rfl
    obtain ⟨u3, e3, g3⟩ := hc 3 c3 rfl
    obtain ⟨u4, e4, g4⟩ := hc 4 c4 rfl
    obtain rfl := Option.some.inj e0
    obtain rfl := Option.some.inj e1
    obtain rfl := Option.some.inj e2
    obtain rfl := Option.some.inj e3
    obtain rfl := Option.some.inj e4
    obtain ⟨k, rfl⟩ := cell_int g0
    obtain ⟨b, rfl⟩ := cell_bool g1
    obtain ⟨n, rfl, hn⟩ := cell_float g2
    obtain ⟨s, rfl⟩ := cell_string g3
    obtain ⟨i, rfl⟩ := cell_int g4
    exact ⟨k, b, n, s, i, rfl, hn⟩
end Go.Proofs.YtinaibebdacnmaaDoor.CC
