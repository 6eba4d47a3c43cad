/- package symbol: the well-known names; a new registry. -/
import Derived.Test.YtgnifckehopjhaaDoorSymC
namespace Go.Proofs.YtgnifckehopjhaaDoor
open Go.RowKit Go.Proofs.YtgnifckehopjhaaDoorW.PrintWords
attribute [local go_sem] run_store_float
attribute [local go_sem ↓] Go.wp_at_zero Go.wp_at_succ

/-- The name of the well-known symbol j + 1. -/
def wk (j : Nat) : ByteArray := match j with
  | 0 => ⟨#[83, 121, 109, 98, 111, 108, 46, 97, 115, 121, 110, 99, 73, 116, 101, 114, 97, 116, 111, 114]⟩
  | 1 => ⟨#[83, 121, 109, 98, 111, 108, 46, 104, 97, 115, 73, 110, 115, 116, 97, 110, 99, 101]⟩
  | 2 => ⟨#[83, 121, 109, 98, 111, 108, 46, 105, 115, 67, 111, 110, 99, 97, 116, 83, 112, 114, 101, 97, 100, 97, 98, 108, 101]⟩
  | 3 => ⟨#[83, 121, 109, 98, 111, 108, 46, 105, 116, 101, 114, 97, 116, 111, 114]⟩
  | 4 => ⟨#[83, 121, 109, 98, 111, 108, 46, 109, 97, 116, 99, 104]⟩
  | 5 => ⟨#[83, 121, 109, 98, 111, 108, 46, 109, 97, 116, 99, 104, 65, 108, 108]⟩
  | 6 => ⟨#[83, 121, 109, 98, 111, 108, 46, 114, 101, 112, 108, 97, 99, 101]⟩
  | 7 => ⟨#[83, 121, 109, 98, 111, 108, 46, 115, 101, 97, 114, 99, 104]⟩
  | 8 => ⟨#[83, 121, 109, 98, 111, 108, 46, 115, 112, 101, 99, 105, 101, 115]⟩
  | 9 => ⟨#[83, 121, 109, 98, 111, 108, 46, 115, 112, 108, 105, 116]⟩
  | 10 => ⟨#[83, 121, 109, 98, 111, 108, 46, 116, 111, 80, 114, 105, 109, 105, 116, 105, 118, 101]⟩
  | 11 => ⟨#[83, 121, 109, 98, 111, 108, 46, 116, 111, 83, 116, 114, 105, 110, 103, 84, 97, 103]⟩
  | 12 => ⟨#[83, 121, 109, 98, 111, 108, 46, 117, 110, 115, 99, 111, 112, 97, 98, 108, 101, 115]⟩
  | _ => ⟨#[]⟩
theorem wk_gd (j : Nat) (h : j < 13) : gd 5 false 0 (wk j) 0 = true := by
  have : ∀ j < 13, gd 5 false 0 (wk j) 0 = true := by decide +kernel
  exact this j h
/-- The cells of the first n descriptions. -/
def flatW : Nat → List Value
  | 0 => []
  | n + 1 => flatW n ++ [.int .i64 5, .bool false, .float .f64 0, .string (wk n), .int .i64 0]
theorem flatW_len : ∀ n, (flatW n).length = 5 * n
  | 0 => rfl
  | n + 1 => by simp [flatW, flatW_len n]; omega

theorem wk0_c (w : World) : Calls Tryd.prog 5 #[.int .i64 1] w fun e w' => e = .returned (.tuple #[.string (wk 0), .bool true]) ∧ Below w.heap.size w w' := by
  have ha : ∀ W, (Op.stringOp .add ⟨#[83, 121, 109, 98, 111, 108, 46]⟩ ⟨#[97, 115, 121, 110, 99, 73, 116, 101, 114, 97, 116, 111, 114]⟩).run Tryd.prog W = .ok (.string (wk 0)) W := fun W => by rw [addS _ _ (by decide +kernel)]; rfl
  go_enter Tryd.func5, Tryd.ntmps5
  go_wp2
  go_ret2
  exact ⟨rfl, (Below.refl _ _).alloc (Nat.le_refl _) _⟩
theorem wk1_c (w : World) : Calls Tryd.prog 5 #[.int .i64 2] w fun e w' => e = .returned (.tuple #[.string (wk 1), .bool true]) ∧ Below w.heap.size w w' := by
  have ha : ∀ W, (Op.stringOp .add ⟨#[83, 121, 109, 98, 111, 108, 46]⟩ ⟨#[104, 97, 115, 73, 110, 115, 116, 97, 110, 99, 101]⟩).run Tryd.prog W = .ok (.string (wk 1)) W := fun W => by rw [addS _ _ (by decide +kernel)]; rfl
  go_enter Tryd.func5, Tryd.ntmps5
  go_wp2
  go_ret2
  exact ⟨rfl, (Below.refl _ _).alloc (Nat.le_refl _) _⟩
theorem wk2_c (w : World) : Calls Tryd.prog 5 #[.int .i64 3] w fun e w' => e = .returned (.tuple #[.string (wk 2), .bool true]) ∧ Below w.heap.size w w' := by
  have ha : ∀ W, (Op.stringOp .add ⟨#[83, 121, 109, 98, 111, 108, 46]⟩ ⟨#[105, 115, 67, 111, 110, 99, 97, 116, 83, 112, 114, 101, 97, 100, 97, 98, 108, 101]⟩).run Tryd.prog W = .ok (.string (wk 2)) W := fun W => by rw [addS _ _ (by decide +kernel)]; rfl
  go_enter Tryd.func5, Tryd.ntmps5
  go_wp2
  go_ret2
  exact ⟨rfl, (Below.refl _ _).alloc (Nat.le_refl _) _⟩
theorem wk3_c (w : World) : Calls Tryd.prog 5 #[.int .i64 4] w fun e w' => e = .returned (.tuple #[.string (wk 3), .bool true]) ∧ Below w.heap.size w w' := by
  have ha : ∀ W, (Op.stringOp .add ⟨#[83, 121, 109, 98, 111, 108, 46]⟩ ⟨#[105, 116, 101, 114, 97, 116, 111, 114]⟩).run Tryd.prog W = .ok (.string (wk 3)) W := fun W => by rw [addS _ _ (by decide +kernel)]; rfl
  go_enter Tryd.func5, Tryd.ntmps5
  go_wp2
  go_ret2
  exact ⟨rfl, (Below.refl _ _).alloc (Nat.le_refl _) _⟩
theorem wk4_c (w : World) : Calls Tryd.prog 5 #[.int .i64 5] w fun e w' => e = .returned (.tuple #[.string (wk 4), .bool true]) ∧ Below w.heap.size w w' := by
  have ha : ∀ W, (Op.stringOp .add ⟨#[83, 121, 109, 98, 111, 108, 46]⟩ ⟨#[109, 97, 116, 99, 104]⟩).run Tryd.prog W = .ok (.string (wk 4)) W := fun W => by rw [addS _ _ (by decide +kernel)]; rfl
  go_enter Tryd.func5, Tryd.ntmps5
  go_wp2
  go_ret2
  exact ⟨rfl, (Below.refl _ _).alloc (Nat.le_refl _) _⟩
theorem wk5_c (w : World) : Calls Tryd.prog 5 #[.int .i64 6] w fun e w' => e = .returned (.tuple #[.string (wk 5), .bool true]) ∧ Below w.heap.size w w' := by
  have ha : ∀ W, (Op.stringOp .add ⟨#[83, 121, 109, 98, 111, 108, 46]⟩ ⟨#[109, 97, 116, 99, 104, 65, 108, 108]⟩).run Tryd.prog W = .ok (.string (wk 5)) W := fun W => by rw [addS _ _ (by decide +kernel)]; rfl
  go_enter Tryd.func5, Tryd.ntmps5
  go_wp2
  go_ret2
  exact ⟨rfl, (Below.refl _ _).alloc (Nat.le_refl _) _⟩
theorem wk6_c (w : World) : Calls Tryd.prog 5 #[.int .i64 7] w fun e w' => e = .returned (.tuple #[.string (wk 6), .bool true]) ∧ Below w.heap.size w w' := by
  have ha : ∀ W, (Op.stringOp .add ⟨#[83, 121, 109, 98, 111, 108, 46]⟩ ⟨#[114, 101, 112, 108, 97, 99, 101]⟩).run Tryd.prog W = .ok (.string (wk 6)) W := fun W => by rw [addS _ _ (by decide +kernel)]; rfl
  go_enter Tryd.func5, Tryd.ntmps5
  go_wp2
  go_ret2
  exact ⟨rfl, (Below.refl _ _).alloc (Nat.le_refl _) _⟩
theorem wk7_c (w : World) : Calls Tryd.prog 5 #[.int .i64 8] w fun e w' => e = .returned (.tuple #[.string (wk 7), .bool true]) ∧ Below w.heap.size w w' := by
  have ha : ∀ W, (Op.stringOp .add ⟨#[83, 121, 109, 98, 111, 108, 46]⟩ ⟨#[115, 101, 97, 114, 99, 104]⟩).run Tryd.prog W = .ok (.string (wk 7)) W := fun W => by rw [addS _ _ (by decide +kernel)]; rfl
  go_enter Tryd.func5, Tryd.ntmps5
  go_wp2
  go_ret2
  exact ⟨rfl, (Below.refl _ _).alloc (Nat.le_refl _) _⟩
theorem wk8_c (w : World) : Calls Tryd.prog 5 #[.int .i64 9] w fun e w' => e = .returned (.tuple #[.string (wk 8), .bool true]) ∧ Below w.heap.size w w' := by
  have ha : ∀ W, (Op.stringOp .add ⟨#[83, 121, 109, 98, 111, 108, 46]⟩ ⟨#[115, 112, 101, 99, 105, 101, 115]⟩).run Tryd.prog W = .ok (.string (wk 8)) W := fun W => by rw [addS _ _ (by decide +kernel)]; rfl
  go_enter Tryd.func5, Tryd.ntmps5
  go_wp2
  go_ret2
  exact ⟨rfl, (Below.refl _ _).alloc (Nat.le_refl _) _⟩
theorem wk9_c (w : World) : Calls Tryd.prog 5 #[.int .i64 10] w fun e w' => e = .returned (.tuple #[.string (wk 9), .bool true]) ∧ Below w.heap.size w w' := by
  have ha : ∀ W, (Op.stringOp .add ⟨#[83, 121, 109, 98, 111, 108, 46]⟩ ⟨#[115, 112, 108, 105, 116]⟩).run Tryd.prog W = .ok (.string (wk 9)) W := fun W => by rw [addS _ _ (by decide +kernel)]; rfl
  go_enter Tryd.func5, Tryd.ntmps5
  go_wp2
  go_ret2
  exact ⟨rfl, (Below.refl _ _).alloc (Nat.le_refl _) _⟩
theorem wk10_c (w : World) : Calls Tryd.prog 5 #[.int .i64 11] w fun e w' => e = .returned (.tuple #[.string (wk 10), .bool true]) ∧ Below w.heap.size w w' := by
  have ha : ∀ W, (Op.stringOp .add ⟨#[83, 121, 109, 98, 111, 108, 46]⟩ ⟨#[116, 111, 80, 114, 105, 109, 105, 116, 105, 118, 101]⟩).run Tryd.prog W = .ok (.string (wk 10)) W := fun W => by rw [addS _ _ (by decide +kernel)]; rfl
  go_enter Tryd.func5, Tryd.ntmps5
  go_wp2
  go_ret2
  exact ⟨rfl, (Below.refl _ _).alloc (Nat.le_refl _) _⟩
theorem wk11_c (w : World) : Calls Tryd.prog 5 #[.int .i64 12] w fun e w' => e = .returned (.tuple #[.string (wk 11), .bool true]) ∧ Below w.heap.size w w' := by
  have ha : ∀ W, (Op.stringOp .add ⟨#[83, 121, 109, 98, 111, 108, 46]⟩ ⟨#[116, 111, 83, 116, 114, 105, 110, 103, 84, 97, 103]⟩).run Tryd.prog W = .ok (.string (wk 11)) W := fun W => by rw [addS _ _ (by decide +kernel)]; rfl
  go_enter Tryd.func5, Tryd.ntmps5
  go_wp2
  go_ret2
  exact ⟨rfl, (Below.refl _ _).alloc (Nat.le_refl _) _⟩
theorem wk12_c (w : World) : Calls Tryd.prog 5 #[.int .i64 13] w fun e w' => e = .returned (.tuple #[.string (wk 12), .bool true]) ∧ Below w.heap.size w w' := by
  have ha : ∀ W, (Op.stringOp .add ⟨#[83, 121, 109, 98, 111, 108, 46]⟩ ⟨#[117, 110, 115, 99, 111, 112, 97, 98, 108, 101, 115]⟩).run Tryd.prog W = .ok (.string (wk 12)) W := fun W => by rw [addS _ _ (by decide +kernel)]; rfl
  go_enter Tryd.func5, Tryd.ntmps5
  go_wp2
  go_ret2
  exact ⟨rfl, (Below.refl _ _).alloc (Nat.le_refl _) _⟩
theorem wk_c (j : Nat) (h : j < 13) (w : World) : Calls Tryd.prog 5 #[.int .i64 ((j : Int) + 1)] w fun e w' => e = .returned (.tuple #[.string (wk j), .bool true]) ∧ Below w.heap.size w w' := by
  match j, h with
  | 0, _ => exact wk0_c w
  | 1, _ => exact wk1_c w
  | 2, _ => exact wk2_c w
  | 3, _ => exact wk3_c w
  | 4, _ => exact wk4_c w
  | 5, _ => exact wk5_c w
  | 6, _ => exact wk6_c w
  | 7, _ => exact wk7_c w
  | 8, _ => exact wk8_c w
  | 9, _ => exact wk9_c w
  | 10, _ => exact wk10_c w
  | 11, _ => exact wk11_c w
  | 12, _ => exact wk12_c w
  | _ + 13, h => omega
end Go.Proofs.YtgnifckehopjhaaDoor
