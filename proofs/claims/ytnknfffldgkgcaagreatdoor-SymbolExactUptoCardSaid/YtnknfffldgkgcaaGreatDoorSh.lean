import Derived.Test.YtnknfffldgkgcaaGreatDoorSa
set_option linter.all false
/- The reference's registry of symbols: a list; its names; a new one. -/
namespace Go.Proofs.YtnknfffldgkgcaaGreatDoor
open Go.RowKit Go.Proofs.YtnknfffldgkgcaaGreatDoorW.PrintWords
attribute [local go_sem] run_store_float
attribute [local go_sem ↓] Go.wp_at_zero Go.wp_at_succ

def nm (j : Nat) : ByteArray := match j with
  | 0 => ⟨#[97, 115, 121, 110, 99, 73, 116, 101, 114, 97, 116, 111, 114]⟩
  | 1 => ⟨#[104, 97, 115, 73, 110, 115, 116, 97, 110, 99, 101]⟩
  | 2 => ⟨#[105, 115, 67, 111, 110, 99, 97, 116, 83, 112, 114, 101, 97, 100, 97, 98, 108, 101]⟩
  | 3 => ⟨#[105, 116, 101, 114, 97, 116, 111, 114]⟩
  | 4 => ⟨#[109, 97, 116, 99, 104]⟩
  | 5 => ⟨#[109, 97, 116, 99, 104, 65, 108, 108]⟩
  | 6 => ⟨#[114, 101, 112, 108, 97, 99, 101]⟩
  | 7 => ⟨#[115, 101, 97, 114, 99, 104]⟩
  | 8 => ⟨#[115, 112, 101, 99, 105, 101, 115]⟩
  | 9 => ⟨#[115, 112, 108, 105, 116]⟩
  | 10 => ⟨#[116, 111, 80, 114, 105, 109, 105, 116, 105, 118, 101]⟩
  | 11 => ⟨#[116, 111, 83, 116, 114, 105, 110, 103, 84, 97, 103]⟩
  | 12 => ⟨#[117, 110, 115, 99, 111, 112, 97, 98, 108, 101, 115]⟩
  | _ => ⟨#[]⟩
/-- The reference's table of names lies in the world. -/
def NamesT (w : World) : Prop := (∀ j, j < 13 → w.cell? ⟨0, j, none⟩ = some (.string (nm j))) ∧ 0 < w.heap.size
theorem NamesT.below {w w' : World} (h : NamesT w) (hb : Below w.heap.size w w') : NamesT w' :=
  ⟨fun j hj => (hb.cell (p := ⟨0, j, none⟩) h.2).trans (h.1 j hj), Nat.lt_of_lt_of_le h.2 hb.size⟩

theorem wkNo_c (n : Int) (hn : n < 1 ∨ 13 < n) (w : World) : Calls Tryz.prog 30 #[.int .i64 n] w fun e w' => e = .returned (.tuple #[.string ⟨#[]⟩, .bool false]) ∧ Below w.heap.size w w' := by
  by_cases h1 : n < 1
  · go_enter Tryz.func30, Tryz.ntmps30
    go_wp2
    go_ret2
    exact ⟨rfl, (Below.refl _ _).alloc (Nat.le_refl _) _⟩
  · have h2 : 13 < n := by omega
    go_enter Tryz.func30, Tryz.ntmps30
    go_wp2
    go_ret2
    exact ⟨rfl, (Below.refl _ _).alloc (Nat.le_refl _) _⟩
theorem rwkNo_c (n : Int) (hn : n < 1 ∨ 13 < n) (w : World) : Calls Tryz.prog 32 #[.int .i64 n] w fun e w' => e = .returned (.tuple #[.string ⟨#[]⟩, .bool false]) ∧ w = w' := by
  by_cases h1 : n < 1
  · go_enter Tryz.func32, Tryz.ntmps32
    go_wp2
    go_ret2
    exact ⟨rfl, rfl⟩
  · have h2 : 13 < n := by omega
    go_enter Tryz.func32, Tryz.ntmps32
    go_wp2
    go_ret2
    exact ⟨rfl, rfl⟩
theorem rwk0_c (w : World) (HN : NamesT w) : Calls Tryz.prog 32 #[.int .i64 1] w fun e w' => e = .returned (.tuple #[.string (wk 0), .bool true]) ∧ w = w' := by
  have ha : ∀ W, (Op.stringOp .add ⟨#[83, 121, 109, 98, 111, 108, 46]⟩ ⟨#[97, 115, 121, 110, 99, 73, 116, 101, 114, 97, 116, 111, 114]⟩).run Tryz.prog W = .ok (.string (wk 0)) W := fun W => by rw [addS _ _ (by decide +kernel)]; rfl
  have h0 : w.cell? ⟨0, 0, none⟩ = some (.string ⟨#[97, 115, 121, 110, 99, 73, 116, 101, 114, 97, 116, 111, 114]⟩) := HN.1 0 (by decide)
  clear HN
  go_enter Tryz.func32, Tryz.ntmps32
  go_wp2
  go_ret2
  exact ⟨rfl, rfl⟩
theorem rwk1_c (w : World) (HN : NamesT w) : Calls Tryz.prog 32 #[.int .i64 2] w fun e w' => e = .returned (.tuple #[.string (wk 1), .bool true]) ∧ w = w' := by
  have ha : ∀ W, (Op.stringOp .add ⟨#[83, 121, 109, 98, 111, 108, 46]⟩ ⟨#[104, 97, 115, 73, 110, 115, 116, 97, 110, 99, 101]⟩).run Tryz.prog W = .ok (.string (wk 1)) W := fun W => by rw [addS _ _ (by decide +kernel)]; rfl
  have h0 : w.cell? ⟨0, 1, none⟩ = some (.string ⟨#[104, 97, 115, 73, 110, 115, 116, 97, 110, 99, 101]⟩) := HN.1 1 (by decide)
  clear HN
  go_enter Tryz.func32, Tryz.ntmps32
  go_wp2
  go_ret2
  exact ⟨rfl, rfl⟩
theorem rwk2_c (w : World) (HN : NamesT w) : Calls Tryz.prog 32 #[.int .i64 3] w fun e w' => e = .returned (.tuple #[.string (wk 2), .bool true]) ∧ w = w' := by
  have ha : ∀ W, (Op.stringOp .add ⟨#[83, 121, 109, 98, 111, 108, 46]⟩ ⟨#[105, 115, 67, 111, 110, 99, 97, 116, 83, 112, 114, 101, 97, 100, 97, 98, 108, 101]⟩).run Tryz.prog W = .ok (.string (wk 2)) W := fun W => by rw [addS _ _ (by decide +kernel)]; rfl
  have h0 : w.cell? ⟨0, 2, none⟩ = some (.string ⟨#[105, 115, 67, 111, 110, 99, 97, 116, 83, 112, 114, 101, 97, 100, 97, 98, 108, 101]⟩) := HN.1 2 (by decide)
  clear HN
  go_enter Tryz.func32, Tryz.ntmps32
  go_wp2
  go_ret2
  exact ⟨rfl, rfl⟩
theorem rwk3_c (w : World) (HN : NamesT w) : Calls Tryz.prog 32 #[.int .i64 4] w fun e w' => e = .returned (.tuple #[.string (wk 3), .bool true]) ∧ w = w' := by
  have ha : ∀ W, (Op.stringOp .add ⟨#[83, 121, 109, 98, 111, 108, 46]⟩ ⟨#[105, 116, 101, 114, 97, 116, 111, 114]⟩).run Tryz.prog W = .ok (.string (wk 3)) W := fun W => by rw [addS _ _ (by decide +kernel)]; rfl
  have h0 : w.cell? ⟨0, 3, none⟩ = some (.string ⟨#[105, 116, 101, 114, 97, 116, 111, 114]⟩) := HN.1 3 (by decide)
  clear HN
  go_enter Tryz.func32, Tryz.ntmps32
  go_wp2
  go_ret2
  exact ⟨rfl, rfl⟩
theorem rwk4_c (w : World) (HN : NamesT w) : Calls Tryz.prog 32 #[.int .i64 5] w fun e w' => e = .returned (.tuple #[.string (wk 4), .bool true]) ∧ w = w' := by
  have ha : ∀ W, (Op.stringOp .add ⟨#[83, 121, 109, 98, 111, 108, 46]⟩ ⟨#[109, 97, 116, 99, 104]⟩).run Tryz.prog W = .ok (.string (wk 4)) W := fun W => by rw [addS _ _ (by decide +kernel)]; rfl
  have h0 : w.cell? ⟨0, 4, none⟩ = some (.string ⟨#[109, 97, 116, 99, 104]⟩) := HN.1 4 (by decide)
  clear HN
  go_enter Tryz.func32, Tryz.ntmps32
  go_wp2
  go_ret2
  exact ⟨rfl, rfl⟩
theorem rwk5_c (w : World) (HN : NamesT w) : Calls Tryz.prog 32 #[.int .i64 6] w fun e w' => e = .returned (.tuple #[.string (wk 5), .bool true]) ∧ w = w' := by
  have ha : ∀ W, (Op.stringOp .add ⟨#[83, 121, 109, 98, 111, 108, 46]⟩ ⟨#[109, 97, 116, 99, 104, 65, 108, 108]⟩).run Tryz.prog W = .ok (.string (wk 5)) W := fun W => by rw [addS _ _ (by decide +kernel)]; rfl
  have h0 : w.cell? ⟨0, 5, none⟩ = some (.string ⟨#[109, 97, 116, 99, 104, 65, 108, 108]⟩) := HN.1 5 (by decide)
  clear HN
  go_enter Tryz.func32, Tryz.ntmps32
  go_wp2
  go_ret2
  exact ⟨rfl, rfl⟩
theorem rwk6_c (w : World) (HN : NamesT w) : Calls Tryz.prog 32 #[.int .i64 7] w fun e w' => e = .returned (.tuple #[.string (wk 6), .bool true]) ∧ w = w' := by
  have ha : ∀ W, (Op.stringOp .add ⟨#[83, 121, 109, 98, 111, 108, 46]⟩ ⟨#[114, 101, 112, 108, 97, 99, 101]⟩).run Tryz.prog W = .ok (.string (wk 6)) W := fun W => by rw [addS _ _ (by decide +kernel)]; rfl
  have h0 : w.cell? ⟨0, 6, none⟩ = some (.string ⟨#[114, 101, 112, 108, 97, 99, 101]⟩) := HN.1 6 (by decide)
  clear HN
  go_enter Tryz.func32, Tryz.ntmps32
  go_wp2
  go_ret2
  exact ⟨rfl, rfl⟩
theorem rwk7_c (w : World) (HN : NamesT w) : Calls Tryz.prog 32 #[.int .i64 8] w fun e w' => e = .returned (.tuple #[.string (wk 7), .bool true]) ∧ w = w' := by
  have ha : ∀ W, (Op.stringOp .add ⟨#[83, 121, 109, 98, 111, 108, 46]⟩ ⟨#[115, 101, 97, 114, 99, 104]⟩).run Tryz.prog W = .ok (.string (wk 7)) W := fun W => by rw [addS _ _ (by decide +kernel)]; rfl
  have h0 : w.cell? ⟨0, 7, none⟩ = some (.string ⟨#[115, 101, 97, 114, 99, 104]⟩) := HN.1 7 (by decide)
  clear HN
  go_enter Tryz.func32, Tryz.ntmps32
  go_wp2
  go_ret2
  exact ⟨rfl, rfl⟩
theorem rwk8_c (w : World) (HN : NamesT w) : Calls Tryz.prog 32 #[.int .i64 9] w fun e w' => e = .returned (.tuple #[.string (wk 8), .bool true]) ∧ w = w' := by
  have ha : ∀ W, (Op.stringOp .add ⟨#[83, 121, 109, 98, 111, 108, 46]⟩ ⟨#[115, 112, 101, 99, 105, 101, 115]⟩).run Tryz.prog W = .ok (.string (wk 8)) W := fun W => by rw [addS _ _ (by decide +kernel)]; rfl
  have h0 : w.cell? ⟨0, 8, none⟩ = some (.string ⟨#[115, 112, 101, 99, 105, 101, 115]⟩) := HN.1 8 (by decide)
  clear HN
  go_enter Tryz.func32, Tryz.ntmps32
  go_wp2
  go_ret2
  exact ⟨rfl, rfl⟩
theorem rwk9_c (w : World) (HN : NamesT w) : Calls Tryz.prog 32 #[.int .i64 10] w fun e w' => e = .returned (.tuple #[.string (wk 9), .bool true]) ∧ w = w' := by
  have ha : ∀ W, (Op.stringOp .add ⟨#[83, 121, 109, 98, 111, 108, 46]⟩ ⟨#[115, 112, 108, 105, 116]⟩).run Tryz.prog W = .ok (.string (wk 9)) W := fun W => by rw [addS _ _ (by decide +kernel)]; rfl
  have h0 : w.cell? ⟨0, 9, none⟩ = some (.string ⟨#[115, 112, 108, 105, 116]⟩) := HN.1 9 (by decide)
  clear HN
  go_enter Tryz.func32, Tryz.ntmps32
  go_wp2
  go_ret2
  exact ⟨rfl, rfl⟩
theorem rwk10_c (w : World) (HN : NamesT w) : Calls Tryz.prog 32 #[.int .i64 11] w fun e w' => e = .returned (.tuple #[.string (wk 10), .bool true]) ∧ w = w' := by
  have ha : ∀ W, (Op.stringOp .add ⟨#[83, 121, 109, 98, 111, 108, 46]⟩ ⟨#[116, 111, 80, 114, 105, 109, 105, 116, 105, 118, 101]⟩).run Tryz.prog W = .ok (.string (wk 10)) W := fun W => by rw [addS _ _ (by decide +kernel)]; rfl
  have h0 : w.cell? ⟨0, 10, none⟩ = some (.string ⟨#[116, 111, 80, 114, 105, 109, 105, 116, 105, 118, 101]⟩) := HN.1 10 (by decide)
  clear HN
  go_enter Tryz.func32, Tryz.ntmps32
  go_wp2
  go_ret2
  exact ⟨rfl, rfl⟩
theorem rwk11_c (w : World) (HN : NamesT w) : Calls Tryz.prog 32 #[.int .i64 12] w fun e w' => e = .returned (.tuple #[.string (wk 11), .bool true]) ∧ w = w' := by
  have ha : ∀ W, (Op.stringOp .add ⟨#[83, 121, 109, 98, 111, 108, 46]⟩ ⟨#[116, 111, 83, 116, 114, 105, 110, 103, 84, 97, 103]⟩).run Tryz.prog W = .ok (.string (wk 11)) W := fun W => by rw [addS _ _ (by decide +kernel)]; rfl
  have h0 : w.cell? ⟨0, 11, none⟩ = some (.string ⟨#[116, 111, 83, 116, 114, 105, 110, 103, 84, 97, 103]⟩) := HN.1 11 (by decide)
  clear HN
  go_enter Tryz.func32, Tryz.ntmps32
  go_wp2
  go_ret2
  exact ⟨rfl, rfl⟩
theorem rwk12_c (w : World) (HN : NamesT w) : Calls Tryz.prog 32 #[.int .i64 13] w fun e w' => e = .returned (.tuple #[.string (wk 12), .bool true]) ∧ w = w' := by
  have ha : ∀ W, (Op.stringOp .add ⟨#[83, 121, 109, 98, 111, 108, 46]⟩ ⟨#[117, 110, 115, 99, 111, 112, 97, 98, 108, 101, 115]⟩).run Tryz.prog W = .ok (.string (wk 12)) W := fun W => by rw [addS _ _ (by decide +kernel)]; rfl
  have h0 : w.cell? ⟨0, 12, none⟩ = some (.string ⟨#[117, 110, 115, 99, 111, 112, 97, 98, 108, 101, 115]⟩) := HN.1 12 (by decide)
  clear HN
  go_enter Tryz.func32, Tryz.ntmps32
  go_wp2
  go_ret2
  exact ⟨rfl, rfl⟩
theorem rwk_c (j : Nat) (h : j < 13) (w : World) (HN : NamesT w) : Calls Tryz.prog 32 #[.int .i64 ((j : Int) + 1)] w fun e w' => e = .returned (.tuple #[.string (wk j), .bool true]) ∧ w = w' := by
  match j, h with
  | 0, _ => exact rwk0_c w HN
  | 1, _ => exact rwk1_c w HN
  | 2, _ => exact rwk2_c w HN
  | 3, _ => exact rwk3_c w HN
  | 4, _ => exact rwk4_c w HN
  | 5, _ => exact rwk5_c w HN
  | 6, _ => exact rwk6_c w HN
  | 7, _ => exact rwk7_c w HN
  | 8, _ => exact rwk8_c w HN
  | 9, _ => exact rwk9_c w HN
  | 10, _ => exact rwk10_c w HN
  | 11, _ => exact rwk11_c w HN
  | 12, _ => exact rwk12_c w HN
  | _ + 13, h => omega
end Go.Proofs.YtnknfffldgkgcaaGreatDoor

/- The reference's registry of symbols: what reads it; a new one. -/
namespace Go.Proofs.YtnknfffldgkgcaaGreatDoor
open Go.RowKit Go.Proofs.YtnknfffldgkgcaaGreatDoorW.PrintWords
attribute [local go_sem] run_store_float
attribute [local go_sem ↓] Go.wp_at_zero Go.wp_at_succ

theorem infoS : (Tryz.prog.info? 79).map (fun i => (i.zero, i.size, i.bytes)) = some (some (.agg #[.int .i64 0, .bool false, .float .f64 0, .string ⟨#[]⟩, .int .i64 0, .bool false]), 6, 56) := by kernel_rfl

/-- Block q holds the reference's registry of cnt symbols (their cells: xs); all of it lies from B on. -/
def Ref (B q cnt : Nat) (xs : List Value) (W : World) : Prop :=
  B ≤ q ∧ ∃ a cap, W.heap[q]? = some (.cells #[.slice a cnt cap] 41 (0, 0)) ∧ W.ownsRow B 79 6 (.slice a cnt cap) cnt xs

theorem Ref.keep {B q cnt : Nat} {xs : List Value} {W W' : World} (h : Ref B q cnt xs W) (hb : Below W.heap.size W W') : Ref B q cnt xs W' := by
  obtain ⟨h1, a, cap, hp, ho⟩ := h
  exact ⟨h1, a, cap, (hb.block _ (ltH hp)).trans hp, ho.kept (row := none) (Below.grown hb rfl) (by cases a <;> simp [Value.ownBlock])⟩
theorem Ref.le {B q cnt : Nat} {xs : List Value} {W : World} (h : Ref B q cnt xs W) : B ≤ W.heap.size := by
  obtain ⟨h1, a, cap, hp, ho⟩ := h
  have := ltH hp; omega

def flatS : Nat → List Value
  | 0 => []
  | n + 1 => flatS n ++ [.int .i64 5, .bool false, .float .f64 0, .string (wk n), .int .i64 0, .bool false]
theorem flatS_len : ∀ n, (flatS n).length = 6 * n
  | 0 => rfl
  | n + 1 => by simp [flatS, flatS_len n]; omega
theorem flatS_at (j : Nat) (h : j < 13) : (flatS 13)[j * 6]? = some (.int .i64 5) ∧ (flatS 13)[j * 6 + 1]? = some (.bool false) ∧ (flatS 13)[j * 6 + 2]? = some (.float .f64 0) ∧ (flatS 13)[j * 6 + 3]? = some (.string (wk j)) ∧ (flatS 13)[j * 6 + 4]? = some (.int .i64 0) ∧ (flatS 13)[j * 6 + 5]? = some (.bool false) := by
  match j, h with
  | 0, _ | 1, _ | 2, _ | 3, _ | 4, _ | 5, _ | 6, _ | 7, _ | 8, _ | 9, _ | 10, _ | 11, _ | 12, _ => exact ⟨rfl, rfl, rfl, rfl, rfl, rfl⟩
  | _ + 13, h => omega
theorem flatW_at (j : Nat) (h : j < 13) : (flatW 13)[j * 5]? = some (.int .i64 5) ∧ (flatW 13)[j * 5 + 1]? = some (.bool false) ∧ (flatW 13)[j * 5 + 2]? = some (.float .f64 0) ∧ (flatW 13)[j * 5 + 3]? = some (.string (wk j)) ∧ (flatW 13)[j * 5 + 4]? = some (.int .i64 0) := by
  match j, h with
  | 0, _ | 1, _ | 2, _ | 3, _ | 4, _ | 5, _ | 6, _ | 7, _ | 8, _ | 9, _ | 10, _ | 11, _ | 12, _ => exact ⟨rfl, rfl, rfl, rfl, rfl⟩
  | _ + 13, h => omega

/-- What a registry of the thirteen names gives to read: its list, and a symbol's cells. -/
theorem Ref.read {B q : Nat} {W : World} (h : Ref B q 13 (flatS 13) W) : ∃ g cap, W.heap[q]? = some (.cells #[.slice (some ⟨g, 0, none⟩) 13 cap] 41 (0, 0)) ∧ W.cell? ⟨q, 0, none⟩ = some (.slice (some ⟨g, 0, none⟩) 13 cap) ∧
    ∀ j, j < 13 → W.cell? ⟨g, j * 6, none⟩ = some (.int .i64 5) ∧ W.cell? ⟨g, j * 6 + 1, none⟩ = some (.bool false) ∧ W.cell? ⟨g, j * 6 + 2, none⟩ = some (.float .f64 0) ∧ W.cell? ⟨g, j * 6 + 3, none⟩ = some (.string (wk j)) ∧ W.cell? ⟨g, j * 6 + 4, none⟩ = some (.int .i64 0) ∧ W.cell? ⟨g, j * 6 + 5, none⟩ = some (.bool false) := by
  obtain ⟨h1, a, cap, hp, ho⟩ := h
  obtain ⟨g, cap', e, _, hlt⟩ := ho.form (by omega)
  cases e
  refine ⟨g, cap, hp, by rw [Lib.cell_of_heap hp]; rfl, fun j hj => ?_⟩
  obtain ⟨x0, x1, x2, x3, x4, x5⟩ := flatS_at j hj
  have rd : ∀ k u, (flatS 13)[k]? = some u → W.cell? ⟨g, k, none⟩ = some u := fun k u hu => by
    have h := ho.cells (g := g) rfl k u hu
    have hadd : (⟨g, 0, none⟩ : Addr).add k = ⟨g, k, none⟩ := by unfold Addr.add; split <;> simp_all
    rw [hadd] at h; exact h
  exact ⟨rd _ _ x0, rd _ _ x1, rd _ _ x2, rd _ _ x3, rd _ _ x4, rd _ _ x5⟩

theorem rhas_c {B q : Nat} {W : World} (h : Ref B q 13 (flatS 13) W) (n : Int) :
    Calls Tryz.prog 49 #[.pointer (some ⟨q, 0, none⟩), .int .i64 n] W fun e W' => e = .returned (.bool (decide (1 ≤ n) && decide (n ≤ 13))) ∧ W = W' := by
  obtain ⟨g, cap, _, c0, _⟩ := h.read
  clear h
  by_cases h1 : (1 : Int) ≤ n <;> by_cases h2 : n ≤ 13
  all_goals
    go_enter Tryz.func49, Tryz.ntmps49
    go_wp2
    go_ret
    exact ⟨by simp [h1, h2], rfl⟩

set_option maxRecDepth 100000 in
theorem rstr_c (s : ByteArray) (w : World) : Calls Tryz.prog 33 #[.string s] w fun e w' => e = .returned (VV 5 false 0 s 0) ∧ Below w.heap.size w w' := by
  unfold VV
  go_enter Tryz.func33, Tryz.ntmps33
  go_wp2
  refine bodyPost_ret (results_cell_row rfl _ _ w.heap.size _ _ _ _ rfl (heap_alloc_new _ _) Tryz.underlying35 rfl (by kernel_rfl)) rfl ?_
  exact ⟨rfl, (Below.refl _ _).alloc (Nat.le_refl _) _⟩

set_option maxRecDepth 100000 in
theorem rdescNo_c {B q : Nat} {W : World} (h : Ref B q 13 (flatS 13) W) (n : Int) (hn : n < 1 ∨ 13 < n) :
    Calls Tryz.prog 26 #[.pointer (some ⟨q, 0, none⟩), .int .i64 n] W fun e W' => e = .returned (.tuple #[VV 0 false 0 ⟨#[]⟩ 0, .int .i64 7]) ∧ Below W.heap.size W W' := by
  unfold VV
  have hh := Fact.mk (fun w' (hb : Below W.heap.size W w') => rhas_c (h.keep hb) n)
  have hf : (decide (1 ≤ n) && decide (n ≤ 13)) = false := by simp; omega
  rw [hf] at hh
  clear h hf hn
  go_enter Tryz.func26, Tryz.ntmps26
  go_wp2_with (go_at_call 49; refine (hh.out _ ((Below.refl _ _).alloc (Nat.le_refl _) _)).mono ?_; rintro e w1 ⟨rfl, rfl⟩)
  first
    | refine bodyPost_ret (results_ct rfl _ _ W.heap.size _ _ _ _ rfl (heap_alloc_new _ _) Tryz.underlying35 rfl (by kernel_rfl)) rfl ⟨rfl, (Below.refl _ _).alloc (Nat.le_refl _) _⟩
    | refine bodyPost_ret (results_ct rfl _ _ W.heap.size _ _ _ _ rfl (set5 (heap_alloc_new _ _) _ _ _ _ _) Tryz.underlying35 rfl (by kernel_rfl)) rfl ⟨rfl, setB5 ((Below.refl _ _).alloc (Nat.le_refl _) _) (Nat.le_refl _) _ _ _ _ _⟩

theorem alloc_cellF {W : World} {a : Addr} {v : Value} (h : W.cell? a = some v) (o : Obj) : (W.alloc o).cell? a = some v := by
  obtain ⟨b, f, m⟩ := a
  exact (World.cell?_of_block (w := W) (a := ⟨b, f, m⟩) (Below.heap_alloc W o b (World.block_lt_of_cell? W _ h))).trans h

set_option maxRecDepth 100000 in
theorem rdesc_c {B q : Nat} {W : World} (h : Ref B q 13 (flatS 13) W) (j : Nat) (hj : j < 13) :
    Calls Tryz.prog 26 #[.pointer (some ⟨q, 0, none⟩), .int .i64 ((j : Int) + 1)] W fun e W' => e = .returned (.tuple #[VV 5 false 0 (wk j) 0, .int .i64 0]) ∧ Below W.heap.size W W' := by
  unfold VV
  have hh := Fact.mk (fun w' (hb : Below W.heap.size W w') => rhas_c (h.keep hb) ((j : Int) + 1))
  have hf : (decide ((1 : Int) ≤ (j : Int) + 1) && decide ((j : Int) + 1 ≤ 13)) = true := by simp; omega
  rw [hf] at hh
  obtain ⟨g, cap, _, c0, hc⟩ := h.read
  obtain ⟨e0, e1, e2, e3, e4, e5⟩ := hc j hj
  clear h hf hc
  generalize wk j = s at *
  replace c0 := fun o => alloc_cellF c0 o
  replace e0 := fun o => alloc_cellF e0 o
  replace e1 := fun o => alloc_cellF e1 o
  replace e2 := fun o => alloc_cellF e2 o
  replace e3 := fun o => alloc_cellF e3 o
  replace e4 := fun o => alloc_cellF e4 o
  have f : ∀ q, (W.alloc (.cells #[.int .i64 0, .bool false, .float .f64 0, .string ⟨#[]⟩, .int .i64 0] 35)).frozen? ⟨W.heap.size, q, none⟩ = false := fun q => Lib.frozen_of_heap (heap_alloc_new W _) q
  have i1 : (0 : Int) ≤ (j : Int) := by omega
  have i2 : (j : Int) < 13 := by omega
  go_enter Tryz.func26, Tryz.ntmps26
  go_wp2_with (go_at_call 49; refine (hh.out _ ((Below.refl _ _).alloc (Nat.le_refl _) _)).mono ?_; rintro e w1 ⟨rfl, rfl⟩)
  first
    | refine bodyPost_ret (results_ct rfl _ _ W.heap.size _ _ _ _ rfl (heap_alloc_new _ _) Tryz.underlying35 rfl (by kernel_rfl)) rfl ⟨rfl, (Below.refl _ _).alloc (Nat.le_refl _) _⟩
    | refine bodyPost_ret (results_ct rfl _ _ W.heap.size _ _ _ _ rfl (set5 (heap_alloc_new _ _) _ _ _ _ _) Tryz.underlying35 rfl (by kernel_rfl)) rfl ⟨rfl, setB5 ((Below.refl _ _).alloc (Nat.le_refl _) _) (Nat.le_refl _) _ _ _ _ _⟩

set_option maxRecDepth 100000 in
theorem rkeyNo_c {B q : Nat} {W : World} (h : Ref B q 13 (flatS 13) W) (n : Int) (hn : n < 1 ∨ 13 < n) :
    Calls Tryz.prog 24 #[.pointer (some ⟨q, 0, none⟩), .int .i64 n] W fun e W' => e = .returned (.tuple #[.string ⟨#[]⟩, .bool false, .int .i64 7]) ∧ W = W' := by
  have hh := Fact.mk (rhas_c h n)
  have hf : (decide (1 ≤ n) && decide (n ≤ 13)) = false := by simp; omega
  rw [hf] at hh
  clear h hf hn
  go_enter Tryz.func24, Tryz.ntmps24
  go_wp2_with (go_at_call 49; refine hh.out.mono ?_; rintro e w1 ⟨rfl, rfl⟩)
  refine bodyPost_ret (results_tmp3 rfl _ _ _) rfl ?_
  exact ⟨rfl, rfl⟩
set_option maxRecDepth 100000 in
theorem rkey_c {B q : Nat} {W : World} (h : Ref B q 13 (flatS 13) W) (j : Nat) (hj : j < 13) :
    Calls Tryz.prog 24 #[.pointer (some ⟨q, 0, none⟩), .int .i64 ((j : Int) + 1)] W fun e W' => e = .returned (.tuple #[.string ⟨#[]⟩, .bool false, .int .i64 0]) ∧ W = W' := by
  have hh := Fact.mk (rhas_c h ((j : Int) + 1))
  have hf : (decide ((1 : Int) ≤ (j : Int) + 1) && decide ((j : Int) + 1 ≤ 13)) = true := by simp; omega
  rw [hf] at hh
  obtain ⟨g, cap, _, c0, hc⟩ := h.read
  obtain ⟨e0, e1, e2, e3, e4, e5⟩ := hc j hj
  have i1 : (0 : Int) ≤ (j : Int) := by omega
  have i2 : (j : Int) < 13 := by omega
  clear h hf hc e0 e1 e2 e3 e4
  go_enter Tryz.func24, Tryz.ntmps24
  go_wp2_with (go_at_call 49; refine hh.out.mono ?_; rintro e w1 ⟨rfl, rfl⟩)
  refine bodyPost_ret (results_tmp3 rfl _ _ _) rfl ?_
  exact ⟨rfl, rfl⟩

set_option maxRecDepth 100000 in
theorem rtextNo_c {B q : Nat} {W : World} (h : Ref B q 13 (flatS 13) W) (n : Int) (hn : n < 1 ∨ 13 < n) :
    Calls Tryz.prog 28 #[.pointer (some ⟨q, 0, none⟩), .int .i64 n] W fun e W' => e = .returned (.tuple #[.string ⟨#[]⟩, .int .i64 7]) ∧ W = W' := by
  have hh := Fact.mk (rhas_c h n)
  have hf : (decide (1 ≤ n) && decide (n ≤ 13)) = false := by simp; omega
  rw [hf] at hh
  clear h hf hn
  go_enter Tryz.func28, Tryz.ntmps28
  go_wp2_with (go_at_call 49; refine hh.out.mono ?_; rintro e w1 ⟨rfl, rfl⟩)
  go_ret2
  exact ⟨rfl, rfl⟩
/-- A symbol's text. -/
def stx (j : Nat) : ByteArray := (⟨#[83, 121, 109, 98, 111, 108, 40]⟩ ++ wk j) ++ ⟨#[41]⟩
theorem stx_ha (j : Nat) (hj : j < 13) : (∀ W, (Op.stringOp .add ⟨#[83, 121, 109, 98, 111, 108, 40]⟩ (wk j)).run Tryz.prog W = .ok (.string (⟨#[83, 121, 109, 98, 111, 108, 40]⟩ ++ wk j)) W) ∧
    (∀ W, (Op.stringOp .add (⟨#[83, 121, 109, 98, 111, 108, 40]⟩ ++ wk j) ⟨#[41]⟩).run Tryz.prog W = .ok (.string (stx j)) W) ∧ ((stx j).size : Int) ≤ 1048576 := by
  have h : ∀ j < 13, (wk j).size ≤ 100 ∧ (stx j).size ≤ 1000 ∧ ((⟨#[83, 121, 109, 98, 111, 108, 40]⟩ : ByteArray) ++ wk j).size ≤ 200 := by decide +kernel
  obtain ⟨h1, h2, h3⟩ := h j hj
  have a1 : (⟨#[83, 121, 109, 98, 111, 108, 40]⟩ : ByteArray).size = 7 := rfl
  have a2 : (⟨#[41]⟩ : ByteArray).size = 1 := rfl
  exact ⟨fun W => addS _ _ (by omega) W, fun W => addS _ _ (by omega) W, by omega⟩
set_option maxRecDepth 100000 in
theorem rtext_c {B q : Nat} {W : World} (h : Ref B q 13 (flatS 13) W) (j : Nat) (hj : j < 13) :
    Calls Tryz.prog 28 #[.pointer (some ⟨q, 0, none⟩), .int .i64 ((j : Int) + 1)] W fun e W' => e = .returned (.tuple #[.string (stx j), .int .i64 0]) ∧ W = W' := by
  have hh := Fact.mk (rhas_c h ((j : Int) + 1))
  have hf : (decide ((1 : Int) ≤ (j : Int) + 1) && decide ((j : Int) + 1 ≤ 13)) = true := by simp; omega
  rw [hf] at hh
  obtain ⟨g, cap, _, c0, hc⟩ := h.read
  obtain ⟨e0, e1, e2, e3, e4, e5⟩ := hc j hj
  obtain ⟨ha1, ha2, hs⟩ := stx_ha j hj
  have i1 : (0 : Int) ≤ (j : Int) := by omega
  have i2 : (j : Int) < 13 := by omega
  clear h hf hc e0 e1 e2 e4 e5
  generalize stx j = S2 at *
  generalize (⟨#[83, 121, 109, 98, 111, 108, 40]⟩ : ByteArray) ++ wk j = S1 at *
  generalize wk j = S0 at *
  go_enter Tryz.func28, Tryz.ntmps28
  go_wp2_with (go_at_call 49; refine hh.out.mono ?_; rintro e w1 ⟨rfl, rfl⟩)
  go_ret2
  exact ⟨rfl, rfl⟩

set_option maxRecDepth 100000 in
/-- None is known by a text. -/
theorem rknown_c {B q : Nat} {W : World} (h : Ref B q 13 (flatS 13) W) :
    Calls Tryz.prog 20 #[.pointer (some ⟨q, 0, none⟩)] W fun e W' => e = .returned (.slice none 0 0) ∧ W = W' := by
  obtain ⟨g, cap, _, c0, hc⟩ := h.read
  have hc' := Fact.mk hc
  clear h hc
  go_enter Tryz.func20, Tryz.ntmps20
  go_wp2
  go_loopg [3, 4] 13 (fun kq v3 v4 w' => ∃ j : Nat, v3 = .slice none 0 0 ∧ v4 = .int .i64 (j : Int) ∧ Aside0 (j + kq = 13) ∧ W = w')
  case atStart => exact ⟨0, rfl, rfl, ⟨by omega⟩, rfl⟩
  case round =>
    obtain ⟨j, rfl, rfl, HN, rfl⟩ := hrel
    by_cases c1 : (j : Int) < 13
    · have hj : j < 13 := by omega
      have hr5 := (hc'.out j hj).2.2.2.2.2
      have i1 : (0 : Int) ≤ (j : Int) := by omega
      cases gk with
      | zero => exact absurd HN.out (by omega)
      | succ k1 =>
        go_wp2
        go_roundg k1
        case measure => omega
        case rel => exact ⟨j + 1, rfl, by first | rfl | (congr 1; omega), ⟨by have := HN.out; omega⟩, rfl⟩
    · go_wp2
      go_ret
      exact ⟨rfl, rfl⟩
end Go.Proofs.YtnknfffldgkgcaaGreatDoor

/- The reference's registry of symbols: a new one. -/
namespace Go.Proofs.YtnknfffldgkgcaaGreatDoor
open Go.RowKit Go.Proofs.YtnknfffldgkgcaaGreatDoorW.PrintWords
attribute [local go_sem] run_store_float
attribute [local go_sem ↓] Go.wp_at_zero Go.wp_at_succ

theorem rrow_ne {B g cnt : Nat} {xs : List Value} {v : Value} {W : World} {o : Obj} (ho : W.ownsRow B 79 6 v cnt xs) (hg : W.heap[g]? = some o) (hn : ∀ cs, o ≠ .cells cs 79 (0, 0)) : some g ≠ v.ownBlock := by
  rcases ho.2 with ⟨rfl, _⟩ | ⟨q, c, cur, rfl, _, hq, _⟩
  · simp [Value.ownBlock]
  · intro e
    have : g = q := by simpa [Value.ownBlock] using e
    subst this
    rw [hq] at hg
    exact hn cur (Option.some.inj hg).symm

theorem ref_grow {B p cnt : Nat} {xs ys : List Value} {a : Option Addr} {cap g cap' : Nat} {W V w1 : World} (h1 : B ≤ p)
    (hp : W.heap[p]? = some (.cells #[.slice a cnt cap] 41 (0, 0))) (ho : W.ownsRow B 79 6 (.slice a cnt cap) cnt xs)
    (hBV : Below W.heap.size W V) (hgrow : V.grownBy w1 (Value.slice a cnt cap).ownBlock) (hown : w1.ownsRow B 79 6 (.slice (some ⟨g, 0, none⟩) (cnt + 1) cap') (cnt + 1) ys) :
    Ref B p (cnt + 1) ys (w1.setCell ⟨p, 0, none⟩ (.slice (some ⟨g, 0, none⟩) (cnt + 1) cap')) ∧ Below B W (w1.setCell ⟨p, 0, none⟩ (.slice (some ⟨g, 0, none⟩) (cnt + 1) cap')) := by
  have hk : ∀ q, q < W.heap.size → some q ≠ (Value.slice a cnt cap).ownBlock → w1.heap[q]? = W.heap[q]? := fun q hq hne => (hgrow.block q (by have := hBV.size; omega) hne).trans (hBV.block q hq)
  have np := rrow_ne ho hp (by simp)
  have hp1 := (hk p (ltH hp) np).trans hp
  have hgp : some p ≠ (Value.slice (some ⟨g, 0, none⟩) (cnt + 1) cap').ownBlock := rrow_ne hown hp1 (by simp)
  have hs : w1.grownBy (w1.setCell ⟨p, 0, none⟩ (.slice (some ⟨g, 0, none⟩) (cnt + 1) cap')) (some p) :=
    ⟨rfl, rfl, rfl, by simp [World.setCell], fun q _ hne => Below.heap_setCell _ _ _ _ (fun e => hne (by rw [e]))⟩
  refine ⟨⟨h1, _, _, ?_, hown.kept hs (.inr (Ne.symm hgp))⟩, ?_⟩
  · simp [World.setCell, Array.getElem?_modify, hp1]
  · refine ⟨hgrow.os.trans hBV.os, hgrow.tape.trans hBV.tape, hgrow.output.trans hBV.output, ?_, fun q hq => ?_⟩
    · have e := hgrow.size
      have e' := hBV.size
      simp only [World.setCell, Array.size_modify]
      omega
    · have hlt := ltH hp
      rw [Below.heap_setCell _ _ _ _ (show q ≠ p by omega)]
      refine hk q (by omega) fun e => ?_
      have := (ho.lt q e.symm).1
      omega

theorem rafter {B p cnt : Nat} {xs : List Value} {v : Value} {w1 w2 : World} {o : Obj} (hp : w1.heap[p]? = some o) (ho : w1.ownsRow B 79 6 v cnt xs) (hb : Below w1.drew.heap.size w1.drew w2) :
    Below w1.heap.size w1 w2 ∧ w2.heap[p]? = some o ∧ w2.ownsRow B 79 6 v cnt xs ∧ w1.heap.size ≤ w2.heap.size := by
  have hb' : Below w1.heap.size w1 w2 := ⟨hb.os, hb.tape, hb.output, hb.size, hb.block⟩
  exact ⟨hb', keepA hp hb', ho.kept (row := none) (Below.grown hb' rfl) (by cases h : v.ownBlock <;> simp), hb'.size⟩
theorem cellP1 {W : World} {p : Nat} {x : Value} {t : TypeId} (h : W.heap[p]? = some (.cells #[x] t (0, 0))) : W.cell? ⟨p, 0, none⟩ = some x := by rw [Lib.cell_of_heap h]; rfl

set_option maxRecDepth 100000 in
theorem rnew_c (w : World) (HN : NamesT w) : Calls Tryz.prog 10 #[] w fun e W' => ∃ p, e = .returned (.pointer (some ⟨p, 0, none⟩)) ∧ Ref w.heap.size p 13 (flatS 13) W' ∧ Below w.heap.size w W' := by
  have hT := Fact.mk (fun w' (h : Below w.heap.size w w') => HN.below h)
  obtain ⟨i0, hi0, hz0, hz1, hz2⟩ := info_parts infoS
  have hI := Fact.mk (And.intro hi0 (And.intro hz0 (And.intro hz1 hz2)))
  clear HN hi0 hz0 hz1 hz2
  go_enter Tryz.func10, Tryz.ntmps10
  go_wp2
  obtain ⟨W1, hW1⟩ : ∃ W1, W1 = w.alloc (.cells #[.slice none 0 0] 41) := ⟨_, rfl⟩
  rw [← hW1]
  have HB := Aside0.mk (show Below w.heap.size w W1 by rw [hW1]; exact (Below.refl _ _).alloc (Nat.le_refl _) _)
  have HR := Aside0.mk (show Ref w.heap.size w.heap.size 0 (flatS 0) W1 by
    rw [hW1]
    exact ⟨Nat.le_refl _, none, 0, heap_alloc_new w _, World.ownsRow_nil _ _ _ _⟩)
  clear hW1
  go_loopg [2] 13 (fun kq v2 w' => ∃ j : Nat, v2 = .int .i64 ((j : Int) + 1) ∧ Aside0 (j + kq = 13) ∧ Aside0 (Ref w.heap.size w.heap.size j (flatS j) w') ∧ Aside0 (Below w.heap.size w w'))
  case atStart => exact ⟨0, rfl, ⟨by omega⟩, ⟨HR.out⟩, ⟨HB.out⟩⟩
  case round =>
    obtain ⟨j, rfl, HN, HRj, HBj⟩ := hrel
    by_cases c1 : (j : Int) + 1 ≤ 13
    · have hj : j < 13 := by omega
      have hk := Fact.mk (fun w' (h : Below w.heap.size w w') => rwk_c j hj w' (hT.out w' h))
      cases gk with
      | zero => exact absurd HN.out (by omega)
      | succ k1 =>
        have hM := Fact.mk (fun W => rstr_c (wk j) W)
        unfold VV at hM
        go_wp2_with (go_at_call 32; refine (hk.out _ HBj.out).mono ?_; rintro e w1 ⟨rfl, rfl⟩)
        obtain ⟨h1, a, cap, hp, ho⟩ := HRj.out
        have hB1 := Fact.mk HBj.out
        have c0 := cellP1 hp
        obtain ⟨hi0, hz0, hz1, hz2⟩ := hI.out
        have np := rrow_ne ho hp (by simp)
        have lp := ltH hp
        have hle := HBj.out.size
        go_region_law (first | (refine step_append_lies _ (by rfl) _ _ _ (by rfl) w.heap.size 79 i0 _ 6 56 Tryz.underlying39 hi0 hz0 hz1 hz2 rfl (by omega) (.slice a j cap) j (flatS j) (by rfl) (ho2.alloc _) ⟨w2.heap.size, 0, none⟩ 1 1 [.int .i64 5, .bool false, .float .f64 0, .string (wk j), .int .i64 0, .bool false] (by rfl) (by rfl) (World.news_of_block (cs := #[.int .i64 5, .bool false, .float .f64 0, .string (wk j), .int .i64 0, .bool false]) (t := 79) (fr := (0, 0)) (heap_alloc_new w2 _)) (by simp [Value.oneCell']) (by omega) (by simp only [maxLen]; omega) (by omega) (by simp; omega) (w2.heap.size + 1) (by simp) ?_; intro g cap' w3 hown3 hgrow hat hlt; have cp := (hgrow.cell_far ⟨w.heap.size, 0, none⟩ (by simp; omega) np).trans (cellP1 (oldA hp2 _)); have fp := (hgrow.frozen_far ⟨w.heap.size, 0, none⟩ (by simp; omega) np).trans (Lib.frozen_of_heap (oldA hp2 _) 0)) | (go_simp; go_at_call 33; refine (hM.out _).mono ?_; rintro e w2 ⟨rfl, hb2⟩; obtain ⟨hb2', hp2, ho2, hle2⟩ := rafter hp ho hb2; have c0' := cellP1 hp2; have c0'' := fun o => cellP1 (oldA hp2 o)))
        all_goals
          obtain ⟨hR3, hB3⟩ := ref_grow h1 hp2 ho2 ((Below.refl _ _).alloc (Nat.le_refl _) _) hgrow hown3
          have hB4 := (hB1.out.trans (hb2'.mono hB1.out.size)).trans hB3
          have HR4 := Aside0.mk (show Ref w.heap.size w.heap.size (j + 1) (flatS (j + 1)) _ from hR3)
          have HB4 := Aside0.mk hB4
          clear hR3 hB3 hB4
          generalize w3.setCell ⟨w.heap.size, 0, none⟩ (.slice (some ⟨g, 0, none⟩) (j + 1) cap') = W3 at *
          clear hown3 hgrow hat hlt cp fp c0' c0'' c0 ho ho2 hp hp2 hb2 hb2' np hI hM hk hT HBj HRj hi0 hz0 hz1 hz2 hB1
          go_wp2
          go_roundg k1
          case measure => omega
          case rel => exact ⟨j + 1, by first | rfl | (congr 1; omega), ⟨by have := HN.out; omega⟩, HR4, HB4⟩
    · have hj : j = 13 := by have := HN.out; omega
      subst hj
      go_wp2
      go_ret
      exact ⟨w.heap.size, rfl, HRj.out, HBj.out⟩
end Go.Proofs.YtnknfffldgkgcaaGreatDoor

/- What both registries say of a symbol; a pair of registries. -/
namespace Go.Proofs.YtnknfffldgkgcaaGreatDoor
open Go.RowKit Go.Proofs.YtnknfffldgkgcaaGreatDoorW.PrintWords
attribute [local go_sem] run_store_float
attribute [local go_sem ↓] Go.wp_at_zero Go.wp_at_succ

def inR (n : Int) : Bool := decide (1 ≤ n) && decide (n ≤ 13)
def nme (n : Int) : ByteArray := if inR n = true then wk (n - 1).toNat else ⟨#[]⟩
def erA (n : Int) : Int := if inR n = true then 0 else 7
def kdA (n : Int) : Int := if inR n = true then 5 else 0
def txA (n : Int) : ByteArray := if inR n = true then stx (n - 1).toNat else ⟨#[]⟩
theorem inR_cases (n : Int) : (∃ j : Nat, j < 13 ∧ n = (j : Int) + 1 ∧ inR n = true ∧ (n - 1).toNat = j) ∨ ((n < 1 ∨ 13 < n) ∧ inR n = false) := by
  by_cases h : 1 ≤ n ∧ n ≤ 13
  · left
    exact ⟨(n - 1).toNat, by omega, by omega, by simp [inR, h], rfl⟩
  · right
    refine ⟨by omega, ?_⟩
    unfold inR
    rw [Bool.and_eq_false_iff, decide_eq_false_iff_not, decide_eq_false_iff_not]; omega

theorem wkA_c (n : Int) (w : World) : Calls Tryz.prog 30 #[.int .i64 n] w fun e w' => e = .returned (.tuple #[.string (nme n), .bool (inR n)]) ∧ Below w.heap.size w w' := by
  unfold nme
  rcases inR_cases n with ⟨j, hj, rfl, h1, h2⟩ | ⟨hn, h1⟩
  · rw [h1, if_pos rfl, h2]; exact wk_c j hj w
  · rw [h1, if_neg (by decide)]; exact wkNo_c n hn w
theorem rwkA_c (n : Int) (w : World) (HN : NamesT w) : Calls Tryz.prog 32 #[.int .i64 n] w fun e w' => e = .returned (.tuple #[.string (nme n), .bool (inR n)]) ∧ w = w' := by
  unfold nme
  rcases inR_cases n with ⟨j, hj, rfl, h1, h2⟩ | ⟨hn, h1⟩
  · rw [h1, if_pos rfl, h2]; exact rwk_c j hj w HN
  · rw [h1, if_neg (by decide)]; exact rwkNo_c n hn w

/-- A new registry of the program's. -/
def Own (B p : Nat) (W : World) : Prop := ∃ b1 b2, Reg B p 13 (flatW 13) b1 b2 (.map #[] 0) (.map #[] 0) W
theorem Own.keep {B p : Nat} {W W' : World} (h : Own B p W) (hb : Below W.heap.size W W') : Own B p W' := by
  obtain ⟨b1, b2, h⟩ := h
  exact ⟨b1, b2, h.keep hb⟩

set_option maxRecDepth 100000 in
theorem keyNo_c {B p : Nat} {W : World} (h : Own B p W) (n : Int) (hn : n < 1 ∨ 13 < n) :
    Calls Tryz.prog 23 #[.pointer (some ⟨p, 0, none⟩), .int .i64 n] W fun e W' => e = .returned (.tuple #[.string ⟨#[]⟩, .bool false, .int .i64 7]) ∧ Below W.heap.size W W' := by
  obtain ⟨b1, b2, h⟩ := h
  have hh := Fact.mk (hasNot_c h n hn)
  clear h hn
  go_enter Tryz.func23, Tryz.ntmps23
  go_wp2_with (go_at_call 48; refine hh.out.mono ?_; rintro e w1 ⟨rfl, rfl⟩)
  refine bodyPost_ret (results_tmp3 rfl _ _ _) rfl ?_
  first | exact ⟨rfl, Below.refl _ _⟩ | exact ⟨rfl, (Below.refl _ _).alloc (Nat.le_refl _) _⟩
theorem okey_c {B p : Nat} {W : World} (h : Own B p W) (n : Int) :
    Calls Tryz.prog 23 #[.pointer (some ⟨p, 0, none⟩), .int .i64 n] W fun e W' => e = .returned (.tuple #[.string ⟨#[]⟩, .bool false, .int .i64 (erA n)]) ∧ Below W.heap.size W W' := by
  unfold erA
  rcases inR_cases n with ⟨j, hj, rfl, h1, h2⟩ | ⟨hn, h1⟩
  · rw [h1, if_pos rfl]
    obtain ⟨b1, b2, h⟩ := h
    exact keyFor_c h _ (by omega) (by omega) _ _ (lookE _ h.maps.2.2.2)
  · rw [h1, if_neg (by decide)]; exact keyNo_c h n hn

set_option maxRecDepth 100000 in
theorem descNo_c {B p : Nat} {W : World} (h : Own B p W) (n : Int) (hn : n < 1 ∨ 13 < n) :
    Calls Tryz.prog 25 #[.pointer (some ⟨p, 0, none⟩), .int .i64 n] W fun e W' => e = .returned (.tuple #[VV 0 false 0 ⟨#[]⟩ 0, .int .i64 7]) ∧ Below W.heap.size W W' := by
  unfold VV
  obtain ⟨b1, b2, h⟩ := h
  have hh := Fact.mk (fun w' (hb : Below W.heap.size W w') => hasNot_c (h.keep hb) n hn)
  clear h hn
  go_enter Tryz.func25, Tryz.ntmps25
  go_wp2_with (go_at_call 48; refine (hh.out _ ((Below.refl _ _).alloc (Nat.le_refl _) _)).mono ?_; rintro e w1 ⟨rfl, rfl⟩)
  first
    | refine bodyPost_ret (results_ct rfl _ _ W.heap.size _ _ _ _ rfl (heap_alloc_new _ _) Tryz.underlying35 rfl (by kernel_rfl)) rfl ⟨rfl, (Below.refl _ _).alloc (Nat.le_refl _) _⟩
    | refine bodyPost_ret (results_ct rfl _ _ W.heap.size _ _ _ _ rfl (set5 (heap_alloc_new _ _) _ _ _ _ _) Tryz.underlying35 rfl (by kernel_rfl)) rfl ⟨rfl, setB5 ((Below.refl _ _).alloc (Nat.le_refl _) _) (Nat.le_refl _) _ _ _ _ _⟩
theorem odesc_c {B p : Nat} {W : World} (h : Own B p W) (n : Int) :
    Calls Tryz.prog 25 #[.pointer (some ⟨p, 0, none⟩), .int .i64 n] W fun e W' => e = .returned (.tuple #[VV (kdA n) false 0 (nme n) 0, .int .i64 (erA n)]) ∧ Below W.heap.size W W' := by
  unfold erA kdA nme
  rcases inR_cases n with ⟨j, hj, rfl, h1, h2⟩ | ⟨hn, h1⟩
  · rw [h1, if_pos rfl, if_pos rfl, if_pos rfl, h2]
    obtain ⟨b1, b2, h⟩ := h
    obtain ⟨x0, x1, x2, x3, x4⟩ := flatW_at j hj
    exact desc_c h (by decide) j hj x0 x1 x2 x3 x4
  · rw [h1, if_neg (by decide), if_neg (by decide), if_neg (by decide)]; exact descNo_c h n hn

set_option maxRecDepth 100000 in
theorem textNo_c {B p : Nat} {W : World} (h : Own B p W) (n : Int) (hn : n < 1 ∨ 13 < n) :
    Calls Tryz.prog 27 #[.pointer (some ⟨p, 0, none⟩), .int .i64 n] W fun e W' => e = .returned (.tuple #[.string ⟨#[]⟩, .int .i64 7]) ∧ Below W.heap.size W W' := by
  have hd := Fact.mk (descNo_c h n hn)
  clear h hn
  unfold VV at *
  go_enter Tryz.func27, Tryz.ntmps27
  go_wp2_with (go_at_call 25; refine hd.out.mono ?_; rintro e w1 ⟨rfl, hb⟩)
  go_ret2
  first | exact ⟨rfl, hb.alloc hb.size _⟩ | exact ⟨rfl, setB5 (hb.alloc hb.size _) hb.size _ _ _ _ _⟩
theorem otext_c {B p : Nat} {W : World} (h : Own B p W) (n : Int) :
    Calls Tryz.prog 27 #[.pointer (some ⟨p, 0, none⟩), .int .i64 n] W fun e W' => e = .returned (.tuple #[.string (txA n), .int .i64 (erA n)]) ∧ Below W.heap.size W W' := by
  unfold erA txA
  rcases inR_cases n with ⟨j, hj, rfl, h1, h2⟩ | ⟨hn, h1⟩
  · rw [h1, if_pos rfl, if_pos rfl, h2]
    obtain ⟨b1, b2, h⟩ := h
    obtain ⟨x0, x1, x2, x3, x4⟩ := flatW_at j hj
    obtain ⟨y1, y2, y3⟩ := stx_ha j hj
    exact text_c h (by decide) j hj x0 x1 x2 x3 x4 y1 y2 y3
  · rw [h1, if_neg (by decide), if_neg (by decide)]; exact textNo_c h n hn

abbrev RefN (B q : Nat) (W : World) : Prop := Ref B q 13 (flatS 13) W
theorem rkeyA_c {B q : Nat} {W : World} (h : RefN B q W) (n : Int) :
    Calls Tryz.prog 24 #[.pointer (some ⟨q, 0, none⟩), .int .i64 n] W fun e W' => e = .returned (.tuple #[.string ⟨#[]⟩, .bool false, .int .i64 (erA n)]) ∧ W = W' := by
  unfold erA
  rcases inR_cases n with ⟨j, hj, rfl, h1, h2⟩ | ⟨hn, h1⟩
  · rw [h1, if_pos rfl]; exact rkey_c h j hj
  · rw [h1, if_neg (by decide)]; exact rkeyNo_c h n hn
theorem rdescA_c {B q : Nat} {W : World} (h : RefN B q W) (n : Int) :
    Calls Tryz.prog 26 #[.pointer (some ⟨q, 0, none⟩), .int .i64 n] W fun e W' => e = .returned (.tuple #[VV (kdA n) false 0 (nme n) 0, .int .i64 (erA n)]) ∧ Below W.heap.size W W' := by
  unfold erA kdA nme
  rcases inR_cases n with ⟨j, hj, rfl, h1, h2⟩ | ⟨hn, h1⟩
  · rw [h1, if_pos rfl, if_pos rfl, if_pos rfl, h2]; exact rdesc_c h j hj
  · rw [h1, if_neg (by decide), if_neg (by decide), if_neg (by decide)]; exact rdescNo_c h n hn
theorem rtextA_c {B q : Nat} {W : World} (h : RefN B q W) (n : Int) :
    Calls Tryz.prog 28 #[.pointer (some ⟨q, 0, none⟩), .int .i64 n] W fun e W' => e = .returned (.tuple #[.string (txA n), .int .i64 (erA n)]) ∧ W = W' := by
  unfold erA txA
  rcases inR_cases n with ⟨j, hj, rfl, h1, h2⟩ | ⟨hn, h1⟩
  · rw [h1, if_pos rfl, if_pos rfl, h2]; exact rtext_c h j hj
  · rw [h1, if_neg (by decide), if_neg (by decide)]; exact rtextNo_c h n hn
end Go.Proofs.YtnknfffldgkgcaaGreatDoor

/- A pair of registries; what is asked of both. -/
namespace Go.Proofs.YtnknfffldgkgcaaGreatDoor
open Go.RowKit Go.Proofs.YtnknfffldgkgcaaGreatDoorW.PrintWords
attribute [local go_sem] run_store_float
attribute [local go_sem ↓] Go.wp_at_zero Go.wp_at_succ

theorem orow_base {W : World} {base base' : Nat} {e : TypeId} {size : Nat} {v : Value} {k : Nat} {xs : List Value} (h : W.ownsRow base e size v k xs) (hb : base' ≤ base) : W.ownsRow base' e size v k xs :=
  ⟨h.1, h.2.imp id (fun ⟨g, cap, cur, hv, hg, r⟩ => ⟨g, cap, cur, hv, Nat.le_trans hb hg, r⟩)⟩

/-- Block P holds the pair: two new registries of the program's, two of the reference's. -/
def Pair (B P : Nat) (W : World) : Prop := ∃ p0 p1 q0 q1, W.heap[P]? = some (.cells #[.pointer (some ⟨p0, 0, none⟩), .pointer (some ⟨p1, 0, none⟩), .pointer (some ⟨q0, 0, none⟩), .pointer (some ⟨q1, 0, none⟩)] 31 (0, 0)) ∧
  Own B p0 W ∧ Own B p1 W ∧ RefN B q0 W ∧ RefN B q1 W
theorem Pair.keep {B P : Nat} {W W' : World} (h : Pair B P W) (hb : Below W.heap.size W W') : Pair B P W' := by
  obtain ⟨p0, p1, q0, q1, h0, h1, h2, h3, h4⟩ := h
  exact ⟨p0, p1, q0, q1, (hb.block _ (ltH h0)).trans h0, h1.keep hb, h2.keep hb, h3.keep hb, h4.keep hb⟩
theorem Own.base {B B' p : Nat} {W : World} (h : Own B p W) (hb : B' ≤ B) : Own B' p W := by
  obtain ⟨b1, b2, h1, h2, h3, h4, k1, k2, m1, m2, a, cap, hp, ho⟩ := h
  exact ⟨b1, b2, by omega, by omega, by omega, h4, k1, k2, m1, m2, a, cap, hp, orow_base ho hb⟩
theorem RefN.base {B B' q : Nat} {W : World} (h : RefN B q W) (hb : B' ≤ B) : RefN B' q W := by
  obtain ⟨h1, a, cap, hp, ho⟩ := h
  exact ⟨by omega, a, cap, hp, orow_base ho hb⟩

set_option maxRecDepth 100000 in
theorem npair_c (w : World) (HT : Tabs w) (HN : NamesT w) : Calls Tryz.prog 5 #[] w fun e W' => ∃ P, e = .returned (.pointer (some ⟨P, 0, none⟩)) ∧ Pair w.heap.size P W' ∧ Below w.heap.size w W' := by
  have hn := Fact.mk (fun w' (h : Below w.heap.size w w') => new_c w' (HT.below h))
  have hr := Fact.mk (fun w' (h : Below w.heap.size w w') => rnew_c w' (HN.below h))
  clear HT HN
  go_enter Tryz.func5, Tryz.ntmps5
  go_wp2_with fail
  refine (hn.out _ (Below.refl _ _)).mono ?_
  rintro e w1 ⟨p0, b1, b2, rfl, hR1, hB1⟩
  have o1 := Fact.mk (show Own w.heap.size p0 w1 from ⟨b1, b2, hR1⟩)
  have hB1 := Fact.mk hB1
  clear hR1
  go_wp2_with fail
  refine (hn.out _ hB1.out).mono ?_
  rintro e w2 ⟨p1, b3, b4, rfl, hR2, hB2⟩
  have o2 := Fact.mk ((show Own w1.heap.size p1 w2 from ⟨b3, b4, hR2⟩).base hB1.out.size)
  have o1 := Fact.mk (o1.out.keep hB2)
  have hB2 := Fact.mk (hB1.out.trans (hB2.mono hB1.out.size))
  clear hR2 hB1
  go_wp2_with fail
  refine (hr.out _ hB2.out).mono ?_
  rintro e w3 ⟨q0, rfl, hR3, hB3⟩
  have o3 := Fact.mk ((show RefN w2.heap.size q0 w3 from hR3).base hB2.out.size)
  have o1 := Fact.mk (o1.out.keep hB3)
  have o2 := Fact.mk (o2.out.keep hB3)
  have hB3 := Fact.mk (hB2.out.trans (hB3.mono hB2.out.size))
  clear hR3 hB2
  go_wp2_with fail
  refine (hr.out _ hB3.out).mono ?_
  rintro e w4 ⟨q1, rfl, hR4, hB4⟩
  have o4 := Fact.mk ((show RefN w3.heap.size q1 w4 from hR4).base hB3.out.size)
  have o1 := Fact.mk (o1.out.keep hB4)
  have o2 := Fact.mk (o2.out.keep hB4)
  have o3 := Fact.mk (o3.out.keep hB4)
  have hB4 := Fact.mk (hB3.out.trans (hB4.mono hB3.out.size))
  clear hR4 hB3 hn hr
  go_wp2
  go_ret
  have hk := (Below.refl w4.heap.size w4).alloc (Nat.le_refl _) (.cells #[.pointer (some ⟨p0, 0, none⟩), .pointer (some ⟨p1, 0, none⟩), .pointer (some ⟨q0, 0, none⟩), .pointer (some ⟨q1, 0, none⟩)] 31)
  exact ⟨_, rfl, ⟨p0, p1, q0, q1, heap_alloc_new _ _, o1.out.keep hk, o2.out.keep hk, o3.out.keep hk, o4.out.keep hk⟩, hB4.out.alloc hB4.out.size _⟩

theorem Pair.cells {B P : Nat} {W : World} (h : Pair B P W) : ∃ p0 q0, W.cell? ⟨P, 0, none⟩ = some (.pointer (some ⟨p0, 0, none⟩)) ∧ W.cell? ⟨P, 2, none⟩ = some (.pointer (some ⟨q0, 0, none⟩)) ∧ Own B p0 W ∧ RefN B q0 W := by
  obtain ⟨p0, p1, q0, q1, h0, h1, h2, h3, h4⟩ := h
  refine ⟨p0, q0, ?_, ?_, h1, h3⟩ <;> rw [Lib.cell_of_heap h0] <;> rfl
theorem keepC {W W' : World} {a : Addr} {v : Value} (h : W.cell? a = some v) (hb : Below W.heap.size W W') : W'.cell? a = some v :=
  (hb.cell (p := a) (by obtain ⟨b, o, m⟩ := a; exact World.block_lt_of_cell? W _ h)).trans h

def Five (W : World) (B : Nat) (kd : Int) (s : ByteArray) : Prop := W.cell? ⟨B, 0, none⟩ = some (.int .i64 kd) ∧ W.cell? ⟨B, 1, none⟩ = some (.bool false) ∧ W.cell? ⟨B, 2, none⟩ = some (.float .f64 0) ∧ W.cell? ⟨B, 3, none⟩ = some (.string s) ∧ W.cell? ⟨B, 4, none⟩ = some (.int .i64 0)
theorem Five.keep {W W' : World} {B : Nat} {kd : Int} {s : ByteArray} (h : Five W B kd s) (hb : Below W.heap.size W W') : Five W' B kd s :=
  ⟨keepC h.1 hb, keepC h.2.1 hb, keepC h.2.2.1 hb, keepC h.2.2.2.1 hb, keepC h.2.2.2.2 hb⟩
theorem Five.new (W : World) (kd : Int) (s : ByteArray) (t : TypeId) : Five (W.alloc (.cells #[.int .i64 kd, .bool false, .float .f64 0, .string s, .int .i64 0] t)) W.heap.size kd s := by
  have h := heap_alloc_new W (.cells #[.int .i64 kd, .bool false, .float .f64 0, .string s, .int .i64 0] t)
  refine ⟨?_, ?_, ?_, ?_, ?_⟩ <;> rw [Lib.cell_of_heap h] <;> rfl

set_option maxRecDepth 100000 in
set_option maxHeartbeats 1000000 in
theorem asks_c {B P : Nat} {W : World} (h : Pair B P W) (n : Int) :
    Calls Tryz.prog 8 #[.pointer (some ⟨P, 0, none⟩), .int .i64 n] W fun e W' => e = .returned (.bool true) ∧ Below W.heap.size W W' := by
  obtain ⟨p0, q0, c0, c2, hO, hR⟩ := h.cells
  have h1 := Fact.mk (fun w' (hb : Below W.heap.size W w') => okey_c (hO.keep hb) n)
  have h2 := Fact.mk (fun w' (hb : Below W.heap.size W w') => rkeyA_c (hR.keep hb) n)
  have h3 := Fact.mk (fun w' (hb : Below W.heap.size W w') => odesc_c (hO.keep hb) n)
  have h4 := Fact.mk (fun w' (hb : Below W.heap.size W w') => rdescA_c (hR.keep hb) n)
  have h5 := Fact.mk (fun w' (hb : Below W.heap.size W w') => otext_c (hO.keep hb) n)
  have h6 := Fact.mk (fun w' (hb : Below W.heap.size W w') => rtextA_c (hR.keep hb) n)
  have hn := Fact.mk num_c
  have k0 := Fact.mk (fun w' (hb : Below W.heap.size W w') => keepC c0 hb)
  have k2 := Fact.mk (fun w' (hb : Below W.heap.size W w') => keepC c2 hb)
  clear h hO hR
  generalize erA n = er at *
  generalize kdA n = kd at *
  generalize nme n = s at *
  generalize txA n = tx at *
  unfold VV at *
  go_enter Tryz.func8, Tryz.ntmps8
  go_wp2_with fail
  refine (h1.out _ (Below.refl _ _)).mono ?_
  rintro e w1 ⟨rfl, hb1⟩
  have c0 := k0.out _ hb1
  have c2 := k2.out _ hb1
  have hb1 := Fact.mk hb1
  go_wp2_with fail
  refine (h2.out _ hb1.out).mono ?_
  rintro e w2 ⟨rfl, rfl⟩
  go_wp2_with fail
  refine (h3.out _ hb1.out).mono ?_
  rintro e w2 ⟨rfl, hb2⟩
  have hb2 := Fact.mk (hb1.out.trans (hb2.mono hb1.out.size))
  have hba := Fact.mk (hb2.out.alloc hb2.out.size (.cells #[.int .i64 kd, .bool false, .float .f64 0, .string s, .int .i64 0] 35))
  have fa := Fact.mk (Five.new w2 kd s 35)
  have d2 := k2.out _ hba.out
  go_wp2_with fail
  refine (h4.out _ hba.out).mono ?_
  rintro e w3 ⟨rfl, hb3⟩
  have fa := Fact.mk (fa.out.keep hb3)
  have hb3 := Fact.mk (hba.out.trans (hb3.mono hba.out.size))
  generalize w2.heap.size = B1 at *
  clear d2 hba hb2 c0 c2 hb1 h1 h2 h3 h4
  have hbb := Fact.mk (hb3.out.alloc hb3.out.size (.cells #[.int .i64 kd, .bool false, .float .f64 0, .string s, .int .i64 0] 35))
  have fb := Fact.mk (Five.new w3 kd s 35)
  have fa := Fact.mk (fa.out.keep ((Below.refl _ w3).alloc (Nat.le_refl _) (.cells #[.int .i64 kd, .bool false, .float .f64 0, .string s, .int .i64 0] 35)))
  have d0 := k0.out _ hbb.out
  go_wp2_with fail
  refine (h5.out _ hbb.out).mono ?_
  rintro e w4 ⟨rfl, hb4⟩
  have fa := Fact.mk (fa.out.keep hb4)
  have fb := Fact.mk (fb.out.keep hb4)
  have hb4 := Fact.mk (hbb.out.trans (hb4.mono hbb.out.size))
  generalize w3.heap.size = B2 at *
  clear d0 hbb hb3 h5
  have d2 := k2.out _ hb4.out
  go_wp2_with fail
  refine (h6.out _ hb4.out).mono ?_
  rintro e w5 ⟨rfl, rfl⟩
  obtain ⟨a0, a1, a2, a3, a4⟩ := fa.out
  obtain ⟨b0, b1, b2, b3, b4⟩ := fb.out
  have he := Fact.mk (fun w => eqSelf_c kd false 0 s 0 w)
  unfold VV at he
  clear d2 h6 k0 k2
  go_wp2_with (first | (go_at_call 13; refine (hn.out _ _).mono ?_; rintro e w' ⟨rfl, rfl⟩) | (go_at_call 29; refine (he.out _).mono ?_; rintro e w6 ⟨rfl, hb6⟩))
  go_ret
  exact ⟨rfl, hb4.out.trans (hb6.mono hb4.out.size)⟩
end Go.Proofs.YtnknfffldgkgcaaGreatDoor
