/- strconv.FormatInt at every base: what a call comes to (written by wip/gen_radh.py). -/
import Derived.Test.YtinaibebdacnmaaDoorRadG
set_option linter.unusedVariables false
namespace Go.Proofs.YtinaibebdacnmaaDoor.Rad
open Go.RowKit Go.Proofs.YtinaibebdacnmaaDoorW.PrintWords

/-- So far a base is a power of two. -/
def pow2 (b : Nat) : Bool := b == 2 || b == 4 || b == 8 || b == 16 || b == 32
theorem and_pow : ∀ b : Nat, b < 37 → 2 ≤ b → (bits .and .i64 (b : Int) ((b : Int) - 1) == 0) = pow2 b := by decide +kernel
theorem isPow_c (b : Nat) (hb : 2 ≤ b) (hb2 : b ≤ 36) (w : World) : Calls Tryd.prog 110 #[.int .i64 b] w fun e w' => e = .returned (.bool (pow2 b)) ∧ w = w' := by
  have h := and_pow b (by omega) hb
  generalize pow2 b = P at *
  go_enter Tryd.func110, Tryd.ntmps110
  go_wp2
  go_ret
  exact ⟨by rw [← h]; rfl, rfl⟩

/-- What of the tables is read: the powers of ten, and five of the places of TrailingZeros64. -/
structure TabR (w : World) : Prop where
  pow : Lib.TabIs Tryd.prog w "internal/strconv.uint64pow10" .u64 Lib.pow10Tab
  z2 : w.cell? ⟨4, 1, none⟩ = some (.int .u8 1)
  z4 : w.cell? ⟨4, 3, none⟩ = some (.int .u8 2)
  z8 : w.cell? ⟨4, 7, none⟩ = some (.int .u8 3)
  z16 : w.cell? ⟨4, 15, none⟩ = some (.int .u8 4)
  z32 : w.cell? ⟨4, 31, none⟩ = some (.int .u8 5)

theorem tz64_2 (w : World) (h : w.cell? ⟨4, 1, none⟩ = some (.int .u8 1)) : Calls Tryd.prog 119 #[.int .u64 2] w fun e w' => e = .returned (.int .i64 1) ∧ w = w' := by
  have k1 : IntKind.u64.wrap (-2) = 18446744073709551614 := by decide +kernel
  have k2 : bits .and .u64 2 18446744073709551614 = 2 := by decide +kernel
  have k3 : IntKind.u64.wrap (2 * 285870213051353865) = 571740426102707730 := by decide +kernel
  go_enter Tryd.func119, Tryd.ntmps119
  go_wp2
  go_ret
  exact ⟨rfl, rfl⟩
theorem tz_2 (w : World) (h : w.cell? ⟨4, 1, none⟩ = some (.int .u8 1)) : Calls Tryd.prog 111 #[.int .u64 2] w fun e w' => e = .returned (.int .i64 1) ∧ w = w' := by
  have ht := tz64_2 w h
  go_enter Tryd.func111, Tryd.ntmps111
  go_wp2_with (go_at_call 119; refine ht.mono ?_; rintro e w' ⟨rfl, rfl⟩)
  go_ret
  exact ⟨rfl, rfl⟩

theorem tz64_4 (w : World) (h : w.cell? ⟨4, 3, none⟩ = some (.int .u8 2)) : Calls Tryd.prog 119 #[.int .u64 4] w fun e w' => e = .returned (.int .i64 2) ∧ w = w' := by
  have k1 : IntKind.u64.wrap (-4) = 18446744073709551612 := by decide +kernel
  have k2 : bits .and .u64 4 18446744073709551612 = 4 := by decide +kernel
  have k3 : IntKind.u64.wrap (4 * 285870213051353865) = 1143480852205415460 := by decide +kernel
  go_enter Tryd.func119, Tryd.ntmps119
  go_wp2
  go_ret
  exact ⟨rfl, rfl⟩
theorem tz_4 (w : World) (h : w.cell? ⟨4, 3, none⟩ = some (.int .u8 2)) : Calls Tryd.prog 111 #[.int .u64 4] w fun e w' => e = .returned (.int .i64 2) ∧ w = w' := by
  have ht := tz64_4 w h
  go_enter Tryd.func111, Tryd.ntmps111
  go_wp2_with (go_at_call 119; refine ht.mono ?_; rintro e w' ⟨rfl, rfl⟩)
  go_ret
  exact ⟨rfl, rfl⟩

theorem tz64_8 (w : World) (h : w.cell? ⟨4, 7, none⟩ = some (.int .u8 3)) : Calls Tryd.prog 119 #[.int .u64 8] w fun e w' => e = .returned (.int .i64 3) ∧ w = w' := by
  have k1 : IntKind.u64.wrap (-8) = 18446744073709551608 := by decide +kernel
  have k2 : bits .and .u64 8 18446744073709551608 = 8 := by decide +kernel
  have k3 : IntKind.u64.wrap (8 * 285870213051353865) = 2286961704410830920 := by decide +kernel
  go_enter Tryd.func119, Tryd.ntmps119
  go_wp2
  go_ret
  exact ⟨rfl, rfl⟩
theorem tz_8 (w : World) (h : w.cell? ⟨4, 7, none⟩ = some (.int .u8 3)) : Calls Tryd.prog 111 #[.int .u64 8] w fun e w' => e = .returned (.int .i64 3) ∧ w = w' := by
  have ht := tz64_8 w h
  go_enter Tryd.func111, Tryd.ntmps111
  go_wp2_with (go_at_call 119; refine ht.mono ?_; rintro e w' ⟨rfl, rfl⟩)
  go_ret
  exact ⟨rfl, rfl⟩

theorem tz64_16 (w : World) (h : w.cell? ⟨4, 15, none⟩ = some (.int .u8 4)) : Calls Tryd.prog 119 #[.int .u64 16] w fun e w' => e = .returned (.int .i64 4) ∧ w = w' := by
  have k1 : IntKind.u64.wrap (-16) = 18446744073709551600 := by decide +kernel
  have k2 : bits .and .u64 16 18446744073709551600 = 16 := by decide +kernel
  have k3 : IntKind.u64.wrap (16 * 285870213051353865) = 4573923408821661840 := by decide +kernel
  go_enter Tryd.func119, Tryd.ntmps119
  go_wp2
  go_ret
  exact ⟨rfl, rfl⟩
theorem tz_16 (w : World) (h : w.cell? ⟨4, 15, none⟩ = some (.int .u8 4)) : Calls Tryd.prog 111 #[.int .u64 16] w fun e w' => e = .returned (.int .i64 4) ∧ w = w' := by
  have ht := tz64_16 w h
  go_enter Tryd.func111, Tryd.ntmps111
  go_wp2_with (go_at_call 119; refine ht.mono ?_; rintro e w' ⟨rfl, rfl⟩)
  go_ret
  exact ⟨rfl, rfl⟩

theorem tz64_32 (w : World) (h : w.cell? ⟨4, 31, none⟩ = some (.int .u8 5)) : Calls Tryd.prog 119 #[.int .u64 32] w fun e w' => e = .returned (.int .i64 5) ∧ w = w' := by
  have k1 : IntKind.u64.wrap (-32) = 18446744073709551584 := by decide +kernel
  have k2 : bits .and .u64 32 18446744073709551584 = 32 := by decide +kernel
  have k3 : IntKind.u64.wrap (32 * 285870213051353865) = 9147846817643323680 := by decide +kernel
  go_enter Tryd.func119, Tryd.ntmps119
  go_wp2
  go_ret
  exact ⟨rfl, rfl⟩
theorem tz_32 (w : World) (h : w.cell? ⟨4, 31, none⟩ = some (.int .u8 5)) : Calls Tryd.prog 111 #[.int .u64 32] w fun e w' => e = .returned (.int .i64 5) ∧ w = w' := by
  have ht := tz64_32 w h
  go_enter Tryd.func111, Tryd.ntmps111
  go_wp2_with (go_at_call 119; refine ht.mono ?_; rintro e w' ⟨rfl, rfl⟩)
  go_ret
  exact ⟨rfl, rfl⟩
end Go.Proofs.YtinaibebdacnmaaDoor.Rad
