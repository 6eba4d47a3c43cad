/- The law NumberWholes. -/
import Derived.Test.YtmcibofnanbhpaaClaD
set_option linter.unusedVariables false
namespace Go.Proofs.Ytmcibofnanbhpaa
open Go.RowKit

namespace Fl
theorem same_self (a : Nat) : same a a = true := by unfold same; cases isNan a <;> simp
theorem integer_lt (x : Nat) (hx : x < 18446744073709551616) : integer x < 18446744073709551616 := by
  unfold integer
  split
  · decide
  · split
    · exact hx
    · rename_i h1 h2
      have hn : isNan x = false := by cases h : isNan x <;> simp [h] at h1 ⊢
      have hle : sz x ≤ inf := by unfold isNan at hn; simp at hn; exact hn
      obtain ⟨t, ht, hv⟩ := trunc_rep (r := sz x) (by omega)
      rw [rho_eq hv]
      exact mk_lt _ (inf63 ht)
end Fl
namespace Fl
theorem w16 (n : Int) : IntKind.u16.wrap n = n % 65536 := by simp [IntKind.wrap, IntKind.bits, IntKind.signed]
theorem w8 (n : Int) : IntKind.u8.wrap n = n % 256 := by simp [IntKind.wrap, IntKind.bits, IntKind.signed]
theorem i16_of (n : Int) : IntKind.i16.wrap (n % 65536) = IntKind.i16.wrap n := by simp [IntKind.wrap, IntKind.bits, IntKind.signed]
theorem i8_of (n : Int) : IntKind.i8.wrap (n % 256) = IntKind.i8.wrap n := by simp [IntKind.wrap, IntKind.bits, IntKind.signed]
theorem fewer (U : Int) : (∀ n : Int, n % 4294967296 = U → IntKind.u16.wrap n = IntKind.u16.wrap U ∧ n % 256 = IntKind.u8.wrap U) ∧ IntKind.i16.wrap (IntKind.u16.wrap U) = IntKind.i16.wrap U ∧ IntKind.i8.wrap (IntKind.u8.wrap U) = IntKind.i8.wrap U := by
  refine ⟨fun n h => ⟨by rw [w16, w16, ← h]; omega, by rw [w8, ← h]; omega⟩, by rw [w16, i16_of], by rw [w8, i8_of]⟩
end Fl
theorem num_c (n : Int) (w : World) : Calls Try.prog 27 #[.int .i64 n] w fun e w' => e = .returned (.int .i64 n) ∧ w = w' := by
  go_enter Try.func27, Try.ntmps27
  go_wp2
  go_ret
  exact ⟨rfl, rfl⟩

set_option maxHeartbeats 2000000 in
set_option maxRecDepth 100000 in
theorem law_wholes (a : Nat) (ha : a < 18446744073709551616) (w : World) :
    Calls Try.prog 4 #[.int .u64 a] w fun e w' => e = .returned (.bool true) ∧ Below w.heap.size w w' := by
  have f1 := Fl.Hd.mk (float_c a)
  have g1 := Fl.Hd.mk (modulo_c a ha)
  have i1 := Fl.Hd.mk (index_c a ha)
  have i2 := Fl.Hd.mk (rIndex_c a ha)
  have t1 := Fl.Hd.mk (integer_c a ha)
  have t2 := Fl.Hd.mk (rInteger_c a ha)
  have al := alike_c (Fl.integer a) (Fl.integer a) (Fl.integer_lt a ha) (Fl.integer_lt a ha)
  rw [Fl.same_self] at al
  have al := Fl.Hd.mk al
  have s1 := Fl.Hd.mk (int32_c a ha)
  have s2 := Fl.Hd.mk (uint32_c a ha)
  have s3 := Fl.Hd.mk (int16_c a ha)
  have s4 := Fl.Hd.mk (uint16_c a ha)
  have s5 := Fl.Hd.mk (int8_c a ha)
  have s6 := Fl.Hd.mk (uint8_c a ha)
  have c1 := Fl.Hd.mk (clamp_c a ha)
  have c2 := Fl.Hd.mk (rClamp_c a ha)
  have l1 := Fl.Hd.mk (length_c a ha)
  have l2 := Fl.Hd.mk (rLength_c a ha)
  have nm := Fl.Hd.mk (num_c (Fl.idxE a))
  have b1 := Fl.u32_bd a
  have hcl : (Fl.clamp a : Int) ≤ 255 := by
    unfold Fl.clamp
    split
    · omega
    · split
      · omega
      · rename_i h1 h2
        have hs : Fl.sg a = false := by cases h : Fl.sg a <;> simp [h] at h1 ⊢
        have hle : Fl.sz a ≤ 4643176031446892544 := by
          apply Nat.le_of_not_lt
          intro hc
          apply h2
          have h3 := Fl.V_lt_iff.2 hc
          rw [Fl.V_255] at h3
          exact (Nat.le_div_iff_mul_le (Nat.two_pow_pos 1074)).2 (Nat.le_of_lt h3)
        have := (Fl.near_bd hle).2.1
        omega
  generalize Fl.clamp a = CL at *
  generalize Fl.len a = LE at *
  generalize Fl.idx a = IX at *
  generalize Fl.idxE a = IE at *
  generalize Fl.integer a = R1 at *
  generalize Fl.u32 a = U at *
  obtain ⟨k1, k2, k3⟩ := Fl.fewer U
  have k1 := Fl.Hd.mk k1
  generalize IntKind.i16.wrap U = A16 at *
  generalize IntKind.u16.wrap U = B16 at *
  generalize IntKind.i8.wrap U = A8 at *
  generalize IntKind.u8.wrap U = B8 at *
  go_enter Try.func4, Try.ntmps4
  go_wp2_with (first | (go_at_call 5; refine (f1.out _).mono ?_; rintro e w' ⟨rfl, rfl⟩) | (go_at_call 6; refine (g1.out _).mono ?_; rintro e w' ⟨⟨n1, rfl, hn1, hn2, hn3⟩, rfl⟩; obtain ⟨k4, k5⟩ := k1.out _ hn3) | (go_at_call 13; refine (i1.out _).mono ?_; rintro e w' ⟨rfl, rfl⟩) | (go_at_call 14; refine (i2.out _).mono ?_; rintro e w' ⟨rfl, rfl⟩) | (go_at_call 15; refine (t1.out _).mono ?_; rintro e w' ⟨rfl, rfl⟩) | (go_at_call 16; refine (t2.out _).mono ?_; rintro e w' ⟨rfl, rfl⟩) | (go_at_call 7; refine (al.out _).mono ?_; rintro e w' ⟨rfl, rfl⟩) | (go_at_call 17; refine (s1.out _).mono ?_; rintro e w' ⟨rfl, rfl⟩) | (go_at_call 18; refine (s2.out _).mono ?_; rintro e w' ⟨rfl, rfl⟩) | (go_at_call 19; refine (s3.out _).mono ?_; rintro e w' ⟨rfl, rfl⟩) | (go_at_call 20; refine (s4.out _).mono ?_; rintro e w' ⟨rfl, rfl⟩) | (go_at_call 21; refine (s5.out _).mono ?_; rintro e w' ⟨rfl, rfl⟩) | (go_at_call 22; refine (s6.out _).mono ?_; rintro e w' ⟨rfl, rfl⟩) | (go_at_call 23; refine (c1.out _).mono ?_; rintro e w' ⟨rfl, rfl⟩) | (go_at_call 24; refine (c2.out _).mono ?_; rintro e w' ⟨rfl, hb⟩) | (go_at_call 25; refine (l1.out _).mono ?_; rintro e w' ⟨rfl, rfl⟩) | (go_at_call 26; refine (l2.out _).mono ?_; rintro e w' ⟨rfl, rfl⟩) | (go_at_call 27; refine (nm.out _).mono ?_; rintro e w' ⟨rfl, rfl⟩))
  go_ret
  exact ⟨rfl, hb⟩
end Go.Proofs.Ytmcibofnanbhpaa
