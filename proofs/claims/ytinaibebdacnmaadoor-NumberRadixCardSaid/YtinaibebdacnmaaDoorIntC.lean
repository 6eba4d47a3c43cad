/- math.Trunc, number.Integer, number.Uint32: what each call comes to, at every input. -/
import Derived.Test.YtinaibebdacnmaaDoorModD
set_option exponentiation.threshold 3000
namespace Go.Proofs.YtinaibebdacnmaaDoor
open Go.RowKit

namespace Fl
/-- A number without its fraction. -/
noncomputable def integer (x : Nat) : Nat := if isNan x = true ∨ sz x < 4607182418800017408 then 0 else if sz x = inf then x else mk (sg x) (rho (wp (sz x) * 2 ^ 1074))
/-- A number modulo 2 to the 32. -/
def u32 (x : Nat) : Int := if sz x < inf then (if sg x then -(wp (sz x) : Int) else wp (sz x)) % 4294967296 else 0
end Fl

theorem toI_num {n : String} {way : Ieee.Toward} {x : Nat} {s : Bool} {m : Nat} {e : Int} (h : FloatKind.f64.decode x = .number s m e) : Extern.MathFloor.toIntegral n way #[.float .f64 x] = pure (.float .f64 (FloatKind.f64.encode ((Ieee.Datum.number s m e).integral way))) := by
  show Extern.MathFloor.toIntegral.match_1 (motive := fun _ => Sem Value) (FloatKind.f64.decode x) _ _ = _
  rw [h]
theorem toI_inf {n : String} {way : Ieee.Toward} {x : Nat} {s : Bool} (h : FloatKind.f64.decode x = .infinity s) : Extern.MathFloor.toIntegral n way #[.float .f64 x] = pure (.float .f64 (FloatKind.f64.encode ((Ieee.Datum.infinity s).integral way))) := by
  show Extern.MathFloor.toIntegral.match_1 (motive := fun _ => Sem Value) (FloatKind.f64.decode x) _ _ = _
  rw [h]
theorem run_trunc (x t : Nat) (h : Fl.sz x < Fl.inf) (ht : t < Fl.inf) (hv : Fl.V t = Fl.wp (Fl.sz x) * 2 ^ 1074) (w : World) : (callFunc 64 #[.float .f64 x]).run Tryd.prog w = .ok (.value (.float .f64 (Fl.mk (Fl.sg x) t))) w := by
  rw [run_callFunc_extern (e := Extern.MathFloor.toIntegral "math.archTrunc" .zero) Tryd.func64 (by kernel_rfl) (by kernel_rfl) (by kernel_rfl) (by kernel_rfl)]
  have e := Fl.trunc_eq x t h ht hv
  rw [toI_num (show FloatKind.f64.decode x = _ from Fl.read_num x h)]
  rw [Fl.read_num x h] at e
  unfold FloatKind.encode
  rw [Fl.fmt, e]
  rfl
theorem run_truncI (x : Nat) (h : Fl.sz x = Fl.inf) (hx : x < 18446744073709551616) (w : World) : (callFunc 64 #[.float .f64 x]).run Tryd.prog w = .ok (.value (.float .f64 x)) w := by
  rw [run_callFunc_extern (e := Extern.MathFloor.toIntegral "math.archTrunc" .zero) Tryd.func64 (by kernel_rfl) (by kernel_rfl) (by kernel_rfl) (by kernel_rfl)]
  have e1 : Ieee.double.read x = .infinity (Fl.sg x) := by
    rw [Fl.read_eq, if_neg (by unfold Fl.inf at *; omega), if_neg (by omega), if_pos h]
  have e2 := Fl.mk_eta hx
  rw [toI_inf (show FloatKind.f64.decode x = _ from e1)]
  unfold FloatKind.encode
  rw [Fl.fmt]
  simp only [Ieee.Datum.integral, Ieee.Format.write, Fl.word_mk, Fl.ir_d]
  rw [h] at e2
  unfold Fl.inf at e2
  rw [e2]
  rfl
theorem trunc_c (x : Nat) (h : Fl.sz x ≤ Fl.inf) (hx : x < 18446744073709551616) (w : World) : Calls Tryd.prog 37 #[.float .f64 x] w fun e w' => e = .returned (.float .f64 (if Fl.sz x = Fl.inf then x else Fl.mk (Fl.sg x) (Fl.rho (Fl.wp (Fl.sz x) * 2 ^ 1074)))) ∧ w = w' := by
  by_cases hi : Fl.sz x = Fl.inf
  · rw [if_pos hi]
    have hr := run_truncI x hi hx
    clear hi h
    go_enter Tryd.func37, Tryd.ntmps37
    go_wp2
    go_ret
    exact ⟨rfl, rfl⟩
  · rw [if_neg hi]
    obtain ⟨t, ht, hv⟩ := Fl.trunc_rep (r := Fl.sz x) (by omega)
    have hr := run_trunc x t (by omega) ht hv
    rw [Fl.rho_eq hv]
    generalize Fl.mk (Fl.sg x) t = R at *
    clear hi h hv ht
    go_enter Tryd.func37, Tryd.ntmps37
    go_wp2
    go_ret
    exact ⟨rfl, rfl⟩

namespace Fl
theorem inf63 {r : Nat} (h : r < inf) : r < 9223372036854775808 := by unfold inf at h; omega
/-- What Uint32 divides, and what is left. -/
theorem u32_mod (x : Nat) (h : sz x < inf) : fmod 9221120237041090561 (integer x) 4751297606875873280 < 18446744073709551616 ∧ integer x < 18446744073709551616 ∧
    ∃ c : Nat, c < 4294967296 ∧ floatToIntVal .f64 (fmod 9221120237041090561 (integer x) 4751297606875873280) .i64 = some (if sg x then -(c : Int) else c) ∧ (if sg x then -(c : Int) else c) % 4294967296 = u32 x := by
  have hn : isNan x = false := by unfold isNan; rw [decide_eq_false_iff_not]; omega
  -- the whole part, as a word
  obtain ⟨s, t, hi, ht, hv, hst⟩ : ∃ (s : Bool) (t : Nat), integer x = mk s t ∧ t < inf ∧ V t = wp (sz x) * 2 ^ 1074 ∧ (0 < wp (sz x) → s = sg x) := by
    unfold integer
    by_cases hs : sz x < 4607182418800017408
    · rw [if_pos (.inr hs)]
      exact ⟨false, 0, rfl, by decide, by rw [V_zero, wp_zero hs, Nat.zero_mul], fun h0 => by rw [wp_zero hs] at h0; omega⟩
    · rw [if_neg (by rw [hn]; simp; omega), if_neg (by omega)]
      obtain ⟨t, ht, hv⟩ := trunc_rep h
      exact ⟨sg x, t, by rw [rho_eq hv], ht, hv, fun _ => rfl⟩
  have m1 := sz_mk s (inf63 ht)
  have m2 := sg_mk s (inf63 ht)
  have m3 := mk_lt s (inf63 ht)
  have ny : bad (mk s t) 4751297606875873280 = false := by
    unfold bad isNan
    rw [m1, show sz 4751297606875873280 = 4751297606875873280 by decide]
    have k1 : ¬ t = inf := by omega
    have k2 : ¬ inf < t := by omega
    simp [k1, k2]; decide
  have hy : ¬ sz 4751297606875873280 = inf := by decide
  have hq : V t % V (sz 4751297606875873280) = (wp (sz x) % 4294967296) * 2 ^ 1074 := by
    rw [show sz 4751297606875873280 = 4751297606875873280 by decide, V_2p32, hv, Nat.mul_mod_mul_right]
  have hlt := V_lt_iff.2 ht
  have hz : ∃ z, z < inf ∧ V z = (wp (sz x) % 4294967296) * 2 ^ 1074 := by
    refine rep _ _ (by omega) ?_
    rw [← hq]
    exact Nat.lt_of_le_of_lt (Nat.mod_le _ _) hlt
  obtain ⟨z, hz1, hz2⟩ := hz
  have hf : fmod 9221120237041090561 (mk s t) 4751297606875873280 = mk s z := by
    unfold fmod
    rw [ny, if_neg (by decide), if_neg hy, m1, m2, hq, rho_eq hz2]
  rw [hi, hf]
  refine ⟨mk_lt s (inf63 hz1), m3, wp (sz x) % 4294967296, by omega, ?_, ?_⟩
  · have := toInt_eq (mk s z) (wp (sz x) % 4294967296) (by rw [sz_mk s (inf63 hz1)]; exact hz1) (by rw [sz_mk s (inf63 hz1)]; exact hz2) (by omega)
    rw [this, sg_mk s (inf63 hz1)]
    by_cases h0 : 0 < wp (sz x)
    · rw [hst h0]
    · have : wp (sz x) = 0 := by omega
      rw [this]; cases s <;> cases sg x <;> rfl
  · unfold u32
    rw [if_pos h]
    cases sg x <;> simp <;> omega
end Fl

end Go.Proofs.YtinaibebdacnmaaDoor
