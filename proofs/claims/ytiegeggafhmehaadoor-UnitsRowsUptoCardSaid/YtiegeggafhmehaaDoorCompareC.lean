/- slices.CompareFunc at code units, and units.Compare. -/
import Derived.Test.YtiegeggafhmehaaDoorUnitsC
namespace Go.Proofs.YtiegeggafhmehaaDoor
open Go.RowKit Go.Proofs.YtiegeggafhmehaaDoorW.PrintWords

namespace Pt
/-- The order of two numbers. -/
def cmp1 (a b : Int) : Int := if a < b then -1 else if b < a then 1 else 0
theorem cmp1_self (a : Int) : (cmp1 a a != 0) = false := by unfold cmp1; simp
theorem cmp1_ne (a b : Int) (h : a ≠ b) : (cmp1 a b != 0) = true ∧ (cmp1 a b = if a < b then -1 else 1) := by
  unfold cmp1
  split
  · exact ⟨rfl, rfl⟩
  · rw [if_pos (by omega)]; exact ⟨rfl, rfl⟩
/-- The order of two rows. -/
def cmpL : List Int → List Int → Int
  | [], [] => 0
  | [], _ :: _ => -1
  | _ :: _, [] => 1
  | a :: l, b :: m => if a < b then -1 else if b < a then 1 else cmpL l m

theorem cmpL_step (l m : List Int) (k : Nat) (h1 : k < l.length) (h2 : k < m.length) (e : rd l k = rd m k) : cmpL (l.drop k) (m.drop k) = cmpL (l.drop (k + 1)) (m.drop (k + 1)) := by
  have a1 : l.drop k = l[k] :: l.drop (k + 1) := by rw [List.drop_eq_getElem_cons h1]
  have a2 : m.drop k = m[k] :: m.drop (k + 1) := by rw [List.drop_eq_getElem_cons h2]
  have b1 : rd l k = l[k] := by unfold rd; simp [h1]
  have b2 : rd m k = m[k] := by unfold rd; simp [h2]
  rw [a1, a2, cmpL, ← b1, ← b2, e]
  simp
theorem cmpL_ne (l m : List Int) (k : Nat) (h1 : k < l.length) (h2 : k < m.length) (e : rd l k ≠ rd m k) : cmpL (l.drop k) (m.drop k) = if rd l k < rd m k then -1 else 1 := by
  have a1 : l.drop k = l[k] :: l.drop (k + 1) := by rw [List.drop_eq_getElem_cons h1]
  have a2 : m.drop k = m[k] :: m.drop (k + 1) := by rw [List.drop_eq_getElem_cons h2]
  have b1 : rd l k = l[k] := by unfold rd; simp [h1]
  have b2 : rd m k = m[k] := by unfold rd; simp [h2]
  rw [a1, a2, cmpL, ← b1, ← b2]
  split
  · rfl
  · rw [if_pos (by omega)]
theorem cmpL_end1 (l m : List Int) (k : Nat) (h1 : k < l.length) (h2 : m.length ≤ k) : cmpL (l.drop k) (m.drop k) = 1 := by
  rw [List.drop_eq_getElem_cons h1, List.drop_eq_nil_of_le h2, cmpL]
theorem cmpL_end2 (l m : List Int) (k : Nat) (h1 : l.length ≤ k) : cmpL (l.drop k) (m.drop k) = if k < m.length then -1 else 0 := by
  rw [List.drop_eq_nil_of_le h1]
  split
  · rename_i h2; rw [List.drop_eq_getElem_cons h2, cmpL]
  · rw [List.drop_eq_nil_of_le (by omega), cmpL]
end Pt

theorem cmp_c (a b : Int) (w : World) : Calls Tryd.prog 85 #[.int .u16 a, .int .u16 b] w fun e w' => e = .returned (.int .i64 (Pt.cmp1 a b)) ∧ Below w.heap.size w w' := by
  refine (Ua.cmp_Compare_uint16.calls a b (Pt.cmp1 a b) w ?_).mono ?_
  · unfold Ua.cmp_Compare_uint16.f Ua.cmp_isNaN_uint16.f
    simp [Pt.cmp1]
    split <;> (try split) <;> rfl
  · rintro e w' ⟨rfl, hd⟩
    exact ⟨rfl, hd.below⟩

set_option maxHeartbeats 1000000 in
set_option maxRecDepth 100000 in
theorem cmpFunc_c (A0 A1 : Option Addr) (c0 c1 : Nat) (l m : List Int) (w : World) (hl : l.length ≤ 4398046511104) (_hm : m.length ≤ 4398046511104)
    (hr0 : Kd.C (Kd.int .u16) w A0 l.length l) (hr1 : Kd.C (Kd.int .u16) w A1 m.length m) :
    Calls Tryd.prog 84 #[.slice A0 l.length c0, .slice A1 m.length c1, .func (.func 85) #[] #[]] w fun e w' =>
      e = .returned (.int .i64 (Pt.cmpL l m)) ∧ Below w.heap.size w w' := by
  have HR0 := Aside0.mk hr0
  have HR1 := Aside0.mk hr1
  clear hr0 hr1
  go_enter Tryd.func84, Tryd.ntmps84
  go_wp2
  go_loopw [13] (fun v13 wr => ∃ k : Nat, v13 = .int .i64 (k : Nat) ∧ k ≤ l.length ∧ Fact (Pt.cmpL l m = Pt.cmpL (l.drop k) (m.drop k)) ∧ Fact (Below w.heap.size w wr)) (fun v13 _ => l.length - (intOf v13).toNat)
  case atStart => exact ⟨0, rfl, by omega, ⟨rfl⟩, ⟨Below.refl _ _⟩⟩
  case round =>
    obtain ⟨k, rfl, hk, HF, HB⟩ := hrel
    by_cases h1 : k < l.length
    · have h1' : (k : Int) < (l.length : Int) := by omega
      obtain ⟨ad0, e0, x0⟩ := Kd.at_int (Kd.C_below HR0.out HB.out) (k : Int) (by omega) h1'
      by_cases h2 : k < m.length
      · have h2' : (k : Int) < (m.length : Int) := by omega
        obtain ⟨ad1, e1, x1⟩ := Kd.at_int (Kd.C_below HR1.out HB.out) (k : Int) (by omega) h2'
        cases e0
        cases e1
        rw [Int.toNat_natCast] at x0 x1
        by_cases he : rd l k = rd m k
        · have HE := Fact.mk he
          rw [he] at x0
          clear he
          have hq := Pt.cmp1_self (rd m k)
          go_wp2_with (go_at_call 85; refine (cmp_c _ _ _).mono ?_; rintro e w1 ⟨rfl, hb⟩)
          go_roundw
          case rel => exact ⟨k + 1, by go_num, by omega, ⟨by rw [HF.out, Pt.cmpL_step l m k h1 h2 HE.out]⟩, ⟨HB.out.trans (hb.mono HB.out.size)⟩⟩
          case measure => simp [intOf]; omega
        · have HE := Fact.mk he
          have hq := (Pt.cmp1_ne _ _ he).1
          have HS : Fact (Pt.cmp1 (rd l k) (rd m k) = Pt.cmpL l m) := ⟨by rw [HF.out, Pt.cmpL_ne l m k h1 h2 he, (Pt.cmp1_ne _ _ he).2]⟩
          clear he
          generalize rd l k = a at *
          generalize rd m k = b at *
          go_wp2_with (go_at_call 85; refine (cmp_c _ _ _).mono ?_; rintro e w1 ⟨rfl, hb⟩)
          go_ret
          exact ⟨by rw [← HS.out]; rfl, HB.out.trans (hb.mono HB.out.size)⟩
      · have h2' : (m.length : Int) ≤ (k : Int) := by omega
        cases e0
        rw [Int.toNat_natCast] at x0
        go_wp2_with (fail)
        go_ret
        exact ⟨by rw [HF.out, Pt.cmpL_end1 l m k h1 (by omega)]; rfl, HB.out⟩
    · have HS := Fact.mk (Pt.cmpL_end2 l m k (by omega))
      by_cases h2 : k < m.length
      · have h3 : (l.length : Int) < (m.length : Int) := by omega
        go_wp2_with (fail)
        go_ret
        exact ⟨by rw [HF.out, HS.out, if_pos h2]; rfl, HB.out⟩
      · by_cases h4 : l.length < m.length
        · exfalso; omega
        · go_wp2_with (fail)
          go_ret
          exact ⟨by rw [HF.out, HS.out, if_neg h2]; rfl, HB.out⟩

theorem Pt.all_units (s : ByteArray) : (Pt.us (Pt.all s).1).length ≤ 2 * s.size := by
  have h1 := Pt.scan_len s (s.size + 1) 0 0
  have h2 := Pt.us_len0 (Pt.all s).1
  unfold Pt.all at *
  omega

def units_Compare.f (a0 a1 : ByteArray) : Option (Int × Int) :=
  if a0.size ≤ 1099511627776 ∧ a1.size ≤ 1099511627776 then (if (Pt.all a0).2 = true then (if (Pt.all a1).2 = true then some (Pt.cmpL (Pt.us (Pt.all a0).1) (Pt.us (Pt.all a1).1), 0) else some (0, 10)) else some (0, 10)) else none
set_option maxRecDepth 100000 in
theorem units_Compare.calls (a0 a1 : ByteArray) (r1 r2 : Int) (w : World) (HT : Aside0 (Tabs w)) (h : units_Compare.f a0 a1 = some (r1, r2)) :
    Calls Tryd.prog 37 #[.string a0, .string a1] w fun e w' => e = .returned (.tuple #[.int .i64 r1, .int .i64 r2]) ∧ Below w.heap.size w w' := by
  unfold units_Compare.f at h
  split at h
  case isFalse => cases h
  case isTrue hs =>
  obtain ⟨hs0, hs1⟩ := hs
  have ha := Pt.all_units a0
  have hb := Pt.all_units a1
  have F0 : Fact (units_Units.f a0 = if (Pt.all a0).2 = true then some (Pt.us (Pt.all a0).1, 0) else some ([], 10)) := ⟨by unfold units_Units.f; rw [if_pos hs0]⟩
  have F1 : Fact (units_Units.f a1 = if (Pt.all a1).2 = true then some (Pt.us (Pt.all a1).1, 0) else some ([], 10)) := ⟨by unfold units_Units.f; rw [if_pos hs1]⟩
  cases ho : (Pt.all a0).2
  · rw [ho] at h F0
    simp only [Bool.false_eq_true, if_false, Option.some.injEq, Prod.mk.injEq] at h F0
    obtain ⟨rfl, rfl⟩ := h
    clear ho ha hb
    go_enter Tryd.func37, Tryd.ntmps37
    go_wp2_with (fail)
    refine (units_Units.calls a0 _ _ _ HT F0.out).mono ?_
    rintro e w1 ⟨v, rfl, hR, hB⟩
    go_wp2_with (fail)
    go_ret2
    exact ⟨rfl, hB⟩
  · rw [ho] at h F0
    simp only [if_true] at h F0
    cases ho1 : (Pt.all a1).2
    · rw [ho1] at h F1
      simp only [Bool.false_eq_true, if_false, Option.some.injEq, Prod.mk.injEq] at h F1
      obtain ⟨rfl, rfl⟩ := h
      clear ho ha hb ho1
      go_enter Tryd.func37, Tryd.ntmps37
      go_wp2_with (fail)
      refine (units_Units.calls a0 _ _ _ HT F0.out).mono ?_
      rintro e w1 ⟨v, rfl, hR, hB⟩
      go_wp2_with (fail)
      refine (units_Units.calls a1 _ _ _ ⟨HT.out.below hB⟩ F1.out).mono ?_
      rintro e w2 ⟨v2, rfl, hR2, hB2⟩
      go_wp2_with (fail)
      go_ret2
      exact ⟨rfl, hB.trans (hB2.mono hB.size)⟩
    · rw [ho1] at h F1
      simp only [if_true, Option.some.injEq, Prod.mk.injEq] at h F1
      obtain ⟨rfl, rfl⟩ := h
      clear ho ho1
      go_enter Tryd.func37, Tryd.ntmps37
      go_wp2_with (fail)
      refine (units_Units.calls a0 _ _ _ HT F0.out).mono ?_
      rintro e w1 ⟨v, rfl, hR, hB⟩
      go_wp2_with (fail)
      refine (units_Units.calls a1 _ _ _ ⟨HT.out.below hB⟩ F1.out).mono ?_
      rintro e w2 ⟨v2, rfl, hR2, hB2⟩
      have hR' := Kd.R_below hR hB2
      obtain ⟨A, c, rfl, hc, hC⟩ := Kd.R_reads hR'
      obtain ⟨A2, c2, rfl, hc2, hC2⟩ := Kd.R_reads hR2
      go_wp2_with (fail)
      refine (cmpFunc_c A A2 c c2 _ _ _ (by omega) (by omega) hC hC2).mono ?_
      rintro e w3 ⟨rfl, hB3⟩
      go_wp2_with (fail)
      go_ret2
      exact ⟨rfl, (hB.trans (hB2.mono hB.size)).trans (hB3.mono (Nat.le_trans hB.size hB2.size))⟩
end Go.Proofs.YtiegeggafhmehaaDoor
