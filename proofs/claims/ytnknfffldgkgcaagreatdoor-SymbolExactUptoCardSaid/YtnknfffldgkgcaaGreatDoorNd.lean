import Derived.Test.YtnknfffldgkgcaaGreatDoorUp
import Derived.Sort.Statements
import Derived.Calls
import Derived.Below
import Derived.Sort.Grow
import Derived.Deep.Draws
import Derived.Shelf.GgSortFunc.Insertion
import Derived.MapKept
import Derived.RowKit3
import Derived.ChangeMaps4
set_option linter.all false
/- slices.CompareFunc at code units, and units.Compare. -/
namespace Go.Proofs.YtnknfffldgkgcaaGreatDoor
open Go.RowKit Go.Proofs.YtnknfffldgkgcaaGreatDoorW.PrintWords

namespace Pt
/-- The order of two numbers. -/
def cmp1 (a b : Int) : Int := if a < b then -1 else if b < a then 1 else 0
theorem cmp1_self (a : Int) : (cmp1 a a != 0) = false := by unfold cmp1; simp
theorem cmp1_ne (a b : Int) (h : a ≠ b) : (cmp1 a b != 0) = true ∧ (cmp1 a b = if a < b then -1 else 1) := by
  unfold cmp1
  split
  · exact ⟨rfl, rfl⟩
  · rw [if_pos (by omega)]; exact ⟨rfl, rfl⟩
/-- The order of two rows. -/
def cmpL : List Int → List Int → Int
  | [], [] => 0
  | [], _ :: _ => -1
  | _ :: _, [] => 1
  | a :: l, b :: m => if a < b then -1 else if b < a then 1 else cmpL l m

theorem cmpL_step (l m : List Int) (k : Nat) (h1 : k < l.length) (h2 : k < m.length) (e : rd l k = rd m k) : cmpL (l.drop k) (m.drop k) = cmpL (l.drop (k + 1)) (m.drop (k + 1)) := by
  have a1 : l.drop k = l[k] :: l.drop (k + 1) := by rw [List.drop_eq_getElem_cons h1]
  have a2 : m.drop k = m[k] :: m.drop (k + 1) := by rw [List.drop_eq_getElem_cons h2]
  have b1 : rd l k = l[k] := by unfold rd; simp [h1]
  have b2 : rd m k = m[k] := by unfold rd; simp [h2]
  rw [a1, a2, cmpL, ← b1, ← b2, e]
  simp
theorem cmpL_ne (l m : List Int) (k : Nat) (h1 : k < l.length) (h2 : k < m.length) (e : rd l k ≠ rd m k) : cmpL (l.drop k) (m.drop k) = if rd l k < rd m k then -1 else 1 := by
  have a1 : l.drop k = l[k] :: l.drop (k + 1) := by rw [List.drop_eq_getElem_cons h1]
  have a2 : m.drop k = m[k] :: m.drop (k + 1) := by rw [List.drop_eq_getElem_cons h2]
  have b1 : rd l k = l[k] := by unfold rd; simp [h1]
  have b2 : rd m k = m[k] := by unfold rd; simp [h2]
  rw [a1, a2, cmpL, ← b1, ← b2]
  split
  · rfl
  · rw [if_pos (by omega)]
theorem cmpL_end1 (l m : List Int) (k : Nat) (h1 : k < l.length) (h2 : m.length ≤ k) : cmpL (l.drop k) (m.drop k) = 1 := by
  rw [List.drop_eq_getElem_cons h1, List.drop_eq_nil_of_le h2, cmpL]
theorem cmpL_end2 (l m : List Int) (k : Nat) (h1 : l.length ≤ k) : cmpL (l.drop k) (m.drop k) = if k < m.length then -1 else 0 := by
  rw [List.drop_eq_nil_of_le h1]
  split
  · rename_i h2; rw [List.drop_eq_getElem_cons h2, cmpL]
  · rw [List.drop_eq_nil_of_le (by omega), cmpL]
end Pt

theorem cmp_c (a b : Int) (w : World) : Calls Tryz.prog 65 #[.int .u16 a, .int .u16 b] w fun e w' => e = .returned (.int .i64 (Pt.cmp1 a b)) ∧ Below w.heap.size w w' := by
  refine (Ua.cmp_Compare_uint16.calls a b (Pt.cmp1 a b) w ?_).mono ?_
  · unfold Ua.cmp_Compare_uint16.f Ua.cmp_isNaN_uint16.f
    simp [Pt.cmp1]
    split <;> (try split) <;> rfl
  · rintro e w' ⟨rfl, hd⟩
    exact ⟨rfl, hd.below⟩

set_option maxHeartbeats 1000000 in
set_option maxRecDepth 100000 in
theorem cmpFunc_c (A0 A1 : Option Addr) (c0 c1 : Nat) (l m : List Int) (w : World) (hl : l.length ≤ 4398046511104) (_hm : m.length ≤ 4398046511104)
    (hr0 : Kd.C (Kd.int .u16) w A0 l.length l) (hr1 : Kd.C (Kd.int .u16) w A1 m.length m) :
    Calls Tryz.prog 64 #[.slice A0 l.length c0, .slice A1 m.length c1, .func (.func 65) #[] #[]] w fun e w' =>
      e = .returned (.int .i64 (Pt.cmpL l m)) ∧ Below w.heap.size w w' := by
  have HR0 := Aside0.mk hr0
  have HR1 := Aside0.mk hr1
  clear hr0 hr1
  go_enter Tryz.func64, Tryz.ntmps64
  go_wp2
  go_loopw [13] (fun v13 wr => ∃ k : Nat, v13 = .int .i64 (k : Nat) ∧ k ≤ l.length ∧ Fact (Pt.cmpL l m = Pt.cmpL (l.drop k) (m.drop k)) ∧ Fact (Below w.heap.size w wr)) (fun v13 _ => l.length - (intOf v13).toNat)
  case atStart => exact ⟨0, rfl, by omega, ⟨rfl⟩, ⟨Below.refl _ _⟩⟩
  case round =>
    obtain ⟨k, rfl, hk, HF, HB⟩ := hrel
    by_cases h1 : k < l.length
    · have h1' : (k : Int) < (l.length : Int) := by omega
      obtain ⟨ad0, e0, x0⟩ := Kd.at_int (Kd.C_below HR0.out HB.out) (k : Int) (by omega) h1'
      by_cases h2 : k < m.length
      · have h2' : (k : Int) < (m.length : Int) := by omega
        obtain ⟨ad1, e1, x1⟩ := Kd.at_int (Kd.C_below HR1.out HB.out) (k : Int) (by omega) h2'
        cases e0
        cases e1
        rw [Int.toNat_natCast] at x0 x1
        by_cases he : rd l k = rd m k
        · have HE := Fact.mk he
          rw [he] at x0
          clear he
          have hq := Pt.cmp1_self (rd m k)
          go_wp2_with (go_at_call 65; refine (cmp_c _ _ _).mono ?_; rintro e w1 ⟨rfl, hb⟩)
          go_roundw
          case rel => exact ⟨k + 1, by go_num, by omega, ⟨by rw [HF.out, Pt.cmpL_step l m k h1 h2 HE.out]⟩, ⟨HB.out.trans (hb.mono HB.out.size)⟩⟩
          case measure => simp [intOf]; omega
        · have HE := Fact.mk he
          have hq := (Pt.cmp1_ne _ _ he).1
          have HS : Fact (Pt.cmp1 (rd l k) (rd m k) = Pt.cmpL l m) := ⟨by rw [HF.out, Pt.cmpL_ne l m k h1 h2 he, (Pt.cmp1_ne _ _ he).2]⟩
          clear he
          generalize rd l k = a at *
          generalize rd m k = b at *
          go_wp2_with (go_at_call 65; refine (cmp_c _ _ _).mono ?_; rintro e w1 ⟨rfl, hb⟩)
          go_ret
          exact ⟨by rw [← HS.out]; rfl, HB.out.trans (hb.mono HB.out.size)⟩
      · have h2' : (m.length : Int) ≤ (k : Int) := by omega
        cases e0
        rw [Int.toNat_natCast] at x0
        go_wp2_with (fail)
        go_ret
        exact ⟨by rw [HF.out, Pt.cmpL_end1 l m k h1 (by omega)]; rfl, HB.out⟩
    · have HS := Fact.mk (Pt.cmpL_end2 l m k (by omega))
      by_cases h2 : k < m.length
      · have h3 : (l.length : Int) < (m.length : Int) := by omega
        go_wp2_with (fail)
        go_ret
        exact ⟨by rw [HF.out, HS.out, if_pos h2]; rfl, HB.out⟩
      · by_cases h4 : l.length < m.length
        · exfalso; omega
        · go_wp2_with (fail)
          go_ret
          exact ⟨by rw [HF.out, HS.out, if_neg h2]; rfl, HB.out⟩

theorem Pt.all_units (s : ByteArray) : (Pt.us (Pt.all s).1).length ≤ 2 * s.size := by
  have h1 := Pt.scan_len s (s.size + 1) 0 0
  have h2 := Pt.us_len0 (Pt.all s).1
  unfold Pt.all at *
  omega

def units_Compare.f (a0 a1 : ByteArray) : Option (Int × Int) :=
  if a0.size ≤ 1099511627776 ∧ a1.size ≤ 1099511627776 then (if (Pt.all a0).2 = true then (if (Pt.all a1).2 = true then some (Pt.cmpL (Pt.us (Pt.all a0).1) (Pt.us (Pt.all a1).1), 0) else some (0, 10)) else some (0, 10)) else none
set_option maxRecDepth 100000 in
theorem units_Compare.calls (a0 a1 : ByteArray) (r1 r2 : Int) (w : World) (HT : Aside0 (Tabs w)) (h : units_Compare.f a0 a1 = some (r1, r2)) :
    Calls Tryz.prog 46 #[.string a0, .string a1] w fun e w' => e = .returned (.tuple #[.int .i64 r1, .int .i64 r2]) ∧ Below w.heap.size w w' := by
  unfold units_Compare.f at h
  split at h
  case isFalse => cases h
  case isTrue hs =>
  obtain ⟨hs0, hs1⟩ := hs
  have ha := Pt.all_units a0
  have hb := Pt.all_units a1
  have F0 : Fact (units_Units.f a0 = if (Pt.all a0).2 = true then some (Pt.us (Pt.all a0).1, 0) else some ([], 10)) := ⟨by unfold units_Units.f; rw [if_pos hs0]⟩
  have F1 : Fact (units_Units.f a1 = if (Pt.all a1).2 = true then some (Pt.us (Pt.all a1).1, 0) else some ([], 10)) := ⟨by unfold units_Units.f; rw [if_pos hs1]⟩
  cases ho : (Pt.all a0).2
  · rw [ho] at h F0
    simp only [Bool.false_eq_true, if_false, Option.some.injEq, Prod.mk.injEq] at h F0
    obtain ⟨rfl, rfl⟩ := h
    clear ho ha hb
    go_enter Tryz.func46, Tryz.ntmps46
    go_wp2_with (fail)
    refine (units_Units.calls a0 _ _ _ HT F0.out).mono ?_
    rintro e w1 ⟨v, rfl, hR, hB⟩
    go_wp2_with (fail)
    go_ret2
    exact ⟨rfl, hB⟩
  · rw [ho] at h F0
    simp only [if_true] at h F0
    cases ho1 : (Pt.all a1).2
    · rw [ho1] at h F1
      simp only [Bool.false_eq_true, if_false, Option.some.injEq, Prod.mk.injEq] at h F1
      obtain ⟨rfl, rfl⟩ := h
      clear ho ha hb ho1
      go_enter Tryz.func46, Tryz.ntmps46
      go_wp2_with (fail)
      refine (units_Units.calls a0 _ _ _ HT F0.out).mono ?_
      rintro e w1 ⟨v, rfl, hR, hB⟩
      go_wp2_with (fail)
      refine (units_Units.calls a1 _ _ _ ⟨HT.out.below hB⟩ F1.out).mono ?_
      rintro e w2 ⟨v2, rfl, hR2, hB2⟩
      go_wp2_with (fail)
      go_ret2
      exact ⟨rfl, hB.trans (hB2.mono hB.size)⟩
    · rw [ho1] at h F1
      simp only [if_true, Option.some.injEq, Prod.mk.injEq] at h F1
      obtain ⟨rfl, rfl⟩ := h
      clear ho ho1
      go_enter Tryz.func46, Tryz.ntmps46
      go_wp2_with (fail)
      refine (units_Units.calls a0 _ _ _ HT F0.out).mono ?_
      rintro e w1 ⟨v, rfl, hR, hB⟩
      go_wp2_with (fail)
      refine (units_Units.calls a1 _ _ _ ⟨HT.out.below hB⟩ F1.out).mono ?_
      rintro e w2 ⟨v2, rfl, hR2, hB2⟩
      have hR' := Kd.R_below hR hB2
      obtain ⟨A, c, rfl, hc, hC⟩ := Kd.R_reads hR'
      obtain ⟨A2, c2, rfl, hc2, hC2⟩ := Kd.R_reads hR2
      go_wp2_with (fail)
      refine (cmpFunc_c A A2 c c2 _ _ _ (by omega) (by omega) hC hC2).mono ?_
      rintro e w3 ⟨rfl, hB3⟩
      go_wp2_with (fail)
      go_ret2
      exact ⟨rfl, (hB.trans (hB2.mono hB.size)).trans (hB3.mono (Nat.le_trans hB.size hB2.size))⟩
end Go.Proofs.YtnknfffldgkgcaaGreatDoor

/- Whatever is compared by its units is in a strict weak order. -/
namespace Go.Proofs.YtnknfffldgkgcaaGreatDoor
open Go.Sort
theorem cmpL_self : ∀ l : List Int, Pt.cmpL l l = 0
  | [] => rfl
  | a :: l => by simp only [Pt.cmpL]; rw [if_neg (by omega), if_neg (by omega)]; exact cmpL_self l
theorem cmpL_trans : ∀ l m n : List Int, Pt.cmpL l m < 0 → Pt.cmpL m n < 0 → Pt.cmpL l n < 0
  | [], [], n, h, _ => by simp [Pt.cmpL] at h
  | [], b :: m, [], _, h => by simp [Pt.cmpL] at h
  | [], b :: m, c :: n, _, _ => by simp [Pt.cmpL]
  | a :: l, [], n, h, _ => by simp [Pt.cmpL] at h
  | a :: l, b :: m, [], _, h => by simp [Pt.cmpL] at h
  | a :: l, b :: m, c :: n, h, k => by
    simp only [Pt.cmpL] at h k ⊢
    by_cases h1 : a < b
    · by_cases k1 : b < c
      · rw [if_pos (by omega)]; decide
      · rw [if_neg k1] at k
        by_cases k2 : c < b
        · rw [if_pos k2] at k; simp at k
        · rw [if_pos (by omega)]; decide
    · rw [if_neg h1] at h
      by_cases h2 : b < a
      · rw [if_pos h2] at h; simp at h
      · rw [if_neg h2] at h
        by_cases k1 : b < c
        · rw [if_pos (by omega)]; decide
        · rw [if_neg k1] at k
          by_cases k2 : c < b
          · rw [if_pos k2] at k; simp at k
          · rw [if_neg k2] at k
            rw [if_neg (by omega), if_neg (by omega)]
            exact cmpL_trans l m n h k
theorem cmpL_ntrans : ∀ l m n : List Int, ¬ Pt.cmpL l m < 0 → ¬ Pt.cmpL m n < 0 → ¬ Pt.cmpL l n < 0
  | [], [], n, _, h => h
  | [], b :: m, n, h, _ => by simp [Pt.cmpL] at h
  | a :: l, [], [], _, _ => by simp [Pt.cmpL]
  | a :: l, [], c :: n, _, h => by simp [Pt.cmpL] at h
  | a :: l, b :: m, [], _, _ => by simp [Pt.cmpL]
  | a :: l, b :: m, c :: n, h, k => by
    simp only [Pt.cmpL] at h k ⊢
    by_cases h1 : a < b
    · rw [if_pos h1] at h; simp at h
    · rw [if_neg h1] at h
      by_cases k1 : b < c
      · rw [if_pos k1] at k; simp at k
      · rw [if_neg k1] at k
        by_cases e : c < a
        · rw [if_neg (by omega), if_pos e]; decide
        · have hba : ¬ b < a := by omega
          have hcb : ¬ c < b := by omega
          rw [if_neg hba] at h
          rw [if_neg hcb] at k
          rw [if_neg (by omega), if_neg e]
          exact cmpL_ntrans l m n h k
/-- Whatever is compared by its units is in a strict weak order. -/
theorem cmpL_swo {α : Type} (u : α → List Int) : SWO (fun x y : α => decide (Pt.cmpL (u x) (u y) < 0)) :=
  ⟨fun x => by simp [cmpL_self], fun x y z h k => by simp only [decide_eq_true_eq] at *; exact cmpL_trans _ _ _ h k,
   fun x y z h k => by simp only [decide_eq_false_iff_not] at *; exact cmpL_ntrans _ _ _ h k⟩
end Go.Proofs.YtnknfffldgkgcaaGreatDoor

/- The machine never takes a draw back: what a call leaves has drawn no less. -/
namespace Go.Proofs.YtnknfffldgkgcaaGreatDoor

/-- No draw is taken back. -/
def Ge (w w' : World) : Prop := w.drawn ≤ w'.drawn
theorem Ge.refl (w : World) : Ge w w := Nat.le_refl _
theorem Ge.trans {a b c : World} (h : Ge a b) (k : Ge b c) : Ge a c := Nat.le_trans h k
def ResG {α : Type} (w : World) : Result α → Prop
  | .ok _ w' => Ge w w'
  | .halt _ w' => Ge w w'

theorem ResG.from {α : Type} {w w1 : World} {r : Result α} (h : Ge w w1) (k : ResG w1 r) : ResG w r := by
  cases r <;> exact h.trans k
theorem ask_ge {α : Type} : ∀ (a : Ask α) (w : World), Ge w (w.ask a).2
  | .done _, w => Ge.refl w
  | .ask what range k, w => by
    simp only [World.ask]
    split
    · exact ask_ge (k 0) w
    · exact Ge.trans (b := { w with drawn := w.drawn + 1 }) (Nat.le_succ _) (ask_ge _ _)
theorem sys_ge (w : World) (c : Sys) : Ge w (w.sys c).2 := by
  have h := ask_ge (Kernel.perform c w.os) w
  unfold World.sys
  split
  · exact Ge.refl w
  · rename_i r os w' _ e
    rw [e] at h
    exact h
theorem setCell_ge (w : World) (a : Addr) (v : Value) : Ge w (w.setCell a v) := Nat.le_refl _
theorem freeze_ge (w : World) (a : Addr) (n : Nat) : Ge w (w.freeze a n) := by
  unfold World.freeze
  first | exact Nat.le_refl _ | (split <;> exact Nat.le_refl _)
theorem viewStore_ge (p : Program) (w : World) (at_ : Addr) (u : TypeId) (a : Addr) (v : Value) (b : Bool) {r : World × List Addr} (h : w.viewStore p at_ u a v b = .ok r) : Ge w r.1 := by
  unfold World.viewStore at h
  simp only [bind, Except.bind, pure, Except.pure] at h
  repeat' split at h
  all_goals first | (cases h; exact Nat.le_refl _) | (simp at h; done)
theorem farStore_ge (p : Program) (w : World) (a : Addr) (v : Value) (b : Bool) {r : World × List Addr} (h : w.farStore p a v b = .ok r) : Ge w r.1 := by
  unfold World.farStore at h
  split at h
  · split at h
    · rename_i e
      cases h
      exact viewStore_ge _ _ _ _ _ _ _ e
    · cases h
  · cases h

theorem run_ge {α : Type} (p : Program) : ∀ (s : Sem α) (w : World), ResG w (s.run p w) := by
  intro s
  induction s with
  | pure a => exact fun w => Ge.refl w
  | load m a k ih =>
    intro w
    simp only [Sem.run]
    split
    · exact ih _ w
    · split
      · exact ih _ w
      · exact Ge.refl w
  | store m a v k ih =>
    intro w
    have h1 : ResG w (match w.cell? a with
      | some _ => if w.frozen? a then .halt (.unsupported (.unsafePointer "a write to bytes that a string shares")) w else k.run p (w.setCell a v)
      | none => match w.farStore p a v (m == .atomic) with
        | .ok (w, _) => k.run p w
        | .error h => .halt h w) := by
      split
      · split
        · exact Ge.refl w
        · exact ResG.from (setCell_ge w a v) (ih _)
      · split
        · rename_i w' x e
          exact ResG.from (farStore_ge p w a v _ e) (ih _)
        · exact Ge.refl w
    cases v <;> first | exact h1 | exact Ge.refl w
  | new o k ih => exact fun w => ih _ _
  | shape r k ih => exact fun w => ih _ _
  | freeze a n k ih =>
    intro w
    have h := ih (w.freeze a n)
    simp only [Sem.run]
    revert h
    cases k.run p (w.freeze a n) <;> exact fun h => (freeze_ge w a n).trans h
  | frozen a k ih => exact fun w => ih _ _
  | getObj r k ih =>
    intro w
    simp only [Sem.run]
    split
    · exact Ge.refl w
    · exact ih _ w
    · exact Ge.refl w
  | setObj r o k ih =>
    intro w
    simp only [Sem.run]
    split
    · exact Ge.refl w
    · exact ih { w with heap := w.heap.setIfInBounds r o }
    · exact Ge.refl w
  | choose q k ih =>
    intro w
    simp only [Sem.run]
    split
    · exact ih _ w
    · have h := ih (q.cut (w.tape w.drawn q)) { w with drawn := w.drawn + 1 }
      revert h
      cases (k (q.cut (w.tape w.drawn q))).run p { w with drawn := w.drawn + 1 } <;> exact fun h => Nat.le_trans (Nat.le_succ _) h
  | sys c k ih =>
    intro w
    have h := ih (w.sys c).1 (w.sys c).2
    simp only [Sem.run]
    revert h
    cases (k (w.sys c).1).run p (w.sys c).2 <;> exact fun h => (sys_ge w c).trans h
  | program k ih => exact fun w => ih _ _
  | mark m k ih => exact fun w => ih _
  | halt h => exact fun w => Ge.refl w
theorem run_ok {α : Type} {p : Program} {s : Sem α} {w w' : World} {a : α} (h : s.run p w = .ok a w') : Ge w w' := by
  have := run_ge p s w
  rw [h] at this; exact this
theorem run_halt {α : Type} {p : Program} {s : Sem α} {w w' : World} {a : Halt} (h : s.run p w = .halt a w') : Ge w w' := by
  have := run_ge p s w
  rw [h] at this; exact this
theorem runT_ok {α : Type} {p : Program} {s : Sem α} {w w' : World} {a : α} {es es' : Array Event} (h : s.runT p w es = (.ok a w', es')) : Ge w w' :=
  run_ok (by rw [Sem.runT_eq] at h; exact (Prod.mk.inj h).1)
theorem runT_halt {α : Type} {p : Program} {s : Sem α} {w w' : World} {a : Halt} {es es' : Array Event} (h : s.runT p w es = (.halt a w', es')) : Ge w w' :=
  run_halt (by rw [Sem.runT_eq] at h; exact (Prod.mk.inj h).1)

theorem runT1_ok {α : Type} {p : Program} {s : Sem α} {w w' : World} {a : α} {es : Array Event} (h : (s.runT p w es).1 = .ok a w') : Ge w w' :=
  run_ok (by rw [Sem.runT_eq] at h; exact h)
theorem runT1_halt {α : Type} {p : Program} {s : Sem α} {w w' : World} {a : Halt} {es : Array Event} (h : (s.runT p w es).1 = .halt a w') : Ge w w' :=
  run_halt (by rw [Sem.runT_eq] at h; exact h)

def StG (w : World) : GStep → Prop
  | .go _ w' _ => Ge w w'
  | .comm _ _ _ _ w' _ => Ge w w'
  | .spawn _ _ w' _ => Ge w w'
  | .count _ w' _ => Ge w w'
  | .timer _ _ w' _ => Ge w w'
  | .alone _ _ w' _ => Ge w w'
  | .newcoro _ _ _ w' _ => Ge w w'
  | .coroswitch _ _ _ w' _ => Ge w w'
  | .collect _ w' _ => Ge w w'
  | .watch _ w' _ => Ge w w'
  | .ended _ _ _ => True
theorem after_ge {w : World} {es : Array Event} {s : GStep} (h : StG w s) : StG w (GStep.after es s) := by cases s <;> exact h
theorem StG.from {w w1 : World} {s : GStep} (h : Ge w w1) (k : StG w1 s) : StG w s := by
  cases s <;> first | exact h.trans k | trivial

theorem doReturn_ge (p : Program) (main : Bool) (fr : Frame) (cs : List Frame) (dy : Option Dying) (v : Value) (w : World) : StG w (doReturn p main fr cs dy v w) := by
  unfold doReturn
  repeat' split
  all_goals first | exact Ge.refl w | trivial
theorem endWith_ge (w : World) (fd : Nat) (text : ByteArray) (o : Outcome) : StG w (endWith w fd text o) := by
  unfold endWith
  dsimp only
  repeat' split
  all_goals trivial
theorem endThrow_ge (fr : Frame) (m : String) (w : World) : StG w (endThrow fr m w) := Ge.refl w
theorem endThrow_go {fr : Frame} {m : String} {w w' : World} {g : Goroutine} {es : Array Event} (h : endThrow fr m w = .go g w' es) : Ge w w' := by
  have h2 := endThrow_ge fr m w
  rw [h] at h2
  exact h2
theorem endPrinting_ge (p : Program) (fr : Frame) (v : Value) (w : World) : StG w (endPrinting p fr v w) := by
  unfold endPrinting
  dsimp only
  split
  · exact endThrow_ge _ _ _
  · trivial
theorem endFatal_ge (p : Program) (fr : Frame) (cs : List Frame) (dy : Option Dying) (m : String) (w : World) : StG w (endFatal p fr cs dy m w) := by
  unfold endFatal
  dsimp only
  split
  · rename_i e
    exact run_ok e
  · trivial
  · trivial
theorem writeOn_ge (p : Program) (fr : Frame) (d : Dying) (f : Fatal) (w : World) : StG w (writeOn p fr d f w) := by
  unfold writeOn
  dsimp only
  split
  · trivial
  · split
    · rename_i e
      exact runT_ok e
    · rename_i e
      exact runT_halt e
    · trivial
    · trivial
theorem die_ge (p : Program) (fr : Frame) (d : Dying) (w : World) : StG w (die p fr d w) := by
  unfold die
  dsimp only
  repeat' split
  all_goals first
    | exact writeOn_ge _ _ _ _ _
    | exact endWith_ge _ _ _ _
    | exact Ge.refl w
    | trivial
    | exact after_ge trivial
    | (rename_i e; first
      | exact run_ok e
      | exact after_ge (runT1_ok e)
      | exact after_ge (StG.from (runT1_halt e) (endPrinting_ge _ _ _ _)))
theorem ite_ge {w : World} {c : Prop} [Decidable c] {a b : GStep} (h : StG w a) (k : StG w b) : StG w (if c then a else b) := by
  split
  · exact h
  · exact k
theorem early_ge (p : Program) (fr : Frame) (cs : List Frame) (dy : Option Dying) (g : Nat) (w : World) : StG w (early p fr cs dy g w) := by
  unfold early
  dsimp only
  have h := run_ge p (choose (.early g)) w
  revert h
  generalize (choose (.early g)).run p w = r
  intro h
  repeat' split
  all_goals first
    | exact Ge.refl w
    | trivial
    | exact Nat.le_refl _
    | exact h
theorem callDeferred_ge (p : Program) (fr : Frame) (cs : List Frame) (dy : Option Dying) (d : Deferred) (w : World) : StG w (callDeferred p fr cs dy d w) := by
  unfold callDeferred
  dsimp only
  refine ite_ge trivial (after_ge ?_)
  have h := run_ge p (invoke d.target d.args) w
  rw [Sem.runT_eq]
  dsimp only
  revert h
  generalize (invoke d.target d.args).run p w = r
  intro h
  split
  all_goals first
    | exact h
    | trivial
    | (split <;> exact h)
    | exact StG.from h (endFatal_ge _ _ _ _ _ _)
    | exact StG.from h (endThrow_ge _ _ _)
theorem unwind_ge (p : Program) (main : Bool) (fr : Frame) (cs : List Frame) (dy : Option Dying) (w : World) : StG w (unwind p main fr cs dy w) := by
  unfold unwind
  dsimp only
  split
  · refine after_ge ?_
    split
    · rename_i e
      exact runT1_ok e
    · trivial
  · exact callDeferred_ge _ _ _ _ _ _
  · split
    · trivial
    · repeat' split
      all_goals first
        | exact Ge.refl w
        | trivial
        | exact run_ok (by assumption)
        | exact endPrinting_ge _ _ _ _
    · split
      · exact doReturn_ge _ _ _ _ _ _ _
      · refine after_ge ?_
        split
        · rename_i e
          exact StG.from (runT1_ok e) (doReturn_ge _ _ _ _ _ _ _)
        · trivial
        · trivial
theorem apply_ge (p : Program) (listen : Bool) (fr : Frame) (cs : List Frame) (dy : Option Dying) (s : Sem Next) (w : World) : StG w (stepG.apply p listen fr cs dy s w) := by
  unfold stepG.apply
  dsimp only
  refine after_ge ?_
  have h := run_ge p s w
  have e : (if listen = true then s.runT p w #[] else (s.run p w, #[])).1 = s.run p w := by
    split
    · rw [Sem.runT_eq]
    · rfl
  rw [e]
  revert h
  generalize s.run p w = r
  intro h
  split
  all_goals first
    | exact h
    | trivial
    | exact StG.from h (endFatal_ge _ _ _ _ _ _)
    | exact StG.from h (endThrow_ge _ _ _)
    | exact StG.from h (early_ge _ _ _ _ _ _)
    | (repeat' split
       all_goals first | exact h | exact StG.from h (endThrow_ge _ _ _))
theorem oper_ge (p : Program) (listen : Bool) (fr : Frame) (cs : List Frame) (dy : Option Dying) (w : World) : StG w (stepG.oper p listen fr cs dy w) := by
  unfold stepG.oper
  split
  · trivial
  · split
    · exact apply_ge _ _ _ _ _ _ _
    · exact apply_ge _ _ _ _ _ _ _
theorem elim_ge {w : World} {α : Type} {o : Option α} {a : GStep} {f : α → GStep} (h : StG w a) (k : ∀ t, StG w (f t)) : StG w (o.elim a f) := by
  cases o
  · exact h
  · exact k _
theorem exec_ge (p : Program) (main listen : Bool) (fr : Frame) (cs : List Frame) (dy : Option Dying) (w : World) : StG w (stepG.exec p main listen fr cs dy w) := by
  have hl : ∀ (jump : Option Code) (c : Prop) [Decidable c], StG w (match fr.roundOf with
      | none => if c then GStep.go { frame := { fr with mode := .returning }, callers := cs, status := .running, dying := dy } w else GStep.ended (.stuck "exit, goto: no such block or label" (fr.pos p)) w
      | some l => GStep.after (seen p fr.fn ((Instr.endRound l jump).runT p w #[]).2) <| match ((Instr.endRound l jump).runT p w #[]).1 with
        | .ok v w => doReturn p main fr cs dy v w
        | .halt _ w => GStep.ended (.stuck "range over a function: no such loop" (fr.pos p)) w) := by
    intro jump c _
    split
    · exact ite_ge (Ge.refl w) trivial
    · refine after_ge ?_
      split
      · rename_i e
        exact StG.from (runT1_ok e) (doReturn_ge _ _ _ _ _ _ _)
      · trivial
  unfold stepG.exec
  dsimp only
  split
  all_goals first
    | exact Ge.refl w
    | trivial
    | exact hl _ _
    | exact apply_ge _ _ _ _ _ _ _
    | exact oper_ge _ _ _ _ _ _
    | exact elim_ge (hl _ _) (fun _ => Ge.refl w)
    | exact elim_ge trivial (fun _ => apply_ge _ _ _ _ _ _ _)
    | (repeat' split
       all_goals first
         | exact Ge.refl w
         | trivial
         | exact oper_ge _ _ _ _ _ _
         | exact run_ok (by assumption))
    | (refine after_ge ?_
       split
       all_goals first
         | trivial
         | (rename_i e
            first
            | exact StG.from (runT1_ok e) (apply_ge _ _ _ _ _ _ _)
            | exact runT1_ok e
            | exact runT1_halt e))
theorem stepG_ge (p : Program) (main : Bool) (g : Goroutine) (w : World) (listen : Bool) : StG w (stepG p main g w listen) := by
  unfold stepG
  dsimp only
  split
  · exact die_ge _ _ _ _
  · exact exec_ge _ _ _ _ _ _ _
  · exact unwind_ge _ _ _ _ _ _

def StS (w : World) : Stepped → Prop
  | .next m => Ge w m.world
  | _ => True
theorem StS.from {w w1 : World} {s : Stepped} (h : Ge w w1) (k : StS w1 s) : StS w s := by
  cases s <;> first | exact h.trans k | trivial

theorem look_ge (p : Program) (gs : Array Goroutine) (rest : Rest) (w : World) : StS w (look p gs rest w) := by
  unfold look
  dsimp only
  split
  · split
    · trivial
    · split
      · trivial
      · split
        · rename_i e
          have h := run_ok e
          exact h
        · trivial
        · trivial
  · trivial
theorem look_next {p : Program} {gs : Array Goroutine} {rest : Rest} {w : World} {m : Machine} (h : look p gs rest w = .next m) : Ge w m.world := by
  have h2 := look_ge p gs rest w
  rw [h] at h2
  exact h2
theorem communicate_ge (p : Program) (rest : Rest) (gs : Array Goroutine) (i : Nat) (g : Goroutine) (cases : Array CommCase) (blocking : Bool) (shape : CommShape) (w : World) : StS w (communicate p rest gs i g cases blocking shape w).1 := by
  unfold communicate
  dsimp only
  split
  · trivial
  · split
    · split
      · split
        · rename_i e
          unfold waitingAt at e
          split at e
          · split at e
            · cases e; exact Ge.refl w
            · cases e
          · cases e; exact Ge.refl w
        · trivial
      · exact Ge.refl w
    · split
      · trivial
      · rename_i e
        refine StS.from (run_ok e) ?_
        repeat' split
        all_goals first
          | exact Ge.refl _
          | trivial
          | exact Nat.le_refl _
          | (rename_i e
             first
             | exact run_ok e
             | exact run_halt e
             | (have h := run_ok e; exact h)
             | (have h := run_halt e; exact h))
          | (rename_i e _
             first
             | (have h := run_ok e; exact h)
             | (have h := run_halt e; exact h))
          | (rename_i e _ _
             first
             | (have h := run_ok e; exact h)
             | (have h := run_halt e; exact h))
          | (rename_i e _ _ _
             first
             | (have h := run_ok e; exact h)
             | (have h := run_halt e; exact h))
theorem drain_ge (w : World) (c : Nat) : Ge w (drain w c).2 := by
  unfold drain
  split
  · exact Nat.le_refl _
  · exact Ge.refl w
theorem retime_ge (m : Machine) (k : Nat) (t : Timer) (a b : Nat) : Ge m.world (retime m k t a b).2.world := by
  unfold retime
  dsimp only
  split
  · exact drain_ge _ _
  · exact Ge.refl _
theorem named_ge (m : Machine) (w : World) (var : Addr) (f : Nat → Timer → Value × Machine) (hf : ∀ k t, Ge w (f k t).2.world) {v : Value} {m' : Machine} (h : timerOp.named m var f = .ok (v, m')) : Ge w m'.world := by
  unfold timerOp.named at h
  split at h
  · rename_i k e
    have := hf k (m.rest.timers.getD k default)
    rw [Except.ok.inj h] at this
    exact this
  · cases h
theorem timerOp_ge (m : Machine) (op : TimerOp) {v : Value} {m' : Machine} (h : timerOp m op = .ok (v, m')) : Ge m.world m'.world := by
  unfold timerOp at h
  split at h
  · split at h
    · cases h; exact Ge.refl _
    · split at h
      · split at h
        · cases h
        · cases h; exact Nat.le_refl _
      · cases h
  · exact named_ge _ _ _ _ (fun k t => retime_ge m k t _ _) h
  · split at h
    · rename_i m2 e
      refine named_ge _ _ _ _ (fun k t => ?_) h
      refine Ge.trans ?_ (retime_ge m2 k t _ _)
      unfold timerOp.opened at e
      split at e
      · split at e
        · cases e; exact Nat.le_refl _
        · cases e
      · cases e; exact Ge.refl _
    · cases h
  · cases h; exact Ge.refl _
theorem runT_ge (p : Program) (m : Machine) (i : Nat) (listen : Bool) : StS m.world (runT p m i listen).1 := by
  unfold runT
  dsimp only
  have h := stepG_ge p (i == 0) (m.gs.swapAt! i { (default : Goroutine) with status := .finished }).1 m.world listen
  revert h
  generalize stepG p (i == 0) (m.gs.swapAt! i { (default : Goroutine) with status := .finished }).1 m.world listen = s
  intro h
  split
  · trivial
  · exact StS.from h (communicate_ge _ _ _ _ _ _ _ _ _)
  · exact h
  · exact h
  · split
    · trivial
    · exact h
  · exact h
  · exact StS.from h (look_ge _ _ _ _)
  · exact h
  · exact h
  · repeat' split
    all_goals first
      | exact h
      | trivial
      | (rename_i e; exact Ge.trans h (endThrow_go e))
  · split
    · rename_i e
      exact Ge.trans h (timerOp_ge _ _ e)
    · split
      · rename_i e
        exact Ge.trans h (endThrow_go e)
      · trivial
    · trivial
    · trivial

def StM (w : World) : Move → Prop
  | .goroutine m _ => Ge w m.world
  | .machine s _ => StS w s
theorem serve_ge (p : Program) (m : Machine) (k : Nat) : StS m.world (serve p m k) := by
  unfold serve
  dsimp only
  split
  · trivial
  · exact Nat.le_refl _
  · split
    · trivial
    · exact Ge.refl _
theorem askOn_ge (p : Program) (m : Machine) : StM m.world (askOn p m) := by
  unfold askOn
  dsimp only
  split
  · trivial
  · rename_i e
    have h0 := run_ok e
    repeat' split
    all_goals first
      | exact h0
      | trivial
      | exact StS.from h0 (serve_ge _ _ _)
      | (rename_i e1 
         have h1 := run_ok e1
         exact h0.trans h1)
      | (rename_i e1 _ 
         have h1 := run_ok e1
         exact h0.trans h1)
      | (rename_i e1 _ _ 
         have h1 := run_ok e1
         exact h0.trans h1)
      | (rename_i e1 e2 
         have h1 := run_ok e1
         have h2 := run_ok e2
         exact (h0.trans h1).trans h2)
      | (rename_i e1 _ e2 
         have h1 := run_ok e1
         have h2 := run_ok e2
         exact (h0.trans h1).trans h2)
      | (rename_i e1 _ _ e2 
         have h1 := run_ok e1
         have h2 := run_ok e2
         exact (h0.trans h1).trans h2)
      | (rename_i e1 _ _ _ e2 
         have h1 := run_ok e1
         have h2 := run_ok e2
         exact (h0.trans h1).trans h2)
      | (rename_i e1 _ _ _ _ e2 
         have h1 := run_ok e1
         have h2 := run_ok e2
         exact (h0.trans h1).trans h2)
      | (rename_i e1 _ _ _ _ _ e2 
         have h1 := run_ok e1
         have h2 := run_ok e2
         exact (h0.trans h1).trans h2)
      | (rename_i e1 _ _ _ _ _ _ e2 
         have h1 := run_ok e1
         have h2 := run_ok e2
         exact (h0.trans h1).trans h2)
      | (rename_i e1 e2 _ 
         have h1 := run_ok e1
         have h2 := run_ok e2
         exact (h0.trans h1).trans h2)
      | (rename_i e1 _ e2 _ 
         have h1 := run_ok e1
         have h2 := run_ok e2
         exact (h0.trans h1).trans h2)
      | (rename_i e1 _ _ e2 _ 
         have h1 := run_ok e1
         have h2 := run_ok e2
         exact (h0.trans h1).trans h2)
      | (rename_i e1 _ _ _ e2 _ 
         have h1 := run_ok e1
         have h2 := run_ok e2
         exact (h0.trans h1).trans h2)
      | (rename_i e1 _ _ _ _ e2 _ 
         have h1 := run_ok e1
         have h2 := run_ok e2
         exact (h0.trans h1).trans h2)
      | (rename_i e1 _ _ _ _ _ e2 _ 
         have h1 := run_ok e1
         have h2 := run_ok e2
         exact (h0.trans h1).trans h2)
      | (rename_i e1 _ _ _ _ _ _ e2 _ 
         have h1 := run_ok e1
         have h2 := run_ok e2
         exact (h0.trans h1).trans h2)
      | (rename_i e1 e2 _ _ 
         have h1 := run_ok e1
         have h2 := run_ok e2
         exact (h0.trans h1).trans h2)
      | (rename_i e1 _ e2 _ _ 
         have h1 := run_ok e1
         have h2 := run_ok e2
         exact (h0.trans h1).trans h2)
      | (rename_i e1 _ _ e2 _ _ 
         have h1 := run_ok e1
         have h2 := run_ok e2
         exact (h0.trans h1).trans h2)
      | (rename_i e1 _ _ _ e2 _ _ 
         have h1 := run_ok e1
         have h2 := run_ok e2
         exact (h0.trans h1).trans h2)
      | (rename_i e1 _ _ _ _ e2 _ _ 
         have h1 := run_ok e1
         have h2 := run_ok e2
         exact (h0.trans h1).trans h2)
      | (rename_i e1 _ _ _ _ _ e2 _ _ 
         have h1 := run_ok e1
         have h2 := run_ok e2
         exact (h0.trans h1).trans h2)
      | (rename_i e1 _ _ _ _ _ _ e2 _ _ 
         have h1 := run_ok e1
         have h2 := run_ok e2
         exact (h0.trans h1).trans h2)
      | (rename_i e1 _ _ e2 _ _ _ e3 
         have h1 := run_ok e1
         have h2 := run_ok e2
         have h3 := run_ok e3
         exact ((h0.trans h1).trans h2).trans h3)
      | (rename_i e1 _ _ _ e2 _ _ _ e3 
         have h1 := run_ok e1
         have h2 := run_ok e2
         have h3 := run_ok e3
         exact ((h0.trans h1).trans h2).trans h3)
      | (rename_i e1 _ _ _ _ e2 _ _ _ e3 
         have h1 := run_ok e1
         have h2 := run_ok e2
         have h3 := run_ok e3
         exact ((h0.trans h1).trans h2).trans h3)
      | (rename_i e1 _ _ _ _ _ e2 _ _ _ e3 
         have h1 := run_ok e1
         have h2 := run_ok e2
         have h3 := run_ok e3
         exact ((h0.trans h1).trans h2).trans h3)
      | (rename_i e1 _ _ _ _ _ _ e2 _ _ _ e3 
         have h1 := run_ok e1
         have h2 := run_ok e2
         have h3 := run_ok e3
         exact ((h0.trans h1).trans h2).trans h3)
      | (rename_i e1 _ _ e2 _ _ _ _ e3 
         have h1 := run_ok e1
         have h2 := run_ok e2
         have h3 := run_ok e3
         exact ((h0.trans h1).trans h2).trans h3)
      | (rename_i e1 _ _ _ e2 _ _ _ _ e3 
         have h1 := run_ok e1
         have h2 := run_ok e2
         have h3 := run_ok e3
         exact ((h0.trans h1).trans h2).trans h3)
      | (rename_i e1 _ _ _ _ e2 _ _ _ _ e3 
         have h1 := run_ok e1
         have h2 := run_ok e2
         have h3 := run_ok e3
         exact ((h0.trans h1).trans h2).trans h3)
      | (rename_i e1 _ _ _ _ _ e2 _ _ _ _ e3 
         have h1 := run_ok e1
         have h2 := run_ok e2
         have h3 := run_ok e3
         exact ((h0.trans h1).trans h2).trans h3)
      | (rename_i e1 _ _ _ _ _ _ e2 _ _ _ _ e3 
         have h1 := run_ok e1
         have h2 := run_ok e2
         have h3 := run_ok e3
         exact ((h0.trans h1).trans h2).trans h3)
      | (rename_i e1 _ _ e2 _ _ _ _ _ e3 
         have h1 := run_ok e1
         have h2 := run_ok e2
         have h3 := run_ok e3
         exact ((h0.trans h1).trans h2).trans h3)
      | (rename_i e1 _ _ _ e2 _ _ _ _ _ e3 
         have h1 := run_ok e1
         have h2 := run_ok e2
         have h3 := run_ok e3
         exact ((h0.trans h1).trans h2).trans h3)
      | (rename_i e1 _ _ _ _ e2 _ _ _ _ _ e3 
         have h1 := run_ok e1
         have h2 := run_ok e2
         have h3 := run_ok e3
         exact ((h0.trans h1).trans h2).trans h3)
      | (rename_i e1 _ _ _ _ _ e2 _ _ _ _ _ e3 
         have h1 := run_ok e1
         have h2 := run_ok e2
         have h3 := run_ok e3
         exact ((h0.trans h1).trans h2).trans h3)
      | (rename_i e1 _ _ _ _ _ _ e2 _ _ _ _ _ e3 
         have h1 := run_ok e1
         have h2 := run_ok e2
         have h3 := run_ok e3
         exact ((h0.trans h1).trans h2).trans h3)
      | (rename_i e1 _ _ e2 _ _ _ _ _ _ e3 
         have h1 := run_ok e1
         have h2 := run_ok e2
         have h3 := run_ok e3
         exact ((h0.trans h1).trans h2).trans h3)
      | (rename_i e1 _ _ _ e2 _ _ _ _ _ _ e3 
         have h1 := run_ok e1
         have h2 := run_ok e2
         have h3 := run_ok e3
         exact ((h0.trans h1).trans h2).trans h3)
      | (rename_i e1 _ _ _ _ e2 _ _ _ _ _ _ e3 
         have h1 := run_ok e1
         have h2 := run_ok e2
         have h3 := run_ok e3
         exact ((h0.trans h1).trans h2).trans h3)
      | (rename_i e1 _ _ _ _ _ e2 _ _ _ _ _ _ e3 
         have h1 := run_ok e1
         have h2 := run_ok e2
         have h3 := run_ok e3
         exact ((h0.trans h1).trans h2).trans h3)
      | (rename_i e1 _ _ _ _ _ _ e2 _ _ _ _ _ _ e3 
         have h1 := run_ok e1
         have h2 := run_ok e2
         have h3 := run_ok e3
         exact ((h0.trans h1).trans h2).trans h3)
      | (rename_i e1 _ _ e2 _ _ _ e3 _ 
         have h1 := run_ok e1
         have h2 := run_ok e2
         have h3 := run_ok e3
         exact ((h0.trans h1).trans h2).trans h3)
      | (rename_i e1 _ _ _ e2 _ _ _ e3 _ 
         have h1 := run_ok e1
         have h2 := run_ok e2
         have h3 := run_ok e3
         exact ((h0.trans h1).trans h2).trans h3)
      | (rename_i e1 _ _ _ _ e2 _ _ _ e3 _ 
         have h1 := run_ok e1
         have h2 := run_ok e2
         have h3 := run_ok e3
         exact ((h0.trans h1).trans h2).trans h3)
      | (rename_i e1 _ _ _ _ _ e2 _ _ _ e3 _ 
         have h1 := run_ok e1
         have h2 := run_ok e2
         have h3 := run_ok e3
         exact ((h0.trans h1).trans h2).trans h3)
      | (rename_i e1 _ _ _ _ _ _ e2 _ _ _ e3 _ 
         have h1 := run_ok e1
         have h2 := run_ok e2
         have h3 := run_ok e3
         exact ((h0.trans h1).trans h2).trans h3)
      | (rename_i e1 _ _ e2 _ _ _ _ e3 _ 
         have h1 := run_ok e1
         have h2 := run_ok e2
         have h3 := run_ok e3
         exact ((h0.trans h1).trans h2).trans h3)
      | (rename_i e1 _ _ _ e2 _ _ _ _ e3 _ 
         have h1 := run_ok e1
         have h2 := run_ok e2
         have h3 := run_ok e3
         exact ((h0.trans h1).trans h2).trans h3)
      | (rename_i e1 _ _ _ _ e2 _ _ _ _ e3 _ 
         have h1 := run_ok e1
         have h2 := run_ok e2
         have h3 := run_ok e3
         exact ((h0.trans h1).trans h2).trans h3)
      | (rename_i e1 _ _ _ _ _ e2 _ _ _ _ e3 _ 
         have h1 := run_ok e1
         have h2 := run_ok e2
         have h3 := run_ok e3
         exact ((h0.trans h1).trans h2).trans h3)
      | (rename_i e1 _ _ _ _ _ _ e2 _ _ _ _ e3 _ 
         have h1 := run_ok e1
         have h2 := run_ok e2
         have h3 := run_ok e3
         exact ((h0.trans h1).trans h2).trans h3)
      | (rename_i e1 _ _ e2 _ _ _ _ _ e3 _ 
         have h1 := run_ok e1
         have h2 := run_ok e2
         have h3 := run_ok e3
         exact ((h0.trans h1).trans h2).trans h3)
      | (rename_i e1 _ _ _ e2 _ _ _ _ _ e3 _ 
         have h1 := run_ok e1
         have h2 := run_ok e2
         have h3 := run_ok e3
         exact ((h0.trans h1).trans h2).trans h3)
      | (rename_i e1 _ _ _ _ e2 _ _ _ _ _ e3 _ 
         have h1 := run_ok e1
         have h2 := run_ok e2
         have h3 := run_ok e3
         exact ((h0.trans h1).trans h2).trans h3)
      | (rename_i e1 _ _ _ _ _ e2 _ _ _ _ _ e3 _ 
         have h1 := run_ok e1
         have h2 := run_ok e2
         have h3 := run_ok e3
         exact ((h0.trans h1).trans h2).trans h3)
      | (rename_i e1 _ _ _ _ _ _ e2 _ _ _ _ _ e3 _ 
         have h1 := run_ok e1
         have h2 := run_ok e2
         have h3 := run_ok e3
         exact ((h0.trans h1).trans h2).trans h3)
      | (rename_i e1 _ _ e2 _ _ _ _ _ _ e3 _ 
         have h1 := run_ok e1
         have h2 := run_ok e2
         have h3 := run_ok e3
         exact ((h0.trans h1).trans h2).trans h3)
      | (rename_i e1 _ _ _ e2 _ _ _ _ _ _ e3 _ 
         have h1 := run_ok e1
         have h2 := run_ok e2
         have h3 := run_ok e3
         exact ((h0.trans h1).trans h2).trans h3)
      | (rename_i e1 _ _ _ _ e2 _ _ _ _ _ _ e3 _ 
         have h1 := run_ok e1
         have h2 := run_ok e2
         have h3 := run_ok e3
         exact ((h0.trans h1).trans h2).trans h3)
      | (rename_i e1 _ _ _ _ _ e2 _ _ _ _ _ _ e3 _ 
         have h1 := run_ok e1
         have h2 := run_ok e2
         have h3 := run_ok e3
         exact ((h0.trans h1).trans h2).trans h3)
      | (rename_i e1 _ _ _ _ _ _ e2 _ _ _ _ _ _ e3 _ 
         have h1 := run_ok e1
         have h2 := run_ok e2
         have h3 := run_ok e3
         exact ((h0.trans h1).trans h2).trans h3)
      | (rename_i e1 _ _ e2 _ _ _ e3 _ _ 
         have h1 := run_ok e1
         have h2 := run_ok e2
         have h3 := run_ok e3
         exact ((h0.trans h1).trans h2).trans h3)
      | (rename_i e1 _ _ _ e2 _ _ _ e3 _ _ 
         have h1 := run_ok e1
         have h2 := run_ok e2
         have h3 := run_ok e3
         exact ((h0.trans h1).trans h2).trans h3)
      | (rename_i e1 _ _ _ _ e2 _ _ _ e3 _ _ 
         have h1 := run_ok e1
         have h2 := run_ok e2
         have h3 := run_ok e3
         exact ((h0.trans h1).trans h2).trans h3)
      | (rename_i e1 _ _ _ _ _ e2 _ _ _ e3 _ _ 
         have h1 := run_ok e1
         have h2 := run_ok e2
         have h3 := run_ok e3
         exact ((h0.trans h1).trans h2).trans h3)
      | (rename_i e1 _ _ _ _ _ _ e2 _ _ _ e3 _ _ 
         have h1 := run_ok e1
         have h2 := run_ok e2
         have h3 := run_ok e3
         exact ((h0.trans h1).trans h2).trans h3)
      | (rename_i e1 _ _ e2 _ _ _ _ e3 _ _ 
         have h1 := run_ok e1
         have h2 := run_ok e2
         have h3 := run_ok e3
         exact ((h0.trans h1).trans h2).trans h3)
      | (rename_i e1 _ _ _ e2 _ _ _ _ e3 _ _ 
         have h1 := run_ok e1
         have h2 := run_ok e2
         have h3 := run_ok e3
         exact ((h0.trans h1).trans h2).trans h3)
      | (rename_i e1 _ _ _ _ e2 _ _ _ _ e3 _ _ 
         have h1 := run_ok e1
         have h2 := run_ok e2
         have h3 := run_ok e3
         exact ((h0.trans h1).trans h2).trans h3)
      | (rename_i e1 _ _ _ _ _ e2 _ _ _ _ e3 _ _ 
         have h1 := run_ok e1
         have h2 := run_ok e2
         have h3 := run_ok e3
         exact ((h0.trans h1).trans h2).trans h3)
      | (rename_i e1 _ _ _ _ _ _ e2 _ _ _ _ e3 _ _ 
         have h1 := run_ok e1
         have h2 := run_ok e2
         have h3 := run_ok e3
         exact ((h0.trans h1).trans h2).trans h3)
      | (rename_i e1 _ _ e2 _ _ _ _ _ e3 _ _ 
         have h1 := run_ok e1
         have h2 := run_ok e2
         have h3 := run_ok e3
         exact ((h0.trans h1).trans h2).trans h3)
      | (rename_i e1 _ _ _ e2 _ _ _ _ _ e3 _ _ 
         have h1 := run_ok e1
         have h2 := run_ok e2
         have h3 := run_ok e3
         exact ((h0.trans h1).trans h2).trans h3)
      | (rename_i e1 _ _ _ _ e2 _ _ _ _ _ e3 _ _ 
         have h1 := run_ok e1
         have h2 := run_ok e2
         have h3 := run_ok e3
         exact ((h0.trans h1).trans h2).trans h3)
      | (rename_i e1 _ _ _ _ _ e2 _ _ _ _ _ e3 _ _ 
         have h1 := run_ok e1
         have h2 := run_ok e2
         have h3 := run_ok e3
         exact ((h0.trans h1).trans h2).trans h3)
      | (rename_i e1 _ _ _ _ _ _ e2 _ _ _ _ _ e3 _ _ 
         have h1 := run_ok e1
         have h2 := run_ok e2
         have h3 := run_ok e3
         exact ((h0.trans h1).trans h2).trans h3)
      | (rename_i e1 _ _ e2 _ _ _ _ _ _ e3 _ _ 
         have h1 := run_ok e1
         have h2 := run_ok e2
         have h3 := run_ok e3
         exact ((h0.trans h1).trans h2).trans h3)
      | (rename_i e1 _ _ _ e2 _ _ _ _ _ _ e3 _ _ 
         have h1 := run_ok e1
         have h2 := run_ok e2
         have h3 := run_ok e3
         exact ((h0.trans h1).trans h2).trans h3)
      | (rename_i e1 _ _ _ _ e2 _ _ _ _ _ _ e3 _ _ 
         have h1 := run_ok e1
         have h2 := run_ok e2
         have h3 := run_ok e3
         exact ((h0.trans h1).trans h2).trans h3)
      | (rename_i e1 _ _ _ _ _ e2 _ _ _ _ _ _ e3 _ _ 
         have h1 := run_ok e1
         have h2 := run_ok e2
         have h3 := run_ok e3
         exact ((h0.trans h1).trans h2).trans h3)
      | (rename_i e1 _ _ _ _ _ _ e2 _ _ _ _ _ _ e3 _ _ 
         have h1 := run_ok e1
         have h2 := run_ok e2
         have h3 := run_ok e3
         exact ((h0.trans h1).trans h2).trans h3)
theorem StM.from {w w1 : World} {s : Move} (h : Ge w w1) (k : StM w1 s) : StM w s := by
  cases s
  · exact h.trans k
  · exact StS.from h k
theorem ask_m_ge (p : Program) (m : Machine) : StM m.world (ask p m) := by
  unfold ask
  split
  · split
    · trivial
    · rename_i e
      have h0 := run_ok e
      split
      · rename_i m2 e2
        exact StM.from (h0.trans (look_next e2)) (askOn_ge p m2)
      · exact StS.from h0 (look_ge _ _ _ _)
    · rename_i e
      have h0 := run_ok e
      exact StM.from h0 (askOn_ge p _)
  · exact askOn_ge p m
theorem move_ge (p : Program) (m : Machine) : StM m.world (move p m) := by
  unfold move
  split
  · split
    · exact Ge.refl _
    · trivial
  · split
    · split
      · exact Ge.refl _
      · exact ask_m_ge p _
    · exact ask_m_ge p m
theorem step_ge {p : Program} {m m' : Machine} (h : step p m = .next m') : Ge m.world m'.world := by
  have h1 := move_ge p m
  unfold step stepT at h
  revert h1 h
  generalize move p m = mv
  intro h h1
  cases mv with
  | goroutine m1 i =>
    have h2 := runT_ge p m1 i true
    rw [show (runT p m1 i true).1 = .next m' from h] at h2
    exact Ge.trans h1 h2
  | machine s ops =>
    rw [show s = .next m' from h] at h1
    exact h1
theorem steps_ge {p : Program} {m m' : Machine} (h : Steps p m m') : Ge m.world m'.world := by
  obtain ⟨n, h⟩ := h
  induction n generalizing m with
  | zero => cases h; exact Ge.refl _
  | succ n ih =>
    unfold runN at h
    split at h
    · rename_i e
      exact (step_ge e).trans (ih h)
    · rename_i hne
      exact absurd h (hne _)
theorem calls_ge {P : Program} {f : FuncId} {args : Array Value} {w : World} {R : Ending → World → Prop} (h : Calls P f args w R) : Calls P f args w fun e w' => R e w' ∧ (e ≠ .outgrown → Ge w w') := by
  intro cs
  obtain ⟨e, w', fr, hR, hc, hf, hl⟩ := h cs
  refine ⟨e, w', fr, ⟨hR, fun hne => ?_⟩, hc, hf, hl⟩
  cases e with
  | returned v => exact steps_ge hc
  | panicked c => exact steps_ge hc
  | outgrown => exact absurd rfl hne
end Go.Proofs.YtnknfffldgkgcaaGreatDoor

/- A call that leaves what lay as it lay has drawn, and has laid blocks behind: the form that the library's sorts ask of what they call. -/
namespace Go.Proofs.YtnknfffldgkgcaaGreatDoor
open Go.RowKit Go.Sort

theorem grow_of {w w' : World} (hb : Below w.heap.size w w') (hg : Ge w w') : ∃ q os, w' = grow (w.drewN q) os := by
  refine ⟨w'.drawn - w.drawn, w'.heap.extract w.heap.size w'.heap.size, ?_⟩
  have h1 := hb.os
  have h2 := hb.tape
  have h3 := hb.output
  have h4 := hb.size
  have h5 := hb.block
  have h6 : w.drawn ≤ w'.drawn := hg
  have hh : w'.heap = w.heap ++ w'.heap.extract w.heap.size w'.heap.size := by
    apply Array.ext_getElem?
    intro i
    by_cases hi : i < w.heap.size
    · rw [h5 i hi, Array.getElem?_append_left hi]
    · rw [Array.getElem?_append_right (by omega), Array.getElem?_extract]
      by_cases hj : i < w'.heap.size
      · rw [if_pos (by omega)]
        congr 1
        omega
      · rw [if_neg (by omega), Array.getElem?_eq_none (by omega)]
  obtain ⟨hp, tp, dr, os, out⟩ := w'
  obtain ⟨hp0, tp0, dr0, os0, out0⟩ := w
  simp only at h1 h2 h3 h4 h5 h6 hh
  subst h1 h2 h3
  unfold grow World.drewN
  simp only [World.mk.injEq, true_and, and_true]
  exact ⟨hh, by omega⟩
/-- A contract in the form that a sort asks for. -/
theorem calls_grow {P : Program} {f : FuncId} {args : Array Value} {w : World} {v : Value} (h : Calls P f args w fun e w' => e = .returned v ∧ Below w.heap.size w w') :
    Calls P f args w fun e w' => e = .returned v ∧ ∃ q os, w' = grow (w.drewN q) os :=
  (calls_ge h).mono fun e w' ⟨⟨he, hb⟩, hg⟩ => ⟨he, grow_of hb (hg (by rw [he]; simp))⟩
end Go.Proofs.YtnknfffldgkgcaaGreatDoor

/- A sort's worlds lie as the caller's did, but for the row. -/
namespace Go.Proofs.YtnknfffldgkgcaaGreatDoor
open Go.RowKit Go.Sort

theorem sortWorld_below {α : Type} [Inhabited α] (enc : α → Value) (w : World) (blk off m : Nat) (dk : Array α) (os : Array Obj) {B : Nat} (hB : B ≤ blk) (hw : B ≤ w.heap.size) : RowKit.Below B w (sortWorld enc w blk off m dk os) := by
  refine ⟨rfl, rfl, rfl, ?_, fun k hk => ?_⟩
  · simp [sortWorld, grow, putRow, mapBlock, Sort.ahead]
  · have h1 : (putRow enc (Sort.ahead w m) blk off dk).heap[k]? = w.heap[k]? := by
      unfold putRow mapBlock
      simp only [Sort.ahead]
      rw [Array.getElem?_modify, if_neg (by omega)]
    show ((putRow enc (Sort.ahead w m) blk off dk).heap ++ os)[k]? = _
    rw [Array.getElem?_append_left (by simp [putRow, mapBlock, Sort.ahead]; omega)]
    exact h1
end Go.Proofs.YtnknfffldgkgcaaGreatDoor

/- Maps whose entries are told by a list: what is found in them. -/
namespace Go.Proofs.YtnknfffldgkgcaaGreatDoor
open Go.MapKept
open Go.ChangeMaps (setBlock)

/-- A map's entries, out of a list. -/
def ents {α : Type} (key val : α → Value) : List α → Nat → List MapEntry
  | [], _ => []
  | x :: t, i => { key := key x, val := val x, born := i } :: ents key val t (i + 1)
theorem ents_snoc {α : Type} (key val : α → Value) (x : α) : ∀ (K : List α) (i : Nat), ents key val (K ++ [x]) i = ents key val K i ++ [{ key := key x, val := val x, born := i + K.length }]
  | [], i => by simp [ents]
  | y :: t, i => by simp [ents, ents_snoc key val x t, Nat.add_assoc, Nat.add_comm 1]
theorem ents_len {α : Type} (key val : α → Value) : ∀ (K : List α) (i : Nat), (ents key val K i).length = K.length
  | [], _ => rfl
  | _ :: t, i => by simp [ents, ents_len key val t]
theorem ents_at {α : Type} (key val : α → Value) : ∀ (K : List α) (i q : Nat) (x : α), K[q]? = some x → (ents key val K i)[q]? = some { key := key x, val := val x, born := i + q }
  | [], _, _, _, h => by simp at h
  | y :: t, i, 0, x, h => by simp at h; subst h; rfl
  | y :: t, i, q + 1, x, h => by
    simp only [List.getElem?_cons_succ] at h
    simp only [ents, List.getElem?_cons_succ, ents_at key val t (i + 1) q x h, Option.some.injEq, MapEntry.mk.injEq, true_and]
    omega

/-- The first place where p holds. -/
def posBy {α : Type} (p : α → Bool) : List α → Option (Nat × α)
  | [] => none
  | x :: t => if p x = true then some (0, x) else (posBy p t).map fun q => (q.1 + 1, q.2)
theorem posBy_some {α : Type} {p : α → Bool} : ∀ {K : List α} {q : Nat} {x : α}, posBy p K = some (q, x) → K[q]? = some x ∧ p x = true
  | [], _, _, h => by simp [posBy] at h
  | y :: t, q, x, h => by
    simp only [posBy] at h
    split at h
    · simp only [Option.some.injEq, Prod.mk.injEq] at h
      obtain ⟨rfl, rfl⟩ := h
      rename_i hp
      exact ⟨rfl, hp⟩
    · obtain ⟨⟨q', x'⟩, h1, h2⟩ := Option.map_eq_some_iff.1 h
      simp only [Prod.mk.injEq] at h2
      obtain ⟨rfl, rfl⟩ := h2
      simpa using posBy_some h1
theorem posBy_none {α : Type} {p : α → Bool} : ∀ {K : List α}, posBy p K = none → ∀ x ∈ K, p x = false
  | [], _, x, hx => by simp at hx
  | y :: t, h, x, hx => by
    simp only [posBy] at h
    split at h
    · cases h
    · rename_i hp
      rcases List.mem_cons.1 hx with rfl | hx
      · simpa using hp
      · exact posBy_none (Option.map_eq_none_iff.1 h) x hx
theorem posBy_none' {α : Type} {p : α → Bool} : ∀ {K : List α}, (∀ x ∈ K, p x = false) → posBy p K = none
  | [], _ => rfl
  | y :: t, h => by
    simp only [posBy]
    rw [if_neg (by rw [h y (by simp)]; decide), posBy_none' (fun x hx => h x (by simp [hx]))]
    rfl

theorem find_ents {α : Type} (kind : TypeDesc) (k : Value) (key val : α → Value) (p : α → Bool) : ∀ (K : List α) (i j : Nat), (∀ x ∈ K, Instr.sameNow kind k (key x) = some (p x)) →
    Instr.findNow kind k (ents key val K i) j = some ((posBy p K).map fun q => (j + q.1, val q.2))
  | [], _, _, _ => rfl
  | x :: t, i, j, h => by
    simp only [ents, Instr.findNow, posBy]
    rw [h x (by simp)]
    cases p x with
    | true => simp
    | false =>
      simp only [Bool.false_eq_true, if_false]
      rw [find_ents kind k key val p t (i + 1) (j + 1) (fun y hy => h y (by simp [hy]))]
      cases posBy p t with
      | none => rfl
      | some q => simp [Nat.add_assoc, Nat.add_comm 1]

theorem modify_same {α : Type} (key val : α → Value) (K : List α) (q : Nat) (x : α) (h : K[q]? = some x) : (ents key val K 0).toArray.modify q (fun e => { e with key := key x, val := val x }) = (ents key val K 0).toArray := by
  apply Array.ext_getElem?
  intro i
  rw [Array.getElem?_modify]
  by_cases hi : q = i
  · subst hi
    rw [if_pos rfl]
    have := ents_at key val K 0 q x h
    simp [this]
  · rw [if_neg hi]

section
variable {P : Program} {W : World} {mt kt et : TypeId} {d : TypeDesc} {key : Value} {b c : Nat} {es : Array MapEntry}
theorem lookZ {z : Value} (ht : P.underlying mt = some (.map kt et)) (hd : P.underlying kt = some d) (hk : IsKey d key) (hb : W.heap[b]? = some (.map es c)) (hf : Instr.findNow d key es.toList 0 = some none) (hz : (zeroValue et).run P W = .ok z W) :
    (Instr.lookup mt (.map (some b)) key false).run P W = .ok z W := by
  simp [Instr.lookup, run_underlying ht, Go.MapKept.run_getObj_map hb, Go.MapKept.run_checkKey hd hk, Go.MapKept.run_findKey hd hf, hz, Result.andThen]
theorem lookV {i : Nat} {v : Value} (ht : P.underlying mt = some (.map kt et)) (hd : P.underlying kt = some d) (hk : IsKey d key) (hb : W.heap[b]? = some (.map es c)) (hf : Instr.findNow d key es.toList 0 = some (some (i, v))) :
    (Instr.lookup mt (.map (some b)) key false).run P W = .ok v W := by
  simp [Instr.lookup, run_underlying ht, Go.MapKept.run_getObj_map hb, Go.MapKept.run_checkKey hd hk, Go.MapKept.run_findKey hd hf, Result.andThen]
theorem updM {val v0 : Value} {i : Nat} (ht : P.underlying mt = some (.map kt et)) (hd : P.underlying kt = some d) (hk : IsKey d key) (hb : W.heap[b]? = some (.map es c)) (hf : Instr.findNow d key es.toList 0 = some (some (i, v0))) (hs : Instr.sameBits 10000 (((es[i]?).map (·.key)).getD key) key = true) :
    (Instr.mapUpdate mt (.map (some b)) key val).run P W = .ok () (setBlock W b (.map (es.modify i fun e => { e with key, val := val }) c)) := by
  simp [Instr.mapUpdate, run_underlying ht, Go.MapKept.run_getObj_map hb, Go.MapKept.run_checkKey hd hk, Go.MapKept.run_findKey hd hf, Go.MapKept.run_setObj_map _ hb, Result.andThen, Instr.keyThatStays, hs, setBlock]
end
end Go.Proofs.YtnknfffldgkgcaaGreatDoor
