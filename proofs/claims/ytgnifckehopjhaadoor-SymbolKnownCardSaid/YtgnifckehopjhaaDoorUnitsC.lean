/- units.Valid and units.Units: what each call comes to. -/
import Derived.Test.YtgnifckehopjhaaDoorWalkC
import Derived.RangeFuncBox
import Derived.Maps.AppendAt
import Derived.OwnWalk
import Derived.Deep.DeepMust
import Derived.WalkSmall
namespace Go.Proofs.YtgnifckehopjhaaDoor
open Go.RowKit Go.Proofs.YtgnifckehopjhaaDoorW.PrintWords

namespace Pt
/-- The code units of a code point. -/
def u16 (r : Nat) : List Int := if 65536 ≤ r then [(55296 + (r - 65536) / 1024 : Nat), (56320 + (r - 65536) % 1024 : Nat)] else [(r : Int)]
/-- The code units of a text's points. -/
def us (l : List (Nat × Nat)) : List Int := l.flatMap fun x => u16 x.2
theorem and1023 (x : Int) (h : 0 ≤ x) (h2 : x < 2097152) : Go.bits .and .i32 x 1023 = x % 1024 :=
  bits_mask .i32 31 (by decide) (fun n h0 h1 => by rw [IntKind.wrap_i32]; omega) 10 (by decide) x h (by omega)
theorem u16_len (r : Nat) : (u16 r).length ≤ 2 := by unfold u16; split <;> simp
theorem us_len0 (l : List (Nat × Nat)) : (us l).length ≤ 2 * l.length := by
  induction l with
  | nil => simp [us]
  | cons x l ih => have := u16_len x.2; simp only [us, List.flatMap_cons, List.length_append, List.length_cons] at *; omega
theorem scan_len (s : ByteArray) : ∀ f i last, (scan s f i last).1.length ≤ s.size - i
  | 0, _, _ => by simp [scan]
  | f + 1, i, last => by
    simp only [scan]
    split
    · simp
    · split
      · simp
      · rename_i h1 h2
        have h3 := scan_len s f (i + (pt (tl s i)).2) (pt (tl s i)).1
        have h4 := pt_le (tl s i)
        rw [tl_size] at h4
        have h5 : (pt (tl s i)).2 ≠ 0 := fun h => h2 (.inl h)
        simp only [List.length_cons]
        omega
theorem scan_rune (s : ByteArray) : ∀ f i last, ∀ x ∈ (scan s f i last).1, x.2 ≤ 1114111
  | 0, _, _ => by simp [scan]
  | f + 1, i, last => by
    simp only [scan]
    split
    · simp
    · split
      · simp
      · intro x hx
        rcases List.mem_cons.1 hx with e | e
        · subst e; exact pt_rune _
        · exact scan_rune s f _ _ x e
/-- So many units there are at most. -/
theorem us_len (s : ByteArray) (pre : List (Nat × Nat)) (x : Nat × Nat) (hp : pre ++ [x] <+: (all s).1) : (us pre).length ≤ 2 * s.size := by
  have h1 := hp.length_le
  have h2 := scan_len s (s.size + 1) 0 0
  have h3 := us_len0 pre
  unfold all at h1
  simp at h1
  omega
theorem all_rune (s : ByteArray) (pre : List (Nat × Nat)) (i r : Nat) (hp : pre ++ [(i, r)] <+: (all s).1) : r ≤ 1114111 :=
  scan_rune s (s.size + 1) 0 0 (i, r) (hp.subset (by simp))
theorem us_snoc (l : List (Nat × Nat)) (i r : Nat) : us (l ++ [(i, r)]) = us l ++ u16 r := by unfold us; simp
end Pt

theorem row_re {W : World} {b e n n' : Nat} {v : Value} {xs xs' : List Value} (h : W.ownsRow b e 1 v n xs) (hn : n = n') (hx : xs = xs') : W.ownsRow b e 1 v n' xs' := by subst hn; subst hx; exact h

theorem valid1_c (i r : Nat) (W : World) : Calls Tryd.prog 45 (#[.int .i64 (i : Nat), .int .i32 (r : Nat)] ++ #[]) W fun e W' => e = .returned (.bool true) ∧ W = W' := by
  simp only [Array.append_empty]
  go_enter Tryd.func45, Tryd.ntmps45
  go_wp2
  go_ret
  exact ⟨rfl, rfl⟩

def units_Valid.f (a0 : ByteArray) : Option Bool := if a0.size ≤ 140737488351232 then some (Pt.all a0).2 else none
theorem units_Valid.calls (a0 : ByteArray) (r : Bool) (w : World) (HT : Aside0 (Tabs w)) (h : units_Valid.f a0 = some r) :
    Calls Tryd.prog 30 #[.string a0] w fun e w' => e = .returned (.bool r) ∧ Below w.heap.size w w' := by
  unfold units_Valid.f at h
  split at h
  case isFalse => cases h
  case isTrue hs =>
  obtain rfl := Option.some.inj h
  have hc : Fact (Calls Tryd.prog 44 #[.string a0, .func (.func 45) #[] #[]] w fun e w' => e = .returned (.bool (Pt.all a0).2) ∧ Below w.heap.size w w') := ⟨by
    refine (walk_c a0 hs 45 #[] w HT.out (fun _ W => Below w.heap.size w W) (fun _ _ => False) (enters_of Tryd.func45 (by kernel_rfl) rfl)
      (fun _ _ _ h1 h2 => h1.trans (h2.mono h1.size)) (fun _ _ h => h) (fun pre i r W hW _ => (valid1_c i r W).mono fun e W' ⟨he, hw⟩ => .inl ⟨he, hw ▸ hW⟩) w (Below.refl _ _)).mono ?_
    rintro e w' (⟨rfl, hb⟩ | ⟨_, _, _, hx⟩)
    · exact ⟨rfl, hb⟩
    · exact hx.elim⟩
  clear h
  go_enter Tryd.func30, Tryd.ntmps30
  go_wp2_with (go_at_call 44; refine hc.out.mono ?_; rintro e w1 ⟨rfl, hb⟩)
  go_ret
  exact ⟨rfl, hb⟩

theorem Tryd.info16 : (Tryd.prog.info? 108).map (fun i => (i.zero, i.size, i.bytes)) = some (some (.int .u16 0), 1, 2) := by kernel_rfl

set_option maxRecDepth 100000 in
/-- The closure appends a point's units to the row in the box. -/
theorem units1_c (i r : Nat) (hr : r ≤ 1114111) (n₀ B : Nat) (W : World) (v : Value) (l : List Int) (hl : l.length + 2 ≤ 4398046511104)
    (hv : Boxed W B 104 v) (hrow : W.ownsRow n₀ 108 1 v l.length (l.map (Value.int .u16))) (hn₀ : n₀ ≤ W.heap.size) (hB : n₀ ≤ B) :
    Calls Tryd.prog 68 (#[.int .i64 (i : Nat), .int .i32 (r : Nat)] ++ #[.pointer (some ⟨B, 0, none⟩)]) W fun e W' => e = .returned (.bool true) ∧
      ∃ v', Boxed W' B 104 v' ∧ W'.ownsRow n₀ 108 1 v' (l ++ Pt.u16 r).length ((l ++ Pt.u16 r).map (Value.int .u16)) ∧ Below n₀ W W' := by
  obtain ⟨i0, hi, hz0, hz1, hz2⟩ := info_parts Tryd.info16
  have hc0 := hv.cell
  have hf0 := hv.frozen
  have hlt := hv.lt
  simp only [List.append_toArray, List.cons_append, List.nil_append]
  by_cases hbig : 65536 ≤ r
  · have hbz : (65536 : Int) ≤ (r : Int) := by omega
    have hrz : (r : Int) ≤ 1114111 := by omega
    have hand : Go.bits .and .i32 ((r : Int) - 65536) 1023 = ((r : Int) - 65536) % 1024 := Pt.and1023 _ (by omega) (by omega)
    clear hbig hr
    go_enter Tryd.func68, Tryd.ntmps68
    go_wp2_with (at_builtin; go_must (refine wpList_append_own _ rfl (.tmp 10) (.tmp 19) 104 rfl n₀ 108 i0 (.int .u16 0) 1 2 Tryd.underlying104 hi hz0 hz1 hz2 rfl (by decide) v l.length _ rfl (hrow.alloc _) ⟨W.heap.size, 0, none⟩ 2 2 [.int .u16 (55296 + ((r : Int) - 65536) / 1024), .int .u16 (56320 + ((r : Int) - 65536) % 1024)] rfl rfl ?c1 ?c2 ?c3 ?c4 ?c5 ?_); (case c1 => exact cell_two_new _ _ _ _); (case c2 => simp [Value.oneCell']); (case c3 => unfold maxLen; omega); (case c4 => omega); (case c5 => simp; omega); intro v' w1 hown' hgrow _; obtain ⟨g', cap', rfl⟩ := ownsRow_succ hown'; obtain ⟨hv1, hv2, hr2, hk2, hb2⟩ := hv.appended (by decide) hrow hn₀ hB hown' hgrow; have hc1 := hv1.cell; have hf1 := hv1.frozen; clear hc0 hf0 hlt)
    go_ret
    refine ⟨rfl, _, hv2, ?_, hb2⟩
    have e : (l ++ Pt.u16 r).length = l.length + 2 := by unfold Pt.u16; rw [if_pos (by omega)]; simp
    have e2 : (l ++ Pt.u16 r).map (Value.int .u16) = l.map (Value.int .u16) ++ [.int .u16 (55296 + ((r : Int) - 65536) / 1024), .int .u16 (56320 + ((r : Int) - 65536) % 1024)] := by
      unfold Pt.u16; rw [if_pos (by omega)]; simp; omega
    exact row_re hr2 (by simpa using e.symm) (by simpa using e2.symm)
  · have hbz : ¬ (65536 : Int) ≤ (r : Int) := by omega
    clear hbig
    go_enter Tryd.func68, Tryd.ntmps68
    go_wp2_with (at_builtin; go_must (refine wpList_append_own _ rfl (.tmp 21) (.tmp 24) 104 rfl n₀ 108 i0 (.int .u16 0) 1 2 Tryd.underlying104 hi hz0 hz1 hz2 rfl (by decide) v l.length _ rfl (hrow.alloc _) ⟨W.heap.size, 0, none⟩ 1 1 [.int .u16 (r : Int)] rfl rfl ?c1 ?c2 ?c3 ?c4 ?c5 ?_); (case c1 => exact cell_one_new _ _ _); (case c2 => simp [Value.oneCell']); (case c3 => unfold maxLen; omega); (case c4 => omega); (case c5 => simp; omega); intro v' w1 hown' hgrow _; obtain ⟨g', cap', rfl⟩ := ownsRow_succ hown'; obtain ⟨hv1, hv2, hr2, hk2, hb2⟩ := hv.appended (by decide) hrow hn₀ hB hown' hgrow; have hc1 := hv1.cell; have hf1 := hv1.frozen; clear hc0 hf0 hlt)
    go_ret
    refine ⟨rfl, _, hv2, ?_, hb2⟩
    have e : (l ++ Pt.u16 r).length = l.length + 1 := by unfold Pt.u16; rw [if_neg (by omega)]; simp
    have e2 : (l ++ Pt.u16 r).map (Value.int .u16) = l.map (Value.int .u16) ++ [.int .u16 (r : Int)] := by
      unfold Pt.u16; rw [if_neg (by omega)]; simp
    exact row_re hr2 (by simpa using e.symm) (by simpa using e2.symm)

/-- Where the points of a text lie, there are no more units than bytes. -/
def units_Units.f (a0 : ByteArray) : Option (List Int × Int) := if a0.size ≤ 1099511627776 then (if (Pt.all a0).2 = true then some (Pt.us (Pt.all a0).1, 0) else some ([], 10)) else none

theorem units_walk_c (s : ByteArray) (hs : s.size ≤ 1099511627776) (w : World) (HT : Tabs w) :
    Calls Tryd.prog 44 #[.string s, .func (.func 68) #[] #[.pointer (some ⟨w.heap.size, 0, none⟩)]] (w.alloc (.cells #[.slice none 0 0] 104)) fun e W' => e = .returned (.bool (Pt.all s).2) ∧
      ∃ v', Boxed W' w.heap.size 104 v' ∧ W'.ownsRow w.heap.size 108 1 v' (Pt.us (Pt.all s).1).length ((Pt.us (Pt.all s).1).map (Value.int .u16)) ∧ Below w.heap.size w W' := by
  refine (walk_c s (by omega) 68 #[.pointer (some ⟨w.heap.size, 0, none⟩)] w HT
    (fun pre W => ∃ v, Boxed W w.heap.size 104 v ∧ W.ownsRow w.heap.size 108 1 v (Pt.us pre).length ((Pt.us pre).map (Value.int .u16)) ∧ Below w.heap.size w W) (fun _ _ => False)
    (enters_of Tryd.func68 (by kernel_rfl) rfl) ?hJ ?hB ?hG _ ?h0).mono ?_
  case hJ =>
    rintro pre W W' ⟨v, hv, hr, hb⟩ h2
    refine ⟨v, (h2.block _ hv.lt).trans hv, ?_, hb.trans (h2.mono hb.size)⟩
    exact own_move hr (fun k hk => h2.block k (own_lt hr k hk))
  case hB => exact fun pre W ⟨_, _, _, hb⟩ => hb
  case hG =>
    rintro pre i r W ⟨v, hv, hr, hb⟩ hp
    have hlen := Pt.us_len s pre (i, r) hp
    have hrr := Pt.all_rune s pre i r hp
    refine (units1_c i r hrr w.heap.size w.heap.size W v (Pt.us pre) (by omega) hv hr hb.size (Nat.le_refl _)).mono ?_
    rintro e W' ⟨rfl, v', hv', hr', hb'⟩
    rw [← Pt.us_snoc pre i r] at hr'
    exact .inl ⟨rfl, v', hv', hr', hb.trans hb'⟩
  case h0 => exact ⟨_, Boxed.new _ _ _, World.ownsRow_nil _ _ _ _, (Below.refl _ _).alloc (Nat.le_refl _) _⟩
  rintro e w' (⟨rfl, h⟩ | ⟨_, _, _, hx⟩)
  · exact ⟨rfl, h⟩
  · exact hx.elim

set_option maxRecDepth 100000 in
theorem units_Units.calls (a0 : ByteArray) (r1 : List Int) (r2 : Int) (w : World) (HT : Aside0 (Tabs w)) (h : units_Units.f a0 = some (r1, r2)) :
    Calls Tryd.prog 50 #[.string a0] w fun e w' => ∃ v0_ : Value, e = .returned (.tuple #[v0_, .int .i64 r2]) ∧ Kd.R (Kd.int .u16) 108 w' w.heap.size (fun _ => True) v0_ r1 ∧ Below w.heap.size w w' := by
  unfold units_Units.f at h
  split at h
  case isFalse => cases h
  case isTrue hs =>
  have hc := Fact.mk (units_walk_c a0 hs w HT.out)
  cases hok : (Pt.all a0).2
  · rw [hok] at h
    simp only [Bool.false_eq_true, if_false, Option.some.injEq, Prod.mk.injEq] at h
    obtain ⟨rfl, rfl⟩ := h
    rw [hok] at hc
    clear hok
    go_enter Tryd.func50, Tryd.ntmps50
    go_wp2_with (go_at_call 44; refine hc.out.mono ?_; rintro e w1 ⟨rfl, v', hv, hr, hb⟩)
    go_ret2
    exact ⟨_, rfl, Kd.R_nil _ _ _ _ _, hb⟩
  · rw [hok] at h
    simp only [if_true, Option.some.injEq, Prod.mk.injEq] at h
    obtain ⟨rfl, rfl⟩ := h
    rw [hok] at hc
    clear hok
    go_enter Tryd.func50, Tryd.ntmps50
    go_wp2_with (go_at_call 44; refine hc.out.mono ?_; rintro e w1 ⟨rfl, v', hv, hr, hb⟩; have hc1 := hv.cell)
    go_ret2
    exact ⟨_, rfl, Kd.R_of_own hr (fun _ _ => trivial), hb⟩
end Go.Proofs.YtgnifckehopjhaaDoor
