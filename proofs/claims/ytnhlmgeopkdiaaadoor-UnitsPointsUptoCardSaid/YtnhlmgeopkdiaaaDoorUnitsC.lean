/- units.Valid and units.Units: what each call comes to. -/
import Derived.Test.YtnhlmgeopkdiaaaDoorWalkC
import Derived.RangeFuncBox
import Derived.Maps.AppendAt
import Derived.OwnWalk
import Derived.Deep.DeepMust
import Derived.WalkSmall
namespace Go.Proofs.YtnhlmgeopkdiaaaDoor
open Go.RowKit Go.Proofs.YtnhlmgeopkdiaaaDoorW.PrintWords

namespace Pt
/-- The code units of a code point. -/
def u16 (r : Nat) : List Int := if 65536 ≤ r then [(55296 + (r - 65536) / 1024 : Nat), (56320 + (r - 65536) % 1024 : Nat)] else [(r : Int)]
/-- The code units of a text's points. -/
def us (l : List (Nat × Nat)) : List Int := l.flatMap fun x => u16 x.2
theorem and1023 (x : Int) (h : 0 ≤ x) (h2 : x < 2097152) : Go.bits .and .i32 x 1023 = x % 1024 :=
  bits_mask .i32 31 (by decide) (fun n h0 h1 => by rw [IntKind.wrap_i32]; omega) 10 (by decide) x h (by omega)
theorem u16_len (r : Nat) : (u16 r).length ≤ 2 := by unfold u16; split <;> simp
theorem us_len0 (l : List (Nat × Nat)) : (us l).length ≤ 2 * l.length := by
  induction l with
  | nil => simp [us]
  | cons x l ih => have := u16_len x.2; simp only [us, List.flatMap_cons, List.length_append, List.length_cons] at *; omega
theorem scan_len (s : ByteArray) : ∀ f i last, (scan s f i last).1.length ≤ s.size - i
  | 0, _, _ => by simp [scan]
  | f + 1, i, last => by
    simp only [scan]
    split
    · simp
    · split
      · simp
      · rename_i h1 h2
        have h3 := scan_len s f (i + (pt (tl s i)).2) (pt (tl s i)).1
        have h4 := pt_le (tl s i)
        rw [tl_size] at h4
        have h5 : (pt (tl s i)).2 ≠ 0 := fun h => h2 (.inl h)
        simp only [List.length_cons]
        omega
theorem scan_rune (s : ByteArray) : ∀ f i last, ∀ x ∈ (scan s f i last).1, x.2 ≤ 1114111
  | 0, _, _ => by simp [scan]
  | f + 1, i, last => by
    simp only [scan]
    split
    · simp
    · split
      · simp
      · intro x hx
        rcases List.mem_cons.1 hx with e | e
        · subst e; exact pt_rune _
        · exact scan_rune s f _ _ x e
/-- So many units there are at most. -/
theorem us_len (s : ByteArray) (pre : List (Nat × Nat)) (x : Nat × Nat) (hp : pre ++ [x] <+: (all s).1) : (us pre).length ≤ 2 * s.size := by
  have h1 := hp.length_le
  have h2 := scan_len s (s.size + 1) 0 0
  have h3 := us_len0 pre
  unfold all at h1
  simp at h1
  omega
theorem all_rune (s : ByteArray) (pre : List (Nat × Nat)) (i r : Nat) (hp : pre ++ [(i, r)] <+: (all s).1) : r ≤ 1114111 :=
  scan_rune s (s.size + 1) 0 0 (i, r) (hp.subset (by simp))
theorem us_snoc (l : List (Nat × Nat)) (i r : Nat) : us (l ++ [(i, r)]) = us l ++ u16 r := by unfold us; simp
end Pt

theorem row_re {W : World} {b e n n' : Nat} {v : Value} {xs xs' : List Value} (h : W.ownsRow b e 1 v n xs) (hn : n = n') (hx : xs = xs') : W.ownsRow b e 1 v n' xs' := by subst hn; subst hx; exact h

theorem valid1_c (i r : Nat) (W : World) : Calls Tryd.prog 17 (#[.int .i64 (i : Nat), .int .i32 (r : Nat)] ++ #[]) W fun e W' => e = .returned (.bool true) ∧ W = W' := by
  simp only [Array.append_empty]
  go_enter Tryd.func17, Tryd.ntmps17
  go_wp2
  go_ret
  exact ⟨rfl, rfl⟩

def units_Valid.f (a0 : ByteArray) : Option Bool := if a0.size ≤ 140737488351232 then some (Pt.all a0).2 else none
theorem units_Valid.calls (a0 : ByteArray) (r : Bool) (w : World) (HT : Aside0 (Tabs w)) (h : units_Valid.f a0 = some r) :
    Calls Tryd.prog 12 #[.string a0] w fun e w' => e = .returned (.bool r) ∧ Below w.heap.size w w' := by
  unfold units_Valid.f at h
  split at h
  case isFalse => cases h
  case isTrue hs =>
  obtain rfl := Option.some.inj h
  have hc : Fact (Calls Tryd.prog 13 #[.string a0, .func (.func 17) #[] #[]] w fun e w' => e = .returned (.bool (Pt.all a0).2) ∧ Below w.heap.size w w') := ⟨by
    refine (walk_c a0 hs 17 #[] w HT.out (fun _ W => Below w.heap.size w W) (fun _ _ => False) (enters_of Tryd.func17 (by kernel_rfl) rfl)
      (fun _ _ _ h1 h2 => h1.trans (h2.mono h1.size)) (fun _ _ h => h) (fun pre i r W hW _ => (valid1_c i r W).mono fun e W' ⟨he, hw⟩ => .inl ⟨he, hw ▸ hW⟩) w (Below.refl _ _)).mono ?_
    rintro e w' (⟨rfl, hb⟩ | ⟨_, _, _, hx⟩)
    · exact ⟨rfl, hb⟩
    · exact hx.elim⟩
  clear h
  go_enter Tryd.func12, Tryd.ntmps12
  go_wp2_with (go_at_call 13; refine hc.out.mono ?_; rintro e w1 ⟨rfl, hb⟩)
  go_ret
  exact ⟨rfl, hb⟩

theorem Tryd.info16 : (Tryd.prog.info? 37).map (fun i => (i.zero, i.size, i.bytes)) = some (some (.int .u16 0), 1, 2) := by kernel_rfl

end Go.Proofs.YtnhlmgeopkdiaaaDoor
