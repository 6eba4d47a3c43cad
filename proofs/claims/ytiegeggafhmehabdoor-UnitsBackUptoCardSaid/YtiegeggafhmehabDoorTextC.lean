/- units.FromText, units.Text and units.Well: what each call comes to. -/
import Derived.Test.YtiegeggafhmehabDoorUnitsC
namespace Go.Proofs.YtiegeggafhmehabDoor
open Go.RowKit Go.Proofs.YtiegeggafhmehabDoorW.PrintWords

namespace Pt
/-- Every rune that a range over a text hands over, encoded anew, from a place on, by at most so many runes. -/
def ftx (s : ByteArray) : Nat → Nat → List UInt8
  | 0, _ => []
  | fuel + 1, pos => if pos < s.size then Lib.encodeRune (Utf8.decode s pos).1 ++ ftx s fuel (pos + (Utf8.decode s pos).2) else []
theorem ftx_end (s : ByteArray) (fuel pos : Nat) (h : ¬ pos < s.size) : ftx s fuel pos = [] := by
  cases fuel with
  | zero => rfl
  | succ f => simp [ftx, h]
theorem width_pos (s : ByteArray) (pos : Nat) (h : pos < s.size) : 1 ≤ (Utf8.decode s pos).2 := by
  by_cases ha : (s[pos]'h).toNat < 128
  · rw [decode_ascii s pos h ha]
    exact Nat.le_refl _
  · exact (decode_high s pos h (by omega)).2
/-- A point as it is written: a surrogate as U+FFFD. -/
def wr (r : Nat) : List UInt8 := Lib.encodeRune (if hi r || lo r then 65533 else (r : Int))
def txt (l : List (Nat × Nat)) : List UInt8 := l.flatMap fun x => wr x.2
theorem txt_snoc (l : List (Nat × Nat)) (i r : Nat) : txt (l ++ [(i, r)]) = txt l ++ wr r := by unfold txt; simp
theorem wr_len (r : Nat) : (wr r).length ≤ 4 := by
  have := Lib.runeCells_le (if hi r || lo r then 65533 else (r : Int))
  rw [Lib.runeCells_length] at this
  exact this.2
theorem txt_len (l : List (Nat × Nat)) : (txt l).length ≤ 4 * l.length := by
  induction l with
  | nil => simp [txt]
  | cons x l ih => have := wr_len x.2; simp only [txt, List.flatMap_cons, List.length_append, List.length_cons] at *; omega
theorem pre_len (s : ByteArray) (pre : List (Nat × Nat)) (x : Nat × Nat) (hp : pre ++ [x] <+: (all s).1) : (txt pre).length ≤ 4 * s.size := by
  have h1 := hp.length_le
  have h2 := scan_len s (s.size + 1) 0 0
  have h3 := txt_len pre
  unfold all at h1
  simp at h1
  omega
end Pt

theorem ret_str {a b : ByteArray} (h : a = b) : Ending.returned (.string a) = .returned (.string b) := by rw [h]

def units_FromText.f (a0 : ByteArray) : Option ByteArray := if a0.size ≤ 35184372088832 then some ⟨(Pt.ftx a0 a0.size 0).toArray⟩ else none

set_option maxHeartbeats 4000000 in
set_option maxRecDepth 1000000 in
theorem fromText_walk (s : ByteArray) (w : World) (hs : s.size ≤ 35184372088832) :
    Calls Tryd.prog 20 #[.string s] w fun e w' => e = .returned (.string ⟨(Pt.ftx s s.size 0).toArray⟩) ∧ Below w.heap.size w w' := by
  go_enter Tryd.func20, Tryd.ntmps20
  go_wp2
  go_loopw [] (fun wr => ∃ (pos fuel : Nat) (acc : List UInt8), Lib.IsBuilderF 116 5 w.heap.size w.heap.size (Lib.byteCells acc) wr ∧ wr.heap[w.heap.size + 1]? = some (.stringIter s pos) ∧ Below w.heap.size w wr ∧ acc ++ Pt.ftx s fuel pos = Pt.ftx s s.size 0 ∧ s.size ≤ pos + fuel ∧ acc.length ≤ 4 * pos) (fun wr => s.size - wr.iterPos (w.heap.size + 1))
  case atStart =>
    refine ⟨0, s.size, [], (Lib.IsBuilderF.of (Lib.fresh_isBuilder 116 5 w)).alloc _, ?_, ((Below.refl _ w).alloc (Nat.le_refl _) _).alloc (by simp) _, rfl, by omega, by simp⟩
    have := World.iter_heap (w.alloc (.cells #[.pointer none, .slice none 0 0] 116)) s 0
    simpa using this
  case round =>
    obtain ⟨pos, fuel, acc, hI, hit, hbw, hacc, hfu, hal⟩ := hrel
    have hsz : w.heap.size + 1 < wr.heap.size := (Array.getElem?_eq_some_iff.1 hit).1
    by_cases hp : pos < s.size
    · have hnx : ∀ ty, (Instr.next (.pointer (some ⟨w.heap.size + 1, 0, none⟩)) true ty).run Tryd.prog wr = _ := fun ty => Lib.run_next_any_at wr (w.heap.size + 1) s pos ty hit hp
      have hwd := Pt.width_pos s pos hp
      have hd1 := decode_le s pos
      have hI2 := hI.iterAt hit (pos + (Utf8.decode s pos).2)
      have hit2 := Lib.iterAt_heap wr (w.heap.size + 1) s pos (pos + (Utf8.decode s pos).2) hit
      have hbw2 := Lib.below_iterAt hbw (k := w.heap.size + 1) (by omega) s (pos + (Utf8.decode s pos).2)
      have hsz2 : w.heap.size ≤ (wr.iterAt (w.heap.size + 1) s (pos + (Utf8.decode s pos).2)).heap.size := by rw [Lib.iterAt_size]; omega
      obtain ⟨f, rfl⟩ : ∃ f, fuel = f + 1 := ⟨fuel - 1, by omega⟩
      go_wp2_with (go_at_call 64; refine (Tryd.Builder_WriteRune_k w.heap.size w.heap.size _ _ (by omega) (by omega) _ hI2 (by rw [Lib.byteCells_length]; omega) hsz2).mono ?_)
      rintro e W1 ⟨rfl, h1, b1, k1⟩
      go_wp2
      go_roundw
      case rel =>
        have hl4 := Lib.runeCells_le ((Utf8.decode s pos).1 : Int)
        rw [Lib.runeCells_length] at hl4
        refine ⟨pos + (Utf8.decode s pos).2, f, acc ++ Lib.encodeRune (Utf8.decode s pos).1, ?_, k1.iter hit2 (by omega), hbw2.trans b1, ?_, by omega, by simp; omega⟩
        · rw [Lib.byteCells_append, Lib.byteCells_encodeRune]; exact Or.inr h1
        · rw [← hacc]; simp [Pt.ftx, hp]
      case measure =>
        simp only [World.iterPos, k1.iter hit2 (by omega), hit]
        omega
    · have hnx : ∀ ty, (Instr.next (.pointer (some ⟨w.heap.size + 1, 0, none⟩)) true ty).run Tryd.prog wr = _ := fun ty => Lib.run_next_end_at wr (w.heap.size + 1) s pos ty hit hp
      go_wp2_with (go_at_call 65; refine (Tryd.Builder_String_any_k w.heap.size w.heap.size acc _ hI (by omega)).mono ?_)
      rintro e W1 ⟨rfl, _, b1, _⟩
      go_wp2
      go_ret
      rw [Pt.ftx_end s fuel pos hp, List.append_nil] at hacc
      subst hacc
      exact ⟨rfl, hbw.trans b1⟩

theorem units_FromText.calls (a0 : ByteArray) (r : ByteArray) (w : World) (h : units_FromText.f a0 = some r) :
    Calls Tryd.prog 20 #[.string a0] w fun e w' => e = .returned (.string r) ∧ Below w.heap.size w w' := by
  unfold units_FromText.f at h
  split at h
  case isFalse => cases h
  case isTrue hs =>
  obtain rfl := Option.some.inj h
  exact fromText_walk a0 w hs

/-- The closure writes a point into the builder. -/
theorem text1_c (i r : Nat) (hr : r ≤ 1114111) (n₀ b : Nat) (W : World) (acc : List UInt8) (hl : acc.length + 4 ≤ 140737488355328) (hI : Lib.IsBuilderF 116 5 n₀ b (Lib.byteCells acc) W) (hn : n₀ ≤ W.heap.size) :
    Calls Tryd.prog 61 (#[.int .i64 (i : Nat), .int .i32 (r : Nat)] ++ #[.pointer (some ⟨b, 0, none⟩)]) W fun e W' => e = .returned (.bool true) ∧
      Lib.IsBuilderF 116 5 n₀ b (Lib.byteCells (acc ++ Pt.wr r)) W' ∧ Below n₀ W W' := by
  simp only [List.append_toArray, List.cons_append, List.nil_append]
  have hw := fun (x : Int) h0 h1 => Tryd.Builder_WriteRune_k n₀ b _ x h0 h1 W hI (by rw [Lib.byteCells_length]; omega) hn
  have e1 : Lib.byteCells (acc ++ Pt.wr r) = Lib.byteCells acc ++ Lib.runeCells (if Pt.hi r || Pt.lo r then 65533 else (r : Int)) := by
    rw [Lib.byteCells_append]; unfold Pt.wr; rw [Lib.byteCells_encodeRune]
  rw [e1]
  cases hh : Pt.hi r <;> cases hh2 : Pt.lo r
  all_goals
    simp only [Bool.or_true, Bool.or_false, if_true, Bool.false_eq_true, if_false]
    go_enter Tryd.func61, Tryd.ntmps61
    go_wp2_with (first | (go_at_call 62; refine (high_c _ _).mono ?_; rintro e w' ⟨rfl, rfl⟩) | (go_at_call 63; refine (low_c _ _).mono ?_; rintro e w' ⟨rfl, rfl⟩) | (go_at_call 64; refine (hw _ (by omega) (by omega)).mono ?_; rintro e W1 ⟨rfl, h1, b1, k1⟩))
    go_ret
    exact ⟨rfl, Or.inr h1, b1⟩

theorem builder_below {T e : TypeId} {B b : Nat} {p : Value} {bs : List Value} {W W' : World} (h : Lib.BuilderAtF T e B b p bs W) (hb : Below W.heap.size W W') : Lib.BuilderAtF T e B b p bs W' := by
  have hlt := h.lt
  obtain ⟨hB, v, hbk, hown, hne⟩ := h
  refine ⟨hB, v, (hb.block _ hlt).trans hbk, ⟨hown.1, ?_⟩, hne⟩
  rcases hown.2 with hn | ⟨g, cap, cur, fz, rfl, hg, hgg, rest⟩
  · exact .inl hn
  · exact .inr ⟨g, cap, cur, fz, rfl, hg, (hb.block _ (Array.getElem?_eq_some_iff.1 hgg).1).trans hgg, rest⟩
theorem isBuilder_below {T e : TypeId} {B b : Nat} {bs : List Value} {W W' : World} (h : Lib.IsBuilderF T e B b bs W) (hb : Below W.heap.size W W') : Lib.IsBuilderF T e B b bs W' :=
  h.elim (fun x => .inl (builder_below x hb)) (fun x => .inr (builder_below x hb))

theorem text_walk_c (s : ByteArray) (hs : s.size ≤ 17592186044416) (w0 w : World) (HT : Tabs w0) (hb0 : Below w0.heap.size w0 w) (hI0 : Lib.IsBuilderF 116 5 w0.heap.size w0.heap.size (Lib.byteCells []) w) :
    Calls Tryd.prog 60 #[.string s, .func (.func 61) #[] #[.pointer (some ⟨w0.heap.size, 0, none⟩)]] w fun e W' => e = .returned (.bool (Pt.all s).2) ∧
      Lib.IsBuilderF 116 5 w0.heap.size w0.heap.size (Lib.byteCells (Pt.txt (Pt.all s).1)) W' ∧ Below w0.heap.size w0 W' := by
  refine (walk_c s (by omega) 61 #[.pointer (some ⟨w0.heap.size, 0, none⟩)] w0 HT
    (fun pre W => Lib.IsBuilderF 116 5 w0.heap.size w0.heap.size (Lib.byteCells (Pt.txt pre)) W ∧ Below w0.heap.size w0 W) (fun _ _ => False)
    (enters_of Tryd.func61 (by kernel_rfl) rfl) ?hJ ?hB ?hG _ ?h0).mono ?_
  case hJ =>
    rintro pre W W' ⟨hI, hb⟩ h2
    exact ⟨isBuilder_below hI h2, hb.trans (h2.mono hb.size)⟩
  case hB => exact fun pre W ⟨_, hb⟩ => hb
  case hG =>
    rintro pre i r W ⟨hI, hb⟩ hp
    have hlen := Pt.pre_len s pre (i, r) hp
    have hrr := Pt.all_rune s pre i r hp
    refine (text1_c i r hrr w0.heap.size w0.heap.size W (Pt.txt pre) (by omega) hI hb.size).mono ?_
    rintro e W' ⟨rfl, h1, h2⟩
    rw [← Pt.txt_snoc pre i r] at h1
    exact .inl ⟨rfl, h1, hb.trans h2⟩
  case h0 => exact ⟨hI0, hb0⟩
  rintro e w' (⟨rfl, h⟩ | ⟨_, _, _, hx⟩)
  · exact ⟨rfl, h⟩
  · exact hx.elim

def units_Text.f (a0 : ByteArray) : Option (ByteArray × Int) := if a0.size ≤ 17592186044416 then (if (Pt.all a0).2 = true then some (⟨(Pt.txt (Pt.all a0).1).toArray⟩, 0) else some (⟨#[]⟩, 10)) else none

set_option maxRecDepth 100000 in
theorem units_Text.calls (a0 : ByteArray) (r1 : ByteArray) (r2 : Int) (w : World) (HT : Aside0 (Tabs w)) (h : units_Text.f a0 = some (r1, r2)) :
    Calls Tryd.prog 12 #[.string a0] w fun e w' => e = .returned (.tuple #[.string r1, .int .i64 r2]) ∧ Below w.heap.size w w' := by
  unfold units_Text.f at h
  split at h
  case isFalse => cases h
  case isTrue hs =>
  have hv := Fact.mk (units_Valid.calls a0 (Pt.all a0).2 w HT (by unfold units_Valid.f; rw [if_pos (by omega)]))
  have hT := HT.out
  clear HT
  cases hok : (Pt.all a0).2
  · rw [hok] at h hv
    simp only [Bool.false_eq_true, if_false, Option.some.injEq, Prod.mk.injEq] at h
    obtain ⟨rfl, rfl⟩ := h
    clear hok
    go_enter Tryd.func12, Tryd.ntmps12
    go_wp2_with (go_at_call 18; refine hv.out.mono ?_; rintro e w1 ⟨rfl, hb⟩)
    go_ret2
    exact ⟨rfl, hb⟩
  · rw [hok] at h hv
    simp only [if_true, Option.some.injEq, Prod.mk.injEq] at h
    obtain ⟨rfl, rfl⟩ := h
    have hok' := Fact.mk hok
    clear hok
    go_enter Tryd.func12, Tryd.ntmps12
    go_wp2_with (go_at_call 18; refine hv.out.mono ?_; rintro e w1 ⟨rfl, hb⟩; have hT1 := hT.below hb; have hc := Fact.mk (text_walk_c a0 hs w1 _ hT1 ((Below.refl _ _).alloc (Nat.le_refl _) _) (Lib.IsBuilderF.of (Lib.fresh_isBuilder 116 5 w1))))
    refine hc.out.mono ?_
    rintro e w2 ⟨rfl, hI, hb2⟩
    have hb3 : Below w.heap.size w w2 := hb.trans (hb2.mono hb.size)
    have hs2 := Fact.mk (Tryd.Builder_String_any_k w1.heap.size w1.heap.size (Pt.txt (Pt.all a0).1) w2 hI hb2.size)
    have hsz := hb.size
    clear hc hI hb2
    go_wp2_with (go_at_call 65; refine hs2.out.mono ?_; rintro e w3 ⟨rfl, _, hb4, _⟩)
    go_ret2
    exact ⟨rfl, hb3.trans (hb4.mono hsz)⟩

def units_Well.f (a0 : ByteArray) : Option (Bool × Int) := if a0.size ≤ 17592186044416 then (if (Pt.all a0).2 = true then some (Lib.validD a0.data.toList, 0) else some (false, 10)) else none

set_option maxRecDepth 100000 in
theorem units_Well.calls (a0 : ByteArray) (r1 : Bool) (r2 : Int) (w : World) (HT : Aside0 (Tabs w)) (h : units_Well.f a0 = some (r1, r2)) :
    Calls Tryd.prog 16 #[.string a0] w fun e w' => e = .returned (.tuple #[.bool r1, .int .i64 r2]) ∧ Below w.heap.size w w' := by
  unfold units_Well.f at h
  split at h
  case isFalse => cases h
  case isTrue hs =>
  have hv := Fact.mk (units_Valid.calls a0 (Pt.all a0).2 w HT (by unfold units_Valid.f; rw [if_pos (by omega)]))
  have hT := HT.out
  clear HT
  have hvs := fun (w1 : World) (hT1 : Tabs w1) => Tryd.utf8_ValidString a0 w1 (by omega) hT1.1
  have hvs' := Fact.mk hvs
  clear hvs
  cases hok : (Pt.all a0).2
  · rw [hok] at h hv
    simp only [Bool.false_eq_true, if_false, Option.some.injEq, Prod.mk.injEq] at h
    obtain ⟨rfl, rfl⟩ := h
    clear hok
    go_enter Tryd.func16, Tryd.ntmps16
    go_wp2_with (go_at_call 18; refine hv.out.mono ?_; rintro e w1 ⟨rfl, hb⟩)
    go_ret2
    exact ⟨rfl, hb⟩
  · rw [hok] at h hv
    simp only [if_true, Option.some.injEq, Prod.mk.injEq] at h
    obtain ⟨rfl, rfl⟩ := h
    clear hok
    generalize Lib.validD a0.data.toList = V at hvs' ⊢
    go_enter Tryd.func16, Tryd.ntmps16
    go_wp2_with (first | (go_at_call 18; refine hv.out.mono ?_; rintro e w1 ⟨rfl, hb⟩; have hT1 := hT.below hb) | (go_at_call 69; refine (hvs'.out _ hT1).mono ?_; rintro e w2 ⟨rfl, hb2⟩; have hb3 := hb.trans (hb2.mono hb.size)))
    go_ret2
    exact ⟨rfl, hb3⟩
end Go.Proofs.YtiegeggafhmehabDoor
