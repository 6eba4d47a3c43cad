/- Plain: the program's Of, Units, Valid in lists: the reference's. -/
import Derived.Test.YtiegeggafhmehabDoorPureT
import Derived.Test.YtiegeggafhmehabDoorVx5
namespace Go.Proofs.YtiegeggafhmehabDoor.PR
open Go.RowKit Go.Proofs.YtiegeggafhmehabDoorW.PrintWords Go.Proofs.YtiegeggafhmehabDoor.V Go.Proofs.YtiegeggafhmehabDoor.Utf

/-! ### the points that the program walks over -/
theorem by_tl (s : ByteArray) (i : Nat) : by_ (Pt.tl s i) = (by_ s).drop i := by
  unfold by_ Pt.tl
  rw [← List.map_drop]
  congr 1
  simp [ByteArray.data_extract]
  exact List.take_of_length_le (by simp)
theorem B_getD (s : ByteArray) (k : Nat) : Pt.B s k = (by_ s).getD k 0 := by
  unfold Pt.B by_
  rw [List.getD_eq_getElem?_getD, List.getElem?_map, Array.getElem?_toList]
  by_cases h : k < s.size
  · rw [show s.data[k]? = some (s.data[k]'h) from Array.getElem?_eq_getElem h]
    simp only [Option.map_some, Option.getD_some]
    congr 1
    exact getElem!_pos s.data k h
  · rw [show s.data[k]? = none from Array.getElem?_eq_none (by exact Nat.le_of_not_lt h)]
    simp only [Option.map_none, Option.getD_none]
    have : s.get! k = default := getElem!_neg s.data k h
    rw [this]; rfl
theorem pt_eq (s : ByteArray) : Pt.pt s = Utf.pt (by_ s) := by
  unfold Pt.pt Utf.pt
  rw [B_getD, B_getD, B_getD, B_getD, by_length]
  rfl
theorem scan_eq (s : ByteArray) : ∀ f i last, (Pt.scan s f i last).2 = (Utf.scan f ((by_ s).drop i) last).2 ∧ (Pt.scan s f i last).1.map (·.2) = (Utf.scan f ((by_ s).drop i) last).1
  | 0, _, _ => ⟨rfl, rfl⟩
  | f + 1, i, last => by
    simp only [Pt.scan, Utf.scan]
    rw [pt_eq, by_tl]
    have hl : ((by_ s).drop i).length = s.size - i := by rw [List.length_drop, by_length]
    by_cases h1 : s.size ≤ i
    · rw [if_pos h1, if_pos (show ((by_ s).drop i).length = 0 by omega)]; exact ⟨rfl, rfl⟩
    · have hz : ¬ ((by_ s).drop i).length = 0 := by omega
      rw [if_neg h1, if_neg hz]
      by_cases h2 : (Utf.pt ((by_ s).drop i)).2 = 0 ∨ (Utf.hi last = true ∧ Utf.lo (Utf.pt ((by_ s).drop i)).1 = true)
      · have h2' : ((Utf.pt ((by_ s).drop i)).2 = 0 ∨ (Pt.hi last = true ∧ Pt.lo (Utf.pt ((by_ s).drop i)).1 = true)) := h2
        rw [if_pos h2', if_pos h2]; exact ⟨rfl, rfl⟩
      · have h2' : ¬ ((Utf.pt ((by_ s).drop i)).2 = 0 ∨ (Pt.hi last = true ∧ Pt.lo (Utf.pt ((by_ s).drop i)).1 = true)) := h2
        rw [if_neg h2', if_neg h2]
        have ih := scan_eq s f (i + (Utf.pt ((by_ s).drop i)).2) (Utf.pt ((by_ s).drop i)).1
        rw [← List.drop_drop] at ih
        exact ⟨ih.1, by simp only [List.map_cons]; rw [ih.2]⟩
theorem all_val (s : ByteArray) : (Pt.all s).2 = val (by_ s) := by
  have := (scan_eq s (s.size + 1) 0 0).1
  unfold Pt.all val
  rw [by_length]; simpa using this
theorem all_pts (s : ByteArray) : (Pt.all s).1.map (·.2) = pts (by_ s) := by
  have := (scan_eq s (s.size + 1) 0 0).2
  unfold Pt.all pts
  rw [by_length]; simpa using this
theorem pu16 (r : Nat) : Pt.u16 r = cI (u16 r) := by unfold Pt.u16 u16; split <;> rfl
theorem all_us (s : ByteArray) : Pt.us (Pt.all s).1 = cI (us (pts (by_ s))) := by
  rw [← all_pts]
  unfold Pt.us us
  generalize (Pt.all s).1 = l
  induction l with
  | nil => rfl
  | cons x l ih => simp only [List.flatMap_cons, List.map_cons, cI_append]; rw [ih, pu16]

/-- The program's Units. -/
theorem pUnits_eq (s : ByteArray) (hs : s.size ≤ 1099511627776) : units_Units.f s = some (if val (by_ s) = true then (cI (us (pts (by_ s))), 0) else ([], 10)) := by
  unfold units_Units.f
  rw [if_pos hs, all_val, all_us]
  split <;> rfl
theorem pValid_eq (s : ByteArray) (hs : s.size ≤ 140737488351232) : units_Valid.f s = some (val (by_ s)) := by
  unfold units_Valid.f
  rw [if_pos hs, all_val]

/-! ### Of -/
theorem phigh_eq (a : Nat) : units_high.f (a : Int) = some (hi a) := by
  unfold units_high.f hi
  by_cases h : 55296 ≤ a
  · rw [if_pos (by omega), decide_eq_true h, Bool.true_and]
    exact congrArg some (decide_eq_decide.2 (by omega))
  · rw [if_neg (by omega), decide_eq_false h]; rfl
theorem plow_eq (a : Nat) : units_low.f (a : Int) = some (lo a) := by
  unfold units_low.f lo
  by_cases h : 56320 ≤ a
  · rw [if_pos (by omega), decide_eq_true h, Bool.true_and]
    exact congrArg some (decide_eq_decide.2 (by omega))
  · rw [if_neg (by omega), decide_eq_false h]; rfl

theorem or8 (a i b : Nat) (h : a % 2 ^ i = 0) (ha : a < 256) (hb : b < 2 ^ i) (_hi : i ≤ 8) (hb8 : b < 256) : Go.bits .or .u8 (a : Int) (b : Int) = ((a + b : Nat) : Int) := by
  have := bits_join .u8 8 (by decide) wraps_u8 i (a : Int) (b : Int) (by omega) (by exact_mod_cast h) (by omega) (by omega) (by exact_mod_cast hb) (by omega)
  rw [this]; omega
theorem and63i (x : Nat) (h : x < 2097152) : Go.bits .and .i32 (x : Int) 63 = ((x % 64 : Nat) : Int) := by
  have := bits_mask .i32 31 (by decide) wraps_i32 6 (by decide) (x : Int) (by omega) (by omega)
  have e : Go.bits .and .i32 (x : Int) (2 ^ 6 - 1) = Go.bits .and .i32 (x : Int) 63 := rfl
  rw [e] at this
  rw [this]; omega
theorem dv (c k : Nat) : (c : Int) / (k : Int) = ((c / k : Nat) : Int) := by omega
theorem mo (c k : Nat) : (c : Int) % (k : Int) = ((c % k : Nat) : Int) := by omega

theorem j0_true (k : Nat) (l : List Int) (c : Int) (x : Int) : utf8_appendRuneNonASCII.j0 (k + 1) l c x true = (if l.length + 3 < 140737488355328 then some (l ++ [Go.bits .or .u8 224 ((c / 4096) % 256), 128 + c / 64 % 64, 128 + c % 64]) else none) := rfl
theorem j0_false (k : Nat) (l : List Int) (c : Int) (x : Int) (h : x > 65535) (h' : x ≤ 1114111) : utf8_appendRuneNonASCII.j0 (k + 1) l c x false = (if l.length + 4 < 140737488355328 then some (l ++ [Go.bits .or .u8 240 ((c / 262144) % 256), 128 + c / 4096 % 64, 128 + c / 64 % 64, 128 + c % 64]) else none) := by
  have e : utf8_appendRuneNonASCII.j0 (k + 1) l c x false = (if x > 65535 then (if x ≤ 1114111 then (if l.length + 4 < 140737488355328 then some (l ++ [Go.bits .or .u8 240 ((c / 262144) % 256), 128 + c / 4096 % 64, 128 + c / 64 % 64, 128 + c % 64]) else none) else (if l.length + 3 < 140737488355328 then some (l ++ [239, 191, 189]) else none)) else (if l.length + 3 < 140737488355328 then some (l ++ [239, 191, 189]) else none)) := rfl
  rw [e, if_pos h, if_pos h']
set_option maxRecDepth 100000 in
theorem nonAscii_eq (k : Nat) (l : List Int) (c : Nat) (hl : l.length < 70368744177664) (h1 : ¬ c < 128) (hc : c ≤ 1114111) (hs : hi c = false) (hs2 : lo c = false) : utf8_appendRuneNonASCII.f (k + 1) l (c : Int) = some (l ++ cI (enc c)) := by
  have d1 : (c : Int) / 64 = ((c / 64 : Nat) : Int) := dv c 64
  have d2 : (c : Int) / 4096 = ((c / 4096 : Nat) : Int) := dv c 4096
  have d3 : (c : Int) / 262144 = ((c / 262144 : Nat) : Int) := dv c 262144
  have m0 : (c : Int) % 4294967296 = (c : Int) := by omega
  have m1 : (c : Int) % 64 = ((c % 64 : Nat) : Int) := mo c 64
  have m2 : ((c / 64 : Nat) : Int) % 64 = ((c / 64 % 64 : Nat) : Int) := mo _ 64
  have m3 : ((c / 4096 : Nat) : Int) % 64 = ((c / 4096 % 64 : Nat) : Int) := mo _ 64
  have n1 : ((c / 64 : Nat) : Int) % 256 = ((c / 64 % 256 : Nat) : Int) := mo _ 256
  have n2 : ((c / 4096 : Nat) : Int) % 256 = ((c / 4096 % 256 : Nat) : Int) := mo _ 256
  have n3 : ((c / 262144 : Nat) : Int) % 256 = ((c / 262144 % 256 : Nat) : Int) := mo _ 256
  unfold utf8_appendRuneNonASCII.f
  rw [m0]
  unfold enc
  rw [if_neg h1]
  by_cases h2 : c < 2048
  · rw [if_pos (show (c : Int) ≤ 2047 by omega), if_pos h2, d1, m1, n1]
    have e : c / 64 % 256 = c / 64 := by omega
    rw [e]
    have o1 : Go.bits .or .u8 192 ((c / 64 : Nat) : Int) = ((192 + c / 64 : Nat) : Int) := or8 192 6 (c / 64) (by decide) (by decide) (by omega) (by decide) (by omega)
    rw [o1]
    show (if l.length + 2 < 140737488355328 then some (l ++ [((192 + c / 64 : Nat) : Int), 128 + ((c % 64 : Nat) : Int)]) else none) = _
    rw [if_pos (by omega)]
    rfl
  · rw [if_neg (show ¬ (c : Int) ≤ 2047 by omega), if_neg h2]
    by_cases h3 : c < 65536
    · rw [if_pos h3]
      have e : c / 4096 % 256 = c / 4096 := by omega
      have o1 : Go.bits .or .u8 224 ((c / 4096 : Nat) : Int) = ((224 + c / 4096 : Nat) : Int) := or8 224 5 (c / 4096) (by decide) (by decide) (by omega) (by decide) (by omega)
      simp only [hi, lo, Bool.and_eq_false_iff, decide_eq_false_iff_not] at hs hs2
      have fin : ∀ x, utf8_appendRuneNonASCII.j0 (k + 1) l (c : Int) x true = some (l ++ cI [224 + c / 4096, 128 + c / 64 % 64, 128 + c % 64]) := by
        intro x
        rw [j0_true, if_pos (by omega), d1, d2, m1, m2, n2, e, o1]
        rfl
      by_cases h4 : c < 55296
      · have g : decide ((c : Int) < 55296) = true := decide_eq_true (by omega)
        rw [if_pos (show (c : Int) < 55296 by omega), g]
        exact fin _
      · have g : decide ((c : Int) ≤ 65535) = true := decide_eq_true (by omega)
        rw [if_neg (show ¬ (c : Int) < 55296 by omega), if_pos (show (57343 : Int) < c by omega), g]
        exact fin _
    · rw [if_neg h3]
      have e : c / 262144 % 256 = c / 262144 := by omega
      have o1 : Go.bits .or .u8 240 ((c / 262144 : Nat) : Int) = ((240 + c / 262144 : Nat) : Int) := or8 240 4 (c / 262144) (by decide) (by decide) (by omega) (by decide) (by omega)
      have g : decide ((c : Int) ≤ 65535) = false := decide_eq_false (by omega)
      rw [if_neg (show ¬ (c : Int) < 55296 by omega), if_pos (show (57343 : Int) < c by omega), g]
      rw [j0_false _ _ _ _ (by omega) (by omega), if_pos (by omega), d1, d2, d3, m1, m2, m3, n3, e, o1]
      rfl

set_option maxRecDepth 100000 in
theorem write_eq (k : Nat) (l : List Int) (c : Nat) (hl : l.length < 70368744177664) (hc : c ≤ 1114111) : units_write.f (k + 1) l (c : Int) = some (l ++ cI (enc c)) := by
  have hsur : hi c = true ∨ lo c = true → (some ([Go.bits .or .u8 224 (((c : Int) / 4096) % 256), Go.bits .or .u8 128 ((Go.bits .and .i32 ((c : Int) / 64) 63) % 256), Go.bits .or .u8 128 ((Go.bits .and .i32 (c : Int) 63) % 256)] : List Int)) = some (cI (enc c)) := by
    intro h
    have hb : 55296 ≤ c ∧ c < 57344 := by
      simp only [hi, lo, Bool.and_eq_true, decide_eq_true_eq] at h
      omega
    have d1 : (c : Int) / 64 = ((c / 64 : Nat) : Int) := dv c 64
    have d2 : (c : Int) / 4096 = ((c / 4096 : Nat) : Int) := dv c 4096
    rw [d1, d2, and63i _ (by omega), and63i _ (by omega)]
    have n2 : ((c / 4096 : Nat) : Int) % 256 = ((c / 4096 : Nat) : Int) := by omega
    have n3 : ((c / 64 % 64 : Nat) : Int) % 256 = ((c / 64 % 64 : Nat) : Int) := by omega
    have n4 : ((c % 64 : Nat) : Int) % 256 = ((c % 64 : Nat) : Int) := by omega
    rw [n2, n3, n4]
    have o1 : Go.bits .or .u8 224 ((c / 4096 : Nat) : Int) = ((224 + c / 4096 : Nat) : Int) := or8 224 5 (c / 4096) (by decide) (by decide) (by omega) (by decide) (by omega)
    have o2 : Go.bits .or .u8 128 ((c / 64 % 64 : Nat) : Int) = ((128 + c / 64 % 64 : Nat) : Int) := or8 128 6 (c / 64 % 64) (by decide) (by decide) (by omega) (by decide) (by omega)
    have o3 : Go.bits .or .u8 128 ((c % 64 : Nat) : Int) = ((128 + c % 64 : Nat) : Int) := or8 128 6 (c % 64) (by decide) (by decide) (by omega) (by decide) (by omega)
    rw [o1, o2, o3]
    unfold enc
    rw [if_neg (by omega), if_neg (by omega), if_pos (by omega)]
    rfl
  have hlen := enc_len c
  unfold units_write.f
  rw [phigh_eq]
  simp only [Option.bind_some]
  cases h1 : hi c with
  | true =>
    rw [if_pos rfl, Option.some.inj (hsur (.inl h1))]
    rw [cI_length, if_pos (by omega)]
  | false =>
    rw [if_neg (by decide), plow_eq]
    simp only [Option.bind_some]
    cases h2 : lo c with
    | true =>
      rw [if_pos rfl, Option.some.inj (hsur (.inr h2))]
      rw [cI_length, if_pos (by omega)]
    | false =>
      rw [if_neg (by decide)]
      unfold utf8_AppendRune.f
      have m0 : (c : Int) % 4294967296 = (c : Int) := by omega
      rw [m0]
      by_cases h3 : c < 128
      · have e : (c : Int) % 256 = (c : Int) := by omega
        rw [if_pos (by omega), if_pos (by omega), e]
        simp [enc, h3, cI]
      · rw [if_neg (by omega), nonAscii_eq k l c hl h3 hc h1 h2]
        rfl
end Go.Proofs.YtiegeggafhmehabDoor.PR
