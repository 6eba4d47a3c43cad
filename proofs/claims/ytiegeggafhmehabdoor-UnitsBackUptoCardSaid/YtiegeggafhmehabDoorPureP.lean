/- Plain: units.Of, slices.Equal, the two Index functions, the two Compare functions. -/
import Derived.Test.YtiegeggafhmehabDoorPureO
import Derived.Test.YtiegeggafhmehabDoorVx6
namespace Go.Proofs.YtiegeggafhmehabDoor.PR
open Go.RowKit Go.Proofs.YtiegeggafhmehabDoorW.PrintWords Go.Proofs.YtiegeggafhmehabDoor.V Go.Proofs.YtiegeggafhmehabDoor.Utf

theorem w32n (n : Nat) (h : n < 2147483648) : wrap32 (n : Int) = (n : Int) := by unfold wrap32; omega
theorem w32 {x : Int} (h0 : -2147483648 ≤ x) (h1 : x < 2147483648) : wrap32 x = x := by unfold wrap32; omega
theorem sur32 (a b : Nat) (ha : hi a = true) (hb : lo b = true) (t : List Nat) : ∃ c : Nat, c ≤ 1114111 ∧ of (a :: b :: t) = enc c ++ of t ∧ wrap32 ((wrap32 ((wrap32 (65536 + (wrap32 ((wrap32 ((a : Int) - 55296)) * 1024)))) + (b : Int))) - 56320) = (c : Int) := by
  have e9 : of (a :: b :: t) = enc (65536 + 1024 * (a - 55296) + (b - 56320)) ++ of t := by
    unfold of
    rw [row, if_pos (by rw [ha, hb]; rfl), List.flatMap_cons]
  refine ⟨_, ?_, e9, ?_⟩
  · simp only [hi, lo, Bool.and_eq_true, decide_eq_true_eq] at ha hb
    omega
  · simp only [hi, lo, Bool.and_eq_true, decide_eq_true_eq] at ha hb
    clear e9
    obtain ⟨A, rfl⟩ : ∃ A, a = A + 55296 := ⟨a - 55296, by omega⟩
    obtain ⟨B, rfl⟩ : ∃ B, b = B + 56320 := ⟨b - 56320, by omega⟩
    have e1 : ((A + 55296 : Nat) : Int) - 55296 = (A : Int) := by omega
    have e2 : ((B + 56320 : Nat) : Int) = (B : Int) + 56320 := by omega
    rw [e1, e2, w32n A (by omega), w32 (x := (A : Int) * 1024) (by omega) (by omega), w32 (x := 65536 + (A : Int) * 1024) (by omega) (by omega),
      w32 (x := 65536 + (A : Int) * 1024 + ((B : Int) + 56320)) (by omega) (by omega), w32 (by omega) (by omega)]
    omega

theorem pOf_l0 : ∀ (s p : List Nat) (acc : List Int) (k : Nat), s.length + 1 < k → (p ++ s).length ≤ 4398046511104 → (∀ x ∈ s, x < 65536) → acc.length ≤ 4 * p.length →
    units_Of.l0 k (cI (p ++ s)) acc (p.length : Int) = some (strOfNums (acc ++ cI (of s)))
  | [], p, acc, k, hk, _, _, _ => by
    obtain ⟨k, rfl⟩ : ∃ m, k = m + 1 := ⟨k - 1, by omega⟩
    simp only [units_Of.l0, List.append_nil]
    rw [if_neg (by rw [cI_length]; omega)]
    simp [of, row, cI]
  | [a], p, acc, k, hk, hb, hx, ha => by
    obtain ⟨k, rfl⟩ : ∃ m, k = m + 2 := ⟨k - 2, by simp at hk; omega⟩
    have h1 := hx a (by simp)
    simp only [List.length_append, List.length_cons, List.length_nil] at hb hk
    have hl := enc_len a
    have e1 : wrap64 ((p.length : Int) + 1) = ((p ++ [a]).length : Int) := by rw [w64 (by omega) (by omega)]; simp
    have i0 := pOf_l0 [] (p ++ [a]) (acc ++ cI (enc a)) (k + 1) (by simp; omega) (by simp; omega) (by simp) (by simp [cI_length]; omega)
    have i1 : units_Of.l0 (k + 1) (cI (p ++ [a])) (acc ++ cI (enc a)) ((p ++ [a]).length : Int) = some (strOfNums (acc ++ cI (of [a]))) := by
      simpa [of, row, cI] using i0
    have e4 : ¬ ((p ++ [a]).length : Int) < ((cI (p ++ [a])).length : Int) := by rw [cI_length]; omega
    unfold units_Of.l0
    rw [if_pos (show (p.length : Int) < ((cI (p ++ [a])).length : Int) by rw [cI_length]; simp; omega), if_pos (show (0 : Int) ≤ (p.length : Int) by omega), rd_mid, w32n a (by omega), phigh_eq]
    rw [e1, if_neg e4, write_eq k acc a (by omega) (by omega)]
    simp only [Option.bind_some]
    rw [i1]
    split <;> rfl
  | a :: b :: t, p, acc, k, hk, hb, hx, ha => by
    obtain ⟨k, rfl⟩ : ∃ m, k = m + 2 := ⟨k - 2, by simp at hk; omega⟩
    have h1 := hx a (by simp)
    have h2 := hx b (by simp)
    simp only [List.length_append, List.length_cons] at hb hk
    have hl := enc_len a
    have e1 : wrap64 ((p.length : Int) + 1) = (p.length : Int) + 1 := w64 (by omega) (by omega)
    have i0 := pOf_l0 (b :: t) (p ++ [a]) (acc ++ cI (enc a)) (k + 1) (by simp; omega) (by simp; omega) (fun x h => hx x (by simp only [List.mem_cons] at h ⊢; exact .inr h)) (by simp [cI_length]; omega)
    have i1 : units_Of.l0 (k + 1) (cI (p ++ a :: b :: t)) (acc ++ cI (enc a)) ((p.length : Int) + 1) = some (strOfNums (acc ++ cI (enc a ++ of (b :: t)))) := by
      have e : ((p ++ [a]).length : Int) = (p.length : Int) + 1 := by simp
      rw [e] at i0
      simpa [List.append_assoc, cI_append] using i0
    have e6 : (p.length : Int) + 1 < ((cI (p ++ a :: b :: t)).length : Int) := by rw [cI_length]; simp; omega
    have e7 : (0 : Int) ≤ (p.length : Int) + 1 := by omega
    have one : ∀ o : Bool, (hi a && lo b) = false → of (a :: b :: t) = enc a ++ of (b :: t) := by
      intro _ h
      simp [of, row, h]
    unfold units_Of.l0
    rw [if_pos (show (p.length : Int) < ((cI (p ++ a :: b :: t)).length : Int) by rw [cI_length]; simp; omega), if_pos (show (0 : Int) ≤ (p.length : Int) by omega), rd_mid, w32n a (by omega), phigh_eq]
    rw [e1, if_pos e6, if_pos e7, rd_mid1, w32n b (by omega), plow_eq]
    simp only [Option.bind_some]
    cases ha' : hi a
    · rw [if_neg (by decide), write_eq k acc a (by omega) (by omega), one true (by simp [ha'])]
      simp only [Option.bind_some]
      exact i1
    · cases hb' : lo b
      · rw [if_pos rfl, if_neg (by decide), write_eq k acc a (by omega) (by omega), one true (by simp [hb'])]
        simp only [Option.bind_some]
        exact i1
      · obtain ⟨c, hc, e9, ec⟩ := sur32 a b ha' hb' t
        rw [if_pos rfl, if_pos rfl, ec, write_eq k acc c (by omega) hc, Option.bind_some]
        have hl2 := enc_len c
        have i2 := pOf_l0 t (p ++ [a, b]) (acc ++ cI (enc c)) (k + 1) (by omega) (by simp; omega) (fun x h => hx x (by simp [h])) (by simp [cI_length]; omega)
        have e : ((p ++ [a, b]).length : Int) = wrap64 ((p.length : Int) + 1 + 1) := by rw [w64 (by omega) (by omega)]; simp; omega
        rw [e] at i2
        rw [e9]
        simpa [List.append_assoc, cI_append] using i2

theorem pOf_eq (l : List Nat) (k : Nat) (hk : l.length + 1 < k) (hb : l.length ≤ 4398046511104) (hx : ∀ x ∈ l, x < 65536) : units_Of.f k (cI l) = some (ofS l) := by
  unfold units_Of.f
  simpa [ofS] using pOf_l0 l [] [] k hk (by simpa using hb) hx (by simp)

/-! ### equal rows -/
theorem drop_cons (l : List Int) (i : Nat) (h : i < l.length) : l.drop i = rd l (i : Int) :: l.drop (i + 1) := by
  have : rd l (i : Int) = l[i] := by unfold rd; simp [h]
  rw [this, List.drop_eq_getElem_cons h]
theorem Same_l0 (l m : List Int) (hl : l.length = m.length) (hb : l.length ≤ 4398046511104) : ∀ (d i k : Nat), i + d = l.length → d < k →
    cameolaw01_SameUnits.l0 k l m (i : Int) = some (decide (l.drop i = m.drop i))
  | 0, i, k, h, hk => by
    obtain ⟨k, rfl⟩ : ∃ x, k = x + 1 := ⟨k - 1, by omega⟩
    simp only [cameolaw01_SameUnits.l0]
    rw [if_neg (by omega), List.drop_eq_nil_of_le (by omega), List.drop_eq_nil_of_le (by omega)]
    rfl
  | d + 1, i, k, h, hk => by
    obtain ⟨k, rfl⟩ : ∃ x, k = x + 1 := ⟨k - 1, by omega⟩
    simp only [cameolaw01_SameUnits.l0]
    rw [if_pos (by omega), if_pos (by omega), if_pos (by omega), drop_cons l i (by omega), drop_cons m i (by omega)]
    have ih := Same_l0 l m hl hb d (i + 1) k (by omega) (by omega)
    have e : wrap64 ((i : Int) + 1) = ((i + 1 : Nat) : Int) := by rw [w64 (by omega) (by omega)]; omega
    rw [e, ih]
    by_cases hr : rd l (i : Int) = rd m (i : Int)
    · rw [if_pos hr]; simp [hr]
    · rw [if_neg hr]; simp [hr]
theorem Same_eq (l m : List Int) (hb : l.length ≤ 4398046511104) (k : Nat) (hk : l.length < k) : cameolaw01_SameUnits.f k l m = some (decide (l = m)) := by
  unfold cameolaw01_SameUnits.f
  by_cases h : l.length = m.length
  · rw [if_pos (by omega)]
    have := Same_l0 l m h hb l.length 0 k (by omega) hk
    simpa using this
  · rw [if_neg (by omega), decide_eq_false (fun e => h (by rw [e]))]
theorem us_size (s : ByteArray) (h : val (by_ s) = true) : (us (pts (by_ s))).length ≤ 2 * s.size := by
  have h1 := us_le (pts (by_ s))
  have h2 := pts_len (pts (by_ s))
  rw [← (val_true s h).1, by_length] at h2
  omega
end Go.Proofs.YtiegeggafhmehabDoor.PR
