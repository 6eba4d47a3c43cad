/- Plain: units.Of, slices.Equal, the two Index functions, the two Compare functions. -/
import Derived.Test.YtiegeggafhmehaaDoorPureO
import Derived.Test.YtiegeggafhmehaaDoorUx7
import Derived.Test.YtiegeggafhmehaaDoorUx4
namespace Go.Proofs.YtiegeggafhmehaaDoor.PR
open Go.RowKit Go.Proofs.YtiegeggafhmehaaDoorW.PrintWords Go.Proofs.YtiegeggafhmehaaDoor.U Go.Proofs.YtiegeggafhmehaaDoor.Utf

theorem w32n (n : Nat) (h : n < 2147483648) : wrap32 (n : Int) = (n : Int) := by unfold wrap32; omega
theorem w32 {x : Int} (h0 : -2147483648 ≤ x) (h1 : x < 2147483648) : wrap32 x = x := by unfold wrap32; omega
theorem sur32 (a b : Nat) (ha : hi a = true) (hb : lo b = true) (t : List Nat) : ∃ c : Nat, c ≤ 1114111 ∧ of (a :: b :: t) = enc c ++ of t ∧ wrap32 ((wrap32 ((wrap32 (65536 + (wrap32 ((wrap32 ((a : Int) - 55296)) * 1024)))) + (b : Int))) - 56320) = (c : Int) := by
  have e9 : of (a :: b :: t) = enc (65536 + 1024 * (a - 55296) + (b - 56320)) ++ of t := by
    unfold of
    rw [row, if_pos (by rw [ha, hb]; rfl), List.flatMap_cons]
  refine ⟨_, ?_, e9, ?_⟩
  · simp only [hi, lo, Bool.and_eq_true, decide_eq_true_eq] at ha hb
    omega
  · simp only [hi, lo, Bool.and_eq_true, decide_eq_true_eq] at ha hb
    clear e9
    obtain ⟨A, rfl⟩ : ∃ A, a = A + 55296 := ⟨a - 55296, by omega⟩
    obtain ⟨B, rfl⟩ : ∃ B, b = B + 56320 := ⟨b - 56320, by omega⟩
    have e1 : ((A + 55296 : Nat) : Int) - 55296 = (A : Int) := by omega
    have e2 : ((B + 56320 : Nat) : Int) = (B : Int) + 56320 := by omega
    rw [e1, e2, w32n A (by omega), w32 (x := (A : Int) * 1024) (by omega) (by omega), w32 (x := 65536 + (A : Int) * 1024) (by omega) (by omega),
      w32 (x := 65536 + (A : Int) * 1024 + ((B : Int) + 56320)) (by omega) (by omega), w32 (by omega) (by omega)]
    omega

theorem pOf_l0 : ∀ (s p : List Nat) (acc : List Int) (k : Nat), s.length + 1 < k → (p ++ s).length ≤ 4398046511104 → (∀ x ∈ s, x < 65536) → acc.length ≤ 4 * p.length →
    units_Of.l0 k (cI (p ++ s)) acc (p.length : Int) = some (strOfNums (acc ++ cI (of s)))
  | [], p, acc, k, hk, _, _, _ => by
    obtain ⟨k, rfl⟩ : ∃ m, k = m + 1 := ⟨k - 1, by omega⟩
    simp only [units_Of.l0, List.append_nil]
    rw [if_neg (by rw [cI_length]; omega)]
    simp [of, row, cI]
  | [a], p, acc, k, hk, hb, hx, ha => by
    obtain ⟨k, rfl⟩ : ∃ m, k = m + 2 := ⟨k - 2, by simp at hk; omega⟩
    have h1 := hx a (by simp)
    simp only [List.length_append, List.length_cons, List.length_nil] at hb hk
    have hl := enc_len a
    have e1 : wrap64 ((p.length : Int) + 1) = ((p ++ [a]).length : Int) := by rw [w64 (by omega) (by omega)]; simp
    have i0 := pOf_l0 [] (p ++ [a]) (acc ++ cI (enc a)) (k + 1) (by simp; omega) (by simp; omega) (by simp) (by simp [cI_length]; omega)
    have i1 : units_Of.l0 (k + 1) (cI (p ++ [a])) (acc ++ cI (enc a)) ((p ++ [a]).length : Int) = some (strOfNums (acc ++ cI (of [a]))) := by
      simpa [of, row, cI] using i0
    have e4 : ¬ ((p ++ [a]).length : Int) < ((cI (p ++ [a])).length : Int) := by rw [cI_length]; omega
    unfold units_Of.l0
    rw [if_pos (show (p.length : Int) < ((cI (p ++ [a])).length : Int) by rw [cI_length]; simp; omega), if_pos (show (0 : Int) ≤ (p.length : Int) by omega), rd_mid, w32n a (by omega), phigh_eq]
    rw [e1, if_neg e4, write_eq k acc a (by omega) (by omega)]
    simp only [Option.bind_some]
    rw [i1]
    split <;> rfl
  | a :: b :: t, p, acc, k, hk, hb, hx, ha => by
    obtain ⟨k, rfl⟩ : ∃ m, k = m + 2 := ⟨k - 2, by simp at hk; omega⟩
    have h1 := hx a (by simp)
    have h2 := hx b (by simp)
    simp only [List.length_append, List.length_cons] at hb hk
    have hl := enc_len a
    have e1 : wrap64 ((p.length : Int) + 1) = (p.length : Int) + 1 := w64 (by omega) (by omega)
    have i0 := pOf_l0 (b :: t) (p ++ [a]) (acc ++ cI (enc a)) (k + 1) (by simp; omega) (by simp; omega) (fun x h => hx x (by simp only [List.mem_cons] at h ⊢; exact .inr h)) (by simp [cI_length]; omega)
    have i1 : units_Of.l0 (k + 1) (cI (p ++ a :: b :: t)) (acc ++ cI (enc a)) ((p.length : Int) + 1) = some (strOfNums (acc ++ cI (enc a ++ of (b :: t)))) := by
      have e : ((p ++ [a]).length : Int) = (p.length : Int) + 1 := by simp
      rw [e] at i0
      simpa [List.append_assoc, cI_append] using i0
    have e6 : (p.length : Int) + 1 < ((cI (p ++ a :: b :: t)).length : Int) := by rw [cI_length]; simp; omega
    have e7 : (0 : Int) ≤ (p.length : Int) + 1 := by omega
    have one : ∀ o : Bool, (hi a && lo b) = false → of (a :: b :: t) = enc a ++ of (b :: t) := by
      intro _ h
      simp [of, row, h]
    unfold units_Of.l0
    rw [if_pos (show (p.length : Int) < ((cI (p ++ a :: b :: t)).length : Int) by rw [cI_length]; simp; omega), if_pos (show (0 : Int) ≤ (p.length : Int) by omega), rd_mid, w32n a (by omega), phigh_eq]
    rw [e1, if_pos e6, if_pos e7, rd_mid1, w32n b (by omega), plow_eq]
    simp only [Option.bind_some]
    cases ha' : hi a
    · rw [if_neg (by decide), write_eq k acc a (by omega) (by omega), one true (by simp [ha'])]
      simp only [Option.bind_some]
      exact i1
    · cases hb' : lo b
      · rw [if_pos rfl, if_neg (by decide), write_eq k acc a (by omega) (by omega), one true (by simp [hb'])]
        simp only [Option.bind_some]
        exact i1
      · obtain ⟨c, hc, e9, ec⟩ := sur32 a b ha' hb' t
        rw [if_pos rfl, if_pos rfl, ec, write_eq k acc c (by omega) hc, Option.bind_some]
        have hl2 := enc_len c
        have i2 := pOf_l0 t (p ++ [a, b]) (acc ++ cI (enc c)) (k + 1) (by omega) (by simp; omega) (fun x h => hx x (by simp [h])) (by simp [cI_length]; omega)
        have e : ((p ++ [a, b]).length : Int) = wrap64 ((p.length : Int) + 1 + 1) := by rw [w64 (by omega) (by omega)]; simp; omega
        rw [e] at i2
        rw [e9]
        simpa [List.append_assoc, cI_append] using i2

theorem pOf_eq (l : List Nat) (k : Nat) (hk : l.length + 1 < k) (hb : l.length ≤ 4398046511104) (hx : ∀ x ∈ l, x < 65536) : units_Of.f k (cI l) = some (ofS l) := by
  unfold units_Of.f
  simpa [ofS] using pOf_l0 l [] [] k hk (by simpa using hb) hx (by simp)

/-! ### equal rows -/
theorem drop_cons (l : List Int) (i : Nat) (h : i < l.length) : l.drop i = rd l (i : Int) :: l.drop (i + 1) := by
  have : rd l (i : Int) = l[i] := by unfold rd; simp [h]
  rw [this, List.drop_eq_getElem_cons h]
theorem Same_l0 (l m : List Int) (hl : l.length = m.length) (hb : l.length ≤ 4398046511104) : ∀ (d i k : Nat), i + d = l.length → d < k →
    cameolaw01_SameUnits.l0 k l m (i : Int) = some (decide (l.drop i = m.drop i))
  | 0, i, k, h, hk => by
    obtain ⟨k, rfl⟩ : ∃ x, k = x + 1 := ⟨k - 1, by omega⟩
    simp only [cameolaw01_SameUnits.l0]
    rw [if_neg (by omega), List.drop_eq_nil_of_le (by omega), List.drop_eq_nil_of_le (by omega)]
    rfl
  | d + 1, i, k, h, hk => by
    obtain ⟨k, rfl⟩ : ∃ x, k = x + 1 := ⟨k - 1, by omega⟩
    simp only [cameolaw01_SameUnits.l0]
    rw [if_pos (by omega), if_pos (by omega), if_pos (by omega), drop_cons l i (by omega), drop_cons m i (by omega)]
    have ih := Same_l0 l m hl hb d (i + 1) k (by omega) (by omega)
    have e : wrap64 ((i : Int) + 1) = ((i + 1 : Nat) : Int) := by rw [w64 (by omega) (by omega)]; omega
    rw [e, ih]
    by_cases hr : rd l (i : Int) = rd m (i : Int)
    · rw [if_pos hr]; simp [hr]
    · rw [if_neg hr]; simp [hr]
theorem Same_eq (l m : List Int) (hb : l.length ≤ 4398046511104) (k : Nat) (hk : l.length < k) : cameolaw01_SameUnits.f k l m = some (decide (l = m)) := by
  unfold cameolaw01_SameUnits.f
  by_cases h : l.length = m.length
  · rw [if_pos (by omega)]
    have := Same_l0 l m h hb l.length 0 k (by omega) hk
    simpa using this
  · rw [if_neg (by omega), decide_eq_false (fun e => h (by rw [e]))]
theorem Equal_l0 (l m : List Int) (hl : l.length = m.length) (hb : l.length ≤ 4398046511104) : ∀ (d i k : Nat), i + d = l.length → d < k →
    slices_Equal_uint16_uint16.l0 k l m (l.length : Int) (i : Int) = some (decide (l.drop i = m.drop i))
  | 0, i, k, h, hk => by
    obtain ⟨k, rfl⟩ : ∃ x, k = x + 1 := ⟨k - 1, by omega⟩
    simp only [slices_Equal_uint16_uint16.l0]
    rw [if_neg (by omega), List.drop_eq_nil_of_le (by omega), List.drop_eq_nil_of_le (by omega)]
    rfl
  | d + 1, i, k, h, hk => by
    obtain ⟨k, rfl⟩ : ∃ x, k = x + 1 := ⟨k - 1, by omega⟩
    simp only [slices_Equal_uint16_uint16.l0]
    rw [if_pos (by omega), if_pos (by omega), if_pos (by omega), if_pos (by omega), drop_cons l i (by omega), drop_cons m i (by omega)]
    have ih := Equal_l0 l m hl hb d (i + 1) k (by omega) (by omega)
    have e : wrap64 ((i : Int) + 1) = ((i + 1 : Nat) : Int) := by rw [w64 (by omega) (by omega)]; omega
    rw [e, ih]
    by_cases hr : rd l (i : Int) = rd m (i : Int)
    · rw [if_pos hr]; simp [hr]
    · rw [if_neg hr]; simp [hr]
theorem Equal_eq (l m : List Int) (hb : l.length ≤ 4398046511104) (k : Nat) (hk : l.length < k) : slices_Equal_uint16_uint16.f k l m = some (decide (l = m)) := by
  unfold slices_Equal_uint16_uint16.f
  by_cases h : l.length = m.length
  · rw [if_pos (by omega)]
    have := Equal_l0 l m h hb l.length 0 k (by omega) hk
    simpa using this
  · rw [if_neg (by omega), decide_eq_false (fun e => h (by rw [e]))]

/-! ### the order of rows -/
theorem pcmp (a b : ByteArray) (ha : a.size ≤ 1099511627776) (hb : b.size ≤ 1099511627776) : units_Compare.f a b = some (if val (by_ a) = true then (if val (by_ b) = true then (Pt.cmpL (cI (us (pts (by_ a)))) (cI (us (pts (by_ b)))), 0) else (0, 10)) else (0, 10)) := by
  unfold units_Compare.f
  rw [if_pos ⟨ha, hb⟩, all_val, all_val, all_us, all_us]
  split <;> (try split) <;> rfl
theorem us_size (s : ByteArray) (h : val (by_ s) = true) : (us (pts (by_ s))).length ≤ 2 * s.size := by
  have h1 := us_le (pts (by_ s))
  have h2 := pts_len (pts (by_ s))
  rw [← (val_true s h).1, by_length] at h2
  omega
theorem Cmp_l0 (l m : List Int) (hb : l.length ≤ 4398046511104) : ∀ (d i k : Nat), i + d = l.length → i ≤ m.length → 2 * d + 1 < k →
    cameoref01_Compare.l0 k l m (i : Int) = some (Pt.cmpL (l.drop i) (m.drop i), 0)
  | 0, i, k, h, hm, hk => by
    obtain ⟨k, rfl⟩ : ∃ x, k = x + 2 := ⟨k - 2, by omega⟩
    simp only [cameoref01_Compare.l0]
    rw [if_neg (by omega)]
    simp only [cameoref01_Compare.j2]
    rw [if_neg (by decide), Pt.cmpL_end2 l m i (by omega)]
    by_cases h1 : l.length < m.length
    · rw [if_pos (by omega), if_pos (by omega)]
    · rw [if_neg (by omega), if_neg (show ¬ i < m.length by omega)]
      rw [if_neg (by omega)]
  | d + 1, i, k, h, hm, hk => by
    obtain ⟨k, rfl⟩ : ∃ x, k = x + 2 := ⟨k - 2, by omega⟩
    simp only [cameoref01_Compare.l0]
    rw [if_pos (by omega)]
    simp only [cameoref01_Compare.j2]
    by_cases h1 : i < m.length
    · have g : decide ((i : Int) < (m.length : Int)) = true := decide_eq_true (by omega)
      rw [g, if_pos rfl, if_pos (by omega), if_pos (by omega), if_pos (by omega)]
      have e : wrap64 ((i : Int) + 1) = ((i + 1 : Nat) : Int) := by rw [w64 (by omega) (by omega)]; omega
      rw [e, Cmp_l0 l m hb d (i + 1) k (by omega) (by omega) (by omega)]
      by_cases hr : rd l (i : Int) = rd m (i : Int)
      · rw [if_neg (by omega), if_neg (by omega), Pt.cmpL_step l m i (by omega) h1 hr]
      · rw [Pt.cmpL_ne l m i (by omega) h1 hr]
        by_cases h2 : rd l (i : Int) < rd m (i : Int)
        · rw [if_pos h2, if_pos h2]
        · rw [if_neg h2, if_neg h2, if_pos (by omega)]
    · have g : decide ((i : Int) < (m.length : Int)) = false := decide_eq_false (by omega)
      rw [g, if_neg (by decide), if_neg (by omega), if_pos (by omega), Pt.cmpL_end1 l m i (by omega) (by omega)]
theorem rcmp (a b : ByteArray) (ha : a.size ≤ 1099511627776) (hb : b.size ≤ 1099511627776) (k : Nat) (hk : 60 + 9 * a.size + 9 * b.size ≤ k) : cameoref01_Compare.f k a b = units_Compare.f a b := by
  rw [pcmp a b ha hb]
  unfold cameoref01_Compare.f
  rw [Units_eq a ha k (by omega), Units_eq b hb k (by omega)]
  simp only [Option.bind_some]
  obtain ⟨k, rfl⟩ : ∃ x, k = x + 1 := ⟨k - 1, by omega⟩
  cases h1 : val (by_ a)
  · rfl
  · rw [if_pos rfl, if_pos rfl]
    dsimp only
    rw [if_pos rfl]
    simp only [cameoref01_Compare.j0]
    cases h2 : val (by_ b)
    · rfl
    · have u := us_size a h1
      have := Cmp_l0 (cI (us (pts (by_ a)))) (cI (us (pts (by_ b)))) (by rw [cI_length]; omega) (us (pts (by_ a))).length 0 k (by simp [cI_length]) (by omega) (by omega)
      simpa using this

/-! ### Index -/
def idxL (l m : List Int) : Nat → Nat → Int
  | 0, _ => -1
  | d + 1, i => if (l.drop i).take m.length = m then (i : Int) else idxL l m d (i + 1)
theorem mx_nn (a : Int) : ∃ n : Nat, mx 0 a = (n : Int) := by
  unfold mx
  split
  · exact ⟨a.toNat, by omega⟩
  · exact ⟨0, rfl⟩
theorem pIdx_l0 (l m : List Int) (hl : l.length ≤ 4398046511104) (hm : m.length ≤ 4398046511104) : ∀ (d i k : Nat), (d = 0 → (l.length : Int) - m.length < i) → (d ≠ 0 → i + d = l.length + 1 - m.length ∧ m.length ≤ l.length) → d + m.length + 1 < k →
    units_Index.l0 k l m (i : Int) = some (idxL l m d i, 0)
  | 0, i, k, h, _, hk => by
    obtain ⟨k, rfl⟩ : ∃ x, k = x + 1 := ⟨k - 1, by omega⟩
    simp only [units_Index.l0]
    rw [w64 (x := (l.length : Int) - m.length) (by omega) (by omega), if_neg (by have := h rfl; omega)]
    rfl
  | d + 1, i, k, _, h, hk => by
    obtain ⟨k, rfl⟩ : ∃ x, k = x + 1 := ⟨k - 1, by omega⟩
    obtain ⟨h1, h2⟩ := h (by omega)
    simp only [units_Index.l0]
    rw [w64 (x := (l.length : Int) - m.length) (by omega) (by omega), if_pos (by omega), if_pos (by omega)]
    have e0 : wrap64 ((i : Int) + (m.length : Int)) = ((i + m.length : Nat) : Int) := by rw [w64 (by omega) (by omega)]; omega
    have e : wrap64 ((i : Int) + 1) = ((i + 1 : Nat) : Int) := by rw [w64 (by omega) (by omega)]; omega
    rw [e0, e, if_pos (by omega), if_pos (by omega)]
    simp only [Int.toNat_natCast]
    rw [Equal_eq _ _ (by simp; omega) k (by simp; omega), Option.bind_some]
    have e2 : (l.take (i + m.length)).drop i = (l.drop i).take m.length := by rw [List.drop_take]; congr 1; omega
    rw [e2, pIdx_l0 l m hl hm d (i + 1) k (by omega) (by omega) (by omega)]
    simp only [idxL, decide_eq_true_eq]
    split <;> rfl
theorem rIdx_l1 (l m : List Int) (hl : l.length ≤ 4398046511104) (hm : m.length ≤ 4398046511104) (i K : Nat) (r : Int × Int) (hi : i + m.length ≤ l.length) (hr : ∀ k, K ≤ k → cameoref01_Index.l0 k l m (wrap64 ((i : Int) + 1)) = some r) : ∀ (d j k : Nat), j + d = m.length → d + K + 1 < k →
    cameoref01_Index.l1 k l m (i : Int) true (j : Int) = some (if (l.drop (i + j)).take d = m.drop j then ((i : Int), 0) else r)
  | 0, j, k, h, hk => by
    obtain ⟨k, rfl⟩ : ∃ x, k = x + 1 := ⟨k - 1, by omega⟩
    simp only [cameoref01_Index.l1]
    rw [if_neg (by omega), if_pos trivial, show m.drop j = [] from List.drop_eq_nil_of_le (by omega), List.take_zero, if_pos rfl]
  | d + 1, j, k, h, hk => by
    obtain ⟨k, rfl⟩ : ∃ x, k = x + 1 := ⟨k - 1, by omega⟩
    simp only [cameoref01_Index.l1]
    have e0 : wrap64 ((i : Int) + (j : Int)) = ((i + j : Nat) : Int) := by rw [w64 (by omega) (by omega)]; omega
    have e : wrap64 ((j : Int) + 1) = ((j + 1 : Nat) : Int) := by rw [w64 (by omega) (by omega)]; omega
    rw [if_pos (by omega), if_pos trivial, e0, if_pos (by omega), if_pos (by omega), if_pos (by omega), e]
    rw [drop_cons l (i + j) (by omega), drop_cons m j (by omega), List.take_succ_cons]
    by_cases hq : rd l ((i + j : Nat) : Int) = rd m (j : Int)
    · have g : (rd l ((i + j : Nat) : Int) == rd m (j : Int)) = true := by rw [hq]; exact beq_self_eq_true _
      rw [g, rIdx_l1 l m hl hm i K r hi hr d (j + 1) k (by omega) (by omega)]
      rw [hq]
      have e3 : i + (j + 1) = i + j + 1 := by omega
      rw [e3]
      simp only [List.cons.injEq, true_and]
    · have g : (rd l ((i + j : Nat) : Int) == rd m (j : Int)) = false := beq_false_of_ne hq
      rw [g]
      obtain ⟨k, rfl⟩ : ∃ x, k = x + 1 := ⟨k - 1, by omega⟩
      simp only [cameoref01_Index.l1]
      rw [hr k (by omega), if_neg (show ¬ (rd l ((i + j : Nat) : Int) :: List.take d (List.drop (i + j + 1) l) = rd m (j : Int) :: List.drop (j + 1) m) from fun e => hq (List.cons.inj e).1)]
      split <;> simp
theorem rIdx_l0 (l m : List Int) (hl : l.length ≤ 4398046511104) (hm : m.length ≤ 4398046511104) : ∀ (d i k : Nat), (d = 0 → (l.length : Int) - m.length < i) → (d ≠ 0 → i + d = l.length + 1 - m.length ∧ m.length ≤ l.length) → d * (m.length + 4) + 1 < k →
    cameoref01_Index.l0 k l m (i : Int) = some (idxL l m d i, 0)
  | 0, i, k, h, _, hk => by
    obtain ⟨k, rfl⟩ : ∃ x, k = x + 1 := ⟨k - 1, by omega⟩
    simp only [cameoref01_Index.l0]
    rw [w64 (x := (l.length : Int) - m.length) (by omega) (by omega), if_neg (by have := h rfl; omega)]
    rfl
  | d + 1, i, k, _, h, hk => by
    obtain ⟨k, rfl⟩ : ∃ x, k = x + 1 := ⟨k - 1, by omega⟩
    obtain ⟨h1, h2⟩ := h (by omega)
    simp only [cameoref01_Index.l0]
    rw [w64 (x := (l.length : Int) - m.length) (by omega) (by omega), if_pos (by omega)]
    have e : wrap64 ((i : Int) + 1) = ((i + 1 : Nat) : Int) := by rw [w64 (by omega) (by omega)]; omega
    have ih : ∀ k', d * (m.length + 4) + 2 ≤ k' → cameoref01_Index.l0 k' l m (wrap64 ((i : Int) + 1)) = some (idxL l m d (i + 1), 0) := by
      intro k' hk'
      rw [e]
      exact rIdx_l0 l m hl hm d (i + 1) k' (by omega) (by omega) (by omega)
    have hk2 : m.length + (d * (m.length + 4) + 2) + 1 < k := by
      rw [Nat.add_mul] at hk; omega
    have := rIdx_l1 l m hl hm i _ _ (by omega) ih m.length 0 k (by omega) hk2
    simp only [Nat.add_zero, List.drop_zero] at this
    rw [show ((0 : Nat) : Int) = 0 from rfl] at this
    rw [this]
    simp only [idxL]
    split <;> rfl
theorem Idx_eq (a b : ByteArray) (c : Int) (ha : a.size ≤ 1099511627776) (hb : b.size ≤ 1099511627776) : ∃ v, ∀ k, 60 + 9 * a.size + 9 * b.size + (2 * a.size + 2) * (2 * b.size + 4) ≤ k → units_Index.f k a b c = some v ∧ cameoref01_Index.f k a b c = some v := by
  by_cases h1 : val (by_ a) = true
  · by_cases h2 : val (by_ b) = true
    · have u1 := us_size a h1
      have u2 := us_size b h2
      obtain ⟨n, hn⟩ := mx_nn c
      generalize hL : cI (us (pts (by_ a))) = L
      generalize hM : cI (us (pts (by_ b))) = M
      have l1 : L.length ≤ 2 * a.size := by rw [← hL, cI_length]; exact u1
      have l2 : M.length ≤ 2 * b.size := by rw [← hM, cI_length]; exact u2
      have key : ∃ d, (d = 0 → (L.length : Int) - M.length < n) ∧ (d ≠ 0 → n + d = L.length + 1 - M.length ∧ M.length ≤ L.length) ∧ d ≤ L.length + 1 := by
        by_cases h : M.length ≤ L.length ∧ n ≤ L.length - M.length
        · exact ⟨L.length + 1 - M.length - n, by omega, by omega, by omega⟩
        · exact ⟨0, by omega, by omega, by omega⟩
      obtain ⟨d, d1, d2, d3⟩ := key
      have dm : d * (M.length + 4) ≤ (2 * a.size + 2) * (2 * b.size + 4) := Nat.mul_le_mul (by omega) (by omega)
      refine ⟨(idxL L M d n, 0), fun k hk => ⟨?_, ?_⟩⟩
      · unfold units_Index.f
        rw [pUnits_eq a ha, pUnits_eq b hb, if_pos h1, if_pos h2, hL, hM, hn]
        simp only [Option.bind_some]
        rw [if_pos trivial, if_pos trivial]
        exact pIdx_l0 L M (by omega) (by omega) d n k d1 d2 (by omega)
      · unfold cameoref01_Index.f
        rw [Units_eq a ha k (by omega), Units_eq b hb k (by omega), if_pos h1, if_pos h2, hL, hM]
        simp only [Option.bind_some]
        rw [if_pos trivial]
        obtain ⟨k, rfl⟩ : ∃ x, k = x + 1 := ⟨k - 1, by omega⟩
        simp only [cameoref01_Index.j0]
        rw [hn]
        exact rIdx_l0 L M (by omega) (by omega) d n k d1 d2 (by omega)
    · refine ⟨(0, 10), fun k hk => ⟨?_, ?_⟩⟩
      · unfold units_Index.f
        rw [pUnits_eq a ha, pUnits_eq b hb, if_pos h1, if_neg h2]
        rfl
      · unfold cameoref01_Index.f
        rw [Units_eq a ha k (by omega), Units_eq b hb k (by omega), if_pos h1, if_neg h2]
        obtain ⟨k, rfl⟩ : ∃ x, k = x + 1 := ⟨k - 1, by omega⟩
        rfl
  · refine ⟨(0, 10), fun k hk => ⟨?_, ?_⟩⟩
    · unfold units_Index.f
      rw [pUnits_eq a ha, if_neg h1]
      rfl
    · unfold cameoref01_Index.f
      rw [Units_eq a ha k (by omega), Units_eq b hb k (by omega), if_neg h1]
      obtain ⟨k, rfl⟩ : ∃ x, k = x + 1 := ⟨k - 1, by omega⟩
      rfl

/-- The law UnitsOrders. -/
theorem orders (a b : ByteArray) (c : Int) (ha : a.size ≤ 1099511627776) (hb : b.size ≤ 1099511627776) : ∃ k, cameolaw01_UnitsOrders.f k a b c = some true := by
  obtain ⟨v, hv⟩ := Idx_eq a b c ha hb
  let K := 60 + 9 * a.size + 9 * b.size + (2 * a.size + 2) * (2 * b.size + 4)
  obtain ⟨e1, e2⟩ := hv K (Nat.le_refl _)
  have e3 := rcmp a b ha hb K (by omega)
  refine ⟨K, ?_⟩
  unfold cameolaw01_UnitsOrders.f
  rw [e1, e2, e3, pcmp a b ha hb]
  simp
end Go.Proofs.YtiegeggafhmehaaDoor.PR
