/- Plain: the reference's FromText is the program's, of any bytes; the law UnitsBytes. -/
import Derived.Test.YtiegeggafhmehabDoorPureC
namespace Go.Proofs.YtiegeggafhmehabDoor.PR
open Go.RowKit Go.Proofs.YtiegeggafhmehabDoorW.PrintWords Go.Proofs.YtiegeggafhmehabDoor.V Go.Proofs.YtiegeggafhmehabDoor.Utf

def cont (b : Nat) : Prop := 128 ≤ b ∧ b ≤ 191
theorem bt_getD (s : ByteArray) (k : Nat) (h : k < s.size) : bt s (k : Int) = (((by_ s).getD k 0 : Nat) : Int) := by
  rw [Pt.bt_B s k h, B_getD]

theorem l1_to (s : ByteArray) (acc : List Int) (i : Nat) (hs : s.size ≤ 1099511627776) : ∀ (d x k : Nat), x + d = 4 → 1 ≤ x → d + 2 ≤ k → i + x ≤ s.size →
    ∃ n k', k ≤ k' + d + 2 ∧ 1 ≤ n ∧ n ≤ 4 ∧ i + n ≤ s.size ∧ (n = 4 ∨ i + n = s.size ∨ ¬ cont ((by_ s).getD (i + n) 0)) ∧ cameoref01_FromText.l1 k s acc (i : Int) (x : Int) = cameoref01_FromText.l2 k' s acc (i : Int) false (n : Int)
  | 0, x, k, hx, h1, hk, hi => by
    obtain ⟨k, rfl⟩ : ∃ m, k = m + 2 := ⟨k - 2, by omega⟩
    refine ⟨x, k, by omega, by omega, by omega, hi, .inl (by omega), ?_⟩
    simp only [cameoref01_FromText.l1]
    rw [if_neg (by omega)]
    simp only [cameoref01_FromText.j2]
  | d + 1, x, k, hx, h1, hk, hi => by
    obtain ⟨K, rfl⟩ : ∃ m, k = m + 1 := ⟨k - 1, by omega⟩
    have e : wrap64 ((i : Int) + (x : Int)) = ((i + x : Nat) : Int) := by rw [w64 (by omega) (by omega)]; omega
    by_cases hl : i + x < s.size
    · by_cases hc : cont ((by_ s).getD (i + x) 0)
      · obtain ⟨n, k', g1, g2, g3, g4, g5, g6⟩ := l1_to s acc i hs d (x + 1) K (by omega) (by omega) (by omega) (by omega)
        refine ⟨n, k', by omega, g2, g3, g4, g5, ?_⟩
        rw [← g6]
        have e2 : wrap64 ((x : Int) + 1) = ((x + 1 : Nat) : Int) := by rw [w64 (by omega) (by omega)]; omega
        conv => lhs; simp only [cameoref01_FromText.l1]
        rw [e, e2, bt_getD s (i + x) hl]
        obtain ⟨c1, c2⟩ := hc
        rw [if_pos (by omega), if_pos (by omega), if_pos (by omega), if_pos (by omega), if_pos (by omega)]
      · obtain ⟨k, rfl⟩ : ∃ m, K = m + 1 := ⟨K - 1, by omega⟩
        refine ⟨x, k, by omega, by omega, by omega, hi, .inr (.inr hc), ?_⟩
        simp only [cameoref01_FromText.l1]
        rw [e, bt_getD s (i + x) hl, if_pos (by omega), if_pos (by omega), if_pos (by omega)]
        unfold cont at hc
        by_cases q : ((((by_ s).getD (i + x) 0 : Nat) : Int)) ≥ 128
        · rw [if_pos q, if_neg (by omega)]
          simp only [cameoref01_FromText.j2]
        · rw [if_neg q]
          simp only [cameoref01_FromText.j2]
    · obtain ⟨k, rfl⟩ : ∃ m, K = m + 1 := ⟨K - 1, by omega⟩
      refine ⟨x, k, by omega, by omega, by omega, hi, .inr (.inl (by omega)), ?_⟩
      simp only [cameoref01_FromText.l1]
      rw [e, if_pos (by omega), if_neg (by omega)]
      simp only [cameoref01_FromText.j2]

theorem by_ext (s : ByteArray) (i j : Nat) : by_ (s.extract i j) = ((by_ s).drop i).take (j - i) := by
  unfold by_
  rw [ByteArray.data_extract, Array.toList_extract, List.extract_eq_take_drop, List.map_take, List.map_drop]

/-- Is there a code point, no surrogate, at the front? -/
def ok (l : List Nat) : Prop := ¬ ((pt l).2 = 0 ∨ sur (pt l).1 = true)
theorem dec_ok (l : List Nat) (h : ok l) : dec l = pt l := by unfold dec; rw [if_neg h]
theorem dec_bad (l : List Nat) (h : ¬ ok l) : dec l = (65533, 1) := by
  unfold dec; rw [if_pos]; unfold ok at h; exact Classical.not_not.1 h
theorem g1_take (l : List Nat) (hb : ∀ x ∈ l, x < 256) (m : Nat) (hm : m ≤ l.length) : g1 (l.take m) = true ↔ ok l ∧ (pt l).2 = m := by
  rw [g1_iff _ (fun x hx => hb x (List.mem_of_mem_take hx))]
  constructor
  · rintro ⟨c, h1, h2, h3⟩
    have hl := enc_len c
    have e : l = enc c ++ l.drop m := by rw [← h3, List.take_append_drop]
    have hp := pt_enc c h1 (l.drop m)
    rw [← e] at hp
    have hlen := congrArg List.length h3
    rw [List.length_take] at hlen
    unfold ok
    rw [hp]
    refine ⟨?_, by simp only; omega⟩
    rintro (e1 | e1)
    · simp only at e1; omega
    · simp only at e1; rw [h2] at e1; cases e1
  · rintro ⟨h1, h2⟩
    have hn : (pt l).2 ≠ 0 := fun e => h1 (.inl e)
    have hs : sur (pt l).1 = false := by cases g : sur (pt l).1 with
      | false => rfl
      | true => exact absurd (.inr g) h1
    obtain ⟨q1, q2, q3⟩ := enc_pt l hb hn
    rw [h2] at q3
    exact ⟨_, q1, hs, q3⟩
theorem enc_cont (c : Nat) (h : c ≤ 1114111) (j : Nat) (h1 : 1 ≤ j) (h2 : j < (enc c).length) : cont ((enc c).getD j 0) := by
  unfold enc at h2 ⊢
  unfold cont
  split at h2
  · simp at h2; omega
  · rename_i g1
    rw [if_neg g1]
    split at h2
    · rename_i g2
      rw [if_pos g2]
      obtain rfl : j = 1 := by simp at h2; omega
      simp; omega
    · rename_i g2
      rw [if_neg g2]
      split at h2
      · rename_i g3
        rw [if_pos g3]
        have : j = 1 ∨ j = 2 := by simp at h2; omega
        rcases this with rfl | rfl <;> simp <;> omega
      · rename_i g3
        rw [if_neg g3]
        have : j = 1 ∨ j = 2 ∨ j = 3 := by simp at h2; omega
        rcases this with rfl | rfl | rfl <;> simp <;> omega
theorem ok_width (l : List Nat) (hb : ∀ x ∈ l, x < 256) (h : ok l) (n : Nat) (h1 : 1 ≤ n) (hn : n = 4 ∨ n = l.length ∨ ¬ cont (l.getD n 0)) : (pt l).2 ≤ n := by
  have hz : (pt l).2 ≠ 0 := fun e => h (.inl e)
  obtain ⟨q1, q2, q3⟩ := enc_pt l hb hz
  have hl := enc_len (pt l).1
  have hlen := congrArg List.length q3
  rw [List.length_take] at hlen
  apply Nat.le_of_not_lt
  intro hlt
  rcases hn with e | e | e
  · omega
  · omega
  · apply e
    have := enc_cont (pt l).1 q1 n h1 (by omega)
    rw [← q3] at this
    rw [List.getD_eq_getElem?_getD, List.getElem?_take, if_pos hlt] at this
    rw [List.getD_eq_getElem?_getD]
    exact this

theorem l2_to (s : ByteArray) (acc : List Int) (i : Nat) (hs : s.size ≤ 1099511627776) (hacc : acc.length ≤ 4 * s.size) : ∀ (m k : Nat), m ≤ 4 → i + m ≤ s.size → i < s.size → (ok ((by_ s).drop i) → (pt ((by_ s).drop i)).2 ≤ m) → 200 + m ≤ k →
    ∃ k', k ≤ k' + m + 1 ∧ cameoref01_FromText.l2 k s acc (i : Int) false (m : Int) = cameoref01_FromText.l0 k' s (acc ++ cI (enc (dec ((by_ s).drop i)).1)) ((i + (dec ((by_ s).drop i)).2 : Nat) : Int)
  | 0, k, _, _, hi, ho, hk => by
    obtain ⟨k, rfl⟩ : ∃ x, k = x + 1 := ⟨k - 1, by omega⟩
    have hb : ¬ ok ((by_ s).drop i) := fun h => h (.inl (by have := ho h; omega))
    rw [dec_bad _ hb]
    refine ⟨k, by omega, ?_⟩
    simp only [cameoref01_FromText.l2]
    have e : wrap64 ((i : Int) + 1) = ((i + 1 : Nat) : Int) := by rw [w64 (by omega) (by omega)]; omega
    rw [if_neg (by omega), if_neg (by decide), Option.bind_some, if_pos (by simp; omega), e]
    rfl
  | m + 1, k, hm, him, hi, ho, hk => by
    obtain ⟨k, rfl⟩ : ∃ x, k = x + 1 := ⟨k - 1, by omega⟩
    have hbl : ∀ x ∈ (by_ s).drop i, x < 256 := fun x hx => by_lt s x (List.mem_of_mem_drop hx)
    have hlen : ((by_ s).drop i).length = s.size - i := by rw [List.length_drop, by_length]
    have e : wrap64 ((i : Int) + ((m + 1 : Nat) : Int)) = ((i + (m + 1) : Nat) : Int) := by rw [w64 (by omega) (by omega)]; omega
    have e2 : wrap64 (((m + 1 : Nat) : Int) - 1) = (m : Int) := by rw [w64 (by omega) (by omega)]; omega
    have hsub : by_ (s.extract i (i + (m + 1))) = ((by_ s).drop i).take (m + 1) := by rw [by_ext]; congr 1; omega
    have hsz : (s.extract i (i + (m + 1))).size = m + 1 := by rw [ByteArray.size_extract]; omega
    have hbo : bytesOf (s.extract i (i + (m + 1))) = cI (by_ (s.extract i (i + (m + 1)))) := by
      unfold bytesOf cI by_; simp only [List.map_map, Function.comp_def]
    have hg := g1_take ((by_ s).drop i) hbl (m + 1) (by omega)
    have hu := utf8_eq (s.extract i (i + (m + 1))) (by omega) k (by omega)
    by_cases h : ok ((by_ s).drop i) ∧ (pt ((by_ s).drop i)).2 = m + 1
    · refine ⟨k, by omega, ?_⟩
      have hgt := hg.2 h
      rw [← hsub] at hgt
      have hz : (pt ((by_ s).drop i)).2 ≠ 0 := by omega
      obtain ⟨q1, q2, q3⟩ := enc_pt _ hbl hz
      simp only [cameoref01_FromText.l2]
      rw [e, if_pos (by omega), if_pos (by omega), if_pos (by omega), if_pos (by omega)]
      simp only [Int.toNat_natCast]
      rw [hu, Option.bind_some, if_pos hgt, if_pos (by omega), hbo, hsub, dec_ok _ h.1, h.2]
      rw [h.2] at q3
      rw [q3]
    · have hgf : g1 (by_ (s.extract i (i + (m + 1)))) = false := by
        apply eq_false_of; rw [hsub, hg]; exact h
      obtain ⟨k', g1', g2'⟩ := l2_to s acc i hs hacc m k (by omega) (by omega) hi (fun ho' => by have := ho ho'; have : (pt ((by_ s).drop i)).2 ≠ m + 1 := fun e => h ⟨ho', e⟩; omega) (by omega)
      refine ⟨k', by omega, ?_⟩
      rw [← g2']
      conv => lhs; simp only [cameoref01_FromText.l2]
      rw [e, if_pos (by omega), if_pos (by omega), if_pos (by omega), if_pos (by omega)]
      simp only [Int.toNat_natCast]
      rw [hu, Option.bind_some, hgf, if_neg (by decide), e2]

theorem dec_width (l : List Nat) (hb : ∀ x ∈ l, x < 256) (hl : l.length ≠ 0) : (dec l).2 ≤ l.length := by
  by_cases h : ok l
  · rw [dec_ok l h]
    have hz : (pt l).2 ≠ 0 := fun e => h (.inl e)
    obtain ⟨q1, q2, q3⟩ := enc_pt l hb hz
    have hlen := congrArg List.length q3
    rw [List.length_take] at hlen
    omega
  · rw [dec_bad l h]; simp only; omega

theorem l0_ft (s : ByteArray) (hs : s.size ≤ 1099511627776) : ∀ (f i : Nat) (acc : List Int) (k : Nat), s.size - i ≤ f → i ≤ s.size → acc.length ≤ 4 * i → 20 * f + 300 ≤ k →
    cameoref01_FromText.l0 k s acc (i : Int) = some (strOfNums (acc ++ cI (ftl f ((by_ s).drop i))))
  | 0, i, acc, k, h1, h2, h3, hk => by
    obtain ⟨k, rfl⟩ : ∃ x, k = x + 1 := ⟨k - 1, by omega⟩
    simp only [cameoref01_FromText.l0, ftl]
    rw [if_neg (by omega)]
    simp [cI]
  | f + 1, i, acc, k, h1, h2, h3, hk => by
    obtain ⟨k, rfl⟩ : ∃ x, k = x + 1 := ⟨k - 1, by omega⟩
    have hbl : ∀ x ∈ (by_ s).drop i, x < 256 := fun x hx => by_lt s x (List.mem_of_mem_drop hx)
    have hlen : ((by_ s).drop i).length = s.size - i := by rw [List.length_drop, by_length]
    simp only [cameoref01_FromText.l0, ftl]
    by_cases hi : i < s.size
    · rw [if_pos (by omega), if_neg (by omega)]
      obtain ⟨n, k1, a1, a2, a3, a4, a5, a6⟩ := l1_to s acc i hs 3 1 k (by omega) (by omega) (by omega) (by omega)
      have a6' : cameoref01_FromText.l1 k s acc (i : Int) 1 = cameoref01_FromText.l2 k1 s acc (i : Int) false (n : Int) := a6
      rw [a6']
      have hw : ok ((by_ s).drop i) → (pt ((by_ s).drop i)).2 ≤ n := fun ho => ok_width _ hbl ho n a2 (by
        rcases a5 with e | e | e
        · exact .inl e
        · exact .inr (.inl (by omega))
        · exact .inr (.inr (by rw [getD_drop]; exact e)))
      obtain ⟨k2, b1, b2⟩ := l2_to s acc i hs (by omega) n k1 a3 a4 hi hw (by omega)
      rw [b2]
      have hd := dec_le ((by_ s).drop i) hbl
      have hdw := dec_width ((by_ s).drop i) hbl (by omega)
      have hel := enc_len (dec ((by_ s).drop i)).1
      rw [l0_ft s hs f (i + (dec ((by_ s).drop i)).2) _ k2 (by omega) (by omega) (by simp [cI_length]; omega) (by omega)]
      rw [List.drop_drop, cI_append, List.append_assoc]
    · rw [if_neg (by omega), if_pos (by omega)]
      simp [cI]

theorem ftl_lt : ∀ (f : Nat) (l : List Nat), (∀ x ∈ l, x < 256) → ∀ x ∈ ftl f l, x < 256
  | 0, _, _, x, hx => by simp [ftl] at hx
  | f + 1, l, hb, x, hx => by
    simp only [ftl] at hx
    split at hx
    · simp at hx
    · rcases List.mem_append.1 hx with h | h
      · exact enc_lt _ (dec_le l hb).1 x h
      · exact ftl_lt f _ (fun y hy => hb y (List.mem_of_mem_drop hy)) x h

theorem FromText_eq (s : ByteArray) (hs : s.size ≤ 1099511627776) (K : Nat) (hK : 20 * s.size + 300 ≤ K) : ∃ a b, units_FromText.f s = some a ∧ cameoref01_FromText.f K s = some b ∧ a.toList = b.toList ∧ by_ a = ftl s.size (by_ s) := by
  refine ⟨⟨(Pt.ftx s s.size 0).toArray⟩, strOfNums (cI (ftl s.size (by_ s))), ?_, ?_, ?_, ?_⟩
  · unfold units_FromText.f; rw [if_pos (by omega)]
  · unfold cameoref01_FromText.f
    have := l0_ft s hs s.size 0 [] K (by omega) (by omega) (by simp) hK
    simpa using this
  · rw [toList_by, toNum _ (ftl_lt _ _ (by_lt s)), by_mk, ftR, List.drop_zero]
  · rw [by_mk, ftR, List.drop_zero]

theorem Len_ref (s : ByteArray) (hs : s.size ≤ 1099511627776) (K : Nat) (hK : 60 + 9 * s.size ≤ K) : cameoref01_Len.f K s = units_Len.f s := by
  unfold cameoref01_Len.f units_Len.f
  rw [Units_eq s hs K (by omega), pUnits_eq s hs]
theorem Len_some (s : ByteArray) (hs : s.size ≤ 1099511627776) : ∃ v, units_Len.f s = some v := by
  unfold units_Len.f
  rw [pUnits_eq s hs]; exact ⟨_, rfl⟩

/-- The law UnitsBytes. -/
theorem bytes (s : ByteArray) (hs : s.size ≤ 1099511627776) : ∃ k, cameolaw01_UnitsBytes.f k s = some true := by
  obtain ⟨a, b, h1, h2, h3, _⟩ := FromText_eq s hs (20 * s.size + 300) (by omega)
  obtain ⟨v, hv⟩ := Len_some s hs
  refine ⟨20 * s.size + 300, ?_⟩
  unfold cameolaw01_UnitsBytes.f
  rw [pText s hs, Text_ref s hs _ (by omega), Len_ref s hs _ (by omega), hv, pWell s hs, Well_ref s hs _ (by omega), pValid_eq s (by omega), Valid_eq s hs _ (by omega), h1, h2]
  simp only [Option.bind_some]
  rw [if_pos (beq_self_eq_true _), if_pos h3]
  cases hval : val (by_ s) with
  | false => simp
  | true =>
    simp only [if_true]
    have e : ({ data := (Pt.txt (Pt.all s).1).toArray } : ByteArray).toList = (strOfNums (cI ((pts (by_ s)).flatMap fun c => enc (fx c)))).toList := by
      rw [toList_by, txtR, toNum]
      intro x hx
      simp only [List.mem_flatMap] at hx
      obtain ⟨c, hc, hx⟩ := hx
      exact enc_lt _ (fx_le c ((pts_le s hval).2.2.2.1 c hc)) x hx
    rw [if_pos e]
    simp
end Go.Proofs.YtiegeggafhmehabDoor.PR
