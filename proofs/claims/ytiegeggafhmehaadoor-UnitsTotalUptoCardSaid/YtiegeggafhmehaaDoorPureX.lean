/- Plain: the order of rows is total; the law UnitsTotal. -/
import Derived.Test.YtiegeggafhmehaaDoorPureAw
import Derived.Test.YtiegeggafhmehaaDoorUx10
namespace Go.Proofs.YtiegeggafhmehaaDoor.PR
open Go.RowKit Go.Proofs.YtiegeggafhmehaaDoorW.PrintWords Go.Proofs.YtiegeggafhmehaaDoor.U Go.Proofs.YtiegeggafhmehaaDoor.Utf

theorem cmp_range : ∀ l m : List Int, Pt.cmpL l m = -1 ∨ Pt.cmpL l m = 0 ∨ Pt.cmpL l m = 1
  | [], [] => .inr (.inl rfl)
  | [], _ :: _ => .inl rfl
  | _ :: _, [] => .inr (.inr rfl)
  | a :: l, b :: m => by
    simp only [Pt.cmpL]
    split
    · exact .inl rfl
    · split
      · exact .inr (.inr rfl)
      · exact cmp_range l m
theorem cmp_swap : ∀ l m : List Int, Pt.cmpL m l = - Pt.cmpL l m
  | [], [] => rfl
  | [], _ :: _ => rfl
  | _ :: _, [] => rfl
  | a :: l, b :: m => by
    simp only [Pt.cmpL]
    by_cases h1 : a < b
    · rw [if_pos h1, if_neg (by omega), if_pos h1]; rfl
    · by_cases h2 : b < a
      · rw [if_pos h2, if_neg h1, if_pos h2]
      · rw [if_neg h2, if_neg h1, if_neg h1, if_neg h2]; exact cmp_swap l m
theorem cmp_zero : ∀ l m : List Int, Pt.cmpL l m = 0 ↔ l = m
  | [], [] => ⟨fun _ => rfl, fun _ => rfl⟩
  | [], _ :: _ => ⟨fun h => by simp [Pt.cmpL] at h, fun h => by cases h⟩
  | _ :: _, [] => ⟨fun h => by simp [Pt.cmpL] at h, fun h => by cases h⟩
  | a :: l, b :: m => by
    simp only [Pt.cmpL]
    by_cases h1 : a < b
    · rw [if_pos h1]
      exact ⟨fun h => by omega, fun h => by injection h with h h'; omega⟩
    · by_cases h2 : b < a
      · rw [if_neg h1, if_pos h2]
        exact ⟨fun h => by omega, fun h => by injection h with h h'; omega⟩
      · rw [if_neg h1, if_neg h2, cmp_zero l m]
        have e : a = b := by omega
        rw [e]
        exact ⟨fun h => by rw [h], fun h => by injection h⟩
theorem cmp_le : ∀ l m n : List Int, Pt.cmpL l m ≤ 0 → Pt.cmpL m n ≤ 0 → Pt.cmpL l n ≤ 0
  | [], m, [], _, _ => by simp [Pt.cmpL]
  | [], m, _ :: _, _, _ => by simp [Pt.cmpL]
  | _ :: _, [], _, h, _ => by simp [Pt.cmpL] at h
  | _ :: _, _ :: _, [], _, h => by simp [Pt.cmpL] at h
  | a :: l, b :: m, c :: n, h1, h2 => by
    simp only [Pt.cmpL] at h1 h2 ⊢
    split at h1
    · split at h2
      · rw [if_pos (by omega)]; decide
      · split at h2
        · omega
        · rw [if_pos (by omega)]; decide
    · split at h1
      · omega
      · split at h2
        · rw [if_pos (by omega)]; decide
        · split at h2
          · omega
          · rw [if_neg (by omega), if_neg (by omega)]
            exact cmp_le l m n h1 h2
theorem cmp_app : ∀ l m : List Int, Pt.cmpL l (l ++ m) = if m = [] then 0 else -1
  | [], [] => rfl
  | [], _ :: _ => by simp [Pt.cmpL]
  | a :: l, m => by
    simp only [List.cons_append, Pt.cmpL]
    rw [if_neg (by omega), if_neg (by omega)]
    exact cmp_app l m

theorem us_inj (a b : ByteArray) (ha : val (by_ a) = true) (hb : val (by_ b) = true) (h : cI (us (pts (by_ a))) = cI (us (pts (by_ b)))) : a = b := by
  rw [← ofS_us a ha, ← ofS_us b hb, cI_inj h]
theorem us_nil (b : ByteArray) (hb : val (by_ b) = true) : cI (us (pts (by_ b))) = [] ↔ b.toList = [] := by
  have e : ([] : List UInt8) = (⟨#[]⟩ : ByteArray).toList := by rw [Lib.toList_data]
  rw [e, toList_by]
  constructor
  · intro h
    have h' : us (pts (by_ b)) = [] := by cases hq : us (pts (by_ b)) with
      | nil => rfl
      | cons x l => rw [hq] at h; simp [cI] at h
    rw [← ofS_us b hb, h']; rfl
  · intro h
    have : by_ (⟨#[]⟩ : ByteArray) = [] := rfl
    rw [h, this]; rfl

theorem total_j1 (a b : ByteArray) (ha : a.size ≤ 1048576) (hb : b.size ≤ 1048576) (h1 : val (by_ a) = true) (h2 : val (by_ b) = true) (k : Nat) (hk : 60 + 9 * a.size + 9 * b.size ≤ k) (x : Bool) (hx : x = false) :
    cameolaw01_UnitsTotal.j1 (k + 1) a b x = some true := by
  subst hx
  simp only [cameolaw01_UnitsTotal.j1]
  rw [if_neg (by decide), (concat_val a b (by omega) (by omega) h1 h2 k hk).1, Option.bind_some]
  by_cases hz : ((ofS (us (pts (by_ a)) ++ us (pts (by_ b)))).size : Int) > 1048576
  · rw [if_pos hz]; rfl
  · rw [if_neg hz]
    dsimp only
    have hl : ∀ x ∈ us (pts (by_ a)) ++ us (pts (by_ b)), x < 65536 := by
      intro x hx
      rcases List.mem_append.1 hx with h | h
      · exact units_lt a h1 x h
      · exact units_lt b h2 x h
    obtain ⟨r1, r2⟩ := round _ hl
    rw [if_pos rfl, pcmp a _ (by omega) (by omega), if_pos h1, if_pos r1, r2, cI_append, cmp_app, Option.bind_some]
    dsimp only
    rw [if_pos rfl]
    by_cases hn : cI (us (pts (by_ b))) = []
    · rw [if_pos hn, (us_nil b h2).1 hn]; rfl
    · rw [if_neg hn]
      have : b.toList ≠ [] := fun h => hn ((us_nil b h2).2 h)
      have e : (b.toList != ([] : List UInt8)) = true := by simpa using this
      rw [e]; rfl

theorem total_bad (a b c : ByteArray) (ha : a.size ≤ 1048576) (hb : b.size ≤ 1048576) (hc : c.size ≤ 1048576) (h : ¬ (val (by_ a) = true ∧ val (by_ b) = true ∧ val (by_ c) = true)) (k : Nat) (x7 x9 x11 x13 x14 : Int) (x : Bool) (hx : x = true) :
    cameolaw01_UnitsTotal.j0 (k + 1) a b c x7 x9 x11 x13 x14 x = some true := by
  subst hx
  simp only [cameolaw01_UnitsTotal.j0]
  rw [if_pos trivial, pValid_eq a (by omega), pValid_eq b (by omega), pValid_eq c (by omega)]
  simp only [Option.bind_some]
  cases h1 : val (by_ a) <;> cases h2 : val (by_ b) <;> cases h3 : val (by_ c) <;> first | rfl | exact absurd ⟨h1, h2, h3⟩ h

theorem total_good (a b c : ByteArray) (ha : a.size ≤ 1048576) (hb : b.size ≤ 1048576) (_hc : c.size ≤ 1048576) (h1 : val (by_ a) = true) (h2 : val (by_ b) = true) (_h3 : val (by_ c) = true) (k : Nat) (hk : 60 + 9 * a.size + 9 * b.size ≤ k) (L M R : List Int)
    (hL : L = cI (us (pts (by_ a)))) (hM : M = cI (us (pts (by_ b)))) (x : Bool) (hx : x = false) :
    cameolaw01_UnitsTotal.j0 (k + 2) a b c (Pt.cmpL L M) (Pt.cmpL M R) (Pt.cmpL L R) (Pt.cmpL M L) 0 x = some true := by
  subst hx
  have j := total_j1 a b ha hb h1 h2 k hk
  have g1 := cmp_range L M
  have g2 := cmp_range M R
  have g3 := cmp_range L R
  have s1 := cmp_swap L M
  have s2 := cmp_swap M R
  have s3 := cmp_swap L R
  have t1 := cmp_le L M R
  have t2 := cmp_le R M L
  have z := cmp_zero L M
  have e : ((Pt.cmpL L M == 0) != (a.toList == b.toList)) = false := by
    by_cases hz : Pt.cmpL L M = 0
    · have hab : a = b := us_inj a b h1 h2 (by rw [← hL, ← hM]; exact z.1 hz)
      rw [hz, hab]; simp
    · have hab : ¬ a.toList = b.toList := by
        intro h
        apply hz
        rw [z, hL, hM, (toList_by a b).1 h]
      have q1 : (Pt.cmpL L M == 0) = false := by simpa using hz
      have q2 : (a.toList == b.toList) = false := by simpa using hab
      rw [q1, q2]; rfl
  rw [s2, s1] at t2
  rw [s3] at t2
  simp only [cameolaw01_UnitsTotal.j0]
  rw [s1, if_neg (by decide), if_pos trivial, e]
  have w : wrap64 (- - Pt.cmpL L M) = Pt.cmpL L M := by rw [w64 (by omega) (by omega)]; omega
  rw [w, if_pos rfl, if_neg (by decide), if_neg (by omega), if_neg (by omega)]
  by_cases c1 : Pt.cmpL L M ≤ 0
  · rw [if_pos c1]
    by_cases c2 : Pt.cmpL M R ≤ 0
    · have c3 := t1 c1 c2
      rw [if_pos c2, if_neg (by omega)]
      by_cases c4 : Pt.cmpL L M ≥ 0
      · rw [if_pos c4]
        by_cases c5 : Pt.cmpL M R ≥ 0
        · rw [if_pos c5]; exact j _ (decide_eq_false (by have := t2 (by omega) (by omega); omega))
        · rw [if_neg c5]; exact j _ rfl
      · rw [if_neg c4]; exact j _ rfl
    · rw [if_neg c2]
      by_cases c4 : Pt.cmpL L M ≥ 0
      · rw [if_pos c4]
        by_cases c5 : Pt.cmpL M R ≥ 0
        · rw [if_pos c5]; exact j _ (decide_eq_false (by have := t2 (by omega) (by omega); omega))
        · rw [if_neg c5]; exact j _ rfl
      · rw [if_neg c4]; exact j _ rfl
  · rw [if_neg c1]
    by_cases c4 : Pt.cmpL L M ≥ 0
    · rw [if_pos c4]
      by_cases c5 : Pt.cmpL M R ≥ 0
      · rw [if_pos c5]; exact j _ (decide_eq_false (by have := t2 (by omega) (by omega); omega))
      · rw [if_neg c5]; exact j _ rfl
    · rw [if_neg c4]; exact j _ rfl

/-- The law UnitsTotal. -/
theorem total (a b c : ByteArray) (ha : a.size ≤ 1048576) (hb : b.size ≤ 1048576) (hc : c.size ≤ 1048576) : ∃ k, cameolaw01_UnitsTotal.f k a b c = some true := by
  refine ⟨400 + 9 * a.size + 9 * b.size + 2, ?_⟩
  generalize hK : 400 + 9 * a.size + 9 * b.size = K
  unfold cameolaw01_UnitsTotal.f
  rw [awake _ (by omega), Option.bind_some, if_pos rfl, pcmp a b (by omega) (by omega), pcmp b c (by omega) (by omega), pcmp a c (by omega) (by omega), pcmp b a (by omega) (by omega)]
  simp only [Option.bind_some]
  by_cases h1 : val (by_ a) = true
  · by_cases h2 : val (by_ b) = true
    · by_cases h3 : val (by_ c) = true
      · rw [if_pos h1, if_pos h2, if_pos h3, if_pos h2, if_pos h3, if_pos h1, if_pos h2, if_pos h1]
        dsimp only
        rw [if_pos rfl, if_pos rfl]
        exact total_good a b c ha hb hc h1 h2 h3 K (by omega) _ _ _ rfl rfl _ rfl
      · have h : ¬ (val (by_ a) = true ∧ val (by_ b) = true ∧ val (by_ c) = true) := fun h => h3 h.2.2
        rw [if_pos h1, if_pos h2, if_neg h3, if_pos h2, if_neg h3]
        dsimp only
        rw [if_pos rfl, if_neg (by decide)]
        exact total_bad a b c ha hb hc h (K + 1) _ _ _ _ _ _ rfl
    · have h : ¬ (val (by_ a) = true ∧ val (by_ b) = true ∧ val (by_ c) = true) := fun h => h2 h.2.1
      rw [if_pos h1, if_neg h2]
      dsimp only
      rw [if_neg (by decide)]
      exact total_bad a b c ha hb hc h (K + 1) _ _ _ _ _ _ rfl
  · have h : ¬ (val (by_ a) = true ∧ val (by_ b) = true ∧ val (by_ c) = true) := fun h => h1 h.1
    rw [if_neg h1]
    dsimp only
    rw [if_neg (by decide)]
    exact total_bad a b c ha hb hc h (K + 1) _ _ _ _ _ _ rfl
end Go.Proofs.YtiegeggafhmehaaDoor.PR
