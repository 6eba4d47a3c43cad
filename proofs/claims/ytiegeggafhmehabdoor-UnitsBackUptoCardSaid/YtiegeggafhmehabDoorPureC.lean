/- Plain: the reference's Text, Well and FromText are the program's, of any bytes; the law UnitsBytes. -/
import Derived.Test.YtiegeggafhmehabDoorPureB
import Derived.Test.YtiegeggafhmehabDoorVx5
namespace Go.Proofs.YtiegeggafhmehabDoor.PR
open Go.RowKit Go.Proofs.YtiegeggafhmehabDoorW.PrintWords Go.Proofs.YtiegeggafhmehabDoor.V Go.Proofs.YtiegeggafhmehabDoor.Utf

theorem Text_l0 : ∀ (s p : List S130) (cs : List Nat) (acc : List Int) (k : Nat), s.length < k → (p ++ s).length ≤ 4398046511104 → acc.length ≤ 4 * p.length → s.map (·.f1) = cI cs → (∀ c ∈ cs, c ≤ 1114111) →
    cameoref01_Text.l0 k acc (p ++ s) (p.length : Int) = some (strOfNums (acc ++ cI (cs.flatMap fun c => enc (fx c))), 0)
  | [], p, cs, acc, k, hk, _, _, hm, _ => by
    obtain ⟨k, rfl⟩ : ∃ m, k = m + 1 := ⟨k - 1, by omega⟩
    have : cs = [] := by cases cs with
      | nil => rfl
      | cons c cs => simp [cI] at hm
    subst this
    simp only [cameoref01_Text.l0, List.append_nil]
    rw [if_neg (by omega)]
    simp [cI]
  | x :: s, p, cs, acc, k, hk, hb, ha, hm, hc => by
    obtain ⟨k, rfl⟩ : ∃ m, k = m + 1 := ⟨k - 1, by omega⟩
    match cs, hm with
    | [], hm => simp [cI] at hm
    | c :: cs, hm =>
      simp only [List.map_cons, cI, List.cons.injEq] at hm
      obtain ⟨hx, hm⟩ := hm
      have h1 := hc c (by simp)
      have hl := enc_len (fx c)
      simp only [List.length_append, List.length_cons] at hb hk
      have ih := Text_l0 s (p ++ [x]) cs (acc ++ cI (enc (fx c))) k (by omega) (by simp; omega) (by simp [cI_length]; omega) hm (fun c' h => hc c' (by simp [h]))
      simp only [cameoref01_Text.l0]
      have r : (rd_T130 (p ++ x :: s) (p.length : Int)).f1 = (c : Int) := by
        unfold rd_T130; simp [hx]
      have q1 : cameoref01_put.f acc 65533 = some (acc ++ cI (enc 65533)) := put_eq acc 65533 (by omega) (by omega)
      have q2 := put_eq acc c (by omega) h1
      have q : ∀ {α : Type} (F : List Int → Option α), (if (c : Int) ≥ 55296 then (if (c : Int) ≤ 57343 then (cameoref01_put.f acc 65533).bind F else (cameoref01_put.f acc (c : Int)).bind F) else (cameoref01_put.f acc (c : Int)).bind F) = F (acc ++ cI (enc (fx c))) := by
        intro α F
        rw [q1, q2]
        unfold fx
        by_cases hs : sur c = true
        · rw [if_pos hs]
          rw [sur_iff] at hs
          rw [if_pos (by omega), if_pos (by omega)]; rfl
        · rw [if_neg hs]
          have hs' := (sur_false c).1 (by simpa using hs)
          by_cases g : (c : Int) ≥ 55296
          · rw [if_pos g, if_neg (by omega)]; rfl
          · rw [if_neg g]; rfl
      rw [if_pos (by simp; omega), if_pos (by omega), r, q]
      have e : ((p ++ [x]).length : Int) = wrap64 ((p.length : Int) + 1) := by rw [w64 (by omega) (by omega)]; simp
      rw [e] at ih
      simpa [List.append_assoc, cI_append] using ih

theorem pts_le (s : ByteArray) (h : val (by_ s) = true) : (pts (by_ s)).length ≤ s.size ∧ (us (pts (by_ s))).length ≤ 2 * s.size ∧ (∀ x ∈ us (pts (by_ s)), x < 65536) ∧ (∀ c ∈ pts (by_ s), c ≤ 1114111) ∧ row (us (pts (by_ s))) = pts (by_ s) := by
  obtain ⟨h1, h2⟩ := val_true s h
  have hl : (pts (by_ s)).length ≤ s.size := by have := pts_len (pts (by_ s)); rw [← h1, by_length] at this; exact this
  have hu := us_le (pts (by_ s))
  exact ⟨hl, by omega, us_lt _ (good_le _ _ h2), good_le _ _ h2, row_us _ _ h2⟩

theorem Text_ref (s : ByteArray) (hs : s.size ≤ 1099511627776) (K : Nat) (hK : 60 + 9 * s.size ≤ K) :
    cameoref01_Text.f K s = some (if val (by_ s) = true then (strOfNums (cI ((pts (by_ s)).flatMap fun c => enc (fx c))), 0) else (⟨#[]⟩, 10)) := by
  unfold cameoref01_Text.f
  rw [Units_eq s hs K (by omega)]
  simp only [Option.bind_some]
  cases hv : val (by_ s) with
  | false => simp
  | true =>
    obtain ⟨h1, h2, h3, h4, h5⟩ := pts_le s hv
    simp only [if_true]
    rw [Row_eq _ K (by omega) (by omega) h3]
    simp only [Option.bind_some]
    have hr := rowS_len 0 (us (pts (by_ s)))
    have hm := rowS_snd 0 (us (pts (by_ s)))
    rw [h5] at hr hm
    have := Text_l0 (rowS 0 (us (pts (by_ s)))) [] (pts (by_ s)) [] K (by omega) (by simp; omega) (by simp) hm h4
    simpa using this

theorem Well_l0 : ∀ (s p : List S130) (cs : List Nat) (k : Nat), s.length < k → (p ++ s).length ≤ 4398046511104 → s.map (·.f1) = cI cs →
    cameoref01_Well.l0 k (p ++ s) (p.length : Int) = some (cs.all fun c => !sur c, 0)
  | [], p, cs, k, hk, _, hm => by
    obtain ⟨k, rfl⟩ : ∃ m, k = m + 1 := ⟨k - 1, by omega⟩
    have : cs = [] := by cases cs with
      | nil => rfl
      | cons c cs => simp [cI] at hm
    subst this
    simp only [cameoref01_Well.l0, List.append_nil]
    rw [if_neg (by omega)]
    rfl
  | x :: s, p, cs, k, hk, hb, hm => by
    obtain ⟨k, rfl⟩ : ∃ m, k = m + 1 := ⟨k - 1, by omega⟩
    match cs, hm with
    | [], hm => simp [cI] at hm
    | c :: cs, hm =>
      simp only [List.map_cons, cI, List.cons.injEq] at hm
      obtain ⟨hx, hm⟩ := hm
      simp only [List.length_append, List.length_cons] at hb hk
      have ih := Well_l0 s (p ++ [x]) cs k (by omega) (by simp; omega) hm
      simp only [cameoref01_Well.l0, List.all_cons]
      have r : (rd_T130 (p ++ x :: s) (p.length : Int)).f1 = (c : Int) := by
        unfold rd_T130; simp [hx]
      have e : ((p ++ [x]).length : Int) = wrap64 ((p.length : Int) + 1) := by rw [w64 (by omega) (by omega)]; simp
      rw [e] at ih
      rw [if_pos (by simp; omega), if_pos (by omega), r]
      rw [List.append_assoc] at ih
      by_cases hs : sur c = true
      · rw [hs]
        rw [sur_iff] at hs
        rw [if_pos (by omega), if_pos (by omega)]; rfl
      · have hs2 : sur c = false := by simpa using hs
        have hs' := (sur_false c).1 hs2
        rw [hs2]
        by_cases g : (c : Int) ≥ 55296
        · rw [if_pos g, if_neg (by omega)]; simpa using ih
        · rw [if_neg g]; simpa using ih

theorem Well_ref (s : ByteArray) (hs : s.size ≤ 1099511627776) (K : Nat) (hK : 60 + 9 * s.size ≤ K) :
    cameoref01_Well.f K s = some (if val (by_ s) = true then ((pts (by_ s)).all fun c => !sur c, 0) else (false, 10)) := by
  unfold cameoref01_Well.f
  rw [Units_eq s hs K (by omega)]
  simp only [Option.bind_some]
  cases hv : val (by_ s) with
  | false => simp
  | true =>
    obtain ⟨h1, h2, h3, h4, h5⟩ := pts_le s hv
    simp only [if_true]
    rw [Row_eq _ K (by omega) (by omega) h3]
    simp only [Option.bind_some]
    have hr := rowS_len 0 (us (pts (by_ s)))
    have hm := rowS_snd 0 (us (pts (by_ s)))
    rw [h5] at hr hm
    have := Well_l0 (rowS 0 (us (pts (by_ s)))) [] (pts (by_ s)) K (by omega) (by simp; omega) hm
    simpa using this

theorem validD_by (s : ByteArray) (h : val (by_ s) = true) : Lib.validD s.data.toList = (pts (by_ s)).all fun c => !sur c := by
  obtain ⟨h1, h2⟩ := val_true s h
  exact valid_all (pts (by_ s)) s.data.toList (pts_le s h).2.2.2.1 h1
theorem pWell (s : ByteArray) (hs : s.size ≤ 1099511627776) : units_Well.f s = some (if val (by_ s) = true then ((pts (by_ s)).all fun c => !sur c, 0) else (false, 10)) := by
  unfold units_Well.f
  rw [if_pos (by omega), all_val]
  cases hv : val (by_ s) with
  | false => rfl
  | true => rw [validD_by s hv]; rfl
theorem pText (s : ByteArray) (hs : s.size ≤ 1099511627776) : units_Text.f s = some (if val (by_ s) = true then (⟨(Pt.txt (Pt.all s).1).toArray⟩, 0) else (⟨#[]⟩, 10)) := by
  unfold units_Text.f
  rw [if_pos (by omega), all_val]
  split <;> rfl

/-! ### one point alone -/
def g1 (l : List Nat) : Bool := decide ((pt l).2 = l.length) && (decide (l.length ≠ 0) && !sur (pt l).1)
theorem g1_iff (l : List Nat) (hb : ∀ x ∈ l, x < 256) : g1 l = true ↔ ∃ c, c ≤ 1114111 ∧ sur c = false ∧ l = enc c := by
  unfold g1
  simp only [Bool.and_eq_true, decide_eq_true_eq, Bool.not_eq_true']
  constructor
  · rintro ⟨e1, e2, e3⟩
    obtain ⟨q1, q2, q3⟩ := enc_pt l hb (by omega)
    refine ⟨(pt l).1, q1, e3, ?_⟩
    rw [e1, List.take_length] at q3
    exact q3
  · rintro ⟨c, h1, h2, rfl⟩
    have hp := pt_enc c h1 []
    have hl := enc_len c
    rw [List.append_nil] at hp
    rw [hp]
    exact ⟨rfl, by omega, h2⟩
theorem g1_val (s : ByteArray) : g1 (by_ s) = true ↔ val (by_ s) = true ∧ ∃ c, pts (by_ s) = [c] ∧ sur c = false := by
  rw [g1_iff _ (by_lt s)]
  constructor
  · rintro ⟨c, h1, h2, h3⟩
    have := val_of s [c] ⟨h1, by simp [hi], trivial⟩ (by simpa using h3)
    exact ⟨this.1, c, this.2, h2⟩
  · rintro ⟨h1, c, h2, h3⟩
    obtain ⟨e1, e2⟩ := val_true s h1
    rw [h2] at e1 e2
    exact ⟨c, e2.1, h3, by simpa using e1⟩
theorem eq_false_of {b : Bool} (h : ¬ b = true) : b = false := by cases b <;> simp_all

theorem utf8_eq (s : ByteArray) (hs : s.size ≤ 1099511627776) (K : Nat) (hK : 60 + 9 * s.size ≤ K) : cameoref01_utf8.f K s = some (g1 (by_ s)) := by
  unfold cameoref01_utf8.f
  have hg := g1_val s
  cases hv : val (by_ s) with
  | true =>
    obtain ⟨h1, h2, h3, h4, h5⟩ := pts_le s hv
    obtain ⟨k1, k2⟩ := val_true s hv
    rw [read_f s hs K (by omega) hv]
    rw [Option.bind_some, if_pos rfl, Of_eq _ K (by omega) (by omega) h3, Option.bind_some, if_pos (by rw [toList_by, by_ofS _ h3, of, h5]; exact k1.symm), Row_eq _ K (by omega) (by omega) h3, Option.bind_some]
    have hr := rowS_len 0 (us (pts (by_ s)))
    have hm := rowS_snd 0 (us (pts (by_ s)))
    rw [h5] at hr hm
    generalize rowS 0 (us (pts (by_ s))) = R at hr hm
    rw [hv] at hg
    generalize pts (by_ s) = cs at *
    by_cases hl : cs.length = 1
    · obtain ⟨c, rfl⟩ := List.length_eq_one_iff.1 hl
      obtain ⟨x, rfl⟩ := List.length_eq_one_iff.1 hr
      simp only [List.map_cons, List.map_nil, cI, List.cons.injEq, and_true] at hm
      rw [if_pos (show (([x] : List S130).length : Int) = 1 from rfl), if_pos (show (0 : Int) < (([x] : List S130).length : Int) by simp)]
      have r : (rd_T130 [x] 0).f1 = (c : Int) := by unfold rd_T130; simp [hm]
      rw [r]
      have g : g1 (by_ s) = !sur c := by
        cases hc : sur c with
        | true =>
          apply eq_false_of
          rw [hg]
          rintro ⟨_, d, hd, hd2⟩
          simp only [List.cons.injEq, and_true] at hd
          subst hd
          rw [hc] at hd2; cases hd2
        | false => exact hg.2 ⟨rfl, c, rfl, hc⟩
      rw [g]
      by_cases hs : sur c = true
      · rw [hs]
        rw [sur_iff] at hs
        rw [if_neg (by omega), decide_eq_false (by omega)]; rfl
      · have hs2 : sur c = false := by simpa using hs
        have hs' := (sur_false c).1 hs2
        rw [hs2]
        by_cases q : (c : Int) < 55296
        · rw [if_pos q]; rfl
        · rw [if_neg q, decide_eq_true (by omega)]; rfl
    · rw [if_neg (by omega)]
      have g : g1 (by_ s) = false := by
        apply eq_false_of
        rw [hg]
        rintro ⟨_, d, rfl, _⟩
        exact hl rfl
      rw [g]
  | false =>
    have g : g1 (by_ s) = false := by
      apply eq_false_of
      rw [hg, hv]
      rintro ⟨h, _⟩; cases h
    rw [g]
    obtain ⟨l, ok, e, hx, hl⟩ := read_total s (by omega) s.size 0 [] K (by omega) (by omega) (by simp; omega) (by simp)
    have e' : cameoref01_read.f K s = some (cI l, ok) := by unfold cameoref01_read.f; simpa [cI] using e
    rw [e', Option.bind_some]
    cases ok with
    | false => rfl
    | true =>
      simp only [List.length_nil] at hl
      rw [if_pos rfl, Of_eq l K (by omega) (by omega) hx, Option.bind_some, if_neg]
      intro hq
      rw [toList_by, by_ofS l hx] at hq
      have := (val_of s (row l) (row_good0 l hx) hq.symm).1
      rw [hv] at this
      cases this
end Go.Proofs.YtiegeggafhmehabDoor.PR
