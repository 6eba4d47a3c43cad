/- Plain: the reference's Valid and Units: what they answer, at every string. -/
import Derived.Test.YtgnifckehopjhaaDoorPureS
namespace Go.Proofs.YtgnifckehopjhaaDoor.PR
open Go.RowKit Go.Proofs.YtgnifckehopjhaaDoorW.PrintWords Go.Proofs.YtgnifckehopjhaaDoor.U Go.Proofs.YtgnifckehopjhaaDoor.Utf

theorem rstep_enc (c : Nat) (h : c ≤ 1114111) (t : List Nat) : rstep (enc c ++ t) = some (c, (enc c).length) := by
  unfold enc
  by_cases h1 : c < 128
  · rw [if_pos h1]
    simp [rstep, rbase, h1, tlv]; omega
  · rw [if_neg h1]
    by_cases h2 : c < 2048
    · rw [if_pos h2]
      have e : rbase (192 + c / 64) = some (1, c / 64) := by unfold rbase; rw [if_neg (by omega), if_neg (by omega), if_pos (by omega)]; simp
      simp only [List.cons_append, List.nil_append, rstep, e, Option.bind_some, tlv]
      rw [if_neg (by omega), if_neg (by omega)]
      simp only [Option.bind_some]
      rw [if_neg (by omega)]
      simp; omega
    · rw [if_neg h2]
      by_cases h3 : c < 65536
      · rw [if_pos h3]
        have e : rbase (224 + c / 4096) = some (2, c / 4096) := by unfold rbase; rw [if_neg (by omega), if_neg (by omega), if_neg (by omega), if_pos (by omega)]; simp
        simp only [List.cons_append, List.nil_append, rstep, e, Option.bind_some, tlv]
        rw [if_neg (by omega), if_neg (by omega), if_neg (by omega), if_neg (by omega)]
        simp only [Option.bind_some]
        rw [if_neg (by omega)]
        simp; omega
      · rw [if_neg h3]
        have e : rbase (240 + c / 262144) = some (3, c / 262144) := by unfold rbase; rw [if_neg (by omega), if_neg (by omega), if_neg (by omega), if_neg (by omega), if_pos (by omega)]; simp
        simp only [List.cons_append, List.nil_append, rstep, e, Option.bind_some, tlv]
        rw [if_neg (by omega), if_neg (by omega), if_neg (by omega), if_neg (by omega), if_neg (by omega), if_neg (by omega)]
        simp only [Option.bind_some]
        rw [if_neg (by omega)]
        simp; omega

theorem rstep_bound (l : List Nat) (c n : Nat) (h : rstep l = some (c, n)) : c ≤ 1114111 ∧ 1 ≤ n ∧ n ≤ l.length := by
  match l, h with
  | [], h => simp [rstep] at h
  | b :: t, h =>
    simp only [rstep] at h
    obtain ⟨nb, h1, h2⟩ := Option.bind_eq_some_iff.1 h
    obtain ⟨v, h3, h4⟩ := Option.bind_eq_some_iff.1 h2
    split at h4
    · cases h4
    · simp only [Option.some.injEq, Prod.mk.injEq] at h4
      obtain ⟨rfl, rfl⟩ := h4
      have := tlv_len _ _ _ _ h3
      simp only [List.length_cons]
      omega

theorem us_len2 (c : Nat) : (u16 c).length ≤ 2 := by unfold u16; split <;> simp

theorem read_total (s : ByteArray) (hs : s.size ≤ 4398046511104) : ∀ (d i : Nat) (acc : List Nat) (K : Nat), s.size - i ≤ d → 20 + 9 * d ≤ K → acc.length + 2 * d ≤ 35184372088832 → (∀ x ∈ acc, x < 65536) →
    ∃ l ok, cameoref01_read.l0 K s (cI acc) (i : Int) = some (cI l, ok) ∧ (∀ x ∈ l, x < 65536) ∧ l.length ≤ acc.length + 2 * d
  | d, i, acc, K, hd, hK, ha, hx => by
    by_cases hi : i < s.size
    · obtain ⟨d, rfl⟩ : ∃ m, d = m + 1 := ⟨d - 1, by omega⟩
      have hst := read_step s (cI acc) i K hs hi (by rw [cI_length]; omega) (by omega)
      unfold Step at hst
      cases hr : rstep ((by_ s).drop i) with
      | none => rw [hr] at hst; exact ⟨[], false, hst, by simp, by simp⟩
      | some cn =>
        obtain ⟨c, n⟩ := cn
        rw [hr] at hst
        obtain ⟨k', hk', e⟩ := hst
        obtain ⟨b1, b2, b3⟩ := rstep_bound _ _ _ hr
        have hu := us_len2 c
        have ih := read_total s hs d (i + n) (acc ++ u16 c) k' (by omega) (by omega) (by simp; omega) (fun x hx' => by
          rcases List.mem_append.1 hx' with h | h
          · exact hx x h
          · exact u16_lt c b1 x h)
        obtain ⟨l, ok, e2, h2, h3⟩ := ih
        refine ⟨l, ok, ?_, h2, ?_⟩
        · rw [e, ← cI_append]; exact e2
        · simp only [List.length_append] at h3; omega
    · obtain ⟨K, rfl⟩ : ∃ m, K = m + 1 := ⟨K - 1, by omega⟩
      refine ⟨acc, true, ?_, hx, by omega⟩
      simp only [cameoref01_read.l0]
      rw [if_neg (by omega)]

theorem read_good (s : ByteArray) (hs : s.size ≤ 4398046511104) : ∀ (cs : List Nat) (i : Nat) (acc : List Nat) (K : Nat), (by_ s).drop i = cs.flatMap enc → i ≤ s.size → 20 + 9 * cs.length ≤ K → acc.length + 2 * cs.length ≤ 35184372088832 → (∀ c ∈ cs, c ≤ 1114111) →
    cameoref01_read.l0 K s (cI acc) (i : Int) = some (cI (acc ++ us cs), true)
  | [], i, acc, K, h, hi, hK, _, _ => by
    obtain ⟨K, rfl⟩ : ∃ m, K = m + 1 := ⟨K - 1, by omega⟩
    have := congrArg List.length h
    rw [List.length_drop, by_length] at this
    simp at this
    simp only [cameoref01_read.l0]
    rw [if_neg (by omega)]
    simp [us]
  | c :: cs, i, acc, K, h, hi, hK, ha, hc => by
    simp only [List.length_cons] at hK ha
    have h1 := hc c (by simp)
    have hl := enc_len c
    simp only [List.flatMap_cons] at h
    have hlen := congrArg List.length h
    rw [List.length_drop, by_length, List.length_append] at hlen
    have hst := read_step s (cI acc) i K hs (by omega) (by rw [cI_length]; omega) (by omega)
    unfold Step at hst
    rw [h, rstep_enc c h1] at hst
    obtain ⟨k', hk', e⟩ := hst
    have hd : (by_ s).drop (i + (enc c).length) = cs.flatMap enc := by
      rw [← List.drop_drop, h, List.drop_left]
    have hu := us_len2 c
    have ih := read_good s hs cs (i + (enc c).length) (acc ++ u16 c) k' hd (by omega) (by omega) (by simp; omega) (fun c' h' => hc c' (by simp [h']))
    rw [e, ← cI_append, ih]
    simp [us]

/-- Are bytes a string? -/
def val (b : List Nat) : Bool := (scan (b.length + 1) b 0).2
/-- The points of bytes. -/
def pts (b : List Nat) : List Nat := (scan (b.length + 1) b 0).1

theorem val_true (s : ByteArray) (h : val (by_ s) = true) : by_ s = (pts (by_ s)).flatMap enc ∧ Gd 0 (pts (by_ s)) := scan_sound _ _ _ (by_lt s) (by omega) h
theorem val_of (s : ByteArray) (cs : List Nat) (hg : Gd 0 cs) (h : by_ s = cs.flatMap enc) : val (by_ s) = true ∧ pts (by_ s) = cs := by
  unfold val pts
  rw [h, scan_complete _ cs 0 hg (by omega)]
  exact ⟨rfl, rfl⟩
theorem good_le : ∀ (cs : List Nat) (last : Nat), Gd last cs → ∀ c ∈ cs, c ≤ 1114111
  | [], _, _, c, hc => by simp at hc
  | a :: cs, last, h, c, hc => by
    obtain ⟨h1, h2, h3⟩ := h
    rcases List.mem_cons.1 hc with e | e
    · subst e; exact h1
    · exact good_le cs a h3 c e
theorem pts_len (cs : List Nat) : cs.length ≤ (cs.flatMap enc).length := by
  induction cs with
  | nil => simp
  | cons c cs ih => have := enc_len c; simp only [List.flatMap_cons, List.length_append, List.length_cons]; omega
theorem us_lt (cs : List Nat) (h : ∀ c ∈ cs, c ≤ 1114111) : ∀ x ∈ us cs, x < 65536 := by
  intro x hx
  simp only [us, List.mem_flatMap] at hx
  obtain ⟨c, hc, hx⟩ := hx
  exact u16_lt c (h c hc) x hx
theorem us_le (cs : List Nat) : (us cs).length ≤ 2 * cs.length := by
  induction cs with
  | nil => simp [us]
  | cons c cs ih => have := us_len2 c; simp only [us, List.flatMap_cons, List.length_append, List.length_cons] at *; omega
theorem toList_by (s t : ByteArray) : (s.toList = t.toList) ↔ by_ s = by_ t := by
  rw [Lib.toList_data, Lib.toList_data]
  constructor
  · intro h; unfold by_; rw [h]
  · intro h; rw [by_inj h]

theorem read_f (s : ByteArray) (hs : s.size ≤ 1099511627776) (K : Nat) (hK : 40 + 9 * s.size ≤ K) (h : val (by_ s) = true) : cameoref01_read.f K s = some (cI (us (pts (by_ s))), true) := by
  obtain ⟨h1, h2⟩ := val_true s h
  have hl : (pts (by_ s)).length ≤ s.size := by have := pts_len (pts (by_ s)); rw [← h1, by_length] at this; exact this
  have := read_good s (by omega) (pts (by_ s)) 0 [] K (by simpa using h1) (by omega) (by omega) (by simp; omega) (good_le _ _ h2)
  unfold cameoref01_read.f
  simpa [cI] using this

theorem Valid_eq (s : ByteArray) (hs : s.size ≤ 1099511627776) (K : Nat) (hK : 40 + 9 * s.size ≤ K) : cameoref01_Valid.f K s = some (val (by_ s)) := by
  unfold cameoref01_Valid.f
  cases hv : val (by_ s) with
  | true =>
    obtain ⟨h1, h2⟩ := val_true s hv
    have hl : (pts (by_ s)).length ≤ s.size := by have := pts_len (pts (by_ s)); rw [← h1, by_length] at this; exact this
    have hu := us_le (pts (by_ s))
    have hlt := us_lt _ (good_le _ _ h2)
    rw [read_f s hs K hK hv]
    simp only [Option.bind_some, if_true]
    rw [Of_eq _ K (by omega) (by omega) hlt]
    simp only [Option.bind_some]
    congr 1
    rw [beq_iff_eq, toList_by, by_ofS _ hlt, of, row_us _ _ h2]
    exact h1.symm
  | false =>
    obtain ⟨l, ok, e, hx, hl⟩ := read_total s (by omega) s.size 0 [] K (by omega) (by omega) (by simp; omega) (by simp)
    have e' : cameoref01_read.f K s = some (cI l, ok) := by unfold cameoref01_read.f; simpa [cI] using e
    rw [e']
    simp only [Option.bind_some]
    cases ok with
    | false => rfl
    | true =>
      simp only [if_true]
      simp only [List.length_nil] at hl
      rw [Of_eq l K (by omega) (by omega) hx]
      simp only [Option.bind_some]
      congr 1
      cases hq : ((ofS l).toList == s.toList) with
      | false => rfl
      | true =>
        exfalso
        rw [beq_iff_eq, toList_by, by_ofS l hx] at hq
        have := (val_of s (row l) (row_good0 l hx) hq.symm).1
        rw [hv] at this
        cases this

/-- The reference's Units. -/
theorem Units_eq (s : ByteArray) (hs : s.size ≤ 1099511627776) (K : Nat) (hK : 40 + 9 * s.size ≤ K) : cameoref01_Units.f K s = some (if val (by_ s) = true then (cI (us (pts (by_ s))), 0) else ([], 10)) := by
  unfold cameoref01_Units.f
  rw [Valid_eq s hs K hK]
  simp only [Option.bind_some]
  cases hv : val (by_ s) with
  | true => simp only [if_true]; rw [read_f s hs K hK hv]; rfl
  | false => rfl
end Go.Proofs.YtgnifckehopjhaaDoor.PR
