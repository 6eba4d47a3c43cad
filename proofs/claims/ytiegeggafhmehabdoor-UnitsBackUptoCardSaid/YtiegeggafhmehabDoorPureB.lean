/- Plain: Go's decoding of bytes, in lists; a text's runes written anew. -/
import Derived.Test.YtiegeggafhmehabDoorPureO
import Derived.Lib.ValidLaws
namespace Go.Proofs.YtiegeggafhmehabDoor.PR
open Go.RowKit Go.Proofs.YtiegeggafhmehabDoorW.PrintWords Go.Proofs.YtiegeggafhmehabDoor.V Go.Proofs.YtiegeggafhmehabDoor.Utf

/-- A surrogate? -/
def sur (c : Nat) : Bool := hi c || lo c
/-- A point as a text of Go has it. -/
def fx (c : Nat) : Nat := if sur c then 65533 else c
theorem fx_le (c : Nat) (h : c ≤ 1114111) : fx c ≤ 1114111 := by unfold fx; split <;> omega
theorem sur_iff (c : Nat) : sur c = true ↔ 55296 ≤ c ∧ c < 57344 := by
  unfold sur hi lo
  simp only [Bool.or_eq_true, Bool.and_eq_true, decide_eq_true_eq]
  omega
theorem sur_false (c : Nat) : sur c = false ↔ ¬ (55296 ≤ c ∧ c < 57344) := by
  rw [← sur_iff]; cases sur c <;> simp

/-- Go's decoding of the bytes at the front. -/
def dec (l : List Nat) : Nat × Nat := if (pt l).2 = 0 ∨ sur (pt l).1 = true then (65533, 1) else pt l

theorem decN_q (n b0 b1 b2 b3 : Nat) (q : Nat × Nat) (hq : ptN n b0 b1 b2 b3 = q) (hn : n ≠ 0) (h0 : b0 < 256) (h1 : b1 < 256) (h2 : b2 < 256) (h3 : b3 < 256) :
    Lib.decodeN n b0 b1 b2 b3 = if q.2 = 0 ∨ (55296 ≤ q.1 ∧ q.1 < 57344) then (65533, 1) else q := by
  unfold ptN at hq
  rw [if_neg hn] at hq
  unfold Lib.decodeN
  by_cases g1 : b0 < 128
  · rw [if_pos g1] at hq ⊢
    subst hq
    rw [if_neg]; simp only; omega
  · rw [if_neg g1] at hq ⊢
    by_cases a2 : b0 / 32 = 6 ∧ (1 < n ∧ b1 / 64 = 2)
    · rw [if_pos a2]
      by_cases a3 : b0 % 32 * 64 + b1 % 64 ≥ 128
      · rw [if_pos (by omega)] at hq
        subst hq
        rw [if_pos a3, if_neg]; simp only; omega
      · rw [if_neg (by omega), if_neg (by omega), if_neg (by omega)] at hq
        subst hq
        rw [if_neg a3, if_pos]; exact .inl rfl
    · rw [if_neg a2]
      rw [if_neg (show ¬ (b0 / 32 = 6 ∧ 1 < n ∧ b1 / 64 = 2 ∧ 128 ≤ b0 % 32 * 64 + b1 % 64) by omega)] at hq
      by_cases a4 : b0 / 16 = 14 ∧ (1 < n ∧ b1 / 64 = 2) ∧ (2 < n ∧ b2 / 64 = 2)
      · rw [if_pos a4]
        by_cases a5 : 2048 ≤ b0 % 16 * 4096 + b1 % 64 * 64 + b2 % 64
        · rw [if_pos (show b0 / 16 = 14 ∧ 2 < n ∧ b1 / 64 = 2 ∧ b2 / 64 = 2 ∧ 2048 ≤ b0 % 16 * 4096 + b1 % 64 * 64 + b2 % 64 by omega)] at hq
          subst hq
          by_cases a6 : 55296 ≤ b0 % 16 * 4096 + b1 % 64 * 64 + b2 % 64 ∧ b0 % 16 * 4096 + b1 % 64 * 64 + b2 % 64 < 57344
          · rw [if_neg (by omega), if_pos]; exact .inr a6
          · rw [if_pos (by omega), if_neg]; simp only; omega
        · rw [if_neg (by omega), if_neg (by omega)] at hq
          subst hq
          rw [if_neg (by omega), if_pos]; exact .inl rfl
      · rw [if_neg (show ¬ (b0 / 16 = 14 ∧ 2 < n ∧ b1 / 64 = 2 ∧ b2 / 64 = 2 ∧ 2048 ≤ b0 % 16 * 4096 + b1 % 64 * 64 + b2 % 64) by omega)] at hq
        rw [if_neg a4]
        by_cases a7 : b0 / 8 = 30 ∧ (1 < n ∧ b1 / 64 = 2) ∧ (2 < n ∧ b2 / 64 = 2) ∧ (3 < n ∧ b3 / 64 = 2)
        · rw [if_pos a7]
          generalize b0 % 8 * 262144 + b1 % 64 * 4096 + b2 % 64 * 64 + b3 % 64 = c at hq ⊢
          by_cases a8 : 65536 ≤ c ∧ c ≤ 1114111
          · rw [if_pos (by omega)] at hq
            subst hq
            rw [if_pos (by omega), if_neg]; simp only; omega
          · rw [if_neg (by omega)] at hq
            subst hq
            rw [if_neg (by omega), if_pos]; exact .inl rfl
        · rw [if_neg (by omega)] at hq
          subst hq
          rw [if_neg a7, if_pos]; exact .inl rfl
theorem decN_eq (n b0 b1 b2 b3 : Nat) (hn : n ≠ 0) (h0 : b0 < 256) (h1 : b1 < 256) (h2 : b2 < 256) (h3 : b3 < 256) :
    Lib.decodeN n b0 b1 b2 b3 = if (ptN n b0 b1 b2 b3).2 = 0 ∨ (55296 ≤ (ptN n b0 b1 b2 b3).1 ∧ (ptN n b0 b1 b2 b3).1 < 57344) then (65533, 1) else ptN n b0 b1 b2 b3 :=
  decN_q n b0 b1 b2 b3 _ rfl hn h0 h1 h2 h3

theorem dec_of (l : List Nat) (hb : ∀ x ∈ l, x < 256) (hl : l ≠ []) : Lib.decodeN l.length (l.getD 0 0) (l.getD 1 0) (l.getD 2 0) (l.getD 3 0) = dec l := by
  have g := getD_lt l hb
  rw [decN_eq _ _ _ _ _ (fun e => hl (List.eq_nil_of_length_eq_zero e)) (g 0) (g 1) (g 2) (g 3)]
  unfold dec
  simp only [sur_iff]
  rfl

theorem getD_drop (l : List Nat) (i k : Nat) : (l.drop i).getD k 0 = l.getD (i + k) 0 := by
  rw [List.getD_eq_getElem?_getD, List.getD_eq_getElem?_getD, List.getElem?_drop]

theorem dec_at (s : ByteArray) (i : Nat) (h : i < s.size) : Utf8.decode s i = dec ((by_ s).drop i) := by
  rw [Lib.decode_at, ← dec_of _ (fun x hx => by_lt s x (List.mem_of_mem_drop hx)) (fun e => by have := congrArg List.length e; rw [List.length_drop, by_length] at this; simp at this; omega)]
  rw [List.length_drop, by_length, getD_drop, getD_drop, getD_drop, getD_drop, ← B_getD, ← B_getD, ← B_getD, ← B_getD]
  rfl

theorem dec_le (l : List Nat) (hb : ∀ x ∈ l, x < 256) : (dec l).1 ≤ 1114111 ∧ sur (dec l).1 = false ∧ 1 ≤ (dec l).2 ∧ (dec l).2 ≤ 4 := by
  unfold dec
  split
  · exact ⟨by decide, by decide, by decide, by decide⟩
  · rename_i h
    have h1 : (pt l).2 ≠ 0 := fun e => h (.inl e)
    have h2 : sur (pt l).1 = false := by cases g : sur (pt l).1 with
      | false => rfl
      | true => exact absurd (.inr g) h
    obtain ⟨e1, e2, e3⟩ := enc_pt l hb h1
    have := enc_len (pt l).1
    exact ⟨e1, h2, by omega, by omega⟩

/-! ### what is written of a rune -/
theorem encZ (r : Nat) (h : r ≤ 1114111) : Lib.encodeRuneZ (r : Int) = cI (enc (fx r)) := by
  unfold fx
  by_cases hs : sur r = true
  · rw [if_pos hs]
    rw [sur_iff] at hs
    rw [Lib.encodeRuneZ_bad (by omega)]; rfl
  · rw [if_neg hs]
    have hs' := (sur_false r).1 (by simpa using hs)
    unfold enc cI
    by_cases h1 : r < 128
    · rw [if_pos h1, Lib.encodeRuneZ_one (by omega) (by omega)]; rfl
    · rw [if_neg h1]
      by_cases h2 : r < 2048
      · rw [if_pos h2, Lib.encodeRuneZ_two (by omega) (by omega)]; rfl
      · rw [if_neg h2]
        by_cases h3 : r < 65536
        · rw [if_pos h3, Lib.encodeRuneZ_three (by omega)]; rfl
        · rw [if_neg h3, Lib.encodeRuneZ_four (by omega) (by omega)]; rfl
theorem encR (r : Nat) (h : r ≤ 1114111) : (Lib.encodeRune (r : Int)).map UInt8.toNat = enc (fx r) := by
  unfold Lib.encodeRune
  rw [encZ r h, cI]
  simp only [List.map_map, Function.comp_def, Int.toNat_natCast]
  conv => rhs; rw [← List.map_id (enc (fx r))]
  apply List.map_congr_left
  intro x hx
  exact UInt8.toNat_ofNat_of_lt' (enc_lt _ (fx_le r h) x hx)
theorem wrR (r : Nat) (h : r ≤ 1114111) : (Pt.wr r).map UInt8.toNat = enc (fx r) := by
  unfold Pt.wr
  have e : (if (Pt.hi r || Pt.lo r) = true then (65533 : Int) else (r : Int)) = ((fx r : Nat) : Int) := by
    unfold fx
    show (if sur r = true then (65533 : Int) else (r : Int)) = _
    split <;> rfl
  rw [e, encR _ (fx_le r h)]
  congr 1
  unfold fx
  by_cases hs : sur r = true
  · rw [if_pos hs]; rfl
  · rw [if_neg hs, if_neg hs]
theorem by_mk (l : List UInt8) : by_ ⟨l.toArray⟩ = l.map UInt8.toNat := rfl
theorem txtR (s : ByteArray) : by_ ⟨(Pt.txt (Pt.all s).1).toArray⟩ = (pts (by_ s)).flatMap fun c => enc (fx c) := by
  rw [by_mk, ← all_pts]
  have h := Pt.scan_rune s (s.size + 1) 0 0
  unfold Pt.all
  generalize (Pt.scan s (s.size + 1) 0 0).1 = l at h
  unfold Pt.txt
  induction l with
  | nil => rfl
  | cons x l ih =>
    simp only [List.flatMap_cons, List.map_append, List.map_cons]
    rw [ih (fun y hy => h y (by simp [hy])), wrR _ (h x (by simp))]

/-! ### a text's runes -/
def ftl : Nat → List Nat → List Nat
  | 0, _ => []
  | f + 1, l => if l.length = 0 then [] else enc (dec l).1 ++ ftl f (l.drop (dec l).2)
theorem fx_dec (l : List Nat) (hb : ∀ x ∈ l, x < 256) : fx (dec l).1 = (dec l).1 := by
  unfold fx; rw [(dec_le l hb).2.1]; rfl
theorem ftR (s : ByteArray) : ∀ f i, (Pt.ftx s f i).map UInt8.toNat = ftl f ((by_ s).drop i)
  | 0, _ => rfl
  | f + 1, i => by
    simp only [Pt.ftx, ftl]
    have hb : ∀ x ∈ (by_ s).drop i, x < 256 := fun x hx => by_lt s x (List.mem_of_mem_drop hx)
    by_cases h : i < s.size
    · rw [if_pos h, if_neg (by rw [List.length_drop, by_length]; omega), List.map_append, dec_at s i h, encR _ (dec_le _ hb).1, fx_dec _ hb, ftR s f, List.drop_drop]
    · rw [if_neg h, if_pos (by rw [List.length_drop, by_length]; omega)]; rfl

/-! ### ValidString -/
theorem decL (l : List UInt8) (hl : l ≠ []) : Lib.decodeL l = dec (l.map UInt8.toNat) := by
  unfold Lib.decodeL
  have h1 : 0 < l.length := List.length_pos_iff.2 hl
  rw [dec_at ⟨l.toArray⟩ 0 (by simpa [ByteArray.size] using h1), by_mk, List.drop_zero]
theorem dec_enc (c : Nat) (h : c ≤ 1114111) (t : List Nat) : dec (enc c ++ t) = if sur c = true then (65533, 1) else (c, (enc c).length) := by
  have hl := enc_len c
  unfold dec
  rw [pt_enc c h]
  by_cases hs : sur c = true
  · rw [if_pos hs, if_pos]; exact .inr hs
  · rw [if_neg hs, if_neg]
    rintro (e | e)
    · simp only at e; omega
    · exact hs e
theorem valid_all : ∀ (cs : List Nat) (l : List UInt8), (∀ c ∈ cs, c ≤ 1114111) → l.map UInt8.toNat = cs.flatMap enc → Lib.validD l = cs.all fun c => !sur c
  | [], l, _, h => by
    have : l = [] := by simpa using h
    subst this; rfl
  | c :: cs, l, hc, h => by
    have hl := enc_len c
    have hne : l ≠ [] := by
      rintro rfl
      have := congrArg List.length h
      simp only [List.map_nil, List.length_nil, List.flatMap_cons, List.length_append] at this
      omega
    rw [Lib.validD_step l hne, decL l hne, h]
    simp only [List.flatMap_cons, List.all_cons]
    rw [dec_enc c (hc c (by simp))]
    by_cases hs : sur c = true
    · rw [if_pos hs, if_pos ⟨rfl, rfl⟩, hs]; rfl
    · have hs' : sur c = false := by simpa using hs
      rw [if_neg hs, if_neg, hs']
      · have ih := valid_all cs (l.drop (enc c).length) (fun x hx => hc x (by simp [hx])) (by rw [List.map_drop, h]; simp)
        simpa using ih
      · rintro ⟨e1, e2⟩
        simp only at e1 e2
        subst e1
        revert e2; decide
end Go.Proofs.YtiegeggafhmehabDoor.PR
