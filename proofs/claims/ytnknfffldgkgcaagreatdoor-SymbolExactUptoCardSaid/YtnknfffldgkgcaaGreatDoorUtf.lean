/- Plain: code points, their bytes, their code units: no program in sight. -/
import Derived.Below
namespace Go.Proofs.YtnknfffldgkgcaaGreatDoor.Utf

def hi (r : Nat) : Bool := decide (55296 ≤ r) && decide (r < 56320)
def lo (r : Nat) : Bool := decide (56320 ≤ r) && decide (r < 57344)

/-- A code point's bytes (a surrogate's too). -/
def enc (c : Nat) : List Nat :=
  if c < 128 then [c]
  else if c < 2048 then [192 + c / 64, 128 + c % 64]
  else if c < 65536 then [224 + c / 4096, 128 + c / 64 % 64, 128 + c % 64]
  else [240 + c / 262144, 128 + c / 4096 % 64, 128 + c / 64 % 64, 128 + c % 64]

/-- A code point's units. -/
def u16 (r : Nat) : List Nat := if 65536 ≤ r then [55296 + (r - 65536) / 1024, 56320 + (r - 65536) % 1024] else [r]

/-- The code points of a row of units. -/
def row : List Nat → List Nat
  | [] => []
  | [a] => [a]
  | a :: b :: t => if hi a && lo b then (65536 + 1024 * (a - 55296) + (b - 56320)) :: row t else a :: row (b :: t)

/-- The bytes of a row. -/
def of (l : List Nat) : List Nat := (row l).flatMap enc
def us (cs : List Nat) : List Nat := cs.flatMap u16

/-- No high one stands ahead of a low one, and none is beyond. -/
def Gd : Nat → List Nat → Prop
  | _, [] => True
  | last, c :: t => c ≤ 1114111 ∧ ¬ (hi last = true ∧ lo c = true) ∧ Gd c t

/-- The code point at the front of bytes, and how many bytes it has; 0: none. -/
def ptN (n b0 b1 b2 b3 : Nat) : Nat × Nat :=
  if n = 0 then (0, 0)
  else if b0 < 128 then (b0, 1)
  else if b0 / 32 = 6 ∧ 1 < n ∧ b1 / 64 = 2 ∧ 128 ≤ b0 % 32 * 64 + b1 % 64 then (b0 % 32 * 64 + b1 % 64, 2)
  else if b0 / 16 = 14 ∧ 2 < n ∧ b1 / 64 = 2 ∧ b2 / 64 = 2 ∧ 2048 ≤ b0 % 16 * 4096 + b1 % 64 * 64 + b2 % 64 then (b0 % 16 * 4096 + b1 % 64 * 64 + b2 % 64, 3)
  else if b0 / 8 = 30 ∧ 3 < n ∧ b1 / 64 = 2 ∧ b2 / 64 = 2 ∧ b3 / 64 = 2 ∧ 65536 ≤ b0 % 8 * 262144 + b1 % 64 * 4096 + b2 % 64 * 64 + b3 % 64 ∧ b0 % 8 * 262144 + b1 % 64 * 4096 + b2 % 64 * 64 + b3 % 64 ≤ 1114111 then
    (b0 % 8 * 262144 + b1 % 64 * 4096 + b2 % 64 * 64 + b3 % 64, 4)
  else (0, 0)
def pt (l : List Nat) : Nat × Nat := ptN l.length (l.getD 0 0) (l.getD 1 0) (l.getD 2 0) (l.getD 3 0)

/-- The code points of bytes, one by one, as far as they are a string; whether they are one. -/
def scan : Nat → List Nat → Nat → List Nat × Bool
  | 0, _, _ => ([], true)
  | f + 1, l, last =>
    if l.length = 0 then ([], true)
    else if (pt l).2 = 0 ∨ (hi last = true ∧ lo (pt l).1 = true) then ([], false)
    else ((pt l).1 :: (scan f (l.drop (pt l).2) (pt l).1).1, (scan f (l.drop (pt l).2) (pt l).1).2)

theorem enc_len (c : Nat) : 1 ≤ (enc c).length ∧ (enc c).length ≤ 4 := by
  unfold enc; repeat' split
  all_goals simp
theorem enc_len3 (c : Nat) (h : c < 65536) : (enc c).length ≤ 3 := by
  unfold enc; repeat' split
  all_goals first | (simp; done) | omega
theorem enc_lt (c : Nat) (h : c ≤ 1114111) : ∀ x ∈ enc c, x < 256 := by
  unfold enc
  repeat' split
  all_goals (intro x hx; simp at hx; omega)

/-- A point's bytes at the front are read as it. -/
theorem pt_enc (c : Nat) (h : c ≤ 1114111) (t : List Nat) : pt (enc c ++ t) = (c, (enc c).length) := by
  unfold enc pt ptN
  split
  · simp; omega
  · split
    · simp
      rw [if_neg (by omega), if_pos (by omega)]
      simp; omega
    · split
      · simp
        rw [if_neg (by omega), if_neg (by omega), if_pos (by omega)]
        simp; omega
      · simp
        rw [if_neg (by omega), if_neg (by omega), if_neg (by omega), if_pos (by omega)]
        simp; omega

theorem ptN_enc (n b0 b1 b2 b3 : Nat) (h0 : b0 < 256) (h1 : b1 < 256) (h2 : b2 < 256) (_h3 : b3 < 256) (h : (ptN n b0 b1 b2 b3).2 ≠ 0) :
    (ptN n b0 b1 b2 b3).1 ≤ 1114111 ∧ (((ptN n b0 b1 b2 b3).2 = 1 ∧ enc (ptN n b0 b1 b2 b3).1 = [b0] ∧ 1 ≤ n) ∨ ((ptN n b0 b1 b2 b3).2 = 2 ∧ enc (ptN n b0 b1 b2 b3).1 = [b0, b1] ∧ 2 ≤ n) ∨
      ((ptN n b0 b1 b2 b3).2 = 3 ∧ enc (ptN n b0 b1 b2 b3).1 = [b0, b1, b2] ∧ 3 ≤ n) ∨ ((ptN n b0 b1 b2 b3).2 = 4 ∧ enc (ptN n b0 b1 b2 b3).1 = [b0, b1, b2, b3] ∧ 4 ≤ n)) := by
  unfold ptN at h ⊢
  by_cases g0 : n = 0
  · rw [if_pos g0] at h; simp at h
  · rw [if_neg g0] at h ⊢
    by_cases g1 : b0 < 128
    · rw [if_pos g1]
      refine ⟨by simp only; omega, .inl ⟨rfl, ?_, by omega⟩⟩
      simp [enc, g1]
    · rw [if_neg g1] at h ⊢
      by_cases g2 : b0 / 32 = 6 ∧ 1 < n ∧ b1 / 64 = 2 ∧ 128 ≤ b0 % 32 * 64 + b1 % 64
      · rw [if_pos g2]
        refine ⟨by simp only; omega, .inr (.inl ⟨rfl, ?_, by omega⟩)⟩
        simp only [enc]
        rw [if_neg (by omega), if_pos (by omega)]
        simp; omega
      · rw [if_neg g2] at h ⊢
        by_cases g3 : b0 / 16 = 14 ∧ 2 < n ∧ b1 / 64 = 2 ∧ b2 / 64 = 2 ∧ 2048 ≤ b0 % 16 * 4096 + b1 % 64 * 64 + b2 % 64
        · rw [if_pos g3]
          refine ⟨by simp only; omega, .inr (.inr (.inl ⟨rfl, ?_, by omega⟩))⟩
          simp only [enc]
          rw [if_neg (by omega), if_neg (by omega), if_pos (by omega)]
          simp; omega
        · rw [if_neg g3] at h ⊢
          by_cases g4 : b0 / 8 = 30 ∧ 3 < n ∧ b1 / 64 = 2 ∧ b2 / 64 = 2 ∧ b3 / 64 = 2 ∧ 65536 ≤ b0 % 8 * 262144 + b1 % 64 * 4096 + b2 % 64 * 64 + b3 % 64 ∧ b0 % 8 * 262144 + b1 % 64 * 4096 + b2 % 64 * 64 + b3 % 64 ≤ 1114111
          · rw [if_pos g4]
            refine ⟨by simp only; omega, .inr (.inr (.inr ⟨rfl, ?_, by omega⟩))⟩
            simp only [enc]
            rw [if_neg (by omega), if_neg (by omega), if_neg (by omega)]
            simp; omega
          · rw [if_neg g4] at h; simp at h

theorem getD_lt (l : List Nat) (hb : ∀ x ∈ l, x < 256) (k : Nat) : l.getD k 0 < 256 := by
  rw [List.getD_eq_getElem?_getD]
  by_cases h : k < l.length
  · rw [List.getElem?_eq_getElem h]; exact hb _ (List.getElem_mem h)
  · rw [List.getElem?_eq_none (by omega)]; simp

/-- What is read lies at the front. -/
theorem enc_pt (l : List Nat) (hb : ∀ x ∈ l, x < 256) (h : (pt l).2 ≠ 0) : (pt l).1 ≤ 1114111 ∧ (enc (pt l).1).length = (pt l).2 ∧ l.take (pt l).2 = enc (pt l).1 := by
  have g := getD_lt l hb
  have q := ptN_enc l.length _ _ _ _ (g 0) (g 1) (g 2) (g 3) h
  unfold pt
  refine ⟨q.1, ?_⟩
  rcases q.2 with ⟨e1, e2, e3⟩ | ⟨e1, e2, e3⟩ | ⟨e1, e2, e3⟩ | ⟨e1, e2, e3⟩ <;> rw [e2, e1] <;> refine ⟨rfl, ?_⟩
  · match l, e3 with
    | a :: _, _ => simp
  · match l, e3 with
    | a :: b :: _, _ => simp
  · match l, e3 with
    | a :: b :: c :: _, _ => simp
  · match l, e3 with
    | a :: b :: c :: d :: _, _ => simp

/-- What is scanned whole is its points' bytes. -/
theorem scan_sound : ∀ f l last, (∀ x ∈ l, x < 256) → l.length < f → (scan f l last).2 = true → l = (scan f l last).1.flatMap enc ∧ Gd last (scan f l last).1
  | 0, _, _, _, hf, _ => by omega
  | f + 1, l, last, hb, hf, h => by
    simp only [scan] at h ⊢
    by_cases h0 : l.length = 0
    · rw [if_pos h0]
      have : l = [] := List.eq_nil_of_length_eq_zero h0
      subst this
      exact ⟨rfl, trivial⟩
    · rw [if_neg h0] at h ⊢
      by_cases h1 : (pt l).2 = 0 ∨ (hi last = true ∧ lo (pt l).1 = true)
      · rw [if_pos h1] at h; simp at h
      · rw [if_neg h1] at h ⊢
        have hn : (pt l).2 ≠ 0 := fun e => h1 (.inl e)
        obtain ⟨g1, g2, g3⟩ := enc_pt l hb hn
        have hb' : ∀ x ∈ l.drop (pt l).2, x < 256 := fun x hx => hb x (List.mem_of_mem_drop hx)
        have ih := scan_sound f (l.drop (pt l).2) (pt l).1 hb' (by rw [List.length_drop]; omega) h
        refine ⟨?_, g1, fun e => h1 (.inr e), ih.2⟩
        simp only [List.flatMap_cons]
        rw [← ih.1, ← g3, List.take_append_drop]

/-- Gd points' bytes are scanned whole. -/
theorem scan_complete : ∀ f cs last, Gd last cs → (cs.flatMap enc).length < f → scan f (cs.flatMap enc) last = (cs, true)
  | 0, _, _, _, hf => by omega
  | f + 1, [], last, _, _ => by simp [scan]
  | f + 1, c :: cs, last, hg, hf => by
    obtain ⟨g1, g2, g3⟩ := hg
    have hl := enc_len c
    simp only [scan, List.flatMap_cons]
    rw [if_neg (by rw [List.length_append]; omega), pt_enc c g1]
    simp only [List.drop_left]
    simp only [List.flatMap_cons, List.length_append] at hf
    rw [if_neg (fun e => Or.elim e (fun e => by omega) g2)]
    rw [scan_complete f cs c g3 (by omega)]

/-! ### units and points -/
theorem u16_lt (r : Nat) (h : r ≤ 1114111) : ∀ x ∈ u16 r, x < 65536 := by
  unfold u16; split <;> (intro x hx; simp at hx; omega)

theorem row_cons_u16 (c : Nat) (hc : c ≤ 1114111) (t : List Nat) (h : 65536 ≤ c ∨ hi c = false ∨ ∀ b t', t = b :: t' → lo b = false) : row (u16 c ++ t) = c :: row t := by
  unfold u16
  by_cases hbig : 65536 ≤ c
  · rw [if_pos hbig]
    simp only [List.cons_append, List.nil_append, row]
    have h1 : hi (55296 + (c - 65536) / 1024) = true := by simp [hi]; omega
    have h2 : lo (56320 + (c - 65536) % 1024) = true := by simp [lo]; omega
    rw [h1, h2]
    simp; omega
  · rw [if_neg hbig]
    simp only [List.cons_append, List.nil_append]
    match t, h with
    | [], _ => simp [row]
    | b :: t', h =>
      have : (hi c && lo b) = false := by
        rcases h with h | h | h
        · omega
        · rw [h]; rfl
        · rw [h b t' rfl]; simp
      simp only [row, this]
      simp

/-- The first unit of points is low just where the first point is a low one. -/
theorem us_head (cs : List Nat) (last : Nat) (hg : Gd last cs) (hl : hi last = true) : ∀ b t', us cs = b :: t' → lo b = false := by
  intro b t' e
  match cs, hg with
  | [], _ => simp [us] at e
  | c :: cs, hg =>
    obtain ⟨g1, g2, _⟩ := hg
    have hlo : lo c = false := by
      cases h : lo c
      · rfl
      · exact absurd ⟨hl, h⟩ g2
    simp only [us, List.flatMap_cons] at e
    unfold u16 at e
    split at e
    · simp only [List.cons_append, List.cons.injEq] at e
      obtain ⟨rfl, _⟩ := e
      simp [lo]; omega
    · simp only [List.cons_append, List.cons.injEq, List.nil_append] at e
      obtain ⟨rfl, _⟩ := e
      exact hlo

/-- Gd points are the points of their units. -/
theorem row_us : ∀ cs last, Gd last cs → row (us cs) = cs
  | [], _, _ => rfl
  | c :: cs, last, hg => by
    have hg' := hg
    obtain ⟨g1, g2, g3⟩ := hg
    have e : us (c :: cs) = u16 c ++ us cs := by simp [us]
    rw [e, row_cons_u16 c g1]
    · rw [row_us cs c g3]
    · cases hc : hi c
      · exact .inr (.inl rfl)
      · exact .inr (.inr (us_head cs c g3 hc))

theorem us_row : ∀ l : List Nat, (∀ x ∈ l, x < 65536) → us (row l) = l
  | [], _ => rfl
  | [a], h => by have := h a (by simp); simp [row, us, u16]; omega
  | a :: b :: t, h => by
    have ha := h a (by simp)
    have hb := h b (by simp)
    simp only [row]
    split
    · rename_i hh
      simp only [Bool.and_eq_true, hi, lo, decide_eq_true_eq] at hh
      have ih := us_row t (fun x hx => h x (by simp [hx]))
      simp only [us, List.flatMap_cons] at ih ⊢
      rw [ih]
      unfold u16
      rw [if_pos (by omega)]
      simp; omega
    · have ih := us_row (b :: t) (fun x hx => h x (by simp only [List.mem_cons] at hx ⊢; exact .inr hx))
      simp only [us, List.flatMap_cons] at ih ⊢
      rw [ih]
      unfold u16
      rw [if_neg (by omega)]
      rfl

theorem row_head (b : Nat) (t : List Nat) : ∃ c r, row (b :: t) = c :: r ∧ (c = b ∨ (65536 ≤ c ∧ hi b = true)) := by
  match t with
  | [] => exact ⟨b, [], rfl, .inl rfl⟩
  | c :: t =>
    simp only [row]
    split
    · rename_i h
      simp only [Bool.and_eq_true] at h
      exact ⟨_, _, rfl, .inr ⟨by omega, h.1⟩⟩
    · exact ⟨_, _, rfl, .inl rfl⟩

/-- The points of a row are good. -/
theorem row_good : ∀ (l : List Nat) (last : Nat), (∀ x ∈ l, x < 65536) → (∀ b t, l = b :: t → ¬ (hi last = true ∧ lo b = true)) → Gd last (row l)
  | [], _, _, _ => trivial
  | [a], last, h, hl => by have := h a (by simp); exact ⟨by omega, hl a [] rfl, trivial⟩
  | a :: b :: t, last, h, hl => by
    have ha := h a (by simp)
    have hb := h b (by simp)
    simp only [row]
    split
    · rename_i hh
      simp only [Bool.and_eq_true, hi, lo, decide_eq_true_eq] at hh
      refine ⟨by omega, ?_, ?_⟩
      · rintro ⟨_, h2⟩; simp [lo] at h2; omega
      · refine row_good t _ (fun x hx => h x (by simp [hx])) ?_
        rintro b' t' rfl ⟨h1, _⟩
        simp [hi] at h1; omega
    · rename_i hh
      refine ⟨by omega, hl a _ rfl, ?_⟩
      refine row_good (b :: t) a (fun x hx => h x (by simp only [List.mem_cons] at hx ⊢; exact .inr hx)) ?_
      intro b' t' e
      simp only [List.cons.injEq] at e
      obtain ⟨rfl, _⟩ := e
      intro h2
      exact hh (by rw [h2.1, h2.2]; rfl)

theorem row_good0 (l : List Nat) (h : ∀ x ∈ l, x < 65536) : Gd 0 (row l) := row_good l 0 h (fun b t _ h => by simp [hi] at h)
end Go.Proofs.YtnknfffldgkgcaaGreatDoor.Utf
