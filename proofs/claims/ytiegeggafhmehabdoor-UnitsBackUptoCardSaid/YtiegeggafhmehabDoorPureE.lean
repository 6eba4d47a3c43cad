/- Plain: the law UnitsBack. -/
import Derived.Test.YtiegeggafhmehabDoorPureAw
import Derived.Test.YtiegeggafhmehabDoorPureD
import Derived.Test.YtiegeggafhmehabDoorVx7
namespace Go.Proofs.YtiegeggafhmehabDoor.PR
open Go.RowKit Go.Proofs.YtiegeggafhmehabDoorW.PrintWords Go.Proofs.YtiegeggafhmehabDoor.V Go.Proofs.YtiegeggafhmehabDoor.Utf

/-- The code points that a text of Go is read as. -/
def ftc : Nat → List Nat → List Nat
  | 0, _ => []
  | f + 1, l => if l.length = 0 then [] else (dec l).1 :: ftc f (l.drop (dec l).2)
theorem ftl_ftc : ∀ f l, ftl f l = (ftc f l).flatMap enc
  | 0, _ => rfl
  | f + 1, l => by
    simp only [ftl, ftc]
    split
    · rfl
    · rw [List.flatMap_cons, ftl_ftc f]
theorem ftc_good : ∀ f l, (∀ x ∈ l, x < 256) → ∀ c ∈ ftc f l, c ≤ 1114111 ∧ sur c = false
  | 0, _, _, c, hc => by simp [ftc] at hc
  | f + 1, l, hb, c, hc => by
    simp only [ftc] at hc
    split at hc
    · simp at hc
    · rcases List.mem_cons.1 hc with e | e
      · subst e
        have := dec_le l hb
        exact ⟨this.1, this.2.1⟩
      · exact ftc_good f _ (fun x hx => hb x (List.mem_of_mem_drop hx)) c e
theorem ftc_len : ∀ f l, (∀ x ∈ l, x < 256) → (ftc f l).length ≤ l.length
  | 0, _, _ => by simp [ftc]
  | f + 1, l, hb => by
    simp only [ftc]
    split
    · simp
    · have h1 := ftc_len f (l.drop (dec l).2) (fun x hx => hb x (List.mem_of_mem_drop hx))
      have h2 := dec_le l hb
      rw [List.length_drop] at h1
      simp only [List.length_cons]
      omega
theorem Gd_ns : ∀ (cs : List Nat) (last : Nat), (∀ c ∈ cs, c ≤ 1114111 ∧ sur c = false) → Gd last cs
  | [], _, _ => trivial
  | c :: cs, last, h => by
    have h1 := h c (by simp)
    refine ⟨h1.1, ?_, Gd_ns cs c (fun x hx => h x (by simp [hx]))⟩
    rintro ⟨_, e⟩
    have : sur c = true := by unfold sur; rw [e]; simp
    rw [h1.2] at this; cases this
theorem fx_ns (c : Nat) (h : sur c = false) : fx c = c := by unfold fx; rw [h]; rfl
theorem fx_good (c : Nat) (h : c ≤ 1114111) : fx c ≤ 1114111 ∧ sur (fx c) = false := by
  refine ⟨fx_le c h, ?_⟩
  unfold fx
  by_cases hs : sur c = true
  · rw [if_pos hs]; decide
  · rw [if_neg hs]; simpa using hs
theorem flat_fx (cs : List Nat) : (cs.flatMap fun c => enc (fx c)) = (cs.map fx).flatMap enc := by
  induction cs with
  | nil => rfl
  | cons c cs ih => simp only [List.flatMap_cons, List.map_cons, ih]
theorem map_fx (cs : List Nat) (h : ∀ c ∈ cs, sur c = false) : cs.map fx = cs := by
  conv => rhs; rw [← List.map_id cs]
  apply List.map_congr_left
  intro c hc
  exact fx_ns c (h c hc)
theorem ftl_enc : ∀ (cs : List Nat) (f : Nat), (∀ c ∈ cs, c ≤ 1114111 ∧ sur c = false) → (cs.flatMap enc).length ≤ f → ftl f (cs.flatMap enc) = cs.flatMap enc
  | [], f, _, _ => by cases f <;> rfl
  | c :: cs, f, h, hf => by
    have hl := enc_len c
    have h1 := h c (by simp)
    simp only [List.flatMap_cons, List.length_append] at hf ⊢
    obtain ⟨f, rfl⟩ : ∃ m, f = m + 1 := ⟨f - 1, by omega⟩
    simp only [ftl]
    rw [if_neg (by rw [List.length_append]; omega), dec_enc c h1.1, if_neg (by rw [h1.2]; decide)]
    simp only [List.drop_left]
    rw [ftl_enc cs f (fun x hx => h x (by simp [hx])) (by omega)]

/-- What FromText gives is a string without a surrogate alone. -/
theorem from_good (s U : ByteArray) (h : by_ U = ftl s.size (by_ s)) : val (by_ U) = true ∧ (∀ c ∈ pts (by_ U), c ≤ 1114111 ∧ sur c = false) ∧ U.size ≤ 4 * s.size := by
  have g := ftc_good s.size (by_ s) (by_lt s)
  rw [ftl_ftc] at h
  obtain ⟨v1, v2⟩ := val_of U _ (Gd_ns _ 0 g) h
  refine ⟨v1, by rw [v2]; exact g, ?_⟩
  have h1 := enc_all (ftc s.size (by_ s))
  have h2 := ftc_len s.size (by_ s) (by_lt s)
  rw [← h, by_length] at h1
  rw [by_length] at h2
  omega
theorem all_ns (cs : List Nat) (h : ∀ c ∈ cs, sur c = false) : (cs.all fun c => !sur c) = true := by
  rw [List.all_eq_true]
  intro c hc
  rw [h c hc]; rfl

theorem text_well (t : ByteArray) (hv : val (by_ t) = true) : by_ (⟨(Pt.txt (Pt.all t).1).toArray⟩ : ByteArray) = by_ t ↔ ((pts (by_ t)).all fun c => !sur c) = true := by
  rw [txtR, flat_fx]
  have hp := pts_le t hv
  have ht := val_true t hv
  constructor
  · intro h
    have g : ∀ c ∈ (pts (by_ t)).map fx, c ≤ 1114111 ∧ sur c = false := by
      intro c hc
      obtain ⟨d, hd, rfl⟩ := List.mem_map.1 hc
      exact fx_good d (hp.2.2.2.1 d hd)
    have := (val_of t _ (Gd_ns _ 0 g) h.symm).2
    apply all_ns
    intro c hc
    rw [this] at hc
    exact (g c hc).2
  · intro h
    rw [List.all_eq_true] at h
    rw [map_fx _ (fun c hc => by have := h c hc; simpa using this)]
    exact ht.1.symm

theorem back_j1 (s t : ByteArray) (hs : s.size ≤ 1048576) (ht : t.size ≤ 1099511627776) (hv : val (by_ t) = true) (k : Nat) : ∀ b, b = false → cameolaw01_UnitsBack.j1 (k + 1) s t b = some true := by
  intro b hb
  subst hb
  obtain ⟨U, _, h1, _, _, h4⟩ := FromText_eq s (by omega) (20 * s.size + 300) (by omega)
  obtain ⟨u1, u2, u3⟩ := from_good s U h4
  obtain ⟨U2, _, g1, _, _, g4⟩ := FromText_eq U (by omega) (20 * U.size + 300) (by omega)
  have uv := val_true U u1
  have e2 : by_ U2 = by_ U := by
    rw [g4, uv.1]
    exact ftl_enc _ _ u2 (by rw [← uv.1, by_length]; omega)
  have w1 : units_Well.f U = some (true, 0) := by rw [pWell U (by omega), if_pos u1, all_ns _ (fun c hc => (u2 c hc).2)]
  have x1 : units_Text.f U = some (⟨(Pt.txt (Pt.all U).1).toArray⟩, 0) := by rw [pText U (by omega), if_pos u1]
  have y1 : (⟨(Pt.txt (Pt.all U).1).toArray⟩ : ByteArray).toList = U.toList := by
    rw [toList_by, text_well U u1]; exact all_ns _ (fun c hc => (u2 c hc).2)
  have w2 : units_Well.f t = some (((pts (by_ t)).all fun c => !sur c), 0) := by rw [pWell t (by omega), if_pos hv]
  have x2 : units_Text.f t = some (⟨(Pt.txt (Pt.all t).1).toArray⟩, 0) := by rw [pText t (by omega), if_pos hv]
  have y2 : (((⟨(Pt.txt (Pt.all t).1).toArray⟩ : ByteArray).toList == t.toList) == ((pts (by_ t)).all fun c => !sur c)) = true := by
    have hw := text_well t hv
    rw [← toList_by] at hw
    rw [beq_iff_eq]
    cases hq : ((pts (by_ t)).all fun c => !sur c) with
    | true => rw [beq_iff_eq]; exact hw.2 hq
    | false =>
      rw [beq_eq_false_iff_ne]
      intro e
      rw [hw.1 e] at hq
      cases hq
  simp only [cameolaw01_UnitsBack.j1]
  rw [if_neg (by decide), h1, Option.bind_some, w1, Option.bind_some, x1, Option.bind_some, x2, Option.bind_some, w2, Option.bind_some]
  dsimp only
  rw [if_pos rfl, if_pos rfl, if_pos rfl, if_pos rfl, if_pos rfl, if_pos y1, if_pos y2, g1, Option.bind_some]
  congr 1
  rw [beq_iff_eq, toList_by]
  exact e2

theorem back_j0 (s t : ByteArray) (hs : s.size ≤ 1048576) (ht : t.size ≤ 1099511627776) (hv : val (by_ t) = true) (k : Nat) (hk : 2 * s.size + 4 ≤ k) : ∀ b, b = false → cameolaw01_UnitsBack.j0 (k + 1) s t b = some true := by
  intro b hb
  subst hb
  obtain ⟨k, rfl⟩ : ∃ m, k = m + 1 := ⟨k - 1, by omega⟩
  have key := back_j1 s t hs ht hv k
  simp only [cameolaw01_UnitsBack.j0]
  rw [if_neg (by decide), pUnits_eq s (by omega), Option.bind_some, pValid_eq s (by omega), Option.bind_some]
  cases hvs : val (by_ s) with
  | true =>
    have hp := pts_le s hvs
    rw [if_pos rfl]
    dsimp only
    rw [if_neg (by decide), if_pos rfl, pOf_eq _ (k + 1) (by omega) (by omega) hp.2.2.1, Option.bind_some, ofS_us s hvs]
    exact key _ (by simp)
  | false =>
    have e : (if (false = true) then (cI (us (pts (by_ s))), (0 : Int)) else ([], 10)) = ([], 10) := rfl
    rw [e]
    dsimp only
    rw [if_neg (by decide), if_neg (by decide)]
    exact key _ rfl

theorem cI_of (l : List Int) (hx : ∀ x ∈ l, 0 ≤ x ∧ x < 65536) : ∃ m : List Nat, l = cI m ∧ m.length = l.length ∧ ∀ x ∈ m, x < 65536 := by
  refine ⟨l.map Int.toNat, ?_, by simp, ?_⟩
  · unfold cI
    rw [List.map_map]
    conv => lhs; rw [← List.map_id l]
    apply List.map_congr_left
    intro x h
    have := hx x h
    simp only [id, Function.comp]
    omega
  · intro x h
    obtain ⟨y, hy, rfl⟩ := List.mem_map.1 h
    have := hx y hy
    omega

/-- The law UnitsBack. -/
theorem back (l : List Int) (a : ByteArray) (hl : l.length ≤ 1048576) (hx : ∀ x ∈ l, (Lit.int .u16 x).wf = true) (ha : a.size ≤ 1048576) : ∃ k, cameolaw01_UnitsBack.f k l a = some true := by
  have hx' : ∀ x ∈ l, 0 ≤ x ∧ x < 65536 := by
    intro x h
    have := hx x h
    simp [Lit.wf, IntKind.min, IntKind.max, IntKind.bits, IntKind.signed] at this
    omega
  obtain ⟨m, rfl, hm, hm2⟩ := cI_of l hx'
  refine ⟨2 * a.size + 4 * 1048576 + 1, ?_⟩
  generalize hK : 2 * a.size + 4 * 1048576 = K
  have hlen : (cI m).length = m.length := cI_length m
  unfold cameolaw01_UnitsBack.f
  rw [awake (K + 1) (by omega), Option.bind_some, if_pos rfl]
  by_cases hbig : ((cI m).length : Int) > 262144
  · rw [if_pos hbig]
  · rw [if_neg hbig]
    obtain ⟨r1, r2⟩ := round m hm2
    have hsz := ofS_size m hm2
    rw [pOf_eq m (K + 1) (by omega) (by omega) hm2, Option.bind_some, pUnits_eq _ (by omega), if_pos r1, r2, Option.bind_some, pValid_eq _ (by omega), r1, Option.bind_some, if_pos rfl]
    dsimp only
    rw [if_pos rfl, Same_eq (cI m) (cI m) (by omega) (K + 1) (by omega), Option.bind_some]
    exact back_j0 a (ofS m) ha (by omega) r1 K (by omega) _ (by simp)
end Go.Proofs.YtiegeggafhmehabDoor.PR
