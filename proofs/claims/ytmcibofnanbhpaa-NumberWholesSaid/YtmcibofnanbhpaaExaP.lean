/- Decimal digits: what the reference's limbs and digits stand for (no program in sight; the loops are those the kit's print drew). -/
import Derived.Test.YtmcibofnanbhpaaPNumberWholesx2
import Derived.Test.YtmcibofnanbhpaaPNumberWholesx3
namespace Go.Proofs.Ytmcibofnanbhpaa.Exa
open Go.RowKit Go.Proofs.YtmcibofnanbhpaaW.PrintWords Go.Proofs.Ytmcibofnanbhpaa.PNumberWholes

def val : List Int → Int
  | [] => 0
  | a :: l => a + 1000000000 * val l
def ok (l : List Int) : Prop := ∀ a ∈ l, 0 ≤ a ∧ a < 1000000000
theorem ok_snoc {l : List Int} {a : Int} (h : ok l) (h0 : 0 ≤ a) (h1 : a < 1000000000) : ok (l ++ [a]) := by
  intro b hb
  rcases List.mem_append.1 hb with hb | hb
  · exact h b hb
  · rw [List.mem_singleton.1 hb]; exact ⟨h0, h1⟩
theorem val_snoc (l : List Int) (a : Int) : val (l ++ [a]) = val l + 1000000000 ^ l.length * a := by
  induction l with
  | nil => simp [val]
  | cons b l ih =>
    rw [List.cons_append, val, val, ih, List.length_cons, Int.pow_succ, Int.mul_add, Int.add_assoc]
    congr 1
    rw [Int.mul_comm (1000000000 ^ l.length) 1000000000, Int.mul_assoc]
theorem drop_rd {l : List Int} {i : Nat} (h : i < l.length) : l.drop i = rd l i :: l.drop (i + 1) := by
  rw [List.drop_eq_getElem_cons h]
  congr 1
  simp [rd, List.getD, List.getElem?_eq_getElem h]
theorem rd_ok {l : List Int} (h : ok l) {i : Nat} (hi : i < l.length) : 0 ≤ rd l i ∧ rd l i < 1000000000 := by
  have : rd l i = l[i] := by simp [rd, List.getD, List.getElem?_eq_getElem hi]
  rw [this]; exact h _ (List.getElem_mem hi)
theorem val_nonneg {l : List Int} (h : ok l) : 0 ≤ val l := by
  induction l with
  | nil => simp [val]
  | cons a l ih =>
    have h1 := h a (by simp)
    have h2 := ih (fun b hb => h b (by simp [hb]))
    rw [val]; omega

theorem times1 (k : Nat) (out : List Int) (c : Int) (ho : ok out) (h0 : 0 ≤ c) (h1 : c < 1000000000) (hl : out.length < 1000) :
    ∃ r, cameoref02_times.l1 (k + 2) out c = some r ∧ ok r ∧ val r = val out + 1000000000 ^ out.length * c ∧ r.length ≤ out.length + 1 ∧ out.length ≤ r.length := by
  by_cases hc : c = 0
  · subst hc
    exact ⟨out, by simp [cameoref02_times.l1], ho, by simp, by omega, by omega⟩
  · have e1 : Int.tmod c 1000000000 = c := by rw [Int.tmod_eq_emod_of_nonneg h0]; omega
    have e2 : IntKind.u64.wrap (Int.tdiv c 1000000000) = 0 := by
      rw [Int.tdiv_eq_ediv_of_nonneg h0, show c / 1000000000 = 0 by omega]; rfl
    refine ⟨out ++ [c], ?_, ok_snoc ho h0 h1, val_snoc _ _, by simp, by simp⟩
    rw [cameoref02_times.l1, if_pos (by omega), if_pos (by omega), e1, e2, cameoref02_times.l1, if_neg (by omega)]
theorem u64_in {x : Int} (h : 0 ≤ x) (h2 : x < 18446744073709551616) : IntKind.u64.wrap x = x := IntWalk.u64_in x (by omega)
theorem div_bd {p b : Int} (h0 : 0 ≤ p) (h1 : p < b * 1000000000) : 0 ≤ p / 1000000000 ∧ p / 1000000000 < b := ⟨Int.ediv_nonneg h0 (by decide), Int.ediv_lt_of_lt_mul (by decide) h1⟩
theorem mod_bd (p : Int) : 0 ≤ p % 1000000000 ∧ p % 1000000000 < 1000000000 := ⟨Int.emod_nonneg _ (by decide), Int.emod_lt_of_pos _ (by decide)⟩
theorem p_bd {a b c : Int} (ha : 0 ≤ a) (ha2 : a < 1000000000) (h0 : 0 ≤ c) (h1 : c < b) (hb2 : b ≤ 1000000000) : 0 ≤ a * b ∧ a * b + c < b * 1000000000 ∧ b * 1000000000 ≤ 1000000000 * 1000000000 := by
  have p0 : 0 ≤ a * b := Int.mul_nonneg ha (by omega)
  have p1 : a * b ≤ 999999999 * b := Int.mul_le_mul_of_nonneg_right (by omega) (by omega)
  refine ⟨p0, by omega, Int.mul_le_mul_of_nonneg_right hb2 (by decide)⟩
theorem join (p q B : Int) : B * (p % 1000000000) + B * 1000000000 * (p / 1000000000 + q) = B * (p + 1000000000 * q) := by
  rw [Int.mul_assoc, ← Int.mul_add]
  congr 1
  omega
theorem times0 (l : List Int) (by_ : Int) (hl : ok l) (hb : 0 < by_) (hb2 : by_ ≤ 1000000000) (hn : l.length < 900) (k : Nat) : ∀ (n i : Nat) (out : List Int) (c : Int), i + n = l.length → out.length = i → ok out → 0 ≤ c → c < by_ →
    ∃ r, cameoref02_times.l0 (n + 3 + k) l by_ out c i = some r ∧ ok r ∧ val r = val out + 1000000000 ^ i * (c + by_ * val (l.drop i)) ∧ r.length ≤ l.length + 1 ∧ l.length ≤ r.length := by
  intro n
  induction n with
  | zero =>
    intro i out c hi ho hok h0 h1
    obtain ⟨r, h2, h3, h4, h5, h6⟩ := times1 k out c hok h0 (by omega) (by omega)
    refine ⟨r, ?_, h3, ?_, by omega, by omega⟩
    · rw [show 0 + 3 + k = (k + 2) + 1 by omega, cameoref02_times.l0, if_neg (by omega), h2]
    · rw [h4, ho, List.drop_eq_nil_of_le (by omega), val, Int.mul_zero, Int.add_zero]
  | succ n ih =>
    intro i out c hi ho hok h0 h1
    have k1 : (i : Int) < (l.length : Int) := by omega
    have k2 : (0 : Int) ≤ (i : Int) := by omega
    have k3 : out.length < 17592186044416 := by omega
    have k4 : i + 1 + n = l.length := by omega
    have k5 : i < l.length := by omega
    have w5 : wrap64 ((i : Int) + 1) = ((i + 1 : Nat) : Int) := by rw [IntWalk.wrap64_in _ (by omega)]; rfl
    obtain ⟨a0, a1⟩ := rd_ok hl k5
    obtain ⟨p0, p1, p2⟩ := p_bd a0 a1 h0 h1 hb2
    have ev := drop_rd k5
    generalize ea : rd l i = a at *
    have w1 : IntKind.u64.wrap (a * by_) = a * by_ := u64_in p0 (Int.lt_of_le_of_lt (Int.le_add_of_nonneg_right h0) (Int.lt_trans (Int.lt_of_lt_of_le p1 p2) (by decide)))
    have w2 : IntKind.u64.wrap (a * by_ + c) = a * by_ + c := u64_in (Int.add_nonneg p0 h0) (Int.lt_trans (Int.lt_of_lt_of_le p1 p2) (by decide))
    have q0 : 0 ≤ a * by_ + c := Int.add_nonneg p0 h0
    obtain ⟨d0, d1⟩ := div_bd q0 p1
    obtain ⟨m0, m1⟩ := mod_bd (a * by_ + c)
    have w3 : IntKind.u64.wrap (Int.tdiv (a * by_ + c) 1000000000) = (a * by_ + c) / 1000000000 := by
      rw [Int.tdiv_eq_ediv_of_nonneg q0]; exact u64_in d0 (Int.lt_trans (Int.lt_of_lt_of_le d1 hb2) (by decide))
    have w4 : Int.tmod (a * by_ + c) 1000000000 = (a * by_ + c) % 1000000000 := Int.tmod_eq_emod_of_nonneg q0
    obtain ⟨r, h2, h3, h4, h5, h6⟩ := ih (i + 1) (out ++ [(a * by_ + c) % 1000000000]) ((a * by_ + c) / 1000000000) k4 (by simp [ho]) (ok_snoc hok m0 m1) d0 d1
    refine ⟨r, ?_, h3, ?_, h5, h6⟩
    · rw [show n + 1 + 3 + k = (n + 3 + k) + 1 from by rw [Nat.add_right_comm n 1 3, Nat.add_right_comm (n + 3) 1 k], cameoref02_times.l0, if_pos k1, if_pos k2, if_pos k3, ea, w1, w2, w3, w4, w5, h2]
    · rw [h4, val_snoc, ho, ev, val, Int.pow_succ, Int.add_assoc]
      congr 1
      rw [join, Int.mul_add by_, Int.mul_comm by_ a, Int.mul_left_comm by_ 1000000000, Int.add_comm (a * by_) c, Int.add_assoc]
theorem times_all (l : List Int) (by_ : Int) (hl : ok l) (hb : 0 < by_) (hb2 : by_ ≤ 1000000000) (hn : l.length < 900) :
    ∃ k r, cameoref02_times.f k l by_ = some r ∧ ok r ∧ val r = by_ * val l ∧ r.length ≤ l.length + 1 ∧ l.length ≤ r.length := by
  obtain ⟨r, h1, h2, h3, h4, h5⟩ := times0 l by_ hl hb hb2 hn 0 l.length 0 [] 0 (by omega) rfl (fun a h => by simp at h) (by omega) hb
  refine ⟨_, r, h1, h2, ?_, h4, h5⟩
  rw [h3]; simp [val]

/-! digits -/
def dig (l : List Int) : Prop := ∀ i : Nat, 0 ≤ rd l i ∧ rd l i ≤ 9
/-- n digits from the i-th on, noughts beyond the last. -/
def pd (l : List Int) : Nat → Nat → Int
  | 0, _ => 0
  | n + 1, i => rd l i * 10 ^ n + pd l n (i + 1)
theorem pow10_pos (n : Nat) : 0 < (10 : Int) ^ n := Int.pow_pos (by omega)
theorem pd_bd {l : List Int} (h : dig l) (n i : Nat) : 0 ≤ pd l n i ∧ pd l n i < 10 ^ n := by
  induction n generalizing i with
  | zero => simp [pd]
  | succ n ih =>
    have h1 := ih (i + 1)
    have h2 := h i
    have p := pow10_pos n
    have a1 : 0 ≤ rd l i * 10 ^ n := Int.mul_nonneg h2.1 (by omega)
    have a2 : rd l i * 10 ^ n ≤ 9 * 10 ^ n := Int.mul_le_mul_of_nonneg_right h2.2 (by omega)
    rw [pd, Int.pow_succ]; omega
theorem pd_snoc (l : List Int) (n i : Nat) : pd l (n + 1) i = pd l n i * 10 + rd l (i + n : Nat) := by
  induction n generalizing i with
  | zero => simp [pd]
  | succ n ih =>
    rw [pd, ih (i + 1), pd, Int.pow_succ, show i + 1 + n = i + (n + 1) by omega, Int.add_mul, Int.mul_assoc, Int.add_assoc]
theorem pd_congr {l l' : List Int} {n i i' : Nat} (h : ∀ j < n, rd l (i + j : Nat) = rd l' (i' + j : Nat)) : pd l n i = pd l' n i' := by
  induction n generalizing i i' with
  | zero => rfl
  | succ n ih =>
    rw [pd, pd, ih (i := i + 1) (i' := i' + 1), show rd l i = rd l' i' from h 0 (by omega)]
    intro j hj
    have := h (j + 1) (by omega)
    rw [show i + 1 + j = i + (j + 1) by omega, show i' + 1 + j = i' + (j + 1) by omega]; exact this
theorem rd_out {l : List Int} {j : Nat} (h : l.length ≤ j) : rd l j = 0 := by simp [rd, List.getD, List.getElem?_eq_none h]
theorem rd_in {l : List Int} {j : Nat} (h : j < l.length) : rd l j = l[j] := by simp [rd, List.getD, List.getElem?_eq_getElem h]
theorem pd_pad (l : List Int) (n z i : Nat) (h : l.length ≤ i + n) : pd l (n + z) i = pd l n i * 10 ^ z := by
  induction z with
  | zero => simp
  | succ z ih =>
    rw [show n + (z + 1) = (n + z) + 1 by omega, pd_snoc, ih, rd_out (by omega), Int.pow_succ, ← Int.mul_assoc, Int.add_zero]
theorem pd_lead (l : List Int) (f n i : Nat) (h : ∀ j < f, rd l (i + j : Nat) = 0) : pd l (f + n) i = pd l n (i + f) := by
  induction f generalizing i with
  | zero => simp
  | succ f ih =>
    rw [show f + 1 + n = (f + n) + 1 by omega, pd, ih (i + 1), show rd l i = 0 from h 0 (by omega), Int.zero_mul, Int.zero_add, show i + 1 + f = i + (f + 1) by omega]
    intro j hj
    have := h (j + 1) (by omega)
    rw [show i + 1 + j = i + (j + 1) by omega]; exact this
theorem pd_zero (l : List Int) (n i : Nat) (h : ∀ j < n, rd l (i + j : Nat) = 0) : pd l n i = 0 := by
  have := pd_lead l n 0 i h
  rwa [Nat.add_zero] at this
theorem dig_snoc {l : List Int} {a : Int} (h : dig l) (h0 : 0 ≤ a) (h1 : a ≤ 9) : dig (l ++ [a]) := by
  intro i
  by_cases hi : i < l.length
  · have := h i
    rw [rd_in hi] at this
    rw [rd_in (by simp; omega), List.getElem_append_left hi]; exact this
  · by_cases hi2 : i = l.length
    · subst hi2; rw [rd_in (by simp)]; simp; omega
    · rw [rd_out (by simp; omega)]; omega
theorem pd_append (l : List Int) (a : Int) : pd (l ++ [a]) (l.length + 1) 0 = pd l l.length 0 * 10 + a := by
  rw [pd_snoc, Nat.zero_add]
  congr 1
  · congr 1
    refine pd_congr fun j hj => ?_
    rw [Nat.zero_add, rd_in hj, rd_in (by simp; omega), List.getElem_append_left hj]
  · rw [rd_in (by simp)]; simp

/-- What is left when the noughts at both ends are taken away. -/
structure Cut (l r : List Int) (f t : Nat) : Prop where
  ft : f ≤ t
  tl : t ≤ l.length
  lead : ∀ j < f, rd l j = 0
  tail : ∀ j, t ≤ j → j < l.length → rd l j = 0
  ends : f < t → rd l f ≠ 0
  eq : r = (l.take t).drop f
theorem Cut.rdc {l r : List Int} {f t : Nat} (h : Cut l r f t) (j : Nat) : rd r j = rd l (f + j : Nat) := by
  have hl : r.length = t - f := by rw [h.eq]; simp [h.tl]
  have h1 := h.tl
  by_cases hj : j < t - f
  · rw [rd_in (by omega), rd_in (by omega)]
    simp [h.eq]
  · rw [rd_out (by omega)]
    by_cases hj2 : f + j < l.length
    · exact (h.tail _ (by have := h.ft; omega) hj2).symm
    · rw [rd_out (by omega)]
theorem Cut.len {l r : List Int} {f t : Nat} (h : Cut l r f t) : r.length = t - f := by rw [h.eq]; simp [h.tl]
theorem Cut.dig {l r : List Int} {f t : Nat} (h : Cut l r f t) (hd : dig l) : dig r := fun i => by rw [h.rdc]; exact hd _
theorem Cut.pd {l r : List Int} {f t : Nat} (h : Cut l r f t) : Exa.pd r (l.length - f) 0 = Exa.pd l l.length 0 := by
  have h1 := h.ft
  have h2 := h.tl
  have e := pd_lead l f (l.length - f) 0 (fun j hj => by rw [Nat.zero_add]; exact h.lead j hj)
  rw [show f + (l.length - f) = l.length by omega] at e
  rw [e, Nat.zero_add]
  exact pd_congr fun j _ => by rw [Nat.zero_add]; exact h.rdc j

/-! the comparison -/
def sgn (x : Int) : Int := if x < 0 then -1 else if x = 0 then 0 else 1
theorem cmp_loop (d1 d2 : List Int) (P : Int) (h1 : dig d1) (h2 : dig d2) (b1 : d1.length < 100000) (b2 : d2.length < 100000) :
    ∀ (n i Q : Nat), n + i = d1.length + d2.length → d1.length + d2.length ≤ Q + i → ∃ k, cameoref02_Compare.l0 k i d1 P d2 P = some (sgn (pd d1 Q i - pd d2 Q i)) := by
  intro n
  induction n with
  | zero =>
    intro i Q hi hQ
    refine ⟨2, ?_⟩
    rw [pd_zero d1 Q i (fun j _ => rd_out (by omega)), pd_zero d2 Q i (fun j _ => rd_out (by omega))]
    rw [cameoref02_Compare.l0, if_neg (by omega), show decide ((i : Int) < d2.length) = false from decide_eq_false (by omega), cameoref02_Compare.j2]
    rfl
  | succ n ih =>
    intro i Q hi hQ
    by_cases he : (i : Int) < d1.length ∨ (i : Int) < d2.length
    · obtain ⟨Q', rfl⟩ : ∃ Q', Q = Q' + 1 := ⟨Q - 1, by omega⟩
      obtain ⟨k, hk⟩ := ih (i + 1) Q' (by omega) (by omega)
      have e0 : ∀ k, cameoref02_Compare.l0 (k + 4) i d1 P d2 P = cameoref02_Compare.j4 (k + 1) i (rd d1 i) (rd d2 i) d1 P d2 P := by
        intro k
        have ej3 : ∀ x : Int, cameoref02_Compare.j3 (k + 2) i x 0 d1 P d2 P = cameoref02_Compare.j4 (k + 1) i x (rd d2 i) d1 P d2 P := by
          intro x
          rw [cameoref02_Compare.j3]
          by_cases c : (i : Int) < d2.length
          · rw [if_pos c, if_pos (by omega)]
          · rw [if_neg c, rd_out (l := d2) (by omega)]
        have ej2 : cameoref02_Compare.j2 (k + 3) i true d1 P d2 P = cameoref02_Compare.j3 (k + 2) i (rd d1 i) 0 d1 P d2 P := by
          rw [cameoref02_Compare.j2, if_pos rfl]
          by_cases c : (i : Int) < d1.length
          · rw [if_pos c, if_pos (by omega)]
          · rw [if_neg c, rd_out (l := d1) (by omega)]
        rw [cameoref02_Compare.l0]
        by_cases c : (i : Int) < d1.length
        · rw [if_pos c, ej2, ej3]
        · rw [if_neg c, show decide ((i : Int) < d2.length) = true from decide_eq_true (by omega), ej2, ej3]
      refine ⟨k + 4, ?_⟩
      rw [e0, cameoref02_Compare.j4, pd, pd]
      have q1 := pd_bd h1 Q' (i + 1)
      have q2 := pd_bd h2 Q' (i + 1)
      have w5 : wrap64 ((i : Int) + 1) = ((i + 1 : Nat) : Int) := by rw [IntWalk.wrap64_in _ (by omega)]; omega
      by_cases c : rd d1 i = rd d2 i
      · rw [if_pos c, w5, hk, c]
        congr 2
        omega
      · rw [if_neg c]
        have p := pow10_pos Q'
        by_cases c2 : rd d1 i < rd d2 i
        · rw [if_pos c2]
          have : (rd d1 i + 1) * 10 ^ Q' ≤ rd d2 i * 10 ^ Q' := Int.mul_le_mul_of_nonneg_right (by omega) (by omega)
          rw [Int.add_mul] at this
          unfold sgn
          rw [if_pos (by omega)]
        · rw [if_neg c2]
          have : (rd d2 i + 1) * 10 ^ Q' ≤ rd d1 i * 10 ^ Q' := Int.mul_le_mul_of_nonneg_right (by omega) (by omega)
          rw [Int.add_mul] at this
          unfold sgn
          rw [if_neg (by omega), if_neg (by omega)]
    · refine ⟨2, ?_⟩
      rw [pd_zero d1 Q i (fun j _ => rd_out (by omega)), pd_zero d2 Q i (fun j _ => rd_out (by omega))]
      rw [cameoref02_Compare.l0, if_neg (by omega), show decide ((i : Int) < d2.length) = false from decide_eq_false (by omega), cameoref02_Compare.j2]
      rfl

theorem sgn_mul (a b : Int) (p : Int) (hp : 0 < p) : sgn (a * p - b * p) = sgn (a - b) := by
  rw [← Int.sub_mul]
  unfold sgn
  have h1 : (a - b) * p < 0 ↔ a - b < 0 := by
    constructor
    · intro h
      apply Int.lt_of_not_ge
      intro hc
      have := Int.mul_nonneg hc (Int.le_of_lt hp)
      omega
    · exact fun h => Int.mul_neg_of_neg_of_pos h hp
  have h2 : (a - b) * p = 0 ↔ a - b = 0 := by
    rw [Int.mul_eq_zero]; exact ⟨fun h => h.resolve_right (by omega), .inl⟩
  simp only [h1, h2]

/-- Compare of two trimmed rows: the comparison of what they stand for. The second is not nought. -/
theorem cmp_all {l1 r1 l2 r2 : List Int} {f1 t1 f2 t2 K1 K2 : Nat} (c1 : Cut l1 r1 f1 t1) (c2 : Cut l2 r2 f2 t2) (h1 : dig l1) (h2 : dig l2) (b1 : l1.length < 20000) (b2 : l2.length < 20000)
    (n1 n2 : Int) (e1 : pd l1 l1.length 0 = n1) (e2 : pd l2 l2.length 0 = n2) (z2 : 0 < n2) (p1 p2 : Int) (hp1 : f1 < t1 → p1 = (l1.length : Int) - K1 - f1) (hp2 : p2 = (l2.length : Int) - K2 - f2) :
    ∃ k, cameoref02_Compare.f k r1 p1 r2 p2 = some (sgn (n1 * 10 ^ K2 - n2 * 10 ^ K1)) := by
  have v1 := c1.pd
  have v2 := c2.pd
  rw [e1] at v1
  rw [e2] at v2
  have d1 := c1.dig h1
  have d2 := c2.dig h2
  have w1 := c1.len
  have w2 := c2.len
  have o1 := c1.ft; have o2 := c2.ft; have u1 := c1.tl; have u2 := c2.tl
  have P1 := pow10_pos K1
  have P2 := pow10_pos K2
  have ne2 : r2.length ≠ 0 := by
    intro h0
    have : n2 = 0 := by rw [← v2]; exact pd_zero _ _ _ (fun j _ => rd_out (by omega))
    omega
  by_cases z1 : r1.length = 0
  · have hn : n1 = 0 := by rw [← v1]; exact pd_zero _ _ _ (fun j _ => rd_out (by omega))
    refine ⟨1, ?_⟩
    rw [cameoref02_Compare.f, if_pos (by omega), cameoref02_Compare.j0, if_pos rfl, hn, Int.zero_mul]
    have := Int.mul_pos z2 P1
    unfold sgn
    rw [if_pos (by omega)]
    unfold mn
    rw [z1]
    congr 1
    split <;> split <;> omega
  · have lo : ∀ {l r : List Int} {f t : Nat}, Cut l r f t → Exa.dig l → r.length ≠ 0 → (10 : Int) ^ (l.length - f - 1) ≤ pd r (l.length - f) 0 := by
      intro l r f t c hd hne
      have h1 := c.ft; have h2 := c.tl; have h3 := c.len
      have h4 := c.ends (by omega)
      have h5 := c.rdc 0
      rw [Nat.add_zero] at h5
      obtain ⟨n, hn⟩ : ∃ n, l.length - f = n + 1 := ⟨l.length - f - 1, by omega⟩
      rw [hn, pd, Nat.add_sub_cancel]
      have h6 := (pd_bd (c.dig hd) n (0 + 1)).1
      have h7 := (c.dig hd) 0
      have h8 : 1 * (10 : Int) ^ n ≤ rd r (0 : Nat) * 10 ^ n := Int.mul_le_mul_of_nonneg_right (by omega) (Int.le_of_lt (pow10_pos n))
      omega
    have L1 := lo c1 h1 z1
    have L2 := lo c2 h2 ne2
    have U1 := (pd_bd d1 (l1.length - f1) 0).2
    have U2 := (pd_bd d2 (l2.length - f2) 0).2
    rw [v1] at L1 U1
    rw [v2] at L2 U2
    have hp1 := hp1 (by omega)
    have pm : ∀ a b : Nat, a ≤ b → (10 : Int) ^ a ≤ 10 ^ b := fun a b h => by have := Nat.pow_le_pow_right (show 0 < 10 by decide) h; exact_mod_cast this
    have g : ∀ {a b c d : Int} {x y u v : Nat}, a < 10 ^ x → 10 ^ y ≤ b → x + u ≤ y + v → a * 10 ^ u < b * 10 ^ v := by
      intro a b c d x y u v ha hb hx
      have s1 : a * 10 ^ u < 10 ^ x * 10 ^ u := Int.mul_lt_mul_of_pos_right ha (pow10_pos u)
      have s2 : (10 : Int) ^ y * 10 ^ v ≤ b * 10 ^ v := Int.mul_le_mul_of_nonneg_right hb (Int.le_of_lt (pow10_pos v))
      rw [← Int.pow_add] at s1 s2
      have := pm _ _ hx
      omega
    by_cases hp : p1 = p2
    · subst hp
      have hQ : (l1.length - f1) + K2 = (l2.length - f2) + K1 := by omega
      obtain ⟨k, hk⟩ := cmp_loop r1 r2 p1 d1 d2 (by omega) (by omega) (r1.length + r2.length) 0 ((l1.length - f1) + K2 + (r1.length + r2.length)) (by omega) (by omega)
      refine ⟨k + 1, ?_⟩
      rw [cameoref02_Compare.f, if_neg (by omega), show ((r2.length : Int) == 0) = false by rw [beq_eq_false_iff_ne]; omega, cameoref02_Compare.j0, if_neg (by simp), if_pos rfl]
      rw [show ((0 : Nat) : Int) = 0 from rfl] at hk
      rw [hk, pd_pad r1 (l1.length - f1 + K2) _ 0 (by omega), pd_pad r1 (l1.length - f1) K2 0 (by omega), hQ, pd_pad r2 (l2.length - f2 + K1) _ 0 (by omega), pd_pad r2 (l2.length - f2) K1 0 (by omega), v1, v2, sgn_mul _ _ _ (pow10_pos _)]
    · refine ⟨1, ?_⟩
      rw [cameoref02_Compare.f, if_neg (by omega), show ((r2.length : Int) == 0) = false by rw [beq_eq_false_iff_ne]; omega, cameoref02_Compare.j0, if_neg (by simp), if_neg hp]
      by_cases hlt : p1 < p2
      · rw [if_pos hlt]
        have := @g n1 n2 0 0 _ _ K2 K1 U1 L2 (by omega)
        unfold sgn
        rw [if_pos (by omega)]
      · rw [if_neg hlt]
        have := @g n2 n1 0 0 _ _ K1 K2 U2 L1 (by omega)
        unfold sgn
        rw [if_neg (by omega), if_neg (by omega)]
end Go.Proofs.Ytmcibofnanbhpaa.Exa
