/- Plain: the reference's reading of bytes, in lists. -/
import Derived.Test.YtgnifckehopjhaaDoorPureR
namespace Go.Proofs.YtgnifckehopjhaaDoor.PR
open Go.RowKit Go.Proofs.YtgnifckehopjhaaDoorW.PrintWords Go.Proofs.YtgnifckehopjhaaDoor.U Go.Proofs.YtgnifckehopjhaaDoor.Utf

def tlv : Nat → List Nat → Nat → Option Nat
  | 0, _, c => some c
  | _ + 1, [], _ => none
  | n + 1, b :: t, c => if b < 128 then none else if 191 < b then none else tlv n t (64 * c + b - 128)
def rbase (b : Nat) : Option (Nat × Nat) :=
  if b < 128 then some (0, b) else if b < 192 then none else if b < 224 then some (1, b - 192) else if b < 240 then some (2, b - 224) else if b < 248 then some (3, b - 240) else none
def rstep : List Nat → Option (Nat × Nat)
  | [] => none
  | b :: t => (rbase b).bind fun nb => (tlv nb.1 t 0).bind fun c => if 1114111 < c + nb.2 * 64 ^ nb.1 then none else some (c + nb.2 * 64 ^ nb.1, nb.1 + 1)

def neg1 : Option Nat → Int
  | none => -1
  | some v => (v : Int)

theorem tlv_lt : ∀ n t c v j, tlv n t c = some v → c < 64 ^ j → v < 64 ^ (j + n)
  | 0, _, c, v, j, h, hc => by simp only [tlv, Option.some.injEq] at h; subst h; exact hc
  | n + 1, [], c, v, j, h, _ => by simp [tlv] at h
  | n + 1, b :: t, c, v, j, h, hc => by
    simp only [tlv] at h
    split at h
    · cases h
    · split at h
      · cases h
      · have := tlv_lt n t _ v (j + 1) h (by rw [Nat.pow_succ]; omega)
        have e : j + 1 + n = j + (n + 1) := by omega
        rwa [e] at this
theorem tlv_len : ∀ n t c v, tlv n t c = some v → n ≤ t.length
  | 0, _, _, _, _ => by omega
  | n + 1, [], _, _, h => by simp [tlv] at h
  | n + 1, b :: t, c, v, h => by
    simp only [tlv] at h
    split at h
    · cases h
    · split at h
      · cases h
      · have := tlv_len n t _ v h
        simp only [List.length_cons]; omega

theorem p64 (j : Nat) (h : j ≤ 3) : 64 ^ j ≤ 262144 := by
  match j, h with
  | 0, _ => decide
  | 1, _ => decide
  | 2, _ => decide
  | 3, _ => decide

theorem wr_tail (c b : Nat) (hc : c ≤ 262144) (h1 : ¬ b < 128) (h2 : b < 256) : wrap64 ((wrap64 ((wrap64 (64 * (c : Int))) + (wrap64 (b : Int)))) - 128) = ((64 * c + b - 128 : Nat) : Int) := by
  rw [w64 (x := 64 * (c : Int)) (by omega) (by omega), w64 (x := (b : Int)) (by omega) (by omega), w64 (x := 64 * (c : Int) + (b : Int)) (by omega) (by omega), w64 (by omega) (by omega)]
  omega
theorem wr_succ (j : Nat) (hj : j ≤ 4398046511104) : wrap64 ((j : Int) + 1) = ((j + 1 : Nat) : Int) := by rw [w64 (by omega) (by omega)]; omega

theorem tail_l0 (s : ByteArray) (a n : Nat) (hs : s.size ≤ 4398046511104) (ha : a ≤ s.size) (hn : n ≤ 3) : ∀ (d j c k : Nat), j + d = n → d < k → c < 64 ^ j →
    cameoref01_tail.l0 k s (a : Int) (n : Int) (c : Int) (j : Int) = some (neg1 (tlv d ((by_ s).drop (a + j)) c))
  | 0, j, c, k, h1, h2, _ => by
    obtain ⟨k, rfl⟩ : ∃ m, k = m + 1 := ⟨k - 1, by omega⟩
    simp only [cameoref01_tail.l0, tlv, neg1]
    rw [if_neg (by omega)]
  | d + 1, j, c, k, h1, h2, hc => by
    obtain ⟨k, rfl⟩ : ∃ m, k = m + 1 := ⟨k - 1, by omega⟩
    have hp := p64 j (by omega)
    simp only [cameoref01_tail.l0]
    rw [if_pos (by omega), w64 (show _ ≤ (a : Int) + (j : Int) by omega) (by omega)]
    by_cases hl : s.size ≤ a + j
    · rw [if_pos (by omega)]
      have : (by_ s).drop (a + j) = [] := List.drop_eq_nil_of_le (by rw [by_length]; exact hl)
      rw [this]; rfl
    · rw [if_neg (by omega), if_pos (by omega), if_pos (by omega)]
      obtain ⟨b, t, hb⟩ : ∃ b t, (by_ s).drop (a + j) = b :: t := by
        cases h : (by_ s).drop (a + j) with
        | nil => have := congrArg List.length h; rw [List.length_drop, by_length] at this; simp at this; omega
        | cons b t => exact ⟨b, t, rfl⟩
      have hlt : b < 256 := by_lt s b (List.mem_of_mem_drop (by rw [hb]; simp))
      have ht : (by_ s).drop (a + (j + 1)) = t := by
        have := congrArg (List.drop 1) hb
        simpa [List.drop_drop, Nat.add_assoc, Nat.add_comm] using this
      have e : ((a : Int) + (j : Int)) = ((a + j : Nat) : Int) := by omega
      rw [e, bt_mid s (a + j) b t hb, hb]
      simp only [tlv]
      by_cases g1 : b < 128
      · rw [if_pos (by omega), if_pos g1]; rfl
      · rw [if_neg (by omega), if_neg g1]
        by_cases g2 : 191 < b
        · rw [if_pos (by omega), if_pos g2]; rfl
        · rw [if_neg (by omega), if_neg g2]
          have v := wr_tail c b (by omega) g1 hlt
          have v2 := wr_succ j (by omega)
          rw [v, v2, tail_l0 s a n hs ha hn d (j + 1) (64 * c + b - 128) k (by omega) (by omega) (by rw [Nat.pow_succ]; omega), ht]

theorem tail_eq (s : ByteArray) (a n k : Nat) (hs : s.size ≤ 4398046511104) (ha : a ≤ s.size) (hn : n ≤ 3) (hk : 4 ≤ k) : cameoref01_tail.f k s (a : Int) (n : Int) = some (neg1 (tlv n ((by_ s).drop a) 0)) := by
  unfold cameoref01_tail.f
  have := tail_l0 s a n hs ha hn n 0 0 k (by omega) (by omega) (by simp)
  simpa using this

theorem w16 (n : Int) : IntKind.u16.wrap n = n % 65536 := by simp [IntKind.wrap, IntKind.bits, IntKind.signed]

theorem u16a (q : Nat) (h : q < 1024) : IntKind.u16.wrap (wrap64 (55296 + (wrap64 (q : Int)))) = ((55296 + q : Nat) : Int) := by
  rw [w16, w64 (x := (q : Int)) (by omega) (by omega), w64 (by omega) (by omega)]; omega
theorem u16b (q : Nat) (h : q < 1024) : IntKind.u16.wrap (wrap64 (56320 + (q : Int))) = ((56320 + q : Nat) : Int) := by
  rw [w16, w64 (by omega) (by omega)]; omega

/-- What is done behind a code point that has been read. -/
def after (s : ByteArray) (acc : List Int) (i c n k : Nat) : Option (List Int × Bool) :=
  if 1114111 < c then some ([], false) else cameoref01_read.l0 k s (acc ++ cI (u16 c)) ((i + n : Nat) : Int)

theorem read_l1 (s : ByteArray) (acc : List Int) (i n c : Nat) (hi : i ≤ 4398046511104) (hn : n ≤ 3) (hacc : acc.length ≤ 35184372088832) (hc : c < 262144) (k : Nat) : ∀ (d j b : Nat), j + d = n → b * 64 ^ d < 2147483648 →
    cameoref01_read.l1 (k + 1 + d) s acc (i : Int) (n : Int) (b : Int) (c : Int) (j : Int) = after s acc i (c + b * 64 ^ d) (n + 1) k
  | 0, j, b, hj, hb => by
    simp only [Nat.pow_zero, Nat.mul_one] at hb ⊢
    simp only [cameoref01_read.l1, after]
    rw [if_neg (by omega), w64 (show _ ≤ (c : Int) + (b : Int) by omega) (by omega)]
    by_cases g : 1114111 < c + b
    · rw [if_pos (by omega), if_pos g]
    · rw [if_neg (by omega), if_neg g]
      have e : wrap64 ((i : Int) + (wrap64 (1 + (n : Int)))) = ((i + (n + 1) : Nat) : Int) := by unfold wrap64; omega
      rw [e]
      unfold u16
      by_cases g2 : 65536 ≤ c + b
      · rw [if_pos (by omega), if_pos g2]
        have e0 : wrap64 ((c : Int) + (b : Int) - 65536) = ((c + b - 65536 : Nat) : Int) := by unfold wrap64; omega
        have e1 : Int.tdiv ((c + b - 65536 : Nat) : Int) 1024 = (((c + b - 65536) / 1024 : Nat) : Int) := td _ 1024
        have e2 : Int.tmod ((c + b - 65536 : Nat) : Int) 1024 = (((c + b - 65536) % 1024 : Nat) : Int) := tm _ 1024
        rw [e0, e1, e2]
        have e3 : IntKind.u16.wrap (wrap64 (55296 + (wrap64 (((c + b - 65536) / 1024 : Nat) : Int)))) = ((55296 + (c + b - 65536) / 1024 : Nat) : Int) := u16a _ (by omega)
        have e4 : IntKind.u16.wrap (wrap64 (56320 + (((c + b - 65536) % 1024 : Nat) : Int))) = ((56320 + (c + b - 65536) % 1024 : Nat) : Int) := u16b _ (by omega)
        rw [e3, e4]
        simp only [Option.bind_some, List.length_cons, List.length_nil]
        rw [if_pos (by omega)]
        simp only [cI, List.map_cons, List.map_nil]
      · rw [if_neg (by omega), if_neg g2, if_pos (by omega)]
        have e3 : IntKind.u16.wrap ((c : Int) + (b : Int)) = ((c + b : Nat) : Int) := by rw [w16]; omega
        rw [e3]
        simp only [cI, List.map_cons, List.map_nil]
  | d + 1, j, b, hj, hb => by
    have hp : 1 ≤ 64 ^ d := Nat.pos_of_ne_zero (by simp)
    have hb' : b * 64 * 64 ^ d < 2147483648 := by rw [Nat.mul_assoc, Nat.mul_comm 64, ← Nat.pow_succ]; exact hb
    have hb2 : b * 64 < 2147483648 := Nat.lt_of_le_of_lt (Nat.le_mul_of_pos_right _ hp) hb'
    have e : k + 1 + (d + 1) = (k + 1 + d) + 1 := by omega
    rw [e]
    simp only [cameoref01_read.l1]
    have v1 : wrap64 ((b : Int) * 64) = ((b * 64 : Nat) : Int) := by unfold wrap64; omega
    have v2 : wrap64 ((j : Int) + 1) = ((j + 1 : Nat) : Int) := by unfold wrap64; omega
    rw [if_pos (by omega), v1, v2, read_l1 s acc i n c hi hn hacc hc k d (j + 1) (b * 64) (by omega) hb']
    rw [Nat.mul_assoc, Nat.mul_comm 64, ← Nat.pow_succ]

theorem read_j3 (s : ByteArray) (acc : List Int) (i n b k : Nat) (hs : s.size ≤ 4398046511104) (hi : i < s.size) (hn : n ≤ 3) (hacc : acc.length ≤ 35184372088832) (hb : b * 64 ^ n < 2147483648) (hk : 4 ≤ k) :
    cameoref01_read.j3 (k + 1 + n + 1) s acc (i : Int) (n : Int) (b : Int) = match tlv n ((by_ s).drop (i + 1)) 0 with
      | none => some ([], false)
      | some c => after s acc i (c + b * 64 ^ n) (n + 1) k := by
  simp only [cameoref01_read.j3]
  rw [wr_succ i (by omega), tail_eq s (i + 1) n _ hs (by omega) hn (by omega)]
  simp only [Option.bind_some]
  cases ht : tlv n ((by_ s).drop (i + 1)) 0 with
  | none => rw [if_pos (show neg1 none < 0 by decide)]
  | some c =>
    have hc : c < 262144 := by
      have := tlv_lt n _ 0 c 0 ht (by simp)
      have h2 := p64 (0 + n) (by omega)
      omega
    have e : neg1 (some c) = (c : Int) := rfl
    rw [e, if_neg (by omega)]
    exact read_l1 s acc i n c (by omega) hn hacc hc k n 0 b (by omega) hb

/-- One code point read. -/
def Step (s : ByteArray) (acc : List Int) (i K : Nat) (r : Option (List Int × Bool)) : Prop :=
  match rstep ((by_ s).drop i) with
  | none => r = some ([], false)
  | some cn => ∃ k', K ≤ k' + 9 ∧ r = cameoref01_read.l0 k' s (acc ++ cI (u16 cn.1)) ((i + cn.2 : Nat) : Int)

theorem step_of_j3 (s : ByteArray) (acc : List Int) (i n b K K' x : Nat) (t : List Nat) (hx : (by_ s).drop i = x :: t) (hr : rbase x = some (n, b)) (hs : s.size ≤ 4398046511104) (hi : i < s.size) (hn : n ≤ 3) (hacc : acc.length ≤ 35184372088832)
    (hb : b * 64 ^ n < 2147483648) (hK : 20 ≤ K) (hK' : K ≤ K' + 3) : Step s acc i K (cameoref01_read.j3 K' s acc (i : Int) (n : Int) (b : Int)) := by
  obtain ⟨k, rfl⟩ : ∃ m, K' = m + 1 + n + 1 := ⟨K' - n - 2, by omega⟩
  have ht : (by_ s).drop (i + 1) = t := by
    have := congrArg (List.drop 1) hx
    simpa [List.drop_drop, Nat.add_comm] using this
  unfold Step
  by_cases hk : 4 ≤ k
  · rw [read_j3 s acc i n b k hs hi hn hacc hb hk, ht, hx]
    simp only [rstep, hr, Option.bind_some]
    cases h : tlv n t 0 with
    | none => rfl
    | some c =>
      simp only [Option.bind_some, after]
      by_cases g : 1114111 < c + b * 64 ^ n
      · rw [if_pos g, if_pos g]
      · rw [if_neg g, if_neg g]
        exact ⟨k, by omega, rfl⟩
  · omega

theorem read_step (s : ByteArray) (acc : List Int) (i K : Nat) (hs : s.size ≤ 4398046511104) (hi : i < s.size) (hacc : acc.length ≤ 35184372088832) (hK : 20 ≤ K) : Step s acc i K (cameoref01_read.l0 K s acc (i : Int)) := by
  obtain ⟨k, rfl⟩ : ∃ m, K = m + 4 := ⟨K - 4, by omega⟩
  obtain ⟨x, t, hx⟩ : ∃ x t, (by_ s).drop i = x :: t := by
    cases h : (by_ s).drop i with
    | nil => have := congrArg List.length h; rw [List.length_drop, by_length] at this; simp at this; omega
    | cons b t => exact ⟨b, t, rfl⟩
  have hlt : x < 256 := by_lt s x (List.mem_of_mem_drop (by rw [hx]; simp))
  have hw : wrap64 (bt s (i : Int)) = (x : Int) := by rw [bt_mid s i x t hx, w64 (by omega) (by omega)]
  have hnone : rbase x = none → Step s acc i (k + 4) (some ([], false)) := by
    intro h
    unfold Step
    rw [hx]
    simp only [rstep, h, Option.bind_none]
  simp only [cameoref01_read.l0]
  rw [if_pos (by omega), if_pos (by omega), hw]
  by_cases h1 : x < 128
  · rw [if_pos (by omega)]
    exact step_of_j3 s acc i 0 x _ _ x t hx (by simp [rbase, h1]) hs hi (by omega) hacc (by simp; omega) (by omega) (by omega)
  · rw [if_neg (by omega)]
    have hj : Step s acc i (k + 4) (cameoref01_read.j1 (k + 3) s acc (i : Int) (x : Int) (decide (192 ≤ x ∧ x < 224))) := by
      simp only [cameoref01_read.j1]
      by_cases h2 : 192 ≤ x ∧ x < 224
      · rw [if_pos (by simpa using h2)]
        have e : wrap64 ((x : Int) - 192) = ((x - 192 : Nat) : Int) := by rw [w64 (by omega) (by omega)]; omega
        rw [e]
        exact step_of_j3 s acc i 1 (x - 192) _ _ x t hx (by unfold rbase; rw [if_neg h1, if_neg (by omega), if_pos (by omega)]) hs hi (by omega) hacc (by simp; omega) (by omega) (by omega)
      · rw [if_neg (by simpa using h2)]
        have hj2 : Step s acc i (k + 4) (cameoref01_read.j2 (k + 2) s acc (i : Int) (x : Int) (decide (224 ≤ x ∧ x < 240))) := by
          simp only [cameoref01_read.j2]
          by_cases h3 : 224 ≤ x ∧ x < 240
          · rw [if_pos (by simpa using h3)]
            have e : wrap64 ((x : Int) - 224) = ((x - 224 : Nat) : Int) := by rw [w64 (by omega) (by omega)]; omega
            rw [e]
            exact step_of_j3 s acc i 2 (x - 224) _ _ x t hx (by unfold rbase; rw [if_neg h1, if_neg (by omega), if_neg (by omega), if_pos (by omega)]) hs hi (by omega) hacc (by simp; omega) (by omega) (by omega)
          · rw [if_neg (by simpa using h3)]
            by_cases h4 : 240 ≤ x
            · rw [if_pos (by omega)]
              by_cases h5 : x < 248
              · rw [if_pos (by omega)]
                have e : wrap64 ((x : Int) - 240) = ((x - 240 : Nat) : Int) := by rw [w64 (by omega) (by omega)]; omega
                rw [e]
                exact step_of_j3 s acc i 3 (x - 240) _ _ x t hx (by unfold rbase; rw [if_neg h1, if_neg (by omega), if_neg (by omega), if_neg (by omega), if_pos (by omega)]) hs hi (by omega) hacc (by simp; omega) (by omega) (by omega)
              · rw [if_neg (by omega)]
                exact hnone (by unfold rbase; rw [if_neg h1, if_neg (by omega), if_neg (by omega), if_neg (by omega), if_neg (by omega)])
            · rw [if_neg (by omega)]
              exact hnone (by unfold rbase; rw [if_neg h1, if_pos (by omega)])
        by_cases h6 : 224 ≤ x
        · rw [if_pos (by omega)]
          have : decide ((x : Int) < 240) = decide (224 ≤ x ∧ x < 240) := decide_eq_decide.2 (by omega)
          rw [this]; exact hj2
        · rw [if_neg (by omega)]
          have : false = decide (224 ≤ x ∧ x < 240) := (decide_eq_false (by omega)).symm
          rw [this]; exact hj2
    by_cases h7 : 192 ≤ x
    · rw [if_pos (by omega)]
      have : decide ((x : Int) < 224) = decide (192 ≤ x ∧ x < 224) := decide_eq_decide.2 (by omega)
      rw [this]; exact hj
    · rw [if_neg (by omega)]
      have : false = decide (192 ≤ x ∧ x < 224) := (decide_eq_false (by omega)).symm
      rw [this]; exact hj
end Go.Proofs.YtgnifckehopjhaaDoor.PR
