/- Plain: how the program reads code points off bytes (utf8's decoder, and the surrogates besides), and a text's points one by one. -/
import Derived.Test.YtgnifckehopjhaaDoorTabs
import Derived.Test.YtgnifckehopjhaaDoorUax1
import Derived.Laws.BitsLemmas
namespace Go.Proofs.YtgnifckehopjhaaDoor.Pt
open Go.RowKit Go.Proofs.YtgnifckehopjhaaDoorW.PrintWords

def hi (r : Nat) : Bool := decide (55296 ≤ r) && decide (r < 56320)
def lo (r : Nat) : Bool := decide (56320 ≤ r) && decide (r < 57344)

/-- The code point at the front of n bytes that begin b0 b1 b2 b3, and how many bytes it has; 0: none. -/
def ptN (n b0 b1 b2 b3 : Nat) : Nat × Nat :=
  if n = 0 then (0, 0)
  else if b0 < 128 then (b0, 1)
  else if b0 / 32 = 6 ∧ 1 < n ∧ b1 / 64 = 2 ∧ 128 ≤ b0 % 32 * 64 + b1 % 64 then (b0 % 32 * 64 + b1 % 64, 2)
  else if b0 / 16 = 14 ∧ 2 < n ∧ b1 / 64 = 2 ∧ b2 / 64 = 2 ∧ 2048 ≤ b0 % 16 * 4096 + b1 % 64 * 64 + b2 % 64 then (b0 % 16 * 4096 + b1 % 64 * 64 + b2 % 64, 3)
  else if b0 / 8 = 30 ∧ 3 < n ∧ b1 / 64 = 2 ∧ b2 / 64 = 2 ∧ b3 / 64 = 2 ∧ 65536 ≤ b0 % 8 * 262144 + b1 % 64 * 4096 + b2 % 64 * 64 + b3 % 64 ∧ b0 % 8 * 262144 + b1 % 64 * 4096 + b2 % 64 * 64 + b3 % 64 ≤ 1114111 then
    (b0 % 8 * 262144 + b1 % 64 * 4096 + b2 % 64 * 64 + b3 % 64, 4)
  else (0, 0)

/-- A byte of a string, as a number. -/
def B (s : ByteArray) (k : Nat) : Nat := (s.get! k).toNat
def pt (s : ByteArray) : Nat × Nat := ptN s.size (B s 0) (B s 1) (B s 2) (B s 3)

theorem B_lt (s : ByteArray) (k : Nat) : B s k < 256 := (s.get! k).toNat_lt

theorem bt_B (s : ByteArray) (k : Nat) (h : k < s.size) : bt s (k : Int) = (B s k : Int) := by
  have e := bt_at s (k : Int) (by simpa using h)
  rw [← e]
  unfold B
  congr 1
  simp only [Int.toNat_natCast]
  show s[k].toNat = _
  rw [show s.get! k = s[k] from by
    unfold ByteArray.get!
    exact (getElem!_pos s.data k h)]

set_option maxRecDepth 100000 in
theorem and192 (x : Nat) (h : x < 256) : (Go.bits .and .u8 (x : Int) 192 = 128) ↔ x / 64 = 2 := by
  have hb := (bits_nat .u8 8 (by decide) wraps_u8 x 192 (by omega) (by decide)).1
  have hb' : Go.bits .and .u8 (x : Int) 192 = ((x &&& 192 : Nat) : Int) := hb
  rw [hb']
  have : ∀ y : Fin 256, (y.val &&& 192 == 128) = (y.val / 64 == 2) := by decide
  have q := this ⟨x, h⟩
  constructor
  · intro hh
    have : (x &&& 192) = 128 := by omega
    rw [this] at q
    exact beq_iff_eq.1 q.symm
  · intro hh
    rw [hh] at q
    have z : x &&& 192 = 128 := beq_iff_eq.1 q
    omega

theorem and63 (x : Nat) (h : x < 256) : Go.bits .and .u8 (x : Int) 63 = ((x % 64 : Nat) : Int) := by
  rw [u8_and63 _ (by omega) (by omega)]; omega

theorem or_sur (a c : Nat) (ha : a < 64) (hc : c < 64) : Go.bits .or .i32 (Go.bits .or .i32 53248 ((a : Int) * 64)) (c : Int) = 53248 + (a : Int) * 64 + (c : Int) := by
  have r1 : Go.bits .or .i32 53248 ((a : Int) * 64) = 53248 + (a : Int) * 64 := i32_or12 _ _ (by omega) (by omega) (by omega) (by omega) (by omega)
  rw [r1]
  exact i32_or6 _ _ (by omega) (by omega) (by omega) (by omega) (by omega)

set_option maxRecDepth 100000 in
theorem point_eq (s : ByteArray) (k : Nat) : Ua.units_point.f (k + 1) s = some (((pt s).1 : Int), ((pt s).2 : Int)) := by
  have h0 := B_lt s 0; have h1 := B_lt s 1; have h2 := B_lt s 2; have h3 := B_lt s 3
  have d : Lib.decodeGo s = if s.size = 0 then (65533, 0) else Lib.decodeN s.size (B s 0) (B s 1) (B s 2) (B s 3) := by
    unfold Lib.decodeGo
    rw [Lib.decode_at s 0]
    rfl
  unfold Ua.units_point.f utf8_DecodeRuneInString.f
  simp only [Option.bind_some, d]
  by_cases hz : s.size = 0
  · simp [hz, Ua.units_point.j0, pt, ptN]
  · rw [if_neg hz]
    simp only [Ua.units_point.j0]
    have b0 : bt s 0 = (B s 0 : Int) := bt_B s 0 (by omega)
    have b1 : 1 < s.size → bt s 1 = (B s 1 : Int) := fun h => bt_B s 1 h
    have b2 : 2 < s.size → bt s 2 = (B s 2 : Int) := fun h => bt_B s 2 h
    unfold pt
    generalize B s 0 = x0 at *; generalize B s 1 = x1 at *; generalize B s 2 = x2 at *; generalize B s 3 = x3 at *
    generalize hn : s.size = n at *
    by_cases hs : x0 = 237 ∧ 2 < n ∧ 160 ≤ x1 ∧ x1 < 192 ∧ x2 / 64 = 2
    · obtain ⟨rfl, hn2, h5, h6, h7⟩ := hs
      have e1 : Lib.decodeN n 237 x1 x2 x3 = (65533, 1) := by
        unfold Lib.decodeN
        repeat' split
        all_goals first | rfl | (exfalso; omega)
      have e2 : ptN n 237 x1 x2 x3 = (53248 + x1 % 64 * 64 + x2 % 64, 3) := by
        unfold ptN
        repeat' split
        all_goals first | rfl | (exfalso; omega)
      rw [e1, e2]
      have q1 := b1 (by omega)
      have q2 := b2 hn2
      rw [b0, q1, q2]
      simp only [and63 x1 h1, and63 x2 h2]
      have w1 : wrap32 (((x1 % 64 : Nat) : Int)) = ((x1 % 64 : Nat) : Int) := by unfold wrap32; omega
      have w2 : wrap32 (((x1 % 64 : Nat) : Int) * 64) = ((x1 % 64 : Nat) : Int) * 64 := by unfold wrap32; omega
      have w3 : wrap32 (((x2 % 64 : Nat) : Int)) = ((x2 % 64 : Nat) : Int) := by unfold wrap32; omega
      have r2 := or_sur (x1 % 64) (x2 % 64) (Nat.mod_lt _ (by decide)) (Nat.mod_lt _ (by decide))
      rw [w1, w2, w3, r2]
      clear r2 w1 w2 w3
      have t1 : Go.bits .and .u8 (x2 : Int) 192 = 128 := (and192 x2 h2).2 h7
      rw [if_pos (by omega), if_neg (by decide), if_pos (by omega), if_pos (by omega), if_pos (by omega), if_pos (by omega), if_pos (by omega), if_pos (by omega), if_pos (by omega), if_pos t1]
      simp
    · have e3 : Lib.decodeN n x0 x1 x2 x3 = (65533, 1) ∧ ptN n x0 x1 x2 x3 = (0, 0) ∨ (Lib.decodeN n x0 x1 x2 x3 = ptN n x0 x1 x2 x3 ∧ ((ptN n x0 x1 x2 x3).1 = 65533 → (ptN n x0 x1 x2 x3).2 = 3)) := by
        unfold Lib.decodeN ptN
        repeat' split
        all_goals first | (exact .inl ⟨rfl, rfl⟩) | (refine .inr ⟨rfl, fun h => ?_⟩; first | rfl | (simp only at h; exfalso; omega)) | (exfalso; omega)
      rcases e3 with ⟨e4, e5⟩ | ⟨e4, e5⟩
      · rw [e4, e5]
        rw [b0]
        by_cases g1 : (n : Int) ≥ 3
        · have q1 := b1 (by omega); have q2 := b2 (by omega)
          rw [q1, q2]
          have t1 := and192 x2 h2
          by_cases g2 : x0 = 237
          · by_cases g3 : 160 ≤ x1
            · by_cases g4 : x1 ≤ 191
              · have g5 : ¬ x2 / 64 = 2 := fun h => hs ⟨g2, by omega, g3, by omega, h⟩
                have t2 : ¬ Go.bits .and .u8 (x2 : Int) 192 = 128 := fun h => g5 (t1.1 h)
                simp [t2]; omega
              · simp; omega
            · simp; omega
          · have : ¬ (x0 : Int) = 237 := by omega
            simp [this]; omega
        · simp [g1]
      · rw [e4]
        generalize ptN n x0 x1 x2 x3 = p at *
        obtain ⟨r, m⟩ := p
        simp only at e5 ⊢
        by_cases g : r = 65533
        · subst g
          rw [e5 rfl]; simp
        · have : ¬ (r : Int) = 65533 := by omega
          simp [this]
end Go.Proofs.YtgnifckehopjhaaDoor.Pt
