import Derived.Test.YtnknfffldgkgcaaGreatDoorTabs
import Derived.Test.YtnknfffldgkgcaaGreatDoorUax1
import Derived.Laws.BitsLemmas
import Derived.RangeFuncBox
import Derived.Maps.AppendAt
import Derived.OwnWalk
import Derived.Deep.DeepMust
import Derived.WalkSmall
set_option linter.all false
/- Plain: how the program reads code points off bytes (utf8's decoder, and the surrogates besides), and a text's points one by one. -/
namespace Go.Proofs.YtnknfffldgkgcaaGreatDoor.Pt
open Go.RowKit Go.Proofs.YtnknfffldgkgcaaGreatDoorW.PrintWords

def hi (r : Nat) : Bool := decide (55296 ≤ r) && decide (r < 56320)
def lo (r : Nat) : Bool := decide (56320 ≤ r) && decide (r < 57344)

/-- The code point at the front of n bytes that begin b0 b1 b2 b3, and how many bytes it has; 0: none. -/
def ptN (n b0 b1 b2 b3 : Nat) : Nat × Nat :=
  if n = 0 then (0, 0)
  else if b0 < 128 then (b0, 1)
  else if b0 / 32 = 6 ∧ 1 < n ∧ b1 / 64 = 2 ∧ 128 ≤ b0 % 32 * 64 + b1 % 64 then (b0 % 32 * 64 + b1 % 64, 2)
  else if b0 / 16 = 14 ∧ 2 < n ∧ b1 / 64 = 2 ∧ b2 / 64 = 2 ∧ 2048 ≤ b0 % 16 * 4096 + b1 % 64 * 64 + b2 % 64 then (b0 % 16 * 4096 + b1 % 64 * 64 + b2 % 64, 3)
  else if b0 / 8 = 30 ∧ 3 < n ∧ b1 / 64 = 2 ∧ b2 / 64 = 2 ∧ b3 / 64 = 2 ∧ 65536 ≤ b0 % 8 * 262144 + b1 % 64 * 4096 + b2 % 64 * 64 + b3 % 64 ∧ b0 % 8 * 262144 + b1 % 64 * 4096 + b2 % 64 * 64 + b3 % 64 ≤ 1114111 then
    (b0 % 8 * 262144 + b1 % 64 * 4096 + b2 % 64 * 64 + b3 % 64, 4)
  else (0, 0)

/-- A byte of a string, as a number. -/
def B (s : ByteArray) (k : Nat) : Nat := (s.get! k).toNat
def pt (s : ByteArray) : Nat × Nat := ptN s.size (B s 0) (B s 1) (B s 2) (B s 3)

theorem B_lt (s : ByteArray) (k : Nat) : B s k < 256 := (s.get! k).toNat_lt

theorem bt_B (s : ByteArray) (k : Nat) (h : k < s.size) : bt s (k : Int) = (B s k : Int) := by
  have e := bt_at s (k : Int) (by simpa using h)
  rw [← e]
  unfold B
  congr 1
  simp only [Int.toNat_natCast]
  show s[k].toNat = _
  rw [show s.get! k = s[k] from by
    unfold ByteArray.get!
    exact (getElem!_pos s.data k h)]

set_option maxRecDepth 100000 in
theorem and192 (x : Nat) (h : x < 256) : (Go.bits .and .u8 (x : Int) 192 = 128) ↔ x / 64 = 2 := by
  have hb := (bits_nat .u8 8 (by decide) wraps_u8 x 192 (by omega) (by decide)).1
  have hb' : Go.bits .and .u8 (x : Int) 192 = ((x &&& 192 : Nat) : Int) := hb
  rw [hb']
  have : ∀ y : Fin 256, (y.val &&& 192 == 128) = (y.val / 64 == 2) := by decide
  have q := this ⟨x, h⟩
  constructor
  · intro hh
    have : (x &&& 192) = 128 := by omega
    rw [this] at q
    exact beq_iff_eq.1 q.symm
  · intro hh
    rw [hh] at q
    have z : x &&& 192 = 128 := beq_iff_eq.1 q
    omega

theorem and63 (x : Nat) (h : x < 256) : Go.bits .and .u8 (x : Int) 63 = ((x % 64 : Nat) : Int) := by
  rw [u8_and63 _ (by omega) (by omega)]; omega

theorem or_sur (a c : Nat) (ha : a < 64) (hc : c < 64) : Go.bits .or .i32 (Go.bits .or .i32 53248 ((a : Int) * 64)) (c : Int) = 53248 + (a : Int) * 64 + (c : Int) := by
  have r1 : Go.bits .or .i32 53248 ((a : Int) * 64) = 53248 + (a : Int) * 64 := i32_or12 _ _ (by omega) (by omega) (by omega) (by omega) (by omega)
  rw [r1]
  exact i32_or6 _ _ (by omega) (by omega) (by omega) (by omega) (by omega)

set_option maxRecDepth 100000 in
theorem point_eq (s : ByteArray) (k : Nat) : Ua.units_point.f (k + 1) s = some (((pt s).1 : Int), ((pt s).2 : Int)) := by
  have h0 := B_lt s 0; have h1 := B_lt s 1; have h2 := B_lt s 2; have h3 := B_lt s 3
  have d : Lib.decodeGo s = if s.size = 0 then (65533, 0) else Lib.decodeN s.size (B s 0) (B s 1) (B s 2) (B s 3) := by
    unfold Lib.decodeGo
    rw [Lib.decode_at s 0]
    rfl
  unfold Ua.units_point.f utf8_DecodeRuneInString.f
  simp only [Option.bind_some, d]
  by_cases hz : s.size = 0
  · simp [hz, Ua.units_point.j0, pt, ptN]
  · rw [if_neg hz]
    simp only [Ua.units_point.j0]
    have b0 : bt s 0 = (B s 0 : Int) := bt_B s 0 (by omega)
    have b1 : 1 < s.size → bt s 1 = (B s 1 : Int) := fun h => bt_B s 1 h
    have b2 : 2 < s.size → bt s 2 = (B s 2 : Int) := fun h => bt_B s 2 h
    unfold pt
    generalize B s 0 = x0 at *; generalize B s 1 = x1 at *; generalize B s 2 = x2 at *; generalize B s 3 = x3 at *
    generalize hn : s.size = n at *
    by_cases hs : x0 = 237 ∧ 2 < n ∧ 160 ≤ x1 ∧ x1 < 192 ∧ x2 / 64 = 2
    · obtain ⟨rfl, hn2, h5, h6, h7⟩ := hs
      have e1 : Lib.decodeN n 237 x1 x2 x3 = (65533, 1) := by
        unfold Lib.decodeN
        repeat' split
        all_goals first | rfl | (exfalso; omega)
      have e2 : ptN n 237 x1 x2 x3 = (53248 + x1 % 64 * 64 + x2 % 64, 3) := by
        unfold ptN
        repeat' split
        all_goals first | rfl | (exfalso; omega)
      rw [e1, e2]
      have q1 := b1 (by omega)
      have q2 := b2 hn2
      rw [b0, q1, q2]
      simp only [and63 x1 h1, and63 x2 h2]
      have w1 : wrap32 (((x1 % 64 : Nat) : Int)) = ((x1 % 64 : Nat) : Int) := by unfold wrap32; omega
      have w2 : wrap32 (((x1 % 64 : Nat) : Int) * 64) = ((x1 % 64 : Nat) : Int) * 64 := by unfold wrap32; omega
      have w3 : wrap32 (((x2 % 64 : Nat) : Int)) = ((x2 % 64 : Nat) : Int) := by unfold wrap32; omega
      have r2 := or_sur (x1 % 64) (x2 % 64) (Nat.mod_lt _ (by decide)) (Nat.mod_lt _ (by decide))
      rw [w1, w2, w3, r2]
      clear r2 w1 w2 w3
      have t1 : Go.bits .and .u8 (x2 : Int) 192 = 128 := (and192 x2 h2).2 h7
      rw [if_pos (by omega), if_neg (by decide), if_pos (by omega), if_pos (by omega), if_pos (by omega), if_pos (by omega), if_pos (by omega), if_pos (by omega), if_pos (by omega), if_pos t1]
      simp
    · have e3 : Lib.decodeN n x0 x1 x2 x3 = (65533, 1) ∧ ptN n x0 x1 x2 x3 = (0, 0) ∨ (Lib.decodeN n x0 x1 x2 x3 = ptN n x0 x1 x2 x3 ∧ ((ptN n x0 x1 x2 x3).1 = 65533 → (ptN n x0 x1 x2 x3).2 = 3)) := by
        unfold Lib.decodeN ptN
        repeat' split
        all_goals first | (exact .inl ⟨rfl, rfl⟩) | (refine .inr ⟨rfl, fun h => ?_⟩; first | rfl | (simp only at h; exfalso; omega)) | (exfalso; omega)
      rcases e3 with ⟨e4, e5⟩ | ⟨e4, e5⟩
      · rw [e4, e5]
        rw [b0]
        by_cases g1 : (n : Int) ≥ 3
        · have q1 := b1 (by omega); have q2 := b2 (by omega)
          rw [q1, q2]
          have t1 := and192 x2 h2
          by_cases g2 : x0 = 237
          · by_cases g3 : 160 ≤ x1
            · by_cases g4 : x1 ≤ 191
              · have g5 : ¬ x2 / 64 = 2 := fun h => hs ⟨g2, by omega, g3, by omega, h⟩
                have t2 : ¬ Go.bits .and .u8 (x2 : Int) 192 = 128 := fun h => g5 (t1.1 h)
                simp [t2]; omega
              · simp; omega
            · simp; omega
          · have : ¬ (x0 : Int) = 237 := by omega
            simp [this]; omega
        · simp [g1]
      · rw [e4]
        generalize ptN n x0 x1 x2 x3 = p at *
        obtain ⟨r, m⟩ := p
        simp only at e5 ⊢
        by_cases g : r = 65533
        · subst g
          rw [e5 rfl]; simp
        · have : ¬ (r : Int) = 65533 := by omega
          simp [this]
end Go.Proofs.YtnknfffldgkgcaaGreatDoor.Pt

/- units.walk: what a call comes to, whatever the function that it hands each code point to. -/
namespace Go.Proofs.YtnknfffldgkgcaaGreatDoor
open Go.RowKit Go.Proofs.YtnknfffldgkgcaaGreatDoorW.PrintWords

namespace Pt
/-- The bytes of s from a place on. -/
def tl (s : ByteArray) (i : Nat) : ByteArray := s.extract i s.size

/-- The code points of bytes from a place on, each with its place, as far as they are a string; and whether they are one. -/
def scan (s : ByteArray) : Nat → Nat → Nat → List (Nat × Nat) × Bool
  | 0, _, _ => ([], true)
  | f + 1, i, last =>
    if s.size ≤ i then ([], true)
    else if (pt (tl s i)).2 = 0 ∨ (hi last = true ∧ lo (pt (tl s i)).1 = true) then ([], false)
    else ((i, (pt (tl s i)).1) :: (scan s f (i + (pt (tl s i)).2) (pt (tl s i)).1).1, (scan s f (i + (pt (tl s i)).2) (pt (tl s i)).1).2)

theorem pt_le (s : ByteArray) : (pt s).2 ≤ s.size := by
  unfold pt ptN
  repeat' split
  all_goals (simp only; omega)

theorem pt_rune (s : ByteArray) : (pt s).1 ≤ 1114111 := by
  have h0 := B_lt s 0
  unfold pt ptN
  repeat' split
  all_goals (simp only; omega)

theorem tl_size (s : ByteArray) (i : Nat) : (tl s i).size = s.size - i := by
  unfold tl; rw [ByteArray.size_extract]; omega

/-- A fact laid aside. -/
structure _root_.Go.Proofs.YtnknfffldgkgcaaGreatDoor.Fact (p : Prop) : Prop where
  out : p

/-- All that a text gives. -/
def all (s : ByteArray) : List (Nat × Nat) × Bool := scan s (s.size + 1) 0 0
end Pt

theorem point_c (s : ByteArray) (w : World) (HT : Tabs w) :
    Calls Tryz.prog 70 #[.string s] w fun e w' => e = .returned (.tuple #[.int .i32 (Pt.pt s).1, .int .i64 (Pt.pt s).2]) ∧ Below w.heap.size w w' :=
  Ua.units_point.calls 1 s _ _ w ⟨HT⟩ (Pt.point_eq s 0)

theorem ret_bool {a b : Bool} (h : a = b) : Ending.returned (.bool a) = .returned (.bool b) := by rw [h]

theorem high_c (r : Nat) (w : World) : Calls Tryz.prog 71 #[.int .i32 (r : Int)] w fun e w' => e = .returned (.bool (Pt.hi r)) ∧ w = w' := by
  by_cases h : (55296 : Int) ≤ (r : Int)
  all_goals
    go_enter Tryz.func71, Tryz.ntmps71
    go_wp2
    go_ret
    refine ⟨ret_bool ?_, rfl⟩
    unfold Pt.hi
    by_cases h1 : 55296 ≤ r <;> by_cases h2 : r < 56320 <;> simp_all <;> omega

theorem low_c (r : Nat) (w : World) : Calls Tryz.prog 72 #[.int .i32 (r : Int)] w fun e w' => e = .returned (.bool (Pt.lo r)) ∧ w = w' := by
  by_cases h : (56320 : Int) ≤ (r : Int)
  all_goals
    go_enter Tryz.func72, Tryz.ntmps72
    go_wp2
    go_ret
    refine ⟨ret_bool ?_, rfl⟩
    unfold Pt.lo
    by_cases h1 : 56320 ≤ r <;> by_cases h2 : r < 57344 <;> simp_all <;> omega

set_option maxHeartbeats 1000000 in
set_option maxRecDepth 100000 in
theorem walk_c (s : ByteArray) (hs : s.size ≤ 140737488351232) (g : Nat) (lb : Array Value) (w0 : World) (HT : Tabs w0) (J Jx : List (Nat × Nat) → World → Prop)
    (eg : ∀ args w, (callFunc g args).run Tryz.prog w = .ok (.enter g args) w)
    (hJ : ∀ pre W W', J pre W → Below W.heap.size W W' → J pre W')
    (hB : ∀ pre W, J pre W → Below w0.heap.size w0 W)
    (hG : ∀ pre i r W, J pre W → pre ++ [(i, r)] <+: (Pt.all s).1 → Calls Tryz.prog g (#[.int .i64 (i : Nat), .int .i32 (r : Nat)] ++ lb) W fun e W' =>
      (e = .returned (.bool true) ∧ J (pre ++ [(i, r)]) W') ∨ (e = .returned (.bool false) ∧ Jx (pre ++ [(i, r)]) W'))
    (w : World) (h0 : J [] w) :
    Calls Tryz.prog 56 #[.string s, .func (.func g) #[] lb] w fun e w' =>
      (e = .returned (.bool (Pt.all s).2) ∧ J (Pt.all s).1 w') ∨ (∃ pre, e = .returned (.bool true) ∧ pre <+: (Pt.all s).1 ∧ Jx pre w') := by
  go_enter Tryz.func56, Tryz.ntmps56
  go_wp2
  go_loopw [5, 6, 7, 8] (fun v5 v6 _ _ wr => ∃ (pre : List (Nat × Nat)) (i last f : Nat), v5 = .int .i32 (last : Nat) ∧ v6 = .int .i64 (i : Nat) ∧ i ≤ s.size ∧ s.size - i < f ∧ J pre wr ∧
      Fact ((Pt.all s).1 = pre ++ (Pt.scan s f i last).1 ∧ (Pt.all s).2 = (Pt.scan s f i last).2)) (fun _ v6 _ _ _ => s.size - (intOf v6).toNat)
  case atStart => exact ⟨[], 0, 0, s.size + 1, rfl, rfl, by omega, by omega, h0, ⟨rfl, rfl⟩⟩
  case round =>
    obtain ⟨pre, i, last, f, rfl, rfl, hi, hf, hj, HF⟩ := hrel
    obtain ⟨f, rfl⟩ : ∃ m, f = m + 1 := ⟨f - 1, by omega⟩
    by_cases hlt : i < s.size
    · have hlt' : (i : Int) < (s.size : Int) := by omega
      have hle' : (i : Int) ≤ (s.size : Int) := by omega
      go_wp2_with fail
      refine (point_c _ _ (HT.below (hB _ _ hj))).mono ?_
      rintro e w1 ⟨rfl, hb⟩
      have hj1 := hJ _ _ _ hj hb
      clear hb hj
      have HP : Fact (Pt.pt (s.extract i s.size) = Pt.pt (Pt.tl s i)) := ⟨rfl⟩
      have hrn := Pt.pt_le (Pt.tl s i)
      have hr0 := Pt.pt_rune (Pt.tl s i)
      rw [Pt.tl_size] at hrn
      rw [HP.out]
      have HE : Fact (Pt.pt (Pt.tl s i) = ((Pt.pt (Pt.tl s i)).1, (Pt.pt (Pt.tl s i)).2)) := ⟨rfl⟩
      generalize (Pt.pt (Pt.tl s i)).1 = r at *
      generalize (Pt.pt (Pt.tl s i)).2 = n at *
      by_cases hn : n = 0
      · subst hn
        go_wp2_with fail
        go_ret
        refine .inl ⟨ret_bool ?_, ?_⟩
        · rw [HF.out.2]; simp only [Pt.scan]; rw [if_neg (by omega), HE.out]; simp
        · rw [HF.out.1]; simp only [Pt.scan]; rw [if_neg (by omega), HE.out]; simpa using hj1
      · have hn0 : ((n : Int) == 0) = false := by simpa using hn
        clear hn
        cases hl : Pt.hi last <;> cases hm : Pt.lo r
        case true.true =>
          go_wp2_with (first | (go_at_call 71; refine (high_c _ _).mono ?_; rintro e w' ⟨rfl, rfl⟩) | (go_at_call 72; refine (low_c _ _).mono ?_; rintro e w' ⟨rfl, rfl⟩))
          go_ret
          refine .inl ⟨ret_bool ?_, ?_⟩
          · rw [HF.out.2]; simp only [Pt.scan]; rw [if_neg (by omega), HE.out]; simp [hl, hm]
          · rw [HF.out.1]; simp only [Pt.scan]; rw [if_neg (by omega), HE.out]; simpa [hl, hm] using hj1
        all_goals
          have HS : Fact (Pt.scan s (f + 1) i last = ((i, r) :: (Pt.scan s f (i + n) r).1, (Pt.scan s f (i + n) r).2)) := ⟨by
            have : ¬ n = 0 := by simpa using hn0
            simp only [Pt.scan]; rw [if_neg (by omega), HE.out]; simp [hl, hm, this]⟩
          have HG := Fact.mk (hG pre i r w1 hj1 (by rw [HF.out.1, HS.out]; exact ⟨(Pt.scan s f (i + n) r).1, by simp⟩))
          go_wp2_with (first | (go_at_call 71; refine (high_c _ _).mono ?_; rintro e w' ⟨rfl, rfl⟩) | (go_at_call 72; refine (low_c _ _).mono ?_; rintro e w' ⟨rfl, rfl⟩))
          refine HG.out.mono ?_
          rintro e w2 (⟨rfl, hj2⟩ | ⟨rfl, hx2⟩)
          · clear HG hj1
            go_wp2
            go_roundw
            case rel => exact ⟨pre ++ [(i, r)], i + n, r, f, rfl, by go_num, by omega, by (have : ¬ n = 0 := by simpa using hn0); omega, hj2, ⟨by rw [HF.out.1, HS.out]; simp, by rw [HF.out.2, HS.out]⟩⟩
            case measure => (have : ¬ n = 0 := by simpa using hn0); simp [intOf]; omega
          · clear HG hj1
            go_wp2
            go_ret
            exact .inr ⟨pre ++ [(i, r)], rfl, by rw [HF.out.1, HS.out]; exact ⟨(Pt.scan s f (i + n) r).1, by simp⟩, hx2⟩
    · go_wp2
      go_ret
      refine .inl ⟨ret_bool ?_, ?_⟩
      · rw [HF.out.2]; simp only [Pt.scan]; rw [if_pos (by omega)]
      · rw [HF.out.1]; simp only [Pt.scan]; rw [if_pos (by omega)]; simpa using hj
end Go.Proofs.YtnknfffldgkgcaaGreatDoor

/- units.Valid and units.Units: what each call comes to. -/
namespace Go.Proofs.YtnknfffldgkgcaaGreatDoor
open Go.RowKit Go.Proofs.YtnknfffldgkgcaaGreatDoorW.PrintWords

namespace Pt
/-- The code units of a code point. -/
def u16 (r : Nat) : List Int := if 65536 ≤ r then [(55296 + (r - 65536) / 1024 : Nat), (56320 + (r - 65536) % 1024 : Nat)] else [(r : Int)]
/-- The code units of a text's points. -/
def us (l : List (Nat × Nat)) : List Int := l.flatMap fun x => u16 x.2
theorem and1023 (x : Int) (h : 0 ≤ x) (h2 : x < 2097152) : Go.bits .and .i32 x 1023 = x % 1024 :=
  bits_mask .i32 31 (by decide) (fun n h0 h1 => by rw [IntKind.wrap_i32]; omega) 10 (by decide) x h (by omega)
theorem u16_len (r : Nat) : (u16 r).length ≤ 2 := by unfold u16; split <;> simp
theorem us_len0 (l : List (Nat × Nat)) : (us l).length ≤ 2 * l.length := by
  induction l with
  | nil => simp [us]
  | cons x l ih => have := u16_len x.2; simp only [us, List.flatMap_cons, List.length_append, List.length_cons] at *; omega
theorem scan_len (s : ByteArray) : ∀ f i last, (scan s f i last).1.length ≤ s.size - i
  | 0, _, _ => by simp [scan]
  | f + 1, i, last => by
    simp only [scan]
    split
    · simp
    · split
      · simp
      · rename_i h1 h2
        have h3 := scan_len s f (i + (pt (tl s i)).2) (pt (tl s i)).1
        have h4 := pt_le (tl s i)
        rw [tl_size] at h4
        have h5 : (pt (tl s i)).2 ≠ 0 := fun h => h2 (.inl h)
        simp only [List.length_cons]
        omega
theorem scan_rune (s : ByteArray) : ∀ f i last, ∀ x ∈ (scan s f i last).1, x.2 ≤ 1114111
  | 0, _, _ => by simp [scan]
  | f + 1, i, last => by
    simp only [scan]
    split
    · simp
    · split
      · simp
      · intro x hx
        rcases List.mem_cons.1 hx with e | e
        · subst e; exact pt_rune _
        · exact scan_rune s f _ _ x e
/-- So many units there are at most. -/
theorem us_len (s : ByteArray) (pre : List (Nat × Nat)) (x : Nat × Nat) (hp : pre ++ [x] <+: (all s).1) : (us pre).length ≤ 2 * s.size := by
  have h1 := hp.length_le
  have h2 := scan_len s (s.size + 1) 0 0
  have h3 := us_len0 pre
  unfold all at h1
  simp at h1
  omega
theorem all_rune (s : ByteArray) (pre : List (Nat × Nat)) (i r : Nat) (hp : pre ++ [(i, r)] <+: (all s).1) : r ≤ 1114111 :=
  scan_rune s (s.size + 1) 0 0 (i, r) (hp.subset (by simp))
theorem us_snoc (l : List (Nat × Nat)) (i r : Nat) : us (l ++ [(i, r)]) = us l ++ u16 r := by unfold us; simp
end Pt

theorem row_re {W : World} {b e n n' : Nat} {v : Value} {xs xs' : List Value} (h : W.ownsRow b e 1 v n xs) (hn : n = n') (hx : xs = xs') : W.ownsRow b e 1 v n' xs' := by subst hn; subst hx; exact h

theorem valid1_c (i r : Nat) (W : World) : Calls Tryz.prog 57 (#[.int .i64 (i : Nat), .int .i32 (r : Nat)] ++ #[]) W fun e W' => e = .returned (.bool true) ∧ W = W' := by
  simp only [Array.append_empty]
  go_enter Tryz.func57, Tryz.ntmps57
  go_wp2
  go_ret
  exact ⟨rfl, rfl⟩

def units_Valid.f (a0 : ByteArray) : Option Bool := if a0.size ≤ 140737488351232 then some (Pt.all a0).2 else none
theorem units_Valid.calls (a0 : ByteArray) (r : Bool) (w : World) (HT : Aside0 (Tabs w)) (h : units_Valid.f a0 = some r) :
    Calls Tryz.prog 37 #[.string a0] w fun e w' => e = .returned (.bool r) ∧ Below w.heap.size w w' := by
  unfold units_Valid.f at h
  split at h
  case isFalse => cases h
  case isTrue hs =>
  obtain rfl := Option.some.inj h
  have hc : Fact (Calls Tryz.prog 56 #[.string a0, .func (.func 57) #[] #[]] w fun e w' => e = .returned (.bool (Pt.all a0).2) ∧ Below w.heap.size w w') := ⟨by
    refine (walk_c a0 hs 57 #[] w HT.out (fun _ W => Below w.heap.size w W) (fun _ _ => False) (enters_of Tryz.func57 (by kernel_rfl) rfl)
      (fun _ _ _ h1 h2 => h1.trans (h2.mono h1.size)) (fun _ _ h => h) (fun pre i r W hW _ => (valid1_c i r W).mono fun e W' ⟨he, hw⟩ => .inl ⟨he, hw ▸ hW⟩) w (Below.refl _ _)).mono ?_
    rintro e w' (⟨rfl, hb⟩ | ⟨_, _, _, hx⟩)
    · exact ⟨rfl, hb⟩
    · exact hx.elim⟩
  clear h
  go_enter Tryz.func37, Tryz.ntmps37
  go_wp2_with (go_at_call 56; refine hc.out.mono ?_; rintro e w1 ⟨rfl, hb⟩)
  go_ret
  exact ⟨rfl, hb⟩

theorem Tryz.info16 : (Tryz.prog.info? 119).map (fun i => (i.zero, i.size, i.bytes)) = some (some (.int .u16 0), 1, 2) := by kernel_rfl

set_option maxRecDepth 100000 in
/-- The closure appends a point's units to the row in the box. -/
theorem units1_c (i r : Nat) (hr : r ≤ 1114111) (n₀ B : Nat) (W : World) (v : Value) (l : List Int) (hl : l.length + 2 ≤ 4398046511104)
    (hv : Boxed W B 115 v) (hrow : W.ownsRow n₀ 119 1 v l.length (l.map (Value.int .u16))) (hn₀ : n₀ ≤ W.heap.size) (hB : n₀ ≤ B) :
    Calls Tryz.prog 83 (#[.int .i64 (i : Nat), .int .i32 (r : Nat)] ++ #[.pointer (some ⟨B, 0, none⟩)]) W fun e W' => e = .returned (.bool true) ∧
      ∃ v', Boxed W' B 115 v' ∧ W'.ownsRow n₀ 119 1 v' (l ++ Pt.u16 r).length ((l ++ Pt.u16 r).map (Value.int .u16)) ∧ Below n₀ W W' := by
  obtain ⟨i0, hi, hz0, hz1, hz2⟩ := info_parts Tryz.info16
  have hc0 := hv.cell
  have hf0 := hv.frozen
  have hlt := hv.lt
  simp only [List.append_toArray, List.cons_append, List.nil_append]
  by_cases hbig : 65536 ≤ r
  · have hbz : (65536 : Int) ≤ (r : Int) := by omega
    have hrz : (r : Int) ≤ 1114111 := by omega
    have hand : Go.bits .and .i32 ((r : Int) - 65536) 1023 = ((r : Int) - 65536) % 1024 := Pt.and1023 _ (by omega) (by omega)
    clear hbig hr
    go_enter Tryz.func83, Tryz.ntmps83
    go_wp2_with (at_builtin; go_must (refine wpList_append_own _ rfl (.tmp 10) (.tmp 19) 115 rfl n₀ 119 i0 (.int .u16 0) 1 2 Tryz.underlying115 hi hz0 hz1 hz2 rfl (by decide) v l.length _ rfl (hrow.alloc _) ⟨W.heap.size, 0, none⟩ 2 2 [.int .u16 (55296 + ((r : Int) - 65536) / 1024), .int .u16 (56320 + ((r : Int) - 65536) % 1024)] rfl rfl ?c1 ?c2 ?c3 ?c4 ?c5 ?_); (case c1 => exact cell_two_new _ _ _ _); (case c2 => simp [Value.oneCell']); (case c3 => unfold maxLen; omega); (case c4 => omega); (case c5 => simp; omega); intro v' w1 hown' hgrow _; obtain ⟨g', cap', rfl⟩ := ownsRow_succ hown'; obtain ⟨hv1, hv2, hr2, hk2, hb2⟩ := hv.appended (by decide) hrow hn₀ hB hown' hgrow; have hc1 := hv1.cell; have hf1 := hv1.frozen; clear hc0 hf0 hlt)
    go_ret
    refine ⟨rfl, _, hv2, ?_, hb2⟩
    have e : (l ++ Pt.u16 r).length = l.length + 2 := by unfold Pt.u16; rw [if_pos (by omega)]; simp
    have e2 : (l ++ Pt.u16 r).map (Value.int .u16) = l.map (Value.int .u16) ++ [.int .u16 (55296 + ((r : Int) - 65536) / 1024), .int .u16 (56320 + ((r : Int) - 65536) % 1024)] := by
      unfold Pt.u16; rw [if_pos (by omega)]; simp; omega
    exact row_re hr2 (by simpa using e.symm) (by simpa using e2.symm)
  · have hbz : ¬ (65536 : Int) ≤ (r : Int) := by omega
    clear hbig
    go_enter Tryz.func83, Tryz.ntmps83
    go_wp2_with (at_builtin; go_must (refine wpList_append_own _ rfl (.tmp 21) (.tmp 24) 115 rfl n₀ 119 i0 (.int .u16 0) 1 2 Tryz.underlying115 hi hz0 hz1 hz2 rfl (by decide) v l.length _ rfl (hrow.alloc _) ⟨W.heap.size, 0, none⟩ 1 1 [.int .u16 (r : Int)] rfl rfl ?c1 ?c2 ?c3 ?c4 ?c5 ?_); (case c1 => exact cell_one_new _ _ _); (case c2 => simp [Value.oneCell']); (case c3 => unfold maxLen; omega); (case c4 => omega); (case c5 => simp; omega); intro v' w1 hown' hgrow _; obtain ⟨g', cap', rfl⟩ := ownsRow_succ hown'; obtain ⟨hv1, hv2, hr2, hk2, hb2⟩ := hv.appended (by decide) hrow hn₀ hB hown' hgrow; have hc1 := hv1.cell; have hf1 := hv1.frozen; clear hc0 hf0 hlt)
    go_ret
    refine ⟨rfl, _, hv2, ?_, hb2⟩
    have e : (l ++ Pt.u16 r).length = l.length + 1 := by unfold Pt.u16; rw [if_neg (by omega)]; simp
    have e2 : (l ++ Pt.u16 r).map (Value.int .u16) = l.map (Value.int .u16) ++ [.int .u16 (r : Int)] := by
      unfold Pt.u16; rw [if_neg (by omega)]; simp
    exact row_re hr2 (by simpa using e.symm) (by simpa using e2.symm)

/-- Where the points of a text lie, there are no more units than bytes. -/
def units_Units.f (a0 : ByteArray) : Option (List Int × Int) := if a0.size ≤ 1099511627776 then (if (Pt.all a0).2 = true then some (Pt.us (Pt.all a0).1, 0) else some ([], 10)) else none

theorem units_walk_c (s : ByteArray) (hs : s.size ≤ 1099511627776) (w : World) (HT : Tabs w) :
    Calls Tryz.prog 56 #[.string s, .func (.func 83) #[] #[.pointer (some ⟨w.heap.size, 0, none⟩)]] (w.alloc (.cells #[.slice none 0 0] 115)) fun e W' => e = .returned (.bool (Pt.all s).2) ∧
      ∃ v', Boxed W' w.heap.size 115 v' ∧ W'.ownsRow w.heap.size 119 1 v' (Pt.us (Pt.all s).1).length ((Pt.us (Pt.all s).1).map (Value.int .u16)) ∧ Below w.heap.size w W' := by
  refine (walk_c s (by omega) 83 #[.pointer (some ⟨w.heap.size, 0, none⟩)] w HT
    (fun pre W => ∃ v, Boxed W w.heap.size 115 v ∧ W.ownsRow w.heap.size 119 1 v (Pt.us pre).length ((Pt.us pre).map (Value.int .u16)) ∧ Below w.heap.size w W) (fun _ _ => False)
    (enters_of Tryz.func83 (by kernel_rfl) rfl) ?hJ ?hB ?hG _ ?h0).mono ?_
  case hJ =>
    rintro pre W W' ⟨v, hv, hr, hb⟩ h2
    refine ⟨v, (h2.block _ hv.lt).trans hv, ?_, hb.trans (h2.mono hb.size)⟩
    exact own_move hr (fun k hk => h2.block k (own_lt hr k hk))
  case hB => exact fun pre W ⟨_, _, _, hb⟩ => hb
  case hG =>
    rintro pre i r W ⟨v, hv, hr, hb⟩ hp
    have hlen := Pt.us_len s pre (i, r) hp
    have hrr := Pt.all_rune s pre i r hp
    refine (units1_c i r hrr w.heap.size w.heap.size W v (Pt.us pre) (by omega) hv hr hb.size (Nat.le_refl _)).mono ?_
    rintro e W' ⟨rfl, v', hv', hr', hb'⟩
    rw [← Pt.us_snoc pre i r] at hr'
    exact .inl ⟨rfl, v', hv', hr', hb.trans hb'⟩
  case h0 => exact ⟨_, Boxed.new _ _ _, World.ownsRow_nil _ _ _ _, (Below.refl _ _).alloc (Nat.le_refl _) _⟩
  rintro e w' (⟨rfl, h⟩ | ⟨_, _, _, hx⟩)
  · exact ⟨rfl, h⟩
  · exact hx.elim

set_option maxRecDepth 100000 in
theorem units_Units.calls (a0 : ByteArray) (r1 : List Int) (r2 : Int) (w : World) (HT : Aside0 (Tabs w)) (h : units_Units.f a0 = some (r1, r2)) :
    Calls Tryz.prog 63 #[.string a0] w fun e w' => ∃ v0_ : Value, e = .returned (.tuple #[v0_, .int .i64 r2]) ∧ Kd.R (Kd.int .u16) 119 w' w.heap.size (fun _ => True) v0_ r1 ∧ Below w.heap.size w w' := by
  unfold units_Units.f at h
  split at h
  case isFalse => cases h
  case isTrue hs =>
  have hc := Fact.mk (units_walk_c a0 hs w HT.out)
  cases hok : (Pt.all a0).2
  · rw [hok] at h
    simp only [Bool.false_eq_true, if_false, Option.some.injEq, Prod.mk.injEq] at h
    obtain ⟨rfl, rfl⟩ := h
    rw [hok] at hc
    clear hok
    go_enter Tryz.func63, Tryz.ntmps63
    go_wp2_with (go_at_call 56; refine hc.out.mono ?_; rintro e w1 ⟨rfl, v', hv, hr, hb⟩)
    go_ret2
    exact ⟨_, rfl, Kd.R_nil _ _ _ _ _, hb⟩
  · rw [hok] at h
    simp only [if_true, Option.some.injEq, Prod.mk.injEq] at h
    obtain ⟨rfl, rfl⟩ := h
    rw [hok] at hc
    clear hok
    go_enter Tryz.func63, Tryz.ntmps63
    go_wp2_with (go_at_call 56; refine hc.out.mono ?_; rintro e w1 ⟨rfl, v', hv, hr, hb⟩; have hc1 := hv.cell)
    go_ret2
    exact ⟨_, rfl, Kd.R_of_own hr (fun _ _ => trivial), hb⟩
end Go.Proofs.YtnknfffldgkgcaaGreatDoor
