/- units.walk: what a call comes to, whatever the function that it hands each code point to. -/
import Derived.Test.YtgnifckehopjhaaDoorPointP
namespace Go.Proofs.YtgnifckehopjhaaDoor
open Go.RowKit Go.Proofs.YtgnifckehopjhaaDoorW.PrintWords

namespace Pt
/-- The bytes of s from a place on. -/
def tl (s : ByteArray) (i : Nat) : ByteArray := s.extract i s.size

/-- The code points of bytes from a place on, each with its place, as far as they are a string; and whether they are one. -/
def scan (s : ByteArray) : Nat → Nat → Nat → List (Nat × Nat) × Bool
  | 0, _, _ => ([], true)
  | f + 1, i, last =>
    if s.size ≤ i then ([], true)
    else if (pt (tl s i)).2 = 0 ∨ (hi last = true ∧ lo (pt (tl s i)).1 = true) then ([], false)
    else ((i, (pt (tl s i)).1) :: (scan s f (i + (pt (tl s i)).2) (pt (tl s i)).1).1, (scan s f (i + (pt (tl s i)).2) (pt (tl s i)).1).2)

theorem pt_le (s : ByteArray) : (pt s).2 ≤ s.size := by
  unfold pt ptN
  repeat' split
  all_goals (simp only; omega)

theorem pt_rune (s : ByteArray) : (pt s).1 ≤ 1114111 := by
  have h0 := B_lt s 0
  unfold pt ptN
  repeat' split
  all_goals (simp only; omega)

theorem tl_size (s : ByteArray) (i : Nat) : (tl s i).size = s.size - i := by
  unfold tl; rw [ByteArray.size_extract]; omega

/-- A fact laid aside. -/
structure _root_.Go.Proofs.YtgnifckehopjhaaDoor.Fact (p : Prop) : Prop where
  out : p

/-- All that a text gives. -/
def all (s : ByteArray) : List (Nat × Nat) × Bool := scan s (s.size + 1) 0 0
end Pt

theorem point_c (s : ByteArray) (w : World) (HT : Tabs w) :
    Calls Tryd.prog 55 #[.string s] w fun e w' => e = .returned (.tuple #[.int .i32 (Pt.pt s).1, .int .i64 (Pt.pt s).2]) ∧ Below w.heap.size w w' :=
  Ua.units_point.calls 1 s _ _ w ⟨HT⟩ (Pt.point_eq s 0)

theorem ret_bool {a b : Bool} (h : a = b) : Ending.returned (.bool a) = .returned (.bool b) := by rw [h]

theorem high_c (r : Nat) (w : World) : Calls Tryd.prog 56 #[.int .i32 (r : Int)] w fun e w' => e = .returned (.bool (Pt.hi r)) ∧ w = w' := by
  by_cases h : (55296 : Int) ≤ (r : Int)
  all_goals
    go_enter Tryd.func56, Tryd.ntmps56
    go_wp2
    go_ret
    refine ⟨ret_bool ?_, rfl⟩
    unfold Pt.hi
    by_cases h1 : 55296 ≤ r <;> by_cases h2 : r < 56320 <;> simp_all <;> omega

theorem low_c (r : Nat) (w : World) : Calls Tryd.prog 57 #[.int .i32 (r : Int)] w fun e w' => e = .returned (.bool (Pt.lo r)) ∧ w = w' := by
  by_cases h : (56320 : Int) ≤ (r : Int)
  all_goals
    go_enter Tryd.func57, Tryd.ntmps57
    go_wp2
    go_ret
    refine ⟨ret_bool ?_, rfl⟩
    unfold Pt.lo
    by_cases h1 : 56320 ≤ r <;> by_cases h2 : r < 57344 <;> simp_all <;> omega

set_option maxHeartbeats 1000000 in
set_option maxRecDepth 100000 in
theorem walk_c (s : ByteArray) (hs : s.size ≤ 140737488351232) (g : Nat) (lb : Array Value) (w0 : World) (HT : Tabs w0) (J Jx : List (Nat × Nat) → World → Prop)
    (eg : ∀ args w, (callFunc g args).run Tryd.prog w = .ok (.enter g args) w)
    (hJ : ∀ pre W W', J pre W → Below W.heap.size W W' → J pre W')
    (hB : ∀ pre W, J pre W → Below w0.heap.size w0 W)
    (hG : ∀ pre i r W, J pre W → pre ++ [(i, r)] <+: (Pt.all s).1 → Calls Tryd.prog g (#[.int .i64 (i : Nat), .int .i32 (r : Nat)] ++ lb) W fun e W' =>
      (e = .returned (.bool true) ∧ J (pre ++ [(i, r)]) W') ∨ (e = .returned (.bool false) ∧ Jx (pre ++ [(i, r)]) W'))
    (w : World) (h0 : J [] w) :
    Calls Tryd.prog 44 #[.string s, .func (.func g) #[] lb] w fun e w' =>
      (e = .returned (.bool (Pt.all s).2) ∧ J (Pt.all s).1 w') ∨ (∃ pre, e = .returned (.bool true) ∧ pre <+: (Pt.all s).1 ∧ Jx pre w') := by
  go_enter Tryd.func44, Tryd.ntmps44
  go_wp2
  go_loopw [5, 6, 7, 8] (fun v5 v6 _ _ wr => ∃ (pre : List (Nat × Nat)) (i last f : Nat), v5 = .int .i32 (last : Nat) ∧ v6 = .int .i64 (i : Nat) ∧ i ≤ s.size ∧ s.size - i < f ∧ J pre wr ∧
      Fact ((Pt.all s).1 = pre ++ (Pt.scan s f i last).1 ∧ (Pt.all s).2 = (Pt.scan s f i last).2)) (fun _ v6 _ _ _ => s.size - (intOf v6).toNat)
  case atStart => exact ⟨[], 0, 0, s.size + 1, rfl, rfl, by omega, by omega, h0, ⟨rfl, rfl⟩⟩
  case round =>
    obtain ⟨pre, i, last, f, rfl, rfl, hi, hf, hj, HF⟩ := hrel
    obtain ⟨f, rfl⟩ : ∃ m, f = m + 1 := ⟨f - 1, by omega⟩
    by_cases hlt : i < s.size
    · have hlt' : (i : Int) < (s.size : Int) := by omega
      have hle' : (i : Int) ≤ (s.size : Int) := by omega
      go_wp2_with fail
      refine (point_c _ _ (HT.below (hB _ _ hj))).mono ?_
      rintro e w1 ⟨rfl, hb⟩
      have hj1 := hJ _ _ _ hj hb
      clear hb hj
      have HP : Fact (Pt.pt (s.extract i s.size) = Pt.pt (Pt.tl s i)) := ⟨rfl⟩
      have hrn := Pt.pt_le (Pt.tl s i)
      have hr0 := Pt.pt_rune (Pt.tl s i)
      rw [Pt.tl_size] at hrn
      rw [HP.out]
      have HE : Fact (Pt.pt (Pt.tl s i) = ((Pt.pt (Pt.tl s i)).1, (Pt.pt (Pt.tl s i)).2)) := ⟨rfl⟩
      generalize (Pt.pt (Pt.tl s i)).1 = r at *
      generalize (Pt.pt (Pt.tl s i)).2 = n at *
      by_cases hn : n = 0
      · subst hn
        go_wp2_with fail
        go_ret
        refine .inl ⟨ret_bool ?_, ?_⟩
        · rw [HF.out.2]; simp only [Pt.scan]; rw [if_neg (by omega), HE.out]; simp
        · rw [HF.out.1]; simp only [Pt.scan]; rw [if_neg (by omega), HE.out]; simpa using hj1
      · have hn0 : ((n : Int) == 0) = false := by simpa using hn
        clear hn
        cases hl : Pt.hi last <;> cases hm : Pt.lo r
        case true.true =>
          go_wp2_with (first | (go_at_call 56; refine (high_c _ _).mono ?_; rintro e w' ⟨rfl, rfl⟩) | (go_at_call 57; refine (low_c _ _).mono ?_; rintro e w' ⟨rfl, rfl⟩))
          go_ret
          refine .inl ⟨ret_bool ?_, ?_⟩
          · rw [HF.out.2]; simp only [Pt.scan]; rw [if_neg (by omega), HE.out]; simp [hl, hm]
          · rw [HF.out.1]; simp only [Pt.scan]; rw [if_neg (by omega), HE.out]; simpa [hl, hm] using hj1
        all_goals
          have HS : Fact (Pt.scan s (f + 1) i last = ((i, r) :: (Pt.scan s f (i + n) r).1, (Pt.scan s f (i + n) r).2)) := ⟨by
            have : ¬ n = 0 := by simpa using hn0
            simp only [Pt.scan]; rw [if_neg (by omega), HE.out]; simp [hl, hm, this]⟩
          have HG := Fact.mk (hG pre i r w1 hj1 (by rw [HF.out.1, HS.out]; exact ⟨(Pt.scan s f (i + n) r).1, by simp⟩))
          go_wp2_with (first | (go_at_call 56; refine (high_c _ _).mono ?_; rintro e w' ⟨rfl, rfl⟩) | (go_at_call 57; refine (low_c _ _).mono ?_; rintro e w' ⟨rfl, rfl⟩))
          refine HG.out.mono ?_
          rintro e w2 (⟨rfl, hj2⟩ | ⟨rfl, hx2⟩)
          · clear HG hj1
            go_wp2
            go_roundw
            case rel => exact ⟨pre ++ [(i, r)], i + n, r, f, rfl, by go_num, by omega, by (have : ¬ n = 0 := by simpa using hn0); omega, hj2, ⟨by rw [HF.out.1, HS.out]; simp, by rw [HF.out.2, HS.out]⟩⟩
            case measure => (have : ¬ n = 0 := by simpa using hn0); simp [intOf]; omega
          · clear HG hj1
            go_wp2
            go_ret
            exact .inr ⟨pre ++ [(i, r)], rfl, by rw [HF.out.1, HS.out]; exact ⟨(Pt.scan s f (i + n) r).1, by simp⟩, hx2⟩
    · go_wp2
      go_ret
      refine .inl ⟨ret_bool ?_, ?_⟩
      · rw [HF.out.2]; simp only [Pt.scan]; rw [if_pos (by omega)]
      · rw [HF.out.1]; simp only [Pt.scan]; rw [if_pos (by omega)]; simpa using hj
end Go.Proofs.YtgnifckehopjhaaDoor
