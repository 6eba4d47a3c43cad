/- strconv.FormatInt at every base. -/
import Derived.Test.YtinaibebdacnmaaDoorRadH
import Derived.Lib.ItoaMem
import Derived.Lib.AppendIntMem
import Derived.Test.YtinaibebdacnmaaDoorFloat
set_option linter.unusedVariables false
namespace Go.Proofs.YtinaibebdacnmaaDoor.Rad
open Go.RowKit Go.Proofs.YtinaibebdacnmaaDoorW.PrintWords

theorem ch_dec : ∀ d : Nat, d < 10 → ch d = UInt8.ofNat (48 + d) := by decide +kernel
theorem rdig_ten (n : Nat) : rdig 10 n = Lib.decDigits n := by
  induction n using Nat.strongRecOn with
  | _ n ih =>
    by_cases h : n < 10
    · rw [rdig_low h, Lib.decDigits, dif_pos h, ch_dec n h]
    · rw [rdig_step (by omega) (by decide), ih _ (by omega), Lib.decDigits.eq_def n, dif_neg h, ch_dec _ (by omega)]
/-- A whole number as a text, to a base. -/
def rtxt (b : Nat) (n : Int) : List UInt8 := (if n < 0 then [45] else []) ++ rdig b n.natAbs
theorem rtxt_ten (n : Int) : rtxt 10 n = Lib.itoa n := by
  unfold rtxt Lib.itoa
  rw [rdig_ten]
  split
  · rfl
  · rw [show n.natAbs = n.toNat by omega]; rfl

theorem grow_below (w : World) (k : Nat) (os : Array Obj) : Below w.heap.size w (Go.Sort.grow (w.drewN k) os) := by
  refine ⟨rfl, rfl, rfl, ?_, fun i hi => ?_⟩
  · show w.heap.size ≤ (w.heap ++ os).size
    rw [Array.size_append]; omega
  · show (w.heap ++ os)[i]? = w.heap[i]?
    exact Array.getElem?_append_left hi

theorem TabR.below {w w' : World} (h : TabR w) (hb : Below w.heap.size w w') : TabR w' := by
  obtain ⟨hp, h2, h4, h8, h16, h32⟩ := h
  have hc : ∀ {p : Addr} {v : Value}, w.cell? p = some v → w'.cell? p = some v := fun h => (hb.cell (World.block_lt_of_cell? w _ h)).trans h
  exact ⟨Lib.tabBelow_of_tabIs hp w' hb, hc h2, hc h4, hc h8, hc h16, hc h32⟩

theorem bits_all (b M : Nat) (hb : 2 ≤ b) (hb2 : b ≤ 36) (hb10 : b ≠ 10) (hM : M < 9007199254740992) (neg : Bool) (u : Int) (hu : (if neg then IntKind.u64.wrap (-u) else u) = M) (w : World) (T : TabR w) :
    Calls Tryd.prog 92 #[.slice none 0 0, .int .u64 u, .int .i64 b, .bool neg, .bool false] w fun e w' => e = .returned (.tuple #[.slice none 0 0, .string ⟨((if neg then [45] else []) ++ rdig b M).toArray⟩]) ∧ Below w.heap.size w w' := by
  have hp := isPow_c b hb hb2
  cases h : pow2 b
  · rw [h] at hp
    exact bits_c b M hb hb2 hb10 hM neg u hu hp w
  · rw [h] at hp
    have : b = 2 ∨ b = 4 ∨ b = 8 ∨ b = 16 ∨ b = 32 := by unfold pow2 at h; simp at h; omega
    rcases this with rfl | rfl | rfl | rfl | rfl
    · exact bits2_c M hM neg u hu w hp (fun w' hw => tz_2 w' (T.below hw).z2)
    · exact bits4_c M hM neg u hu w hp (fun w' hw => tz_4 w' (T.below hw).z4)
    · exact bits8_c M hM neg u hu w hp (fun w' hw => tz_8 w' (T.below hw).z8)
    · exact bits16_c M hM neg u hu w hp (fun w' hw => tz_16 w' (T.below hw).z16)
    · exact bits32_c M hM neg u hu w hp (fun w' hw => tz_32 w' (T.below hw).z32)

set_option maxRecDepth 100000 in
theorem fmt0_c (b : Nat) (hb : 2 ≤ b) (hb2 : b ≤ 36) (n : Int) (h0 : -9007199254740992 < n) (h1 : n < 9007199254740992) (w : World) (T : TabR w) :
    Calls Tryd.prog 66 #[.int .i64 n, .int .i64 b] w fun e w' => e = .returned (.string ⟨(rtxt b n).toArray⟩) ∧ Below w.heap.size w w' := by
  by_cases h10 : b = 10
  · subst h10
    refine (Tryd.internal_strconv_FormatInt_10 n (by omega) (by omega) w T.pow).mono fun e w' h => ?_
    obtain ⟨he, k, os, rfl⟩ := h
    exact ⟨by rw [he, rtxt_ten], grow_below w k os⟩
  · have t2 : ((b : Int) == 10) = false := by rw [beq_eq_false_iff_ne]; omega
    have t2n : (b == 10) = false := by rw [beq_eq_false_iff_ne]; omega
    unfold rtxt
    by_cases hn : n < 0
    · have hB := Fl.Hd.mk (bits_all b n.natAbs hb hb2 h10 (by omega) true (IntKind.u64.wrap n) (by simp only [if_true]; rw [IntKind.wrap_u64, IntKind.wrap_u64]; omega))
      have t3 := decide_eq_true hn
      rw [if_pos hn]
      simp only [if_true] at hB
      have T := Fl.Hd.mk T
      generalize n.natAbs = M at *
      clear hn h0 h1
      go_enter Tryd.func66, Tryd.ntmps66
      go_wp2_with (go_at_call 92; refine (hB.out _ T.out).mono ?_; rintro e w' ⟨rfl, hb⟩)
      go_ret
      exact ⟨rfl, hb⟩
    · have hB := Fl.Hd.mk (bits_all b n.natAbs hb hb2 h10 (by omega) false n (by simp only [Bool.false_eq_true, if_false]; omega))
      have hw : IntKind.u64.wrap n = n := IntWalk.u64_in _ (by omega)
      have t3 := decide_eq_false hn
      rw [if_neg hn]
      simp only [Bool.false_eq_true, if_false] at hB
      have T := Fl.Hd.mk T
      generalize n.natAbs = M at *
      clear hn h0 h1
      go_enter Tryd.func66, Tryd.ntmps66
      go_wp2_with (go_at_call 92; refine (hB.out _ T.out).mono ?_; rintro e w' ⟨rfl, hb⟩)
      go_ret
      exact ⟨rfl, hb⟩
theorem fmt_c (b : Nat) (hb : 2 ≤ b) (hb2 : b ≤ 36) (n : Int) (h0 : -9007199254740992 < n) (h1 : n < 9007199254740992) (w : World) (T : TabR w) :
    Calls Tryd.prog 39 #[.int .i64 n, .int .i64 b] w fun e w' => e = .returned (.string ⟨(rtxt b n).toArray⟩) ∧ Below w.heap.size w w' := by
  have h := fmt0_c b hb hb2 n h0 h1 w T
  clear h0 h1
  go_enter Tryd.func39, Tryd.ntmps39
  go_wp2_with (go_at_call 66; refine h.mono ?_; rintro e w' ⟨rfl, hb⟩)
  go_ret
  exact ⟨rfl, hb⟩
end Go.Proofs.YtinaibebdacnmaaDoor.Rad
