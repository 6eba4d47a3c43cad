/- Lengths, indexes, whole numbers of fewer bits, of the program and of the reference: what each call comes to. -/
import Derived.Test.YtmcibofnanbhpaaLenC
set_option exponentiation.threshold 3000
namespace Go.Proofs.Ytmcibofnanbhpaa
open Go.RowKit

theorem conv_c {I : Nat} {n : Int} (h : floatToIntVal .f64 I .i64 = some n) : ∀ w, (convert 23 2 (.float .f64 I)).run Try.prog w = .ok (.int .i64 n) w :=
  fun w => run_convert_float_int w 23 2 .f64 .i64 _ _ (by rw [Try.underlying23]; rfl) Try.underlying2 h

set_option maxRecDepth 100000 in
theorem length_c (x : Nat) (hx : x < 18446744073709551616) (w : World) : Calls Try.prog 25 #[.float .f64 x] w fun e w' => e = .returned (.int .i64 (Fl.len x)) ∧ w = w' := by
  have hI := Fl.Hd.mk (integer_c x hx)
  have hc := Fl.len_cases x hx
  generalize Fl.idx x = D at *
  generalize Fl.idxE x = E at *
  generalize Fl.len x = L at *
  generalize Fl.integer x = I at *
  rcases hc with ⟨c1, c2, c3, rfl, -, -⟩ | ⟨c1, rfl, -, -⟩ | ⟨c1, c2, rfl, -, -⟩ | ⟨c1, c2, n, c3, rfl, -, -⟩
  · have c4 := conv_c c3
    clear c3
    go_enter Try.func25, Try.ntmps25
    go_wp2_with (go_at_call 15; refine (hI.out _).mono ?_; rintro e w' ⟨rfl, rfl⟩)
    go_ret
    exact ⟨rfl, rfl⟩
  · go_enter Try.func25, Try.ntmps25
    go_wp2_with (go_at_call 15; refine (hI.out _).mono ?_; rintro e w' ⟨rfl, rfl⟩)
    go_ret
    exact ⟨rfl, rfl⟩
  · go_enter Try.func25, Try.ntmps25
    go_wp2_with (go_at_call 15; refine (hI.out _).mono ?_; rintro e w' ⟨rfl, rfl⟩)
    go_ret
    exact ⟨rfl, rfl⟩
  · have c4 := conv_c c3
    clear c3
    rcases c2 with c2 | c2
    all_goals
      go_enter Try.func25, Try.ntmps25
      go_wp2_with (go_at_call 15; refine (hI.out _).mono ?_; rintro e w' ⟨rfl, rfl⟩)
      go_ret
      exact ⟨rfl, rfl⟩

set_option maxRecDepth 100000 in
theorem index_c (x : Nat) (hx : x < 18446744073709551616) (w : World) : Calls Try.prog 13 #[.float .f64 x] w fun e w' => e = .returned (.tuple #[.int .i64 (Fl.idx x), .int .i64 (Fl.idxE x)]) ∧ w = w' := by
  have hI := Fl.Hd.mk (integer_c x hx)
  have hc := Fl.len_cases x hx
  generalize Fl.idx x = D at *
  generalize Fl.idxE x = E at *
  generalize Fl.len x = L at *
  generalize Fl.integer x = I at *
  rcases hc with ⟨c1, c2, c3, -, rfl, rfl⟩ | ⟨c1, -, rfl, rfl⟩ | ⟨c1, c2, -, rfl, rfl⟩ | ⟨c1, c2, n, c3, -, rfl, rfl⟩
  · have c4 := conv_c c3
    clear c3
    go_enter Try.func13, Try.ntmps13
    go_wp2_with (go_at_call 15; refine (hI.out _).mono ?_; rintro e w' ⟨rfl, rfl⟩)
    go_ret2
    exact ⟨rfl, rfl⟩
  · go_enter Try.func13, Try.ntmps13
    go_wp2_with (go_at_call 15; refine (hI.out _).mono ?_; rintro e w' ⟨rfl, rfl⟩)
    go_ret2
    exact ⟨rfl, rfl⟩
  · go_enter Try.func13, Try.ntmps13
    go_wp2_with (go_at_call 15; refine (hI.out _).mono ?_; rintro e w' ⟨rfl, rfl⟩)
    go_ret2
    exact ⟨rfl, rfl⟩
  · have c4 := conv_c c3
    clear c3
    rcases c2 with c2 | c2
    all_goals
      go_enter Try.func13, Try.ntmps13
      go_wp2_with (go_at_call 15; refine (hI.out _).mono ?_; rintro e w' ⟨rfl, rfl⟩)
      go_ret2
      exact ⟨rfl, rfl⟩

namespace Fl
theorem wp_inf : 9007199254740991 < wp inf := wp_big (by rw [E_inf]; decide)
/-- What the reference asks of the whole part. -/
theorem ask (x : Nat) : (fits (sz x) = false ∧ 9007199254740991 < wp (sz x)) ∨ (fits (sz x) = true ∧ ((sz x : Int) == 9218868437227405312) = true ∧ 9007199254740991 < wp (sz x)) ∨ (fits (sz x) = true ∧ ((sz x : Int) == 9218868437227405312) = false) := by
  cases h : fits (sz x)
  · exact .inl ⟨rfl, wp_big (by unfold fits at h; simpa using h)⟩
  · by_cases h2 : sz x = inf
    · exact .inr (.inl ⟨rfl, by rw [h2]; decide, by rw [h2]; exact wp_inf⟩)
    · exact .inr (.inr ⟨rfl, by rw [beq_eq_false_iff_ne]; unfold inf at h2; omega⟩)
end Fl

set_option maxRecDepth 100000 in
theorem rLength_c (x : Nat) (hx : x < 18446744073709551616) (w : World) : Calls Try.prog 26 #[.float .f64 x] w fun e w' => e = .returned (.int .i64 (Fl.len x)) ∧ w = w' := by
  have hN := Fl.Hd.mk (nan_c x hx)
  have hS := Fl.Hd.mk (size_c x hx)
  have hG := Fl.Hd.mk (negative_c x hx)
  have hW := whole_c x hx
  unfold Fl.len
  cases hn : Fl.isNan x
  · cases hs : Fl.sg x
    · rw [hn] at hN; rw [hs] at hG
      rw [if_neg (by simp)]
      rcases Fl.ask x with ⟨a1, a2⟩ | ⟨a1, a2, a3⟩ | ⟨a1, a2⟩
      · rw [if_pos a2]
        rw [a1] at hW
        have hW := Fl.Hd.mk hW
        clear a2
        go_enter Try.func26, Try.ntmps26
        go_wp2_with (first | (go_at_call 35; refine (hN.out _).mono ?_; rintro e w' ⟨rfl, rfl⟩) | (go_at_call 31; refine (hS.out _).mono ?_; rintro e w' ⟨rfl, rfl⟩) | (go_at_call 32; refine (hG.out _).mono ?_; rintro e w' ⟨rfl, rfl⟩) | (go_at_call 38; refine (hW.out _).mono ?_; rintro e w' ⟨rfl, rfl⟩))
        go_ret
        exact ⟨rfl, rfl⟩
      · rw [if_pos a3]
        rw [a1] at hW
        simp only [if_true] at hW
        have hW := Fl.Hd.mk hW
        have c1 : decide (9007199254740991 < (Fl.wp (Fl.sz x) : Int)) = true := decide_eq_true (by omega)
        clear a3
        generalize Fl.wp (Fl.sz x) = W at *
        go_enter Try.func26, Try.ntmps26
        go_wp2_with (first | (go_at_call 35; refine (hN.out _).mono ?_; rintro e w' ⟨rfl, rfl⟩) | (go_at_call 31; refine (hS.out _).mono ?_; rintro e w' ⟨rfl, rfl⟩) | (go_at_call 32; refine (hG.out _).mono ?_; rintro e w' ⟨rfl, rfl⟩) | (go_at_call 38; refine (hW.out _).mono ?_; rintro e w' ⟨rfl, rfl⟩))
        go_ret
        exact ⟨rfl, rfl⟩
      · rw [a1] at hW
        simp only [if_true] at hW
        have hW := Fl.Hd.mk hW
        by_cases hb : 9007199254740991 < Fl.wp (Fl.sz x)
        · rw [if_pos hb]
          have c1 : decide (9007199254740991 < (Fl.wp (Fl.sz x) : Int)) = true := decide_eq_true (by omega)
          clear hb
          generalize Fl.wp (Fl.sz x) = W at *
          go_enter Try.func26, Try.ntmps26
          go_wp2_with (first | (go_at_call 35; refine (hN.out _).mono ?_; rintro e w' ⟨rfl, rfl⟩) | (go_at_call 31; refine (hS.out _).mono ?_; rintro e w' ⟨rfl, rfl⟩) | (go_at_call 32; refine (hG.out _).mono ?_; rintro e w' ⟨rfl, rfl⟩) | (go_at_call 38; refine (hW.out _).mono ?_; rintro e w' ⟨rfl, rfl⟩))
          go_ret
          exact ⟨rfl, rfl⟩
        · rw [if_neg hb]
          have c1 : decide (9007199254740991 < (Fl.wp (Fl.sz x) : Int)) = false := decide_eq_false (by omega)
          have c2 := Fl.Hd.mk (IntWalk.wrap64_in (Fl.wp (Fl.sz x) : Int) (by omega))
          clear hb
          generalize Fl.wp (Fl.sz x) = W at *
          go_enter Try.func26, Try.ntmps26
          go_wp2_with (first | (go_at_call 35; refine (hN.out _).mono ?_; rintro e w' ⟨rfl, rfl⟩) | (go_at_call 31; refine (hS.out _).mono ?_; rintro e w' ⟨rfl, rfl⟩) | (go_at_call 32; refine (hG.out _).mono ?_; rintro e w' ⟨rfl, rfl⟩) | (go_at_call 38; refine (hW.out _).mono ?_; rintro e w' ⟨rfl, rfl⟩))
          go_ret
          exact ⟨ret_int c2.out, rfl⟩
    · rw [hn] at hN; rw [hs] at hG
      rw [if_pos (by simp)]
      clear hW
      go_enter Try.func26, Try.ntmps26
      go_wp2_with (first | (go_at_call 35; refine (hN.out _).mono ?_; rintro e w' ⟨rfl, rfl⟩) | (go_at_call 32; refine (hG.out _).mono ?_; rintro e w' ⟨rfl, rfl⟩))
      go_ret
      exact ⟨rfl, rfl⟩
  · rw [hn] at hN
    rw [if_pos (by simp)]
    clear hW
    go_enter Try.func26, Try.ntmps26
    go_wp2_with (first | (go_at_call 35; refine (hN.out _).mono ?_; rintro e w' ⟨rfl, rfl⟩) | (go_at_call 32; refine (hG.out _).mono ?_; rintro e w' ⟨rfl, rfl⟩))
    go_ret
    exact ⟨rfl, rfl⟩
set_option maxRecDepth 100000 in
theorem rIndex_c (x : Nat) (hx : x < 18446744073709551616) (w : World) : Calls Try.prog 14 #[.float .f64 x] w fun e w' => e = .returned (.tuple #[.int .i64 (Fl.idx x), .int .i64 (Fl.idxE x)]) ∧ w = w' := by
  have hN := Fl.Hd.mk (nan_c x hx)
  have hS := Fl.Hd.mk (size_c x hx)
  have hG := Fl.Hd.mk (negative_c x hx)
  have hW := whole_c x hx
  unfold Fl.idx Fl.idxE
  cases hn : Fl.isNan x
  · rw [hn] at hN
    simp only [Bool.false_eq_true, if_false]
    rcases Fl.ask x with ⟨a1, a2⟩ | ⟨a1, a2, a3⟩ | ⟨a1, a2⟩
    · rw [if_pos (.inl a2), if_pos (.inl a2)]
      rw [a1] at hW
      have hW := Fl.Hd.mk hW
      clear a2
      go_enter Try.func14, Try.ntmps14
      go_wp2_with (first | (go_at_call 35; refine (hN.out _).mono ?_; rintro e w' ⟨rfl, rfl⟩) | (go_at_call 31; refine (hS.out _).mono ?_; rintro e w' ⟨rfl, rfl⟩) | (go_at_call 32; refine (hG.out _).mono ?_; rintro e w' ⟨rfl, rfl⟩) | (go_at_call 38; refine (hW.out _).mono ?_; rintro e w' ⟨rfl, rfl⟩))
      go_ret2
      exact ⟨rfl, rfl⟩
    · rw [if_pos (.inl a3), if_pos (.inl a3)]
      rw [a1] at hW
      simp only [if_true] at hW
      have hW := Fl.Hd.mk hW
      have c1 : decide (9007199254740991 < (Fl.wp (Fl.sz x) : Int)) = true := decide_eq_true (by omega)
      clear a3
      generalize Fl.wp (Fl.sz x) = W at *
      go_enter Try.func14, Try.ntmps14
      go_wp2_with (first | (go_at_call 35; refine (hN.out _).mono ?_; rintro e w' ⟨rfl, rfl⟩) | (go_at_call 31; refine (hS.out _).mono ?_; rintro e w' ⟨rfl, rfl⟩) | (go_at_call 32; refine (hG.out _).mono ?_; rintro e w' ⟨rfl, rfl⟩) | (go_at_call 38; refine (hW.out _).mono ?_; rintro e w' ⟨rfl, rfl⟩))
      go_ret2
      exact ⟨rfl, rfl⟩
    · rw [a1] at hW
      simp only [if_true] at hW
      have hW := Fl.Hd.mk hW
      by_cases hb : 9007199254740991 < Fl.wp (Fl.sz x)
      · rw [if_pos (.inl hb), if_pos (.inl hb)]
        have c1 : decide (9007199254740991 < (Fl.wp (Fl.sz x) : Int)) = true := decide_eq_true (by omega)
        clear hb
        generalize Fl.wp (Fl.sz x) = W at *
        go_enter Try.func14, Try.ntmps14
        go_wp2_with (first | (go_at_call 35; refine (hN.out _).mono ?_; rintro e w' ⟨rfl, rfl⟩) | (go_at_call 31; refine (hS.out _).mono ?_; rintro e w' ⟨rfl, rfl⟩) | (go_at_call 32; refine (hG.out _).mono ?_; rintro e w' ⟨rfl, rfl⟩) | (go_at_call 38; refine (hW.out _).mono ?_; rintro e w' ⟨rfl, rfl⟩))
        go_ret2
        exact ⟨rfl, rfl⟩
      · have c1 : decide (9007199254740991 < (Fl.wp (Fl.sz x) : Int)) = false := decide_eq_false (by omega)
        have c2 := Fl.Hd.mk (IntWalk.wrap64_in (Fl.wp (Fl.sz x) : Int) (by omega))
        cases hs : Fl.sg x
        · rw [hs] at hG
          rw [if_neg (by simp; omega), if_neg (by simp; omega)]
          clear hb
          generalize Fl.wp (Fl.sz x) = W at *
          go_enter Try.func14, Try.ntmps14
          go_wp2_with (first | (go_at_call 35; refine (hN.out _).mono ?_; rintro e w' ⟨rfl, rfl⟩) | (go_at_call 31; refine (hS.out _).mono ?_; rintro e w' ⟨rfl, rfl⟩) | (go_at_call 32; refine (hG.out _).mono ?_; rintro e w' ⟨rfl, rfl⟩) | (go_at_call 38; refine (hW.out _).mono ?_; rintro e w' ⟨rfl, rfl⟩))
          go_ret2
          exact ⟨ret_ii c2.out rfl, rfl⟩
        · rw [hs] at hG
          by_cases h0 : 0 < Fl.wp (Fl.sz x)
          · rw [if_pos (.inr ⟨rfl, h0⟩), if_pos (.inr ⟨rfl, h0⟩)]
            have c3 : decide (0 < Fl.wp (Fl.sz x)) = true := decide_eq_true h0
            clear hb h0
            generalize Fl.wp (Fl.sz x) = W at *
            go_enter Try.func14, Try.ntmps14
            go_wp2_with (first | (go_at_call 35; refine (hN.out _).mono ?_; rintro e w' ⟨rfl, rfl⟩) | (go_at_call 31; refine (hS.out _).mono ?_; rintro e w' ⟨rfl, rfl⟩) | (go_at_call 32; refine (hG.out _).mono ?_; rintro e w' ⟨rfl, rfl⟩) | (go_at_call 38; refine (hW.out _).mono ?_; rintro e w' ⟨rfl, rfl⟩))
            go_ret2
            exact ⟨rfl, rfl⟩
          · rw [if_neg (by simp; omega), if_neg (by simp; omega)]
            have c3 : decide (0 < Fl.wp (Fl.sz x)) = false := decide_eq_false h0
            clear hb h0
            generalize Fl.wp (Fl.sz x) = W at *
            go_enter Try.func14, Try.ntmps14
            go_wp2_with (first | (go_at_call 35; refine (hN.out _).mono ?_; rintro e w' ⟨rfl, rfl⟩) | (go_at_call 31; refine (hS.out _).mono ?_; rintro e w' ⟨rfl, rfl⟩) | (go_at_call 32; refine (hG.out _).mono ?_; rintro e w' ⟨rfl, rfl⟩) | (go_at_call 38; refine (hW.out _).mono ?_; rintro e w' ⟨rfl, rfl⟩))
            go_ret2
            exact ⟨ret_ii c2.out rfl, rfl⟩
  · rw [hn] at hN
    simp only [if_true]
    clear hW
    go_enter Try.func14, Try.ntmps14
    go_wp2_with (first | (go_at_call 35; refine (hN.out _).mono ?_; rintro e w' ⟨rfl, rfl⟩) | (go_at_call 31; refine (hS.out _).mono ?_; rintro e w' ⟨rfl, rfl⟩) | (go_at_call 32; refine (hG.out _).mono ?_; rintro e w' ⟨rfl, rfl⟩))
    go_ret2
    exact ⟨rfl, rfl⟩

theorem int16_c (x : Nat) (hx : x < 18446744073709551616) (w : World) : Calls Try.prog 19 #[.float .f64 x] w fun e w' => e = .returned (.int .i16 (IntKind.i16.wrap (Fl.u32 x))) ∧ w = w' := by
  have hU := Fl.Hd.mk (uint32_c x hx)
  generalize Fl.u32 x = U at *
  go_enter Try.func19, Try.ntmps19
  go_wp2_with (go_at_call 18; refine (hU.out _).mono ?_; rintro e w' ⟨rfl, rfl⟩)
  go_ret
  exact ⟨rfl, rfl⟩
theorem uint16_c (x : Nat) (hx : x < 18446744073709551616) (w : World) : Calls Try.prog 20 #[.float .f64 x] w fun e w' => e = .returned (.int .u16 (IntKind.u16.wrap (Fl.u32 x))) ∧ w = w' := by
  have hU := Fl.Hd.mk (uint32_c x hx)
  generalize Fl.u32 x = U at *
  go_enter Try.func20, Try.ntmps20
  go_wp2_with (go_at_call 18; refine (hU.out _).mono ?_; rintro e w' ⟨rfl, rfl⟩)
  go_ret
  exact ⟨rfl, rfl⟩
theorem int8_c (x : Nat) (hx : x < 18446744073709551616) (w : World) : Calls Try.prog 21 #[.float .f64 x] w fun e w' => e = .returned (.int .i8 (IntKind.i8.wrap (Fl.u32 x))) ∧ w = w' := by
  have hU := Fl.Hd.mk (uint32_c x hx)
  generalize Fl.u32 x = U at *
  go_enter Try.func21, Try.ntmps21
  go_wp2_with (go_at_call 18; refine (hU.out _).mono ?_; rintro e w' ⟨rfl, rfl⟩)
  go_ret
  exact ⟨rfl, rfl⟩
theorem uint8_c (x : Nat) (hx : x < 18446744073709551616) (w : World) : Calls Try.prog 22 #[.float .f64 x] w fun e w' => e = .returned (.int .u8 (IntKind.u8.wrap (Fl.u32 x))) ∧ w = w' := by
  have hU := Fl.Hd.mk (uint32_c x hx)
  generalize Fl.u32 x = U at *
  go_enter Try.func22, Try.ntmps22
  go_wp2_with (go_at_call 18; refine (hU.out _).mono ?_; rintro e w' ⟨rfl, rfl⟩)
  go_ret
  exact ⟨rfl, rfl⟩
end Go.Proofs.Ytmcibofnanbhpaa
