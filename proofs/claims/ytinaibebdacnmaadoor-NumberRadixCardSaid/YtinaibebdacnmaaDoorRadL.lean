/- The reference's Radix where it refuses; the law NumberRadix. -/
import Derived.Test.YtinaibebdacnmaaDoorRadK
set_option linter.unusedVariables false
namespace Go.Proofs.YtinaibebdacnmaaDoor
open Go.RowKit

set_option maxHeartbeats 1000000 in
set_option maxRecDepth 100000 in
theorem rRadixBad_c (x : Nat) (hx : x < 18446744073709551616) (base : Int) (h : radBad x base) (w : World) :
    Calls Tryd.prog 19 #[.float .f64 x, .int .i64 base] w fun e w' => e = .returned (.tuple #[.string ⟨#[]⟩, .int .i64 7]) ∧ w = w' := by
  have hF := finite_c x hx
  by_cases b1 : base < 2
  · have b1d := decide_eq_true b1
    clear h
    go_enter Tryd.func19, Tryd.ntmps19
    go_wp2
    go_ret2
    exact ⟨rfl, rfl⟩
  · have b1d := decide_eq_false b1
    by_cases b2 : 36 < base
    · have b2d := decide_eq_true b2
      clear h
      go_enter Tryd.func19, Tryd.ntmps19
      go_wp2
      go_ret2
      exact ⟨rfl, rfl⟩
    · have b2d := decide_eq_false b2
      by_cases b3 : Fl.inf ≤ Fl.sz x
      · rw [decide_eq_false (by omega)] at hF
        have hF := Fl.Hd.mk hF
        clear h b3
        go_enter Tryd.func19, Tryd.ntmps19
        go_wp2_with (go_at_call 40; refine (hF.out _).mono ?_; rintro e w' ⟨rfl, rfl⟩)
        go_ret2
        exact ⟨rfl, rfl⟩
      · have hlt : Fl.sz x < Fl.inf := by omega
        rw [decide_eq_true hlt] at hF
        have hF := Fl.Hd.mk hF
        have hWh := isWhole_c x hx
        cases b4 : Fl.whl (Fl.sz x)
        · rw [b4] at hWh
          have hWh := Fl.Hd.mk hWh
          clear h b3 hlt b4
          go_enter Tryd.func19, Tryd.ntmps19
          go_wp2_with (first | (go_at_call 40; refine (hF.out _).mono ?_; rintro e w' ⟨rfl, rfl⟩) | (go_at_call 41; refine (hWh.out _).mono ?_; rintro e w' ⟨rfl, rfl⟩))
          go_ret2
          exact ⟨rfl, rfl⟩
        · rw [b4] at hWh
          have hWh := Fl.Hd.mk hWh
          have hbig : 9007199254740991 < Fl.wp (Fl.sz x) := by
            rcases h with h | h | h | h | h
            · omega
            · omega
            · omega
            · rw [b4] at h; cases h
            · exact h
          have hW := whole_c x hx
          have d1 : decide (9007199254740991 < (Fl.wp (Fl.sz x) : Int)) = true := decide_eq_true (by omega)
          have d1n : decide (9007199254740991 < Fl.wp (Fl.sz x)) = true := decide_eq_true hbig
          clear h b3 hlt b4 hbig
          cases hf : Fl.fits (Fl.sz x)
          all_goals
            rw [hf] at hW
            simp only [Bool.false_eq_true, if_true, if_false] at hW
            have hW := Fl.Hd.mk hW
            clear hf
            generalize Fl.wp (Fl.sz x) = n at *
            go_enter Tryd.func19, Tryd.ntmps19
            go_wp2_with (first | (go_at_call 40; refine (hF.out _).mono ?_; rintro e w' ⟨rfl, rfl⟩) | (go_at_call 41; refine (hWh.out _).mono ?_; rintro e w' ⟨rfl, rfl⟩) | (go_at_call 42; refine (hW.out _).mono ?_; rintro e w' ⟨rfl, rfl⟩))
            go_ret2
            exact ⟨rfl, rfl⟩

theorem num_c (n : Int) (w : World) : Calls Tryd.prog 20 #[.int .i64 n] w fun e w' => e = .returned (.int .i64 n) ∧ w = w' := by
  go_enter Tryd.func20, Tryd.ntmps20
  go_wp2
  go_ret
  exact ⟨rfl, rfl⟩

set_option maxHeartbeats 1000000 in
set_option maxRecDepth 100000 in
theorem law_radix (a : Nat) (ha : a < 18446744073709551616) (base : Int) (w : World) (T : Rad.TabR w) :
    Calls Tryd.prog 5 #[.int .u64 a, .int .i64 base] w fun e w' => e = .returned (.bool true) ∧ Below w.heap.size w w' := by
  have f1 := Fl.Hd.mk (float_c a)
  by_cases h : radBad a base
  · have p1 := Fl.Hd.mk (radixBad_c a ha base h)
    have p2 := Fl.Hd.mk (rRadixBad_c a ha base h)
    have n1 := Fl.Hd.mk (num_c 7)
    clear h
    go_enter Tryd.func5, Tryd.ntmps5
    go_wp2_with (first | (go_at_call 17; refine (f1.out _).mono ?_; rintro e w' ⟨rfl, rfl⟩) | (go_at_call 18; refine (p1.out _).mono ?_; rintro e w' ⟨rfl, rfl⟩) | (go_at_call 19; refine (p2.out _).mono ?_; rintro e w' ⟨rfl, rfl⟩) | (go_at_call 20; refine (n1.out _).mono ?_; rintro e w' ⟨rfl, rfl⟩))
    go_ret
    exact ⟨rfl, Below.refl _ _⟩
  · obtain ⟨b, rfl⟩ : ∃ b : Nat, base = b := ⟨base.toNat, by unfold radBad at h; simp only [not_or] at h; omega⟩
    have p1 := Fl.Hd.mk (radix_c a ha b h)
    have p2 := Fl.Hd.mk (rRadix_c a ha b h)
    have n1 := Fl.Hd.mk (num_c 0)
    have T := Fl.Hd.mk T
    clear h
    generalize Rad.rtxt b (radN a) = TX at *
    go_enter Tryd.func5, Tryd.ntmps5
    go_wp2_with (first | (go_at_call 17; refine (f1.out _).mono ?_; rintro e w' ⟨rfl, rfl⟩) | (go_at_call 18; refine (p1.out _ T.out).mono ?_; rintro e w1 ⟨rfl, hb1⟩) | (go_at_call 19; refine (p2.out _).mono ?_; rintro e w2 ⟨rfl, hb2⟩) | (go_at_call 20; refine (n1.out _).mono ?_; rintro e w' ⟨rfl, rfl⟩))
    go_ret
    exact ⟨rfl, Go.Proofs.YtinaibebdacnmaaDoorW.PrintWords.below_step hb1 hb2⟩
end Go.Proofs.YtinaibebdacnmaaDoor
