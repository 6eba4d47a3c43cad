/- trim and Exact: what each call comes to. -/
import Derived.Test.YtmcibofnanbhpaaExaP
set_option linter.unusedVariables false
namespace Go.Proofs.Ytmcibofnanbhpaa.Exa
open Go.RowKit Go.Proofs.YtmcibofnanbhpaaW.PrintWords Go.Proofs.YtmcibofnanbhpaaW.PrintLast Go.Proofs.YtmcibofnanbhpaaW.PrintMore Go.Proofs.Ytmcibofnanbhpaa.PNumberWholes
attribute [local go_sem] max2_int min2_int max_two min_two max_three min_three max_four min_four

/-- A Dec that is laid out. -/
structure IsDec (w : World) (v : Value) (r : List Int) (p : Int) : Prop where
  out : ∃ A c, v = .agg #[.slice A r.length c, .int .i64 p] ∧ r.length ≤ c ∧ Kd.C (Kd.int .i64) w A r.length r
/-- The same, its digits in no cell of the block g. -/
structure IsDecF (g : Nat) (w : World) (v : Value) (r : List Int) (p : Int) : Prop where
  out : ∃ A c, v = .agg #[.slice A r.length c, .int .i64 p] ∧ r.length ≤ c ∧ Kd.C (Kd.int .i64) w A r.length r ∧ ∀ ad, A = some ad → ad.block ≠ g
theorem add_block (a : Addr) (n : Nat) : (a.add n).block = a.block := by unfold Addr.add; split <;> rfl

set_option maxHeartbeats 8000000 in
set_option maxRecDepth 100000 in
theorem trim_c (A0 : Option Addr) (c0 : Nat) (l : List Int) (p : Int) (w : World) (hr0 : Kd.C (Kd.int .i64) w A0 l.length l) (hc0 : l.length ≤ c0) (hb : l.length < 100000) (g : Nat) (hg : ∀ ad, A0 = some ad → ad.block ≠ g) :
    Calls Try.prog 52 #[.slice A0 l.length c0, .int .i64 p] w fun e w' => ∃ v r f t, e = .returned v ∧ Cut l r f t ∧ IsDecF g w' v r (if f = t then 0 else wrap64 (p - f)) ∧ Below w.heap.size w w' := by
  have HR0 := Aside0.mk hr0
  have HC0 := Aside0.mk hc0
  have HL := Aside0.mk hb
  have HF := Aside0.mk hg
  clear hr0 hc0 hb hg
  go_enter Try.func52, Try.ntmps52
  go_wp2
  obtain ⟨W1, hW1⟩ : ∃ W1, W1 = w.alloc (.cells #[.slice none 0 0, .int .i64 0] 61) := ⟨_, rfl⟩
  rw [← hW1]
  have HB := Aside0.mk (show Below w.heap.size w W1 by rw [hW1]; exact (Below.refl _ _).alloc (Nat.le_refl _) _)
  have HG := Aside0.mk (show W1.heap[w.heap.size]? = some (.cells #[.slice none 0 0, .int .i64 0] 61) by rw [hW1]; exact heap_alloc_new _ _)
  clear hW1
  go_loopg [5] l.length (fun kq v5 w' => w' = W1 ∧ ∃ n : Nat, v5 = .int .i64 n ∧ Aside0 (n + kq = l.length) ∧ Aside0 (∀ j < n, rd l j = 0))
  case atStart => exact ⟨rfl, 0, rfl, ⟨by omega⟩, ⟨fun j hj => by omega⟩⟩
  case round =>
    obtain ⟨rfl, n, rfl, HN, HZ⟩ := hrel
    have p1 : (0 : Int) ≤ (n : Int) := by omega
    by_cases c1 : (n : Int) < (l.length : Int)
    · obtain ⟨ad, e, hx0⟩ := Kd.at_int HR0.out (n : Int) p1 c1
      cases e
      have hx := HB.out.cell (World.block_lt_of_cell? w _ hx0)
      rw [hx0] at hx
      simp only [Int.toNat_natCast] at hx
      clear hx0
      have c1b := decide_eq_true c1
      replace p1 := eq_true p1
      replace c1 := eq_true c1
      by_cases c2 : rd l n = 0
      · have c2b : (rd l n == 0) = true := beq_iff_eq.mpr c2
        cases gk with
        | zero => exact absurd HN.out (by have := of_eq_true c1; omega)
        | succ k1 =>
          go_wp2
          go_roundg k1
          case measure => omega
          case rel => exact ⟨rfl, n + 1, by rw [IntWalk.wrap64_in _ (by have := of_eq_true c1; have := HL.out; omega)]; rfl, ⟨by have := HN.out; omega⟩, ⟨fun j hj => by
            by_cases hj2 : j = n
            · rw [hj2]; exact c2
            · exact HZ.out j (by omega)⟩⟩
      · have c2b : (rd l n == 0) = false := beq_eq_false_iff_ne.mpr c2
        have HE := Aside0.mk (show n < l.length → rd l n ≠ 0 from fun _ => c2)
        go_wp2
        go_loopg [6] (l.length - n) (fun kq v6 w' => w' = wr ∧ ∃ m : Nat, v6 = .int .i64 m ∧ Aside0 (n + kq = m) ∧ Aside0 (m ≤ l.length) ∧ Aside0 (∀ j, m ≤ j → j < l.length → rd l j = 0))
        case atStart => exact ⟨rfl, l.length, rfl, ⟨by have := HN.out; omega⟩, ⟨Nat.le_refl _⟩, ⟨fun j h1 h2 => by omega⟩⟩
        case round =>
          try clear c1 c1b
          try clear c2
          try clear c2b
          try clear hx
          try clear p1
          obtain ⟨rfl, m, rfl, HN2, HM, HT⟩ := hrel
          by_cases c3 : (n : Int) < (m : Int)
          · have p3 : (0 : Int) ≤ (m : Int) - 1 := by omega
            have q3 : (m : Int) - 1 < (l.length : Int) := by have := HM.out; omega
            have w3 : wrap64 ((m : Int) - 1) = (m : Int) - 1 := IntWalk.wrap64_in _ (by have := HL.out; omega)
            obtain ⟨ad2, e2, hx3⟩ := Kd.at_int HR0.out ((m : Int) - 1) p3 q3
            cases e2
            have hx2 := HB.out.cell (World.block_lt_of_cell? w _ hx3)
            rw [hx3] at hx2
            rw [show ((m : Int) - 1).toNat = m - 1 by omega] at hx2
            clear hx3
            have c3b := decide_eq_true c3
            by_cases c4 : rd l ((m : Int) - 1) = 0
            · have c4b : (rd l ((m : Int) - 1) == 0) = true := beq_iff_eq.mpr c4
              replace p3 := eq_true p3
              replace q3 := eq_true q3
              cases gk with
              | zero => exact absurd HN2.out (by omega)
              | succ k2 =>
                go_wp2
                go_roundg k2
                case measure => omega
                case rel => exact ⟨rfl, m - 1, by rw [w3]; congr 1; omega, ⟨by have := HN2.out; omega⟩, ⟨by have := HM.out; omega⟩, ⟨fun j h1 h2 => by
                  by_cases hj : j = m - 1
                  · subst hj; rw [← c4]; congr 1; omega
                  · exact HT.out j (by omega) h2⟩⟩
            · have c4b : (rd l ((m : Int) - 1) == 0) = false := beq_eq_false_iff_ne.mpr c4
              have c5 : ((n : Int) == (m : Int)) = false := by rw [beq_eq_false_iff_ne]; omega
              have c5n : (n == m) = false := by rw [beq_eq_false_iff_ne]; omega
              replace p3 := eq_true p3
              replace q3 := eq_true q3
              have hz0 : wr.cell? ⟨w.heap.size, 0, none⟩ = some (.slice none 0 0) := (blk_cell HG.out 0).trans rfl
              have hz1 : wr.cell? ⟨w.heap.size, 1, none⟩ = some (.int .i64 0) := (blk_cell HG.out 1).trans rfl
              have hf0 := blk_frozen HG.out 0
              have hf1 := blk_frozen HG.out 1
              have hcap : n ≤ l.length ∧ m ≤ c0 := by have := HM.out; have := HC0.out; have := HN.out; omega
              have hn2 : n ≤ m := by have := HN2.out; omega
              go_wp2
              refine bodyPost_ret (results_cell_row rfl _ _ w.heap.size _ _ _ _ rfl (blk_set (blk_set HG.out 0 _) 1 _) Try.underlying61 rfl (by kernel_rfl)) rfl ?_
              have hml := HM.out
              have hcc := HC0.out
              have hCt := Kd.C_take (k := Kd.int .i64) (m := m) HR0.out hml
              have hlt : (l.take m).length = m := by rw [List.length_take]; omega
              have hCd := Kd.C_drop (k := Kd.int .i64) (m := n) (c := c0) hCt (by omega) (by omega)
              rw [if_neg (by omega), show n * (Kd.int .i64).sz = n from Nat.mul_one n] at hCd
              have hlr : ((l.take m).drop n).length = m - n := by rw [List.length_drop, hlt]
              refine ⟨_, (l.take m).drop n, n, m, rfl, ⟨by omega, by omega, HZ.out, HT.out, fun _ => HE.out (by omega), rfl⟩, ⟨⟨some (ad.add n), c0 - n, ?_, by omega, ?_, fun ad' e' => by rw [← Option.some.inj e', add_block]; exact HF.out _ rfl⟩⟩, ?_⟩
              · rw [if_neg (by omega), hlr]; rfl
              · refine Kd.C_below (d := Kd.int .i64) (w := w) ?_ (below_set (below_set HB.out (Nat.le_refl _)) (Nat.le_refl _))
                exact hCd
              · exact below_set (below_set HB.out (Nat.le_refl _)) (Nat.le_refl _)
          · have c3b := decide_eq_false c3
            have e3 : n = m := by have := HN2.out; omega
            subst e3
            have c5 : ((n : Int) == (n : Int)) = true := by rw [beq_iff_eq]
            have c5n : (n == n) = true := by rw [beq_iff_eq]
            have hz0 : wr.cell? ⟨w.heap.size, 0, none⟩ = some (.slice none 0 0) := (blk_cell HG.out 0).trans rfl
            have hz1 : wr.cell? ⟨w.heap.size, 1, none⟩ = some (.int .i64 0) := (blk_cell HG.out 1).trans rfl
            have hf0 := blk_frozen HG.out 0
            have hf1 := blk_frozen HG.out 1
            go_wp2
            refine bodyPost_ret (results_cell_row rfl _ _ w.heap.size _ _ _ _ rfl (blk_set (blk_set HG.out 0 _) 1 _) Try.underlying61 rfl (by kernel_rfl)) rfl ?_
            refine ⟨_, rfl, [], n, n, ⟨Nat.le_refl _, by have := HN.out; omega, HZ.out, HT.out, fun h => absurd h (by omega), ?_⟩, ⟨⟨none, 0, ?_, Nat.le_refl _, ?_, fun _ e' => by cases e'⟩⟩, ?_⟩
            · rw [List.drop_eq_nil_of_le (by rw [List.length_take]; omega)]
            · rw [if_pos rfl]; rfl
            · exact Kd.C_nil _ _
            · exact below_set (below_set HB.out (Nat.le_refl _)) (Nat.le_refl _)
    · have c1b := decide_eq_false c1
      have HE := Aside0.mk (show n < l.length → rd l n ≠ 0 from fun h => absurd h (by omega))
      go_wp2
      go_loopg [6] (l.length - n) (fun kq v6 w' => w' = wr ∧ ∃ m : Nat, v6 = .int .i64 m ∧ Aside0 (n + kq = m) ∧ Aside0 (m ≤ l.length) ∧ Aside0 (∀ j, m ≤ j → j < l.length → rd l j = 0))
      case atStart => exact ⟨rfl, l.length, rfl, ⟨by have := HN.out; omega⟩, ⟨Nat.le_refl _⟩, ⟨fun j h1 h2 => by omega⟩⟩
      case round =>
        try clear c1 c1b
        try clear c2
        try clear c2b
        try clear hx
        try clear p1
        obtain ⟨rfl, m, rfl, HN2, HM, HT⟩ := hrel
        by_cases c3 : (n : Int) < (m : Int)
        · have p3 : (0 : Int) ≤ (m : Int) - 1 := by omega
          have q3 : (m : Int) - 1 < (l.length : Int) := by have := HM.out; omega
          have w3 : wrap64 ((m : Int) - 1) = (m : Int) - 1 := IntWalk.wrap64_in _ (by have := HL.out; omega)
          obtain ⟨ad2, e2, hx3⟩ := Kd.at_int HR0.out ((m : Int) - 1) p3 q3
          cases e2
          have hx2 := HB.out.cell (World.block_lt_of_cell? w _ hx3)
          rw [hx3] at hx2
          rw [show ((m : Int) - 1).toNat = m - 1 by omega] at hx2
          clear hx3
          have c3b := decide_eq_true c3
          by_cases c4 : rd l ((m : Int) - 1) = 0
          · have c4b : (rd l ((m : Int) - 1) == 0) = true := beq_iff_eq.mpr c4
            replace p3 := eq_true p3
            replace q3 := eq_true q3
            cases gk with
            | zero => exact absurd HN2.out (by omega)
            | succ k2 =>
              go_wp2
              go_roundg k2
              case measure => omega
              case rel => exact ⟨rfl, m - 1, by rw [w3]; congr 1; omega, ⟨by have := HN2.out; omega⟩, ⟨by have := HM.out; omega⟩, ⟨fun j h1 h2 => by
                by_cases hj : j = m - 1
                · subst hj; rw [← c4]; congr 1; omega
                · exact HT.out j (by omega) h2⟩⟩
          · have c4b : (rd l ((m : Int) - 1) == 0) = false := beq_eq_false_iff_ne.mpr c4
            have c5 : ((n : Int) == (m : Int)) = false := by rw [beq_eq_false_iff_ne]; omega
            have c5n : (n == m) = false := by rw [beq_eq_false_iff_ne]; omega
            replace p3 := eq_true p3
            replace q3 := eq_true q3
            have hz0 : wr.cell? ⟨w.heap.size, 0, none⟩ = some (.slice none 0 0) := (blk_cell HG.out 0).trans rfl
            have hz1 : wr.cell? ⟨w.heap.size, 1, none⟩ = some (.int .i64 0) := (blk_cell HG.out 1).trans rfl
            have hf0 := blk_frozen HG.out 0
            have hf1 := blk_frozen HG.out 1
            have hcap : n ≤ l.length ∧ m ≤ c0 := by have := HM.out; have := HC0.out; have := HN.out; omega
            have hn2 : n ≤ m := by have := HN2.out; omega
            go_wp2
            refine bodyPost_ret (results_cell_row rfl _ _ w.heap.size _ _ _ _ rfl (blk_set (blk_set HG.out 0 _) 1 _) Try.underlying61 rfl (by kernel_rfl)) rfl ?_
            have hml := HM.out
            have hcc := HC0.out
            have hCt := Kd.C_take (k := Kd.int .i64) (m := m) HR0.out hml
            have hlt : (l.take m).length = m := by rw [List.length_take]; omega
            have hCd := Kd.C_drop (k := Kd.int .i64) (m := n) (c := c0) hCt (by omega) (by omega)
            rw [if_neg (by omega), show n * (Kd.int .i64).sz = n from Nat.mul_one n] at hCd
            have hlr : ((l.take m).drop n).length = m - n := by rw [List.length_drop, hlt]
            refine ⟨_, (l.take m).drop n, n, m, rfl, ⟨by omega, by omega, HZ.out, HT.out, fun _ => HE.out (by omega), rfl⟩, ⟨⟨some (ad2.add n), c0 - n, ?_, by omega, ?_, fun ad' e' => by rw [← Option.some.inj e', add_block]; exact HF.out _ rfl⟩⟩, ?_⟩
            · rw [if_neg (by omega), hlr]; rfl
            · refine Kd.C_below (d := Kd.int .i64) (w := w) ?_ (below_set (below_set HB.out (Nat.le_refl _)) (Nat.le_refl _))
              exact hCd
            · exact below_set (below_set HB.out (Nat.le_refl _)) (Nat.le_refl _)
        · have c3b := decide_eq_false c3
          have e3 : n = m := by have := HN2.out; omega
          subst e3
          have c5 : ((n : Int) == (n : Int)) = true := by rw [beq_iff_eq]
          have c5n : (n == n) = true := by rw [beq_iff_eq]
          have hz0 : wr.cell? ⟨w.heap.size, 0, none⟩ = some (.slice none 0 0) := (blk_cell HG.out 0).trans rfl
          have hz1 : wr.cell? ⟨w.heap.size, 1, none⟩ = some (.int .i64 0) := (blk_cell HG.out 1).trans rfl
          have hf0 := blk_frozen HG.out 0
          have hf1 := blk_frozen HG.out 1
          go_wp2
          refine bodyPost_ret (results_cell_row rfl _ _ w.heap.size _ _ _ _ rfl (blk_set (blk_set HG.out 0 _) 1 _) Try.underlying61 rfl (by kernel_rfl)) rfl ?_
          refine ⟨_, rfl, [], n, n, ⟨Nat.le_refl _, by have := HN.out; omega, HZ.out, HT.out, fun h => absurd h (by omega), ?_⟩, ⟨⟨none, 0, ?_, Nat.le_refl _, ?_, fun _ e' => by cases e'⟩⟩, ?_⟩
          · rw [List.drop_eq_nil_of_le (by rw [List.length_take]; omega)]
          · rw [if_pos rfl]; rfl
          · exact Kd.C_nil _ _
          · exact below_set (below_set HB.out (Nat.le_refl _)) (Nat.le_refl _)
end Go.Proofs.Ytmcibofnanbhpaa.Exa
