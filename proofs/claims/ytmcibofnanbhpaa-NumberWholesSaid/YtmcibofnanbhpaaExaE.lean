/- Exact: what a call comes to (exponents below nought). -/
import Derived.Test.YtmcibofnanbhpaaExaC
set_option linter.unusedVariables false
namespace Go.Proofs.Ytmcibofnanbhpaa.Exa
open Go.RowKit Go.Proofs.YtmcibofnanbhpaaW.PrintWords Go.Proofs.YtmcibofnanbhpaaW.PrintLast Go.Proofs.YtmcibofnanbhpaaW.PrintMore Go.Proofs.Ytmcibofnanbhpaa.PNumberWholes
attribute [local go_sem] max2_int min2_int max_two min_two max_three min_three max_four min_four

theorem limbs (m : Int) (h0 : 0 ≤ m) (h1 : m < 18446744073709551616) :
    ok [Int.tmod m 1000000000, Int.tmod (IntKind.u64.wrap (Int.tdiv m 1000000000)) 1000000000, IntKind.u64.wrap (Int.tdiv m 1000000000000000000)] ∧
    val [Int.tmod m 1000000000, Int.tmod (IntKind.u64.wrap (Int.tdiv m 1000000000)) 1000000000, IntKind.u64.wrap (Int.tdiv m 1000000000000000000)] = m := by
  have g1 : 0 ≤ m / 1000000000 ∧ m / 1000000000 < 18446744073709551616 := by omega
  have g2 : 0 ≤ m / 1000000000000000000 ∧ m / 1000000000000000000 < 1000000000 := by omega
  have g3 : 0 ≤ m % 1000000000 ∧ m % 1000000000 < 1000000000 := by omega
  have g4 : 0 ≤ m / 1000000000 % 1000000000 ∧ m / 1000000000 % 1000000000 < 1000000000 := by omega
  have g5 : m % 1000000000 + 1000000000 * (m / 1000000000 % 1000000000 + 1000000000 * (m / 1000000000000000000)) = m := by omega
  rw [Int.tmod_eq_emod_of_nonneg h0, Int.tdiv_eq_ediv_of_nonneg h0, Int.tdiv_eq_ediv_of_nonneg h0, u64_in g1.1 g1.2, u64_in g2.1 (Int.lt_trans g2.2 (by decide)), Int.tmod_eq_emod_of_nonneg g1.1]
  constructor
  · intro a ha
    simp only [List.mem_cons, List.not_mem_nil, or_false] at ha
    rcases ha with h | h | h
    · rw [h]; exact g3
    · rw [h]; exact g4
    · rw [h]; exact g2
  · simp only [val, Int.mul_zero, Int.add_zero]; exact g5

theorem pow5 {i : Nat} (h : i ≤ 12) : (5 : Int) ^ i ≤ 244140625 ∧ 0 < (5 : Int) ^ i := by
  have h1 : 5 ^ i ≤ 5 ^ 12 := Nat.pow_le_pow_right (by decide) h
  have h2 : 0 < 5 ^ i := Nat.pow_pos (by decide)
  have e : ((5 ^ i : Nat) : Int) = (5 : Int) ^ i := by push_cast; rfl
  rw [← e]
  exact ⟨by have : (5 : Nat) ^ 12 = 244140625 := by decide
            omega, by omega⟩
theorem mul5 {x : Int} (h : x ≤ 244140625) : x * 5 < 18446744073709551616 := by omega
theorem p10_split (q : Nat) (hq : q ≤ 8) : (100000000 : Int) / 10 ^ q = 10 ^ (8 - q) := by
  have h : (100000000 : Int) = 10 ^ q * 10 ^ (8 - q) := by
    rw [← Int.pow_add, show q + (8 - q) = 8 by omega]; rfl
  rw [h]
  exact Int.mul_ediv_cancel_left _ (Int.ne_of_gt (pow10_pos q))
theorem unit_next (q : Nat) : (100000000 : Int) / 10 ^ q / 10 = 100000000 / 10 ^ (q + 1) := by
  rw [Int.ediv_ediv_of_nonneg (Int.le_of_lt (pow10_pos q)), Int.pow_succ]
theorem unit_bd (q : Nat) : (0 : Int) ≤ 100000000 / 10 ^ q ∧ (100000000 : Int) / 10 ^ q ≤ 100000000 := by
  refine ⟨Int.ediv_nonneg (by decide) (Int.le_of_lt (pow10_pos q)), ?_⟩
  exact Int.ediv_le_self _ (by decide)
theorem unit_pos {q : Nat} (h : q ≤ 8) : (0 : Int) < 100000000 / 10 ^ q := by rw [p10_split q h]; exact pow10_pos _
theorem dig_step (X V : Int) (q : Nat) (hq : q ≤ 8) : (V * 10 ^ q + X / 10 ^ (9 - q)) * 10 + X / (100000000 / 10 ^ q) % 10 = V * 10 ^ (q + 1) + X / 10 ^ (9 - (q + 1)) := by
  rw [p10_split q hq, show 9 - (q + 1) = 8 - q by omega, show 9 - q = (8 - q) + 1 by omega, Int.pow_succ, Int.pow_succ, ← Int.ediv_ediv_of_nonneg (Int.le_of_lt (pow10_pos (8 - q)))]
  generalize X / 10 ^ (8 - q) = Y
  rw [← Int.mul_assoc]
  generalize V * 10 ^ q = Z
  omega
/-- The digit as the code finds it. -/
theorem dig_code {X U : Int} (h0 : 0 ≤ X) (h1 : X < 1000000000) (hU : 0 < U) : wrap64 (Int.tmod (IntKind.u64.wrap (Int.tdiv X U)) 10) = X / U % 10 ∧ 0 ≤ X / U % 10 ∧ X / U % 10 ≤ 9 := by
  have b0 : 0 ≤ X / U := Int.ediv_nonneg h0 (Int.le_of_lt hU)
  have b1 : X / U ≤ X := Int.ediv_le_self _ h0
  rw [Int.tdiv_eq_ediv_of_nonneg h0, u64_in b0 (by omega), Int.tmod_eq_emod_of_nonneg b0]
  generalize X / U = Y at *
  exact ⟨IntWalk.wrap64_in _ (by omega), by omega, by omega⟩
theorem unit_code {U : Int} (h0 : 0 ≤ U) (h1 : U ≤ 100000000) : IntKind.u64.wrap (Int.tdiv U 10) = U / 10 := by
  rw [Int.tdiv_eq_ediv_of_nonneg h0]; exact u64_in (by omega) (by omega)
theorem last9 (V X : Int) : V * 10 ^ 9 + X / 10 ^ (9 - 9) = X + 1000000000 * V := by
  have : (10 : Int) ^ 9 = 1000000000 := by decide
  rw [this, Nat.sub_self, Int.pow_zero, Int.ediv_one]; omega
theorem isdec_pt {g : Nat} {w : World} {v : Value} {r : List Int} {x : Int} (h : IsDecF g w v r x) : ∃ p, p = x ∧ IsDecF g w v r p := ⟨x, rfl, h⟩
/-- What Exact gives. -/
structure ExactSays (m : Int) (K : Nat) (w' : World) (v : Value) : Prop where
  out : ∃ l r f t, dig l ∧ l.length < 20000 ∧ pd l l.length 0 = m * 5 ^ K ∧ Cut l r f t ∧ IsDec w' v r (if f = t then 0 else (l.length : Int) - K - f)

set_option maxHeartbeats 8000000 in
set_option maxRecDepth 100000 in
theorem exact_c (m : Int) (K : Nat) (h0 : 0 ≤ m) (h1 : m < 18446744073709551616) (hK : 1 ≤ K) (hK2 : K ≤ 1100) (w : World) :
    Calls Try.prog 44 #[.int .u64 m, .int .i64 (-(K : Int))] w fun e w' => ∃ v, e = .returned v ∧ ExactSays m K w' v ∧ Below w.heap.size w w' := by
  obtain ⟨hok, hval⟩ := limbs m h0 h1
  generalize hl0 : [Int.tmod m 1000000000, Int.tmod (IntKind.u64.wrap (Int.tdiv m 1000000000)) 1000000000, IntKind.u64.wrap (Int.tdiv m 1000000000000000000)] = l0 at *
  have H0 := Aside0.mk hok
  have HV := Aside0.mk hval
  have HL0 := Aside0.mk hl0
  have HM := Aside0.mk (show 0 ≤ m ∧ m < 18446744073709551616 from ⟨h0, h1⟩)
  have c0 : decide ((0 : Int) < -(K : Int)) = false := decide_eq_false (by omega)
  have c0b : decide (-(K : Int) < 0) = true := decide_eq_true (by omega)
  have cw : wrap64 (- -(K : Int)) = (K : Int) := by rw [Int.neg_neg]; exact IntWalk.wrap64_in _ (by omega)
  clear hok hval hl0 h0 h1
  go_enter Try.func44, Try.ntmps44
  go_wp2_with ((with_reducible refine gate_dst (N := 21) rfl ?_); refine Kd.R_lit (Kd.int .u64) (w0 := w) w.heap.size 22 ?hg (N := 21) ?hd (xs := [Int.tmod m 1000000000, Int.tmod (IntKind.u64.wrap (Int.tdiv m 1000000000)) 1000000000, IntKind.u64.wrap (Int.tdiv m 1000000000000000000)]) (inner := [.int .u64 (Int.tmod m 1000000000), .int .u64 (Int.tmod (IntKind.u64.wrap (Int.tdiv m 1000000000)) 1000000000), .int .u64 (IntKind.u64.wrap (Int.tdiv m 1000000000000000000))]) (ok := fun _ => True) (okp := fun _ => False) ?hr ?hp (fun _ hk => hk.elim) ?hf ?hB ?hs (by simp) ?_; (case hd => rfl); (case hg => rfl); (case hr => first | (go_simp; done) | (go_simp; rfl)); (case hp => exact (Reps.one (show Kd.M (Kd.int .u64) _ _ _ _ [_] from rfl) (Reps.one (show Kd.M (Kd.int .u64) _ _ _ _ [_] from rfl) (Reps.one (show Kd.M (Kd.int .u64) _ _ _ _ [_] from rfl) (Reps.none _ _))))); (case hf => trivial); (case hB => exact below_alloc (Below.refl _ _) _); (case hs => simp); intro v136 w8 ho9 hb hg_ hnew_; rw [HL0.out] at ho9; have HO := Aside0.mk ho9; have HB := Aside0.mk hb; have HG := Aside0.mk (blk_grown (heap_alloc_new w _) hg_ (by simp)); clear ho9 hb hg_ hnew_)
  go_loopg [5, 7] 0 (fun kq v5 v7 w' => w' = w8 ∧ v5 = v136 ∧ v7 = .int .i64 (-(K : Int)))
  case atStart => exact ⟨rfl, rfl, rfl⟩
  case round =>
    obtain ⟨rfl, rfl, rfl⟩ := hrel
    go_wp2
    go_loopg [5, 8] 100 (fun kq v5 v8 w' => ∃ (L : List Int) (j : Nat), v8 = .int .i64 ((K : Int) - 12 * j) ∧ Aside0 (12 * j < K + 12 ∧ kq + j = 100) ∧ Aside0 (ok L ∧ val L = 5 ^ (min (12 * j) K) * m ∧ 3 ≤ L.length ∧ L.length ≤ 3 + j) ∧ Aside0 (Kd.R (Kd.int .u64) 22 w' w.heap.size (fun _ => True) v5 L) ∧ Aside0 (Below w.heap.size w w') ∧ Aside0 (w'.heap[w.heap.size]? = some (.cells #[.slice none 0 0, .int .i64 0] 61)))
    case atStart => exact ⟨l0, 0, by first | rfl | (rw [cw]; congr 1; omega) | (congr 1; omega), ⟨by omega⟩, ⟨H0.out, by rw [HV.out, Nat.mul_zero, Nat.zero_min]; omega, by rw [← HL0.out]; simp, by rw [← HL0.out]; simp⟩, HO, HB, HG⟩
    case round =>
      clear HO HB HG H0 HV HL0
      obtain ⟨L, j, rfl, HJ, HV, HO, HB, HG⟩ := hrel
      obtain ⟨A, cc, rfl⟩ := Kd.R_slice HO.out
      by_cases c1 : (0 : Int) < (K : Int) - 12 * j
      · have c1b := decide_eq_true c1
        have hn : ∃ n : Nat, (if (12 : Int) < (K : Int) - 12 * j then (12 : Int) else (K : Int) - 12 * j) = (n : Int) ∧ n = min (K - 12 * j) 12 := ⟨min (K - 12 * j) 12, by split <;> omega, rfl⟩
        obtain ⟨n, hn, hn2⟩ := hn
        have HN := Aside0.mk hn2
        clear hn2
        cases gk with
        | zero => exact absurd HJ.out (by omega)
        | succ k1 =>
        go_wp2
        go_loopg [9, 10] n (fun kq v9 v10 w' => w' = wr ∧ ∃ i : Nat, v10 = .int .i64 i ∧ v9 = .int .u64 (5 ^ i) ∧ Aside0 (i + kq = n))
        case atStart => exact ⟨rfl, 0, rfl, rfl, ⟨by omega⟩⟩
        case round =>
          obtain ⟨rfl, i, rfl, rfl, HI⟩ := hrel
          have HP := Aside0.mk (show (5 : Int) ^ i ≤ 244140625 ∧ 0 < (5 : Int) ^ i from pow5 (by have := HI.out; have := HN.out; omega))
          by_cases c2 : (i : Int) < (n : Int)
          · have c2b := decide_eq_true c2
            have c2n : decide (i < n) = true := decide_eq_true (by omega)
            cases gk with
            | zero => exact absurd HI.out (by omega)
            | succ k2 =>
              go_wp2
              go_roundg k2
              case measure => omega
              case rel => exact ⟨rfl, i + 1, by first | rfl | (rw [IntWalk.wrap64_in _ (by have := HI.out; have := HN.out; omega)]; rfl), by rw [Int.pow_succ, u64_in (Int.mul_nonneg (Int.le_of_lt HP.out.2) (by decide)) (mul5 HP.out.1)], ⟨by have := HI.out; omega⟩⟩
          · have c2b := decide_eq_false c2
            have c2n : decide (i < n) = false := decide_eq_false (by omega)
            have ei : i = n := by have := HI.out; omega
            subst ei
            obtain ⟨kt, rt, ht1, ht2, ht3, ht4, ht5⟩ := times_all L (5 ^ i) HV.out.1 HP.out.2 (Int.le_trans HP.out.1 (by decide)) (by have := HV.out.2.2.2; have := HJ.out; omega)
            have HT := Aside0.mk ht1
            have HR := Aside0.mk (show ok rt ∧ val rt = 5 ^ (min (12 * (j + 1)) K) * m ∧ 3 ≤ rt.length ∧ rt.length ≤ 3 + (j + 1) from by
              refine ⟨ht2, ?_, by have := HV.out; omega, by have := HV.out; omega⟩
              rw [ht3, HV.out.2.1, ← Int.mul_assoc, ← Int.pow_add]
              congr 2
              have := HN.out
              omega)
            clear ht1 ht2 ht3 ht4 ht5
            go_wp2_with (go_at_call 51; refine (cameoref02_times.calls kt A cc L (5 ^ i) rt _ (Kd.R_reads' HO.out).2.2 (Kd.R_reads' HO.out).2.1 HT.out).mono ?_; rintro e w3 ⟨v3, rfl, ho3, hb3⟩; have HO3 := Aside0.mk (Kd.R_lower ho3 (below_size HB.out)); have HB3 := Aside0.mk (below_step HB.out hb3); have HG3 := Aside0.mk (blk_below HG.out hb3); clear ho3 hb3)
            go_roundg k1
            case measure => omega
            case rel => exact ⟨rt, j + 1, by first | rfl | (rw [IntWalk.wrap64_in _ (by have := HJ.out; omega)]; congr 1; omega) | (congr 1; omega), ⟨by have := HJ.out; omega⟩, HR, HO3, HB3, HG3⟩
      · have c1b := decide_eq_false c1
        go_wp2
        have HX := Aside0.mk (show ok L ∧ val L = 5 ^ K * m ∧ 3 ≤ L.length ∧ L.length ≤ 103 from by
          have e : min (12 * j) K = K := by omega
          have hv := HV.out
          rw [e] at hv
          exact ⟨hv.1, hv.2.1, hv.2.2.1, by have := hv.2.2.2; have := HJ.out; omega⟩)
        have HC := Aside0.mk (Kd.R_reads' HO.out).2.2
        clear HV HJ HO
        clear c1 c1b
        obtain ⟨W2, rfl⟩ : ∃ W2, W2 = wr := ⟨wr, rfl⟩
        go_loopg [11, 12] L.length (fun kq v11 v12 w' => ∃ (d : List Int) (i : Nat), v12 = .int .i64 ((i : Int) - 1) ∧ Aside0 (kq = i ∧ i ≤ L.length) ∧ Aside0 (dig d ∧ d.length = 9 * (L.length - i) ∧ pd d d.length 0 = val (L.drop i)) ∧ Aside0 (Kd.R (Kd.int .i64) 3 w' W2.heap.size (fun _ => True) v11 d) ∧ Aside0 (Below W2.heap.size W2 w'))
        case atStart => exact ⟨[], L.length, by rw [IntWalk.wrap64_in _ (by have := HX.out.2.2; omega)], ⟨rfl, Nat.le_refl _⟩, ⟨fun i => by rw [rd_out (by simp)]; omega, by simp, by rw [List.drop_length]; rfl⟩, ⟨Kd.R_nil _ _ _ _ _⟩, ⟨Below.refl _ _⟩⟩
        case round =>
          obtain ⟨d, i, rfl, HI, HD, HO, HB2⟩ := hrel
          by_cases c2 : i = 0
          · subst c2
            go_wp2
            obtain ⟨A2, cc2, rfl⟩ := Kd.R_slice HO.out
            have HA2 := Aside0.mk (show ∀ ad, A2 = some ad → ad.block ≠ w.heap.size from fun ad e => by
              have h1 := Kd.R_base HO.out ad.block (by rw [e]; rfl)
              have h2 := blk_lt HG.out
              omega)
            have HF := Aside0.mk (show d.length = 9 * L.length ∧ d.length < 20000 from by have := HD.out.2.1; have := HX.out.2.2; omega)
            rw [show (((0 : Nat) : Int) - 1) = -1 from rfl]
            have hu59 : Try.prog.underlying 59 = some (.slice (Try.prog.elem 59)) := by simp [Program.elem, Try.underlying59]
            go_wp2_with fail
            rw [run_len_slice (h := hu59)]
            go_wp2_with (go_at_call 52; refine (trim_c A2 cc2 d _ _ (Kd.R_reads' HO.out).2.2 (Kd.R_reads' HO.out).2.1 (by have := HF.out.2; omega) w.heap.size HA2.out).mono ?_; rintro e w3 ⟨v3, r3, f3, t3, rfl, hc3, hd3, hb3⟩; obtain ⟨p3, hp3, hd3⟩ := isdec_pt hd3; obtain ⟨⟨A3, cc3, rfl, hl3, hC3, hF3⟩⟩ := hd3; have HP3 := Aside0.mk hp3; clear hp3; have hz0 : w3.cell? ⟨w.heap.size, 0, none⟩ = some (.slice none 0 0) := (blk_cell (blk_below (blk_below HG.out HB2.out) hb3) 0).trans rfl; have hz1 : w3.cell? ⟨w.heap.size, 1, none⟩ = some (.int .i64 0) := (blk_cell (blk_below (blk_below HG.out HB2.out) hb3) 1).trans rfl; have hf0 := blk_frozen (blk_below (blk_below HG.out HB2.out) hb3) 0; have hf1 := blk_frozen (blk_below (blk_below HG.out HB2.out) hb3) 1)
            refine bodyPost_ret (results_cell_row rfl _ _ w.heap.size _ _ _ _ rfl (blk_set (blk_set (blk_below (blk_below HG.out HB2.out) hb3) 0 _) 1 _) Try.underlying61 rfl (by kernel_rfl)) rfl ?_
            have hs3 : w.heap.size ≤ w3.heap.size := Nat.le_trans (below_size HB.out) (Nat.le_trans (below_size HB2.out) (below_size hb3))
            have hs2 : w.heap.size < w3.heap.size := blk_lt (blk_below (blk_below HG.out HB2.out) hb3)
            refine ⟨_, rfl, ⟨⟨d, r3, f3, t3, HD.out.1, HF.out.2, ?_, hc3, ⟨⟨A3, cc3, ?_, hl3, ?_⟩⟩⟩⟩, ?_⟩
            · rw [HD.out.2.2, List.drop_zero, HX.out.2.1, Int.mul_comm]
            · rw [show (if f3 = t3 then 0 else (d.length : Int) - K - f3) = p3 from by
                rw [HP3.out]
                split
                · rfl
                · have := HF.out.2
                  have := hc3.ft
                  have := hc3.tl
                  rw [IntWalk.wrap64_in _ (by try rw [IntWalk.wrap64_in _ (by omega)]
                                              omega)]
                  try rw [IntWalk.wrap64_in _ (by omega)]
                  omega]
              rfl
            · exact Kd.C_keep (0 : Int) hC3 (KeepBut.set_ (KeepBut.set_ (KeepBut.refl w3 w.heap.size none) 0 _) 1 _) (fun ad e _ => hF3 ad e)
            · exact below_set (below_set (below_step (below_step HB.out HB2.out) hb3) (Nat.le_refl _)) (Nat.le_refl _)
          · have c2b : decide ((0 : Int) ≤ (i : Int) - 1) = true := decide_eq_true (by omega)
            obtain ⟨i, rfl⟩ : ∃ i' : Nat, i = i' + 1 := ⟨i - 1, by omega⟩
            have ei : (((i + 1 : Nat) : Int) - 1) = (i : Int) := by omega
            rw [ei] at c2b ⊢
            have HR := Aside0.mk (rd_ok HX.out.1 (show i < L.length by have := HI.out; omega))
            have HS := Aside0.mk (drop_rd (show i < L.length by have := HI.out; omega))
            cases gk with
            | zero => exact absurd HI.out (by omega)
            | succ k1 =>
            clear c2
            go_wp2
            go_loopg [11, 13] 9 (fun kq v11 v13 w' => ∃ (d : List Int) (q : Nat) (U : Int), v13 = .int .u64 U ∧ Aside0 (U = 100000000 / 10 ^ q ∧ kq + q = 9) ∧ Aside0 (dig d ∧ d.length = 9 * (L.length - (i + 1)) + q ∧ pd d d.length 0 = val (L.drop (i + 1)) * 10 ^ q + rd L i / 10 ^ (9 - q)) ∧ Aside0 (Kd.R (Kd.int .i64) 3 w' W2.heap.size (fun _ => True) v11 d) ∧ Aside0 (Below W2.heap.size W2 w'))
            case atStart => exact ⟨d, 0, 100000000, rfl, ⟨by decide, rfl⟩, ⟨HD.out.1, HD.out.2.1, by rw [HD.out.2.2, Int.ediv_eq_zero_of_lt HR.out.1 (by exact HR.out.2)]; omega⟩, HO, HB2⟩
            case round =>
              clear HD HO HB2
              obtain ⟨d, q, U, rfl, HU, HD, HO, HB2⟩ := hrel
              by_cases c3 : q ≤ 8
              · have u0 : 0 < U := by rw [HU.out.1]; exact unit_pos c3
                have u1 : U ≤ 100000000 := by rw [HU.out.1]; exact (unit_bd q).2
                have u0b := decide_eq_true u0
                have u0c : (U == 0) = false := by rw [beq_eq_false_iff_ne]; omega
                have p1 : (0 : Int) ≤ (i : Int) := by omega
                have p2 : (i : Int) < (L.length : Int) := by have := HI.out; omega
                obtain ⟨ad, ea, hx0⟩ := Kd.at_int HC.out (i : Int) p1 p2
                cases ea
                have hx := HB2.out.cell (World.block_lt_of_cell? W2 _ hx0)
                rw [hx0] at hx
                simp only [Int.toNat_natCast] at hx
                clear hx0
                replace p1 := eq_true p1
                replace p2 := eq_true p2
                cases gk with
                | zero => exact absurd HU.out.2 (by omega)
                | succ k2 =>
                have HN := Aside0.mk (show d.length < 20000 by have := HD.out.2.1; have := HX.out.2.2; omega)
                go_wp2_with ((with_reducible refine gate_builtin (b := .append) (xs := #[.tmp 63, .tmp 72]) rfl ?_); at_builtin; refine Kd.R_append (Kd.int .i64) (w0 := W2) W2.heap.size rfl (.tmp 63) (.tmp 72) 59 3 (.int .i64 0) 8 rfl Try.underlying59 info3 rfl (by decide) (by omega) u11 d (wrap64 (Int.tmod (IntKind.u64.wrap (Int.tdiv (rd L i) U)) 10)) [.int .i64 (wrap64 (Int.tmod (IntKind.u64.wrap (Int.tdiv (rd L i) U)) 10))] (fun _ => True) (fun _ => False) rfl rfl ?aP (fun _ hk => hk.elim) ?aF ?aO ?aB ?aS ?aL ?_; (case aP => exact rfl); (case aB => exact HB2.out); (case aF => exact (fun _ _ => trivial)); (case aO => exact HO.out); (case aS => exact below_size HB2.out); (case aL => have := HN.out; omega); intro v107 w6 ho hb hg hat; have HO3 := Aside0.mk ho; have HB3 := Aside0.mk hb; clear ho hb hg hat)
                go_roundg k2
                case measure => omega
                case rel =>
                  obtain ⟨z1, z2, z3⟩ := dig_code HR.out.1 HR.out.2 u0
                  rw [z1] at HO3
                  refine ⟨d ++ [rd L i / U % 10], q + 1, U / 10, by first | rfl | rw [unit_code (Int.le_of_lt u0) u1], ⟨by rw [HU.out.1]; exact unit_next q, by have := HU.out.2; omega⟩, ⟨dig_snoc HD.out.1 z2 z3, by rw [List.length_append, HD.out.2.1]; rfl, ?_⟩, HO3, HB3⟩
                  rw [List.length_append, List.length_singleton, pd_append, HD.out.2.2, HU.out.1]
                  exact dig_step _ _ q c3
              · have eq9 : q = 9 := by have := HU.out.2; omega
                subst eq9
                have eU : U = 0 := by rw [HU.out.1]; decide
                subst eU
                go_wp2
                go_roundg k1
                case measure => omega
                case rel => exact ⟨d, i, by first | rfl | rw [IntWalk.wrap64_in _ (by have := HX.out.2.2; have := HI.out; omega)], ⟨by have := HI.out; omega, by have := HI.out; omega⟩, ⟨HD.out.1, by rw [HD.out.2.1]; have := HI.out; omega, by rw [HD.out.2.2, HS.out, val]; exact last9 _ _⟩, HO, HB2⟩
end Go.Proofs.Ytmcibofnanbhpaa.Exa
