/- internal/strconv.formatBits at the bases that are powers of two (written by wip/gen_radg.py out of t/RadF). -/
import Derived.Test.YtinaibebdacnmaaDoorRadF
import Derived.Laws.BitsAllLaws
set_option linter.unusedVariables false
namespace Go.Proofs.YtinaibebdacnmaaDoor.Rad
open Go.RowKit Go.Proofs.YtinaibebdacnmaaDoorW.PrintWords

theorem and_code (n s : Nat) (hn : n < 9007199254740992) (hs : s ≤ 5) : ∃ q r : Nat, q = n / 2 ^ s ∧ r = n % 2 ^ s ∧ bits .and .u64 (n : Int) ((2 ^ s - 1 : Nat) : Int) = (r : Int) ∧ IntKind.u64.wrap ((n : Int) / ((2 ^ s : Nat) : Int)) = (q : Int) ∧ (n : Int) / ((2 ^ s : Nat) : Int) = (q : Int) := by
  have h1 : n / 2 ^ s ≤ n := Nat.div_le_self _ _
  refine ⟨n / 2 ^ s, n % 2 ^ s, rfl, rfl, ?_, ?_, ?_⟩
  · have e := u64_and_nat n (2 ^ s - 1) (by omega) (by have : 2 ^ s ≤ 2 ^ 5 := Nat.pow_le_pow_right (by decide) hs; omega)
    rw [Nat.and_two_pow_sub_one_eq_mod] at e
    exact e
  · rw [← Int.natCast_ediv]
    generalize n / 2 ^ s = q at *
    exact IntWalk.u64_in _ (by omega)
  · rw [← Int.natCast_ediv]

set_option maxHeartbeats 4000000 in
set_option maxRecDepth 100000 in
theorem bits2_c (M : Nat) (hM : M < 9007199254740992) (neg : Bool) (u : Int) (hu : (if neg then IntKind.u64.wrap (-u) else u) = M)
    (w : World) (hP : ∀ w, Calls Tryd.prog 110 #[.int .i64 2] w fun e w' => e = .returned (.bool true) ∧ w = w') (hT : ∀ w', Below w.heap.size w w' → Calls Tryd.prog 111 #[.int .u64 2] w' fun e w'' => e = .returned (.int .i64 1) ∧ w' = w'') :
    Calls Tryd.prog 92 #[.slice none 0 0, .int .u64 u, .int .i64 2, .bool neg, .bool false] w fun e w' => e = .returned (.tuple #[.slice none 0 0, .string ⟨((if neg then [45] else []) ++ rdig 2 M).toArray⟩]) ∧ Below w.heap.size w w' := by
  obtain ⟨hz, -⟩ := zero_of_info zeros65
  have HZ : (Array.replicate 65 (Value.int .u8 0)).size = 65 := by simp
  generalize Array.replicate 65 (Value.int .u8 0) = Z at *
  have HZ := Aside0.mk HZ
  have HM := Aside0.mk hM
  have HP := Aside0.mk hP
  have HT := Aside0.mk hT
  clear hM hP hT
  cases neg
  · obtain rfl : u = (M : Int) := by simpa using hu
    clear hu
    go_enter Tryd.func92, Tryd.ntmps92
    go_wp2_with (first | (go_at_call 110; refine (HP.out _).mono ?_; rintro e w' ⟨rfl, rfl⟩) | (go_at_call 111; refine (HT.out _ ((Below.refl _ _).alloc (Nat.le_refl _) _)).mono ?_; rintro e w' ⟨rfl, rfl⟩))
    obtain ⟨W1, hW1⟩ : ∃ W1, W1 = w.alloc (.cells Z 169) := ⟨_, rfl⟩
    rw [← hW1]
    have HB := Aside0.mk (show Below w.heap.size w W1 by rw [hW1]; exact (Below.refl _ _).alloc (Nat.le_refl _) _)
    have HG := Aside0.mk (show W1.heap[w.heap.size]? = some (.cells Z 169 (0, 0)) by rw [hW1]; exact heap_alloc_new _ _)
    clear hW1
    go_loopg [1, 13] 65 (fun kq v1 v13 w' => ∃ (n i : Nat) (C : Array Value) (ds : List UInt8), v1 = .int .u64 (n : Int) ∧ v13 = .int .i64 (i : Int) ∧ Aside0 (12 ≤ i ∧ i ≤ 65 ∧ n < 2 ^ (i - 12) ∧ kq = i) ∧ Aside0 (rdig 2 M = rdig 2 n ++ ds ∧ ds.length = 65 - i) ∧ Aside0 (C.size = 65 ∧ ∀ k (h : k < ds.length), C[i + k]? = some (.int .u8 ((ds[k].toNat : Nat) : Int))) ∧ Aside0 (w'.heap[w.heap.size]? = some (.cells C 169 (0, 0))) ∧ Aside0 (Below w.heap.size w w'))
    case atStart => exact ⟨M, 65, Z, [], rfl, rfl, ⟨by omega, by omega, Nat.lt_of_lt_of_le HM.out (by decide), rfl⟩, ⟨by simp, rfl⟩, ⟨HZ.out, fun k h => by simp at h⟩, HG, HB⟩
    case round =>
      clear HG HB
      obtain ⟨n, i, C, ds, rfl, rfl, HI, HD, HC, HG, HB⟩ := hrel
      obtain ⟨i, rfl⟩ : ∃ i1, i = i1 + 1 := ⟨i - 1, by have := HI.out; omega⟩
      have hi65 : (i : Int) < 65 := by have := HI.out; omega
      have e2 : (((i + 1 : Nat) : Int) - 1) = (i : Int) := by omega
      have e3 : wrap64 (i : Int) = (i : Int) := IntWalk.wrap64_in _ (by omega)
      obtain ⟨old, hold⟩ : ∃ old, C[i]? = some old := ⟨_, Array.getElem?_eq_getElem (by have := HC.out.1; have := HI.out; omega)⟩
      have hz1 : wr.cell? ⟨w.heap.size, i, none⟩ = some old := (blk_cell HG.out i).trans hold
      have hf1 := blk_frozen HG.out i
      by_cases c1 : (2 : Int) ≤ (n : Int)
      · have c1b : decide ((2 : Int) ≤ (n : Int)) = true := decide_eq_true c1
        have c1n : decide (2 ≤ n) = true := decide_eq_true (by omega)
        obtain ⟨q, r, hq, hr, e4, e5, e6⟩ := and_code n 1 (small64 HI.out) (by decide)
        replace hq : q = n / 2 := hq
        replace hr : r = n % 2 := hr
        replace e4 : bits .and .u64 (n : Int) 1 = (r : Int) := e4
        replace e5 : IntKind.u64.wrap ((n : Int) / 2) = (q : Int) := e5
        replace e6 : (n : Int) / 2 = (q : Int) := e6
        have HQ := Aside0.mk hq
        have HR := Aside0.mk hr
        have p1 : (0 : Int) ≤ (r : Int) := by omega
        have p2 : (r : Int) < 36 := by rw [hr]; have := Nat.mod_lt n (show 0 < 2 by decide); omega
        clear hq hr
        cases gk with
        | zero => exact absurd HI.out (by omega)
        | succ k1 =>
        go_wp2
        go_roundg k1
        case measure => omega
        case rel =>
          have hv : ∀ (h : r < letters.size), (letters[r]'h) = ch r := fun h => ch_eq h
          have hh := half_lt (show 2 ≤ 2 by decide) HQ.out HI.out.2.2.1 (by omega) HI.out.1
          exact ⟨q, i, C.setIfInBounds i (.int .u8 (((ch r).toNat : Nat) : Int)), ch r :: ds, rfl, rfl, ⟨by have := HI.out; omega⟩, ⟨by rw [HD.out.1, rdig_step (show 2 ≤ n by omega) (by decide), ← HQ.out, ← HR.out, List.append_assoc]; rfl, by rw [List.length_cons, HD.out.2]; have := HI.out; omega⟩, ⟨cells_cons HC.out (by omega) _⟩, ⟨by rw [← hv (by show r < 36; omega)]; exact blk_set HG.out i _⟩, ⟨below_set HB.out (Nat.le_refl _)⟩⟩
      · have c1b : decide ((2 : Int) ≤ (n : Int)) = false := decide_eq_false c1
        have c1n : decide (2 ≤ n) = false := decide_eq_false (by omega)
        have p1 : (0 : Int) ≤ (n : Int) := by omega
        have p2 : (n : Int) < 36 := by omega
        have hsl : ∀ W, (Instr.sliceAt 169 (.pointer (some ⟨w.heap.size, 0, none⟩)) (some (.int .i64 (i : Int))) none none).run Tryd.prog W = .ok (.slice (some ⟨w.heap.size, i, none⟩) (65 - i) (65 - i)) W := fun W => by
          have hal : Tryd.prog.arrayLen 169 = 65 := by simp [Program.arrayLen, Tryd.underlying169]
          rw [run_sliceAt_array_l W 169 ⟨w.heap.size, 0, none⟩ (by simp [Program.arrayLen, Program.elem, Tryd.underlying169]) .i64 (i : Int) (by omega) (by rw [hal]; omega)]
          go_simp
          omega
        have hcs := cells_cons HC.out (show i < 65 by omega) (ch n)
        have hn36 : n < letters.size := by show n < 36; omega
        have hset := blk_set HG.out i (.int .u8 (((ch n).toNat : Nat) : Int))
        have hbel := below_set (g := w.heap.size) (j := i) (v := .int .u8 (((ch n).toNat : Nat) : Int)) HB.out (Nat.le_refl _)
        have hcv := run_convert_bytes_back (P := Tryd.prog) (wr.setCell ⟨w.heap.size, i, none⟩ (.int .u8 (((ch n).toNat : Nat) : Int))) 140 9 5 ⟨w.heap.size, i, none⟩ (65 - i) (ch n :: ds) Tryd.underlying140 Tryd.underlying5 Tryd.underlying9 (fun j hj => by
          rw [add_at]
          exact (blk_cell hset (i + j)).trans (hcs.2 j hj))
        rw [List.length_cons, HD.out.2, show 65 - (i + 1) + 1 = 65 - i by have := HI.out; omega] at hcv
        rw [← ch_eq hn36] at hcv hbel
        go_wp2
        go_ret2
        refine ⟨?_, hbel⟩
        rw [HD.out.1, rdig_low (show n < 2 by omega), ← ch_eq hn36]
        rfl
  · have hu : IntKind.u64.wrap (-u) = (M : Int) := by simpa using hu
    go_enter Tryd.func92, Tryd.ntmps92
    go_wp2_with (first | (go_at_call 110; refine (HP.out _).mono ?_; rintro e w' ⟨rfl, rfl⟩) | (go_at_call 111; refine (HT.out _ ((Below.refl _ _).alloc (Nat.le_refl _) _)).mono ?_; rintro e w' ⟨rfl, rfl⟩))
    obtain ⟨W1, hW1⟩ : ∃ W1, W1 = w.alloc (.cells Z 169) := ⟨_, rfl⟩
    rw [← hW1]
    have HB := Aside0.mk (show Below w.heap.size w W1 by rw [hW1]; exact (Below.refl _ _).alloc (Nat.le_refl _) _)
    have HG := Aside0.mk (show W1.heap[w.heap.size]? = some (.cells Z 169 (0, 0)) by rw [hW1]; exact heap_alloc_new _ _)
    clear hW1
    go_loopg [1, 13] 65 (fun kq v1 v13 w' => ∃ (n i : Nat) (C : Array Value) (ds : List UInt8), v1 = .int .u64 (n : Int) ∧ v13 = .int .i64 (i : Int) ∧ Aside0 (12 ≤ i ∧ i ≤ 65 ∧ n < 2 ^ (i - 12) ∧ kq = i) ∧ Aside0 (rdig 2 M = rdig 2 n ++ ds ∧ ds.length = 65 - i) ∧ Aside0 (C.size = 65 ∧ ∀ k (h : k < ds.length), C[i + k]? = some (.int .u8 ((ds[k].toNat : Nat) : Int))) ∧ Aside0 (w'.heap[w.heap.size]? = some (.cells C 169 (0, 0))) ∧ Aside0 (Below w.heap.size w w'))
    case atStart => exact ⟨M, 65, Z, [], rfl, rfl, ⟨by omega, by omega, Nat.lt_of_lt_of_le HM.out (by decide), rfl⟩, ⟨by simp, rfl⟩, ⟨HZ.out, fun k h => by simp at h⟩, HG, HB⟩
    case round =>
      clear HG HB
      obtain ⟨n, i, C, ds, rfl, rfl, HI, HD, HC, HG, HB⟩ := hrel
      obtain ⟨i, rfl⟩ : ∃ i1, i = i1 + 1 := ⟨i - 1, by have := HI.out; omega⟩
      have hi65 : (i : Int) < 65 := by have := HI.out; omega
      have e2 : (((i + 1 : Nat) : Int) - 1) = (i : Int) := by omega
      have e3 : wrap64 (i : Int) = (i : Int) := IntWalk.wrap64_in _ (by omega)
      obtain ⟨old, hold⟩ : ∃ old, C[i]? = some old := ⟨_, Array.getElem?_eq_getElem (by have := HC.out.1; have := HI.out; omega)⟩
      have hz1 : wr.cell? ⟨w.heap.size, i, none⟩ = some old := (blk_cell HG.out i).trans hold
      have hf1 := blk_frozen HG.out i
      by_cases c1 : (2 : Int) ≤ (n : Int)
      · have c1b : decide ((2 : Int) ≤ (n : Int)) = true := decide_eq_true c1
        have c1n : decide (2 ≤ n) = true := decide_eq_true (by omega)
        obtain ⟨q, r, hq, hr, e4, e5, e6⟩ := and_code n 1 (small64 HI.out) (by decide)
        replace hq : q = n / 2 := hq
        replace hr : r = n % 2 := hr
        replace e4 : bits .and .u64 (n : Int) 1 = (r : Int) := e4
        replace e5 : IntKind.u64.wrap ((n : Int) / 2) = (q : Int) := e5
        replace e6 : (n : Int) / 2 = (q : Int) := e6
        have HQ := Aside0.mk hq
        have HR := Aside0.mk hr
        have p1 : (0 : Int) ≤ (r : Int) := by omega
        have p2 : (r : Int) < 36 := by rw [hr]; have := Nat.mod_lt n (show 0 < 2 by decide); omega
        clear hq hr
        cases gk with
        | zero => exact absurd HI.out (by omega)
        | succ k1 =>
        go_wp2
        go_roundg k1
        case measure => omega
        case rel =>
          have hv : ∀ (h : r < letters.size), (letters[r]'h) = ch r := fun h => ch_eq h
          have hh := half_lt (show 2 ≤ 2 by decide) HQ.out HI.out.2.2.1 (by omega) HI.out.1
          exact ⟨q, i, C.setIfInBounds i (.int .u8 (((ch r).toNat : Nat) : Int)), ch r :: ds, rfl, rfl, ⟨by have := HI.out; omega⟩, ⟨by rw [HD.out.1, rdig_step (show 2 ≤ n by omega) (by decide), ← HQ.out, ← HR.out, List.append_assoc]; rfl, by rw [List.length_cons, HD.out.2]; have := HI.out; omega⟩, ⟨cells_cons HC.out (by omega) _⟩, ⟨by rw [← hv (by show r < 36; omega)]; exact blk_set HG.out i _⟩, ⟨below_set HB.out (Nat.le_refl _)⟩⟩
      · have c1b : decide ((2 : Int) ≤ (n : Int)) = false := decide_eq_false c1
        have c1n : decide (2 ≤ n) = false := decide_eq_false (by omega)
        have p1 : (0 : Int) ≤ (n : Int) := by omega
        have p2 : (n : Int) < 36 := by omega
        obtain ⟨i, rfl⟩ : ∃ i2, i = i2 + 1 := ⟨i - 1, by have := HI.out; omega⟩
        have e7 : (((i + 1 : Nat) : Int) - 1) = (i : Int) := by omega
        have e8 : wrap64 (i : Int) = (i : Int) := IntWalk.wrap64_in _ (by omega)
        have hi64 : (i : Int) < 65 := by omega
        have hsl : ∀ W, (Instr.sliceAt 169 (.pointer (some ⟨w.heap.size, 0, none⟩)) (some (.int .i64 (i : Int))) none none).run Tryd.prog W = .ok (.slice (some ⟨w.heap.size, i, none⟩) (65 - i) (65 - i)) W := fun W => by
          have hal : Tryd.prog.arrayLen 169 = 65 := by simp [Program.arrayLen, Tryd.underlying169]
          rw [run_sliceAt_array_l W 169 ⟨w.heap.size, 0, none⟩ (by simp [Program.arrayLen, Program.elem, Tryd.underlying169]) .i64 (i : Int) (by omega) (by rw [hal]; omega)]
          go_simp
          omega
        have hcs := cells_cons HC.out (show i + 1 < 65 by omega) (ch n)
        have hcs2 := cells_cons hcs (show i < 65 by omega) 45
        have hn36 : n < letters.size := by show n < 36; omega
        have hset := blk_set HG.out (i + 1) (.int .u8 (((ch n).toNat : Nat) : Int))
        have hset2 := blk_set hset i (.int .u8 (((45 : UInt8).toNat : Nat) : Int))
        have hbel := below_set (g := w.heap.size) (j := i) (v := .int .u8 45) (below_set (g := w.heap.size) (j := i + 1) (v := .int .u8 (((ch n).toNat : Nat) : Int)) HB.out (Nat.le_refl _)) (Nat.le_refl _)
        have hcv := run_convert_bytes_back (P := Tryd.prog) ((wr.setCell ⟨w.heap.size, i + 1, none⟩ (.int .u8 (((ch n).toNat : Nat) : Int))).setCell ⟨w.heap.size, i, none⟩ (.int .u8 (((45 : UInt8).toNat : Nat) : Int))) 140 9 5 ⟨w.heap.size, i, none⟩ (65 - i) (45 :: ch n :: ds) Tryd.underlying140 Tryd.underlying5 Tryd.underlying9 (fun j hj => by
          rw [add_at]
          exact (blk_cell hset2 (i + j)).trans (hcs2.2 j hj))
        rw [List.length_cons, List.length_cons, HD.out.2, show 65 - (i + 1 + 1) + 1 + 1 = 65 - i by have := HI.out; omega, show (((45 : UInt8).toNat : Nat) : Int) = 45 from rfl] at hcv
        obtain ⟨old2, hold2⟩ : ∃ old, (C.setIfInBounds (i + 1) (.int .u8 (((ch n).toNat : Nat) : Int)))[i]? = some old := ⟨_, Array.getElem?_eq_getElem (by rw [hcs.1]; omega)⟩
        have hz2 := (blk_cell hset i).trans hold2
        have hf2 := blk_frozen hset i
        rw [← ch_eq hn36] at hcv hbel hz2 hf2
        go_wp2
        go_ret2
        refine ⟨?_, hbel⟩
        rw [HD.out.1, rdig_low (show n < 2 by omega), ← ch_eq hn36]
        rfl

set_option maxHeartbeats 4000000 in
set_option maxRecDepth 100000 in
theorem bits4_c (M : Nat) (hM : M < 9007199254740992) (neg : Bool) (u : Int) (hu : (if neg then IntKind.u64.wrap (-u) else u) = M)
    (w : World) (hP : ∀ w, Calls Tryd.prog 110 #[.int .i64 4] w fun e w' => e = .returned (.bool true) ∧ w = w') (hT : ∀ w', Below w.heap.size w w' → Calls Tryd.prog 111 #[.int .u64 4] w' fun e w'' => e = .returned (.int .i64 2) ∧ w' = w'') :
    Calls Tryd.prog 92 #[.slice none 0 0, .int .u64 u, .int .i64 4, .bool neg, .bool false] w fun e w' => e = .returned (.tuple #[.slice none 0 0, .string ⟨((if neg then [45] else []) ++ rdig 4 M).toArray⟩]) ∧ Below w.heap.size w w' := by
  obtain ⟨hz, -⟩ := zero_of_info zeros65
  have HZ : (Array.replicate 65 (Value.int .u8 0)).size = 65 := by simp
  generalize Array.replicate 65 (Value.int .u8 0) = Z at *
  have HZ := Aside0.mk HZ
  have HM := Aside0.mk hM
  have HP := Aside0.mk hP
  have HT := Aside0.mk hT
  clear hM hP hT
  cases neg
  · obtain rfl : u = (M : Int) := by simpa using hu
    clear hu
    go_enter Tryd.func92, Tryd.ntmps92
    go_wp2_with (first | (go_at_call 110; refine (HP.out _).mono ?_; rintro e w' ⟨rfl, rfl⟩) | (go_at_call 111; refine (HT.out _ ((Below.refl _ _).alloc (Nat.le_refl _) _)).mono ?_; rintro e w' ⟨rfl, rfl⟩))
    obtain ⟨W1, hW1⟩ : ∃ W1, W1 = w.alloc (.cells Z 169) := ⟨_, rfl⟩
    rw [← hW1]
    have HB := Aside0.mk (show Below w.heap.size w W1 by rw [hW1]; exact (Below.refl _ _).alloc (Nat.le_refl _) _)
    have HG := Aside0.mk (show W1.heap[w.heap.size]? = some (.cells Z 169 (0, 0)) by rw [hW1]; exact heap_alloc_new _ _)
    clear hW1
    go_loopg [1, 13] 65 (fun kq v1 v13 w' => ∃ (n i : Nat) (C : Array Value) (ds : List UInt8), v1 = .int .u64 (n : Int) ∧ v13 = .int .i64 (i : Int) ∧ Aside0 (12 ≤ i ∧ i ≤ 65 ∧ n < 2 ^ (i - 12) ∧ kq = i) ∧ Aside0 (rdig 4 M = rdig 4 n ++ ds ∧ ds.length = 65 - i) ∧ Aside0 (C.size = 65 ∧ ∀ k (h : k < ds.length), C[i + k]? = some (.int .u8 ((ds[k].toNat : Nat) : Int))) ∧ Aside0 (w'.heap[w.heap.size]? = some (.cells C 169 (0, 0))) ∧ Aside0 (Below w.heap.size w w'))
    case atStart => exact ⟨M, 65, Z, [], rfl, rfl, ⟨by omega, by omega, Nat.lt_of_lt_of_le HM.out (by decide), rfl⟩, ⟨by simp, rfl⟩, ⟨HZ.out, fun k h => by simp at h⟩, HG, HB⟩
    case round =>
      clear HG HB
      obtain ⟨n, i, C, ds, rfl, rfl, HI, HD, HC, HG, HB⟩ := hrel
      obtain ⟨i, rfl⟩ : ∃ i1, i = i1 + 1 := ⟨i - 1, by have := HI.out; omega⟩
      have hi65 : (i : Int) < 65 := by have := HI.out; omega
      have e2 : (((i + 1 : Nat) : Int) - 1) = (i : Int) := by omega
      have e3 : wrap64 (i : Int) = (i : Int) := IntWalk.wrap64_in _ (by omega)
      obtain ⟨old, hold⟩ : ∃ old, C[i]? = some old := ⟨_, Array.getElem?_eq_getElem (by have := HC.out.1; have := HI.out; omega)⟩
      have hz1 : wr.cell? ⟨w.heap.size, i, none⟩ = some old := (blk_cell HG.out i).trans hold
      have hf1 := blk_frozen HG.out i
      by_cases c1 : (4 : Int) ≤ (n : Int)
      · have c1b : decide ((4 : Int) ≤ (n : Int)) = true := decide_eq_true c1
        have c1n : decide (4 ≤ n) = true := decide_eq_true (by omega)
        obtain ⟨q, r, hq, hr, e4, e5, e6⟩ := and_code n 2 (small64 HI.out) (by decide)
        replace hq : q = n / 4 := hq
        replace hr : r = n % 4 := hr
        replace e4 : bits .and .u64 (n : Int) 3 = (r : Int) := e4
        replace e5 : IntKind.u64.wrap ((n : Int) / 4) = (q : Int) := e5
        replace e6 : (n : Int) / 4 = (q : Int) := e6
        have HQ := Aside0.mk hq
        have HR := Aside0.mk hr
        have p1 : (0 : Int) ≤ (r : Int) := by omega
        have p2 : (r : Int) < 36 := by rw [hr]; have := Nat.mod_lt n (show 0 < 4 by decide); omega
        clear hq hr
        cases gk with
        | zero => exact absurd HI.out (by omega)
        | succ k1 =>
        go_wp2
        go_roundg k1
        case measure => omega
        case rel =>
          have hv : ∀ (h : r < letters.size), (letters[r]'h) = ch r := fun h => ch_eq h
          have hh := half_lt (show 2 ≤ 4 by decide) HQ.out HI.out.2.2.1 (by omega) HI.out.1
          exact ⟨q, i, C.setIfInBounds i (.int .u8 (((ch r).toNat : Nat) : Int)), ch r :: ds, rfl, rfl, ⟨by have := HI.out; omega⟩, ⟨by rw [HD.out.1, rdig_step (show 4 ≤ n by omega) (by decide), ← HQ.out, ← HR.out, List.append_assoc]; rfl, by rw [List.length_cons, HD.out.2]; have := HI.out; omega⟩, ⟨cells_cons HC.out (by omega) _⟩, ⟨by rw [← hv (by show r < 36; omega)]; exact blk_set HG.out i _⟩, ⟨below_set HB.out (Nat.le_refl _)⟩⟩
      · have c1b : decide ((4 : Int) ≤ (n : Int)) = false := decide_eq_false c1
        have c1n : decide (4 ≤ n) = false := decide_eq_false (by omega)
        have p1 : (0 : Int) ≤ (n : Int) := by omega
        have p2 : (n : Int) < 36 := by omega
        have hsl : ∀ W, (Instr.sliceAt 169 (.pointer (some ⟨w.heap.size, 0, none⟩)) (some (.int .i64 (i : Int))) none none).run Tryd.prog W = .ok (.slice (some ⟨w.heap.size, i, none⟩) (65 - i) (65 - i)) W := fun W => by
          have hal : Tryd.prog.arrayLen 169 = 65 := by simp [Program.arrayLen, Tryd.underlying169]
          rw [run_sliceAt_array_l W 169 ⟨w.heap.size, 0, none⟩ (by simp [Program.arrayLen, Program.elem, Tryd.underlying169]) .i64 (i : Int) (by omega) (by rw [hal]; omega)]
          go_simp
          omega
        have hcs := cells_cons HC.out (show i < 65 by omega) (ch n)
        have hn36 : n < letters.size := by show n < 36; omega
        have hset := blk_set HG.out i (.int .u8 (((ch n).toNat : Nat) : Int))
        have hbel := below_set (g := w.heap.size) (j := i) (v := .int .u8 (((ch n).toNat : Nat) : Int)) HB.out (Nat.le_refl _)
        have hcv := run_convert_bytes_back (P := Tryd.prog) (wr.setCell ⟨w.heap.size, i, none⟩ (.int .u8 (((ch n).toNat : Nat) : Int))) 140 9 5 ⟨w.heap.size, i, none⟩ (65 - i) (ch n :: ds) Tryd.underlying140 Tryd.underlying5 Tryd.underlying9 (fun j hj => by
          rw [add_at]
          exact (blk_cell hset (i + j)).trans (hcs.2 j hj))
        rw [List.length_cons, HD.out.2, show 65 - (i + 1) + 1 = 65 - i by have := HI.out; omega] at hcv
        rw [← ch_eq hn36] at hcv hbel
        go_wp2
        go_ret2
        refine ⟨?_, hbel⟩
        rw [HD.out.1, rdig_low (show n < 4 by omega), ← ch_eq hn36]
        rfl
  · have hu : IntKind.u64.wrap (-u) = (M : Int) := by simpa using hu
    go_enter Tryd.func92, Tryd.ntmps92
    go_wp2_with (first | (go_at_call 110; refine (HP.out _).mono ?_; rintro e w' ⟨rfl, rfl⟩) | (go_at_call 111; refine (HT.out _ ((Below.refl _ _).alloc (Nat.le_refl _) _)).mono ?_; rintro e w' ⟨rfl, rfl⟩))
    obtain ⟨W1, hW1⟩ : ∃ W1, W1 = w.alloc (.cells Z 169) := ⟨_, rfl⟩
    rw [← hW1]
    have HB := Aside0.mk (show Below w.heap.size w W1 by rw [hW1]; exact (Below.refl _ _).alloc (Nat.le_refl _) _)
    have HG := Aside0.mk (show W1.heap[w.heap.size]? = some (.cells Z 169 (0, 0)) by rw [hW1]; exact heap_alloc_new _ _)
    clear hW1
    go_loopg [1, 13] 65 (fun kq v1 v13 w' => ∃ (n i : Nat) (C : Array Value) (ds : List UInt8), v1 = .int .u64 (n : Int) ∧ v13 = .int .i64 (i : Int) ∧ Aside0 (12 ≤ i ∧ i ≤ 65 ∧ n < 2 ^ (i - 12) ∧ kq = i) ∧ Aside0 (rdig 4 M = rdig 4 n ++ ds ∧ ds.length = 65 - i) ∧ Aside0 (C.size = 65 ∧ ∀ k (h : k < ds.length), C[i + k]? = some (.int .u8 ((ds[k].toNat : Nat) : Int))) ∧ Aside0 (w'.heap[w.heap.size]? = some (.cells C 169 (0, 0))) ∧ Aside0 (Below w.heap.size w w'))
    case atStart => exact ⟨M, 65, Z, [], rfl, rfl, ⟨by omega, by omega, Nat.lt_of_lt_of_le HM.out (by decide), rfl⟩, ⟨by simp, rfl⟩, ⟨HZ.out, fun k h => by simp at h⟩, HG, HB⟩
    case round =>
      clear HG HB
      obtain ⟨n, i, C, ds, rfl, rfl, HI, HD, HC, HG, HB⟩ := hrel
      obtain ⟨i, rfl⟩ : ∃ i1, i = i1 + 1 := ⟨i - 1, by have := HI.out; omega⟩
      have hi65 : (i : Int) < 65 := by have := HI.out; omega
      have e2 : (((i + 1 : Nat) : Int) - 1) = (i : Int) := by omega
      have e3 : wrap64 (i : Int) = (i : Int) := IntWalk.wrap64_in _ (by omega)
      obtain ⟨old, hold⟩ : ∃ old, C[i]? = some old := ⟨_, Array.getElem?_eq_getElem (by have := HC.out.1; have := HI.out; omega)⟩
      have hz1 : wr.cell? ⟨w.heap.size, i, none⟩ = some old := (blk_cell HG.out i).trans hold
      have hf1 := blk_frozen HG.out i
      by_cases c1 : (4 : Int) ≤ (n : Int)
      · have c1b : decide ((4 : Int) ≤ (n : Int)) = true := decide_eq_true c1
        have c1n : decide (4 ≤ n) = true := decide_eq_true (by omega)
        obtain ⟨q, r, hq, hr, e4, e5, e6⟩ := and_code n 2 (small64 HI.out) (by decide)
        replace hq : q = n / 4 := hq
        replace hr : r = n % 4 := hr
        replace e4 : bits .and .u64 (n : Int) 3 = (r : Int) := e4
        replace e5 : IntKind.u64.wrap ((n : Int) / 4) = (q : Int) := e5
        replace e6 : (n : Int) / 4 = (q : Int) := e6
        have HQ := Aside0.mk hq
        have HR := Aside0.mk hr
        have p1 : (0 : Int) ≤ (r : Int) := by omega
        have p2 : (r : Int) < 36 := by rw [hr]; have := Nat.mod_lt n (show 0 < 4 by decide); omega
        clear hq hr
        cases gk with
        | zero => exact absurd HI.out (by omega)
        | succ k1 =>
        go_wp2
        go_roundg k1
        case measure => omega
        case rel =>
          have hv : ∀ (h : r < letters.size), (letters[r]'h) = ch r := fun h => ch_eq h
          have hh := half_lt (show 2 ≤ 4 by decide) HQ.out HI.out.2.2.1 (by omega) HI.out.1
          exact ⟨q, i, C.setIfInBounds i (.int .u8 (((ch r).toNat : Nat) : Int)), ch r :: ds, rfl, rfl, ⟨by have := HI.out; omega⟩, ⟨by rw [HD.out.1, rdig_step (show 4 ≤ n by omega) (by decide), ← HQ.out, ← HR.out, List.append_assoc]; rfl, by rw [List.length_cons, HD.out.2]; have := HI.out; omega⟩, ⟨cells_cons HC.out (by omega) _⟩, ⟨by rw [← hv (by show r < 36; omega)]; exact blk_set HG.out i _⟩, ⟨below_set HB.out (Nat.le_refl _)⟩⟩
      · have c1b : decide ((4 : Int) ≤ (n : Int)) = false := decide_eq_false c1
        have c1n : decide (4 ≤ n) = false := decide_eq_false (by omega)
        have p1 : (0 : Int) ≤ (n : Int) := by omega
        have p2 : (n : Int) < 36 := by omega
        obtain ⟨i, rfl⟩ : ∃ i2, i = i2 + 1 := ⟨i - 1, by have := HI.out; omega⟩
        have e7 : (((i + 1 : Nat) : Int) - 1) = (i : Int) := by omega
        have e8 : wrap64 (i : Int) = (i : Int) := IntWalk.wrap64_in _ (by omega)
        have hi64 : (i : Int) < 65 := by omega
        have hsl : ∀ W, (Instr.sliceAt 169 (.pointer (some ⟨w.heap.size, 0, none⟩)) (some (.int .i64 (i : Int))) none none).run Tryd.prog W = .ok (.slice (some ⟨w.heap.size, i, none⟩) (65 - i) (65 - i)) W := fun W => by
          have hal : Tryd.prog.arrayLen 169 = 65 := by simp [Program.arrayLen, Tryd.underlying169]
          rw [run_sliceAt_array_l W 169 ⟨w.heap.size, 0, none⟩ (by simp [Program.arrayLen, Program.elem, Tryd.underlying169]) .i64 (i : Int) (by omega) (by rw [hal]; omega)]
          go_simp
          omega
        have hcs := cells_cons HC.out (show i + 1 < 65 by omega) (ch n)
        have hcs2 := cells_cons hcs (show i < 65 by omega) 45
        have hn36 : n < letters.size := by show n < 36; omega
        have hset := blk_set HG.out (i + 1) (.int .u8 (((ch n).toNat : Nat) : Int))
        have hset2 := blk_set hset i (.int .u8 (((45 : UInt8).toNat : Nat) : Int))
        have hbel := below_set (g := w.heap.size) (j := i) (v := .int .u8 45) (below_set (g := w.heap.size) (j := i + 1) (v := .int .u8 (((ch n).toNat : Nat) : Int)) HB.out (Nat.le_refl _)) (Nat.le_refl _)
        have hcv := run_convert_bytes_back (P := Tryd.prog) ((wr.setCell ⟨w.heap.size, i + 1, none⟩ (.int .u8 (((ch n).toNat : Nat) : Int))).setCell ⟨w.heap.size, i, none⟩ (.int .u8 (((45 : UInt8).toNat : Nat) : Int))) 140 9 5 ⟨w.heap.size, i, none⟩ (65 - i) (45 :: ch n :: ds) Tryd.underlying140 Tryd.underlying5 Tryd.underlying9 (fun j hj => by
          rw [add_at]
          exact (blk_cell hset2 (i + j)).trans (hcs2.2 j hj))
        rw [List.length_cons, List.length_cons, HD.out.2, show 65 - (i + 1 + 1) + 1 + 1 = 65 - i by have := HI.out; omega, show (((45 : UInt8).toNat : Nat) : Int) = 45 from rfl] at hcv
        obtain ⟨old2, hold2⟩ : ∃ old, (C.setIfInBounds (i + 1) (.int .u8 (((ch n).toNat : Nat) : Int)))[i]? = some old := ⟨_, Array.getElem?_eq_getElem (by rw [hcs.1]; omega)⟩
        have hz2 := (blk_cell hset i).trans hold2
        have hf2 := blk_frozen hset i
        rw [← ch_eq hn36] at hcv hbel hz2 hf2
        go_wp2
        go_ret2
        refine ⟨?_, hbel⟩
        rw [HD.out.1, rdig_low (show n < 4 by omega), ← ch_eq hn36]
        rfl

set_option maxHeartbeats 4000000 in
set_option maxRecDepth 100000 in
theorem bits8_c (M : Nat) (hM : M < 9007199254740992) (neg : Bool) (u : Int) (hu : (if neg then IntKind.u64.wrap (-u) else u) = M)
    (w : World) (hP : ∀ w, Calls Tryd.prog 110 #[.int .i64 8] w fun e w' => e = .returned (.bool true) ∧ w = w') (hT : ∀ w', Below w.heap.size w w' → Calls Tryd.prog 111 #[.int .u64 8] w' fun e w'' => e = .returned (.int .i64 3) ∧ w' = w'') :
    Calls Tryd.prog 92 #[.slice none 0 0, .int .u64 u, .int .i64 8, .bool neg, .bool false] w fun e w' => e = .returned (.tuple #[.slice none 0 0, .string ⟨((if neg then [45] else []) ++ rdig 8 M).toArray⟩]) ∧ Below w.heap.size w w' := by
  obtain ⟨hz, -⟩ := zero_of_info zeros65
  have HZ : (Array.replicate 65 (Value.int .u8 0)).size = 65 := by simp
  generalize Array.replicate 65 (Value.int .u8 0) = Z at *
  have HZ := Aside0.mk HZ
  have HM := Aside0.mk hM
  have HP := Aside0.mk hP
  have HT := Aside0.mk hT
  clear hM hP hT
  cases neg
  · obtain rfl : u = (M : Int) := by simpa using hu
    clear hu
    go_enter Tryd.func92, Tryd.ntmps92
    go_wp2_with (first | (go_at_call 110; refine (HP.out _).mono ?_; rintro e w' ⟨rfl, rfl⟩) | (go_at_call 111; refine (HT.out _ ((Below.refl _ _).alloc (Nat.le_refl _) _)).mono ?_; rintro e w' ⟨rfl, rfl⟩))
    obtain ⟨W1, hW1⟩ : ∃ W1, W1 = w.alloc (.cells Z 169) := ⟨_, rfl⟩
    rw [← hW1]
    have HB := Aside0.mk (show Below w.heap.size w W1 by rw [hW1]; exact (Below.refl _ _).alloc (Nat.le_refl _) _)
    have HG := Aside0.mk (show W1.heap[w.heap.size]? = some (.cells Z 169 (0, 0)) by rw [hW1]; exact heap_alloc_new _ _)
    clear hW1
    go_loopg [1, 13] 65 (fun kq v1 v13 w' => ∃ (n i : Nat) (C : Array Value) (ds : List UInt8), v1 = .int .u64 (n : Int) ∧ v13 = .int .i64 (i : Int) ∧ Aside0 (12 ≤ i ∧ i ≤ 65 ∧ n < 2 ^ (i - 12) ∧ kq = i) ∧ Aside0 (rdig 8 M = rdig 8 n ++ ds ∧ ds.length = 65 - i) ∧ Aside0 (C.size = 65 ∧ ∀ k (h : k < ds.length), C[i + k]? = some (.int .u8 ((ds[k].toNat : Nat) : Int))) ∧ Aside0 (w'.heap[w.heap.size]? = some (.cells C 169 (0, 0))) ∧ Aside0 (Below w.heap.size w w'))
    case atStart => exact ⟨M, 65, Z, [], rfl, rfl, ⟨by omega, by omega, Nat.lt_of_lt_of_le HM.out (by decide), rfl⟩, ⟨by simp, rfl⟩, ⟨HZ.out, fun k h => by simp at h⟩, HG, HB⟩
    case round =>
      clear HG HB
      obtain ⟨n, i, C, ds, rfl, rfl, HI, HD, HC, HG, HB⟩ := hrel
      obtain ⟨i, rfl⟩ : ∃ i1, i = i1 + 1 := ⟨i - 1, by have := HI.out; omega⟩
      have hi65 : (i : Int) < 65 := by have := HI.out; omega
      have e2 : (((i + 1 : Nat) : Int) - 1) = (i : Int) := by omega
      have e3 : wrap64 (i : Int) = (i : Int) := IntWalk.wrap64_in _ (by omega)
      obtain ⟨old, hold⟩ : ∃ old, C[i]? = some old := ⟨_, Array.getElem?_eq_getElem (by have := HC.out.1; have := HI.out; omega)⟩
      have hz1 : wr.cell? ⟨w.heap.size, i, none⟩ = some old := (blk_cell HG.out i).trans hold
      have hf1 := blk_frozen HG.out i
      by_cases c1 : (8 : Int) ≤ (n : Int)
      · have c1b : decide ((8 : Int) ≤ (n : Int)) = true := decide_eq_true c1
        have c1n : decide (8 ≤ n) = true := decide_eq_true (by omega)
        obtain ⟨q, r, hq, hr, e4, e5, e6⟩ := and_code n 3 (small64 HI.out) (by decide)
        replace hq : q = n / 8 := hq
        replace hr : r = n % 8 := hr
        replace e4 : bits .and .u64 (n : Int) 7 = (r : Int) := e4
        replace e5 : IntKind.u64.wrap ((n : Int) / 8) = (q : Int) := e5
        replace e6 : (n : Int) / 8 = (q : Int) := e6
        have HQ := Aside0.mk hq
        have HR := Aside0.mk hr
        have p1 : (0 : Int) ≤ (r : Int) := by omega
        have p2 : (r : Int) < 36 := by rw [hr]; have := Nat.mod_lt n (show 0 < 8 by decide); omega
        clear hq hr
        cases gk with
        | zero => exact absurd HI.out (by omega)
        | succ k1 =>
        go_wp2
        go_roundg k1
        case measure => omega
        case rel =>
          have hv : ∀ (h : r < letters.size), (letters[r]'h) = ch r := fun h => ch_eq h
          have hh := half_lt (show 2 ≤ 8 by decide) HQ.out HI.out.2.2.1 (by omega) HI.out.1
          exact ⟨q, i, C.setIfInBounds i (.int .u8 (((ch r).toNat : Nat) : Int)), ch r :: ds, rfl, rfl, ⟨by have := HI.out; omega⟩, ⟨by rw [HD.out.1, rdig_step (show 8 ≤ n by omega) (by decide), ← HQ.out, ← HR.out, List.append_assoc]; rfl, by rw [List.length_cons, HD.out.2]; have := HI.out; omega⟩, ⟨cells_cons HC.out (by omega) _⟩, ⟨by rw [← hv (by show r < 36; omega)]; exact blk_set HG.out i _⟩, ⟨below_set HB.out (Nat.le_refl _)⟩⟩
      · have c1b : decide ((8 : Int) ≤ (n : Int)) = false := decide_eq_false c1
        have c1n : decide (8 ≤ n) = false := decide_eq_false (by omega)
        have p1 : (0 : Int) ≤ (n : Int) := by omega
        have p2 : (n : Int) < 36 := by omega
        have hsl : ∀ W, (Instr.sliceAt 169 (.pointer (some ⟨w.heap.size, 0, none⟩)) (some (.int .i64 (i : Int))) none none).run Tryd.prog W = .ok (.slice (some ⟨w.heap.size, i, none⟩) (65 - i) (65 - i)) W := fun W => by
          have hal : Tryd.prog.arrayLen 169 = 65 := by simp [Program.arrayLen, Tryd.underlying169]
          rw [run_sliceAt_array_l W 169 ⟨w.heap.size, 0, none⟩ (by simp [Program.arrayLen, Program.elem, Tryd.underlying169]) .i64 (i : Int) (by omega) (by rw [hal]; omega)]
          go_simp
          omega
        have hcs := cells_cons HC.out (show i < 65 by omega) (ch n)
        have hn36 : n < letters.size := by show n < 36; omega
        have hset := blk_set HG.out i (.int .u8 (((ch n).toNat : Nat) : Int))
        have hbel := below_set (g := w.heap.size) (j := i) (v := .int .u8 (((ch n).toNat : Nat) : Int)) HB.out (Nat.le_refl _)
        have hcv := run_convert_bytes_back (P := Tryd.prog) (wr.setCell ⟨w.heap.size, i, none⟩ (.int .u8 (((ch n).toNat : Nat) : Int))) 140 9 5 ⟨w.heap.size, i, none⟩ (65 - i) (ch n :: ds) Tryd.underlying140 Tryd.underlying5 Tryd.underlying9 (fun j hj => by
          rw [add_at]
          exact (blk_cell hset (i + j)).trans (hcs.2 j hj))
        rw [List.length_cons, HD.out.2, show 65 - (i + 1) + 1 = 65 - i by have := HI.out; omega] at hcv
        rw [← ch_eq hn36] at hcv hbel
        go_wp2
        go_ret2
        refine ⟨?_, hbel⟩
        rw [HD.out.1, rdig_low (show n < 8 by omega), ← ch_eq hn36]
        rfl
  · have hu : IntKind.u64.wrap (-u) = (M : Int) := by simpa using hu
    go_enter Tryd.func92, Tryd.ntmps92
    go_wp2_with (first | (go_at_call 110; refine (HP.out _).mono ?_; rintro e w' ⟨rfl, rfl⟩) | (go_at_call 111; refine (HT.out _ ((Below.refl _ _).alloc (Nat.le_refl _) _)).mono ?_; rintro e w' ⟨rfl, rfl⟩))
    obtain ⟨W1, hW1⟩ : ∃ W1, W1 = w.alloc (.cells Z 169) := ⟨_, rfl⟩
    rw [← hW1]
    have HB := Aside0.mk (show Below w.heap.size w W1 by rw [hW1]; exact (Below.refl _ _).alloc (Nat.le_refl _) _)
    have HG := Aside0.mk (show W1.heap[w.heap.size]? = some (.cells Z 169 (0, 0)) by rw [hW1]; exact heap_alloc_new _ _)
    clear hW1
    go_loopg [1, 13] 65 (fun kq v1 v13 w' => ∃ (n i : Nat) (C : Array Value) (ds : List UInt8), v1 = .int .u64 (n : Int) ∧ v13 = .int .i64 (i : Int) ∧ Aside0 (12 ≤ i ∧ i ≤ 65 ∧ n < 2 ^ (i - 12) ∧ kq = i) ∧ Aside0 (rdig 8 M = rdig 8 n ++ ds ∧ ds.length = 65 - i) ∧ Aside0 (C.size = 65 ∧ ∀ k (h : k < ds.length), C[i + k]? = some (.int .u8 ((ds[k].toNat : Nat) : Int))) ∧ Aside0 (w'.heap[w.heap.size]? = some (.cells C 169 (0, 0))) ∧ Aside0 (Below w.heap.size w w'))
    case atStart => exact ⟨M, 65, Z, [], rfl, rfl, ⟨by omega, by omega, Nat.lt_of_lt_of_le HM.out (by decide), rfl⟩, ⟨by simp, rfl⟩, ⟨HZ.out, fun k h => by simp at h⟩, HG, HB⟩
    case round =>
      clear HG HB
      obtain ⟨n, i, C, ds, rfl, rfl, HI, HD, HC, HG, HB⟩ := hrel
      obtain ⟨i, rfl⟩ : ∃ i1, i = i1 + 1 := ⟨i - 1, by have := HI.out; omega⟩
      have hi65 : (i : Int) < 65 := by have := HI.out; omega
      have e2 : (((i + 1 : Nat) : Int) - 1) = (i : Int) := by omega
      have e3 : wrap64 (i : Int) = (i : Int) := IntWalk.wrap64_in _ (by omega)
      obtain ⟨old, hold⟩ : ∃ old, C[i]? = some old := ⟨_, Array.getElem?_eq_getElem (by have := HC.out.1; have := HI.out; omega)⟩
      have hz1 : wr.cell? ⟨w.heap.size, i, none⟩ = some old := (blk_cell HG.out i).trans hold
      have hf1 := blk_frozen HG.out i
      by_cases c1 : (8 : Int) ≤ (n : Int)
      · have c1b : decide ((8 : Int) ≤ (n : Int)) = true := decide_eq_true c1
        have c1n : decide (8 ≤ n) = true := decide_eq_true (by omega)
        obtain ⟨q, r, hq, hr, e4, e5, e6⟩ := and_code n 3 (small64 HI.out) (by decide)
        replace hq : q = n / 8 := hq
        replace hr : r = n % 8 := hr
        replace e4 : bits .and .u64 (n : Int) 7 = (r : Int) := e4
        replace e5 : IntKind.u64.wrap ((n : Int) / 8) = (q : Int) := e5
        replace e6 : (n : Int) / 8 = (q : Int) := e6
        have HQ := Aside0.mk hq
        have HR := Aside0.mk hr
        have p1 : (0 : Int) ≤ (r : Int) := by omega
        have p2 : (r : Int) < 36 := by rw [hr]; have := Nat.mod_lt n (show 0 < 8 by decide); omega
        clear hq hr
        cases gk with
        | zero => exact absurd HI.out (by omega)
        | succ k1 =>
        go_wp2
        go_roundg k1
        case measure => omega
        case rel =>
          have hv : ∀ (h : r < letters.size), (letters[r]'h) = ch r := fun h => ch_eq h
          have hh := half_lt (show 2 ≤ 8 by decide) HQ.out HI.out.2.2.1 (by omega) HI.out.1
          exact ⟨q, i, C.setIfInBounds i (.int .u8 (((ch r).toNat : Nat) : Int)), ch r :: ds, rfl, rfl, ⟨by have := HI.out; omega⟩, ⟨by rw [HD.out.1, rdig_step (show 8 ≤ n by omega) (by decide), ← HQ.out, ← HR.out, List.append_assoc]; rfl, by rw [List.length_cons, HD.out.2]; have := HI.out; omega⟩, ⟨cells_cons HC.out (by omega) _⟩, ⟨by rw [← hv (by show r < 36; omega)]; exact blk_set HG.out i _⟩, ⟨below_set HB.out (Nat.le_refl _)⟩⟩
      · have c1b : decide ((8 : Int) ≤ (n : Int)) = false := decide_eq_false c1
        have c1n : decide (8 ≤ n) = false := decide_eq_false (by omega)
        have p1 : (0 : Int) ≤ (n : Int) := by omega
        have p2 : (n : Int) < 36 := by omega
        obtain ⟨i, rfl⟩ : ∃ i2, i = i2 + 1 := ⟨i - 1, by have := HI.out; omega⟩
        have e7 : (((i + 1 : Nat) : Int) - 1) = (i : Int) := by omega
        have e8 : wrap64 (i : Int) = (i : Int) := IntWalk.wrap64_in _ (by omega)
        have hi64 : (i : Int) < 65 := by omega
        have hsl : ∀ W, (Instr.sliceAt 169 (.pointer (some ⟨w.heap.size, 0, none⟩)) (some (.int .i64 (i : Int))) none none).run Tryd.prog W = .ok (.slice (some ⟨w.heap.size, i, none⟩) (65 - i) (65 - i)) W := fun W => by
          have hal : Tryd.prog.arrayLen 169 = 65 := by simp [Program.arrayLen, Tryd.underlying169]
          rw [run_sliceAt_array_l W 169 ⟨w.heap.size, 0, none⟩ (by simp [Program.arrayLen, Program.elem, Tryd.underlying169]) .i64 (i : Int) (by omega) (by rw [hal]; omega)]
          go_simp
          omega
        have hcs := cells_cons HC.out (show i + 1 < 65 by omega) (ch n)
        have hcs2 := cells_cons hcs (show i < 65 by omega) 45
        have hn36 : n < letters.size := by show n < 36; omega
        have hset := blk_set HG.out (i + 1) (.int .u8 (((ch n).toNat : Nat) : Int))
        have hset2 := blk_set hset i (.int .u8 (((45 : UInt8).toNat : Nat) : Int))
        have hbel := below_set (g := w.heap.size) (j := i) (v := .int .u8 45) (below_set (g := w.heap.size) (j := i + 1) (v := .int .u8 (((ch n).toNat : Nat) : Int)) HB.out (Nat.le_refl _)) (Nat.le_refl _)
        have hcv := run_convert_bytes_back (P := Tryd.prog) ((wr.setCell ⟨w.heap.size, i + 1, none⟩ (.int .u8 (((ch n).toNat : Nat) : Int))).setCell ⟨w.heap.size, i, none⟩ (.int .u8 (((45 : UInt8).toNat : Nat) : Int))) 140 9 5 ⟨w.heap.size, i, none⟩ (65 - i) (45 :: ch n :: ds) Tryd.underlying140 Tryd.underlying5 Tryd.underlying9 (fun j hj => by
          rw [add_at]
          exact (blk_cell hset2 (i + j)).trans (hcs2.2 j hj))
        rw [List.length_cons, List.length_cons, HD.out.2, show 65 - (i + 1 + 1) + 1 + 1 = 65 - i by have := HI.out; omega, show (((45 : UInt8).toNat : Nat) : Int) = 45 from rfl] at hcv
        obtain ⟨old2, hold2⟩ : ∃ old, (C.setIfInBounds (i + 1) (.int .u8 (((ch n).toNat : Nat) : Int)))[i]? = some old := ⟨_, Array.getElem?_eq_getElem (by rw [hcs.1]; omega)⟩
        have hz2 := (blk_cell hset i).trans hold2
        have hf2 := blk_frozen hset i
        rw [← ch_eq hn36] at hcv hbel hz2 hf2
        go_wp2
        go_ret2
        refine ⟨?_, hbel⟩
        rw [HD.out.1, rdig_low (show n < 8 by omega), ← ch_eq hn36]
        rfl

set_option maxHeartbeats 4000000 in
set_option maxRecDepth 100000 in
theorem bits16_c (M : Nat) (hM : M < 9007199254740992) (neg : Bool) (u : Int) (hu : (if neg then IntKind.u64.wrap (-u) else u) = M)
    (w : World) (hP : ∀ w, Calls Tryd.prog 110 #[.int .i64 16] w fun e w' => e = .returned (.bool true) ∧ w = w') (hT : ∀ w', Below w.heap.size w w' → Calls Tryd.prog 111 #[.int .u64 16] w' fun e w'' => e = .returned (.int .i64 4) ∧ w' = w'') :
    Calls Tryd.prog 92 #[.slice none 0 0, .int .u64 u, .int .i64 16, .bool neg, .bool false] w fun e w' => e = .returned (.tuple #[.slice none 0 0, .string ⟨((if neg then [45] else []) ++ rdig 16 M).toArray⟩]) ∧ Below w.heap.size w w' := by
  obtain ⟨hz, -⟩ := zero_of_info zeros65
  have HZ : (Array.replicate 65 (Value.int .u8 0)).size = 65 := by simp
  generalize Array.replicate 65 (Value.int .u8 0) = Z at *
  have HZ := Aside0.mk HZ
  have HM := Aside0.mk hM
  have HP := Aside0.mk hP
  have HT := Aside0.mk hT
  clear hM hP hT
  cases neg
  · obtain rfl : u = (M : Int) := by simpa using hu
    clear hu
    go_enter Tryd.func92, Tryd.ntmps92
    go_wp2_with (first | (go_at_call 110; refine (HP.out _).mono ?_; rintro e w' ⟨rfl, rfl⟩) | (go_at_call 111; refine (HT.out _ ((Below.refl _ _).alloc (Nat.le_refl _) _)).mono ?_; rintro e w' ⟨rfl, rfl⟩))
    obtain ⟨W1, hW1⟩ : ∃ W1, W1 = w.alloc (.cells Z 169) := ⟨_, rfl⟩
    rw [← hW1]
    have HB := Aside0.mk (show Below w.heap.size w W1 by rw [hW1]; exact (Below.refl _ _).alloc (Nat.le_refl _) _)
    have HG := Aside0.mk (show W1.heap[w.heap.size]? = some (.cells Z 169 (0, 0)) by rw [hW1]; exact heap_alloc_new _ _)
    clear hW1
    go_loopg [1, 13] 65 (fun kq v1 v13 w' => ∃ (n i : Nat) (C : Array Value) (ds : List UInt8), v1 = .int .u64 (n : Int) ∧ v13 = .int .i64 (i : Int) ∧ Aside0 (12 ≤ i ∧ i ≤ 65 ∧ n < 2 ^ (i - 12) ∧ kq = i) ∧ Aside0 (rdig 16 M = rdig 16 n ++ ds ∧ ds.length = 65 - i) ∧ Aside0 (C.size = 65 ∧ ∀ k (h : k < ds.length), C[i + k]? = some (.int .u8 ((ds[k].toNat : Nat) : Int))) ∧ Aside0 (w'.heap[w.heap.size]? = some (.cells C 169 (0, 0))) ∧ Aside0 (Below w.heap.size w w'))
    case atStart => exact ⟨M, 65, Z, [], rfl, rfl, ⟨by omega, by omega, Nat.lt_of_lt_of_le HM.out (by decide), rfl⟩, ⟨by simp, rfl⟩, ⟨HZ.out, fun k h => by simp at h⟩, HG, HB⟩
    case round =>
      clear HG HB
      obtain ⟨n, i, C, ds, rfl, rfl, HI, HD, HC, HG, HB⟩ := hrel
      obtain ⟨i, rfl⟩ : ∃ i1, i = i1 + 1 := ⟨i - 1, by have := HI.out; omega⟩
      have hi65 : (i : Int) < 65 := by have := HI.out; omega
      have e2 : (((i + 1 : Nat) : Int) - 1) = (i : Int) := by omega
      have e3 : wrap64 (i : Int) = (i : Int) := IntWalk.wrap64_in _ (by omega)
      obtain ⟨old, hold⟩ : ∃ old, C[i]? = some old := ⟨_, Array.getElem?_eq_getElem (by have := HC.out.1; have := HI.out; omega)⟩
      have hz1 : wr.cell? ⟨w.heap.size, i, none⟩ = some old := (blk_cell HG.out i).trans hold
      have hf1 := blk_frozen HG.out i
      by_cases c1 : (16 : Int) ≤ (n : Int)
      · have c1b : decide ((16 : Int) ≤ (n : Int)) = true := decide_eq_true c1
        have c1n : decide (16 ≤ n) = true := decide_eq_true (by omega)
        obtain ⟨q, r, hq, hr, e4, e5, e6⟩ := and_code n 4 (small64 HI.out) (by decide)
        replace hq : q = n / 16 := hq
        replace hr : r = n % 16 := hr
        replace e4 : bits .and .u64 (n : Int) 15 = (r : Int) := e4
        replace e5 : IntKind.u64.wrap ((n : Int) / 16) = (q : Int) := e5
        replace e6 : (n : Int) / 16 = (q : Int) := e6
        have HQ := Aside0.mk hq
        have HR := Aside0.mk hr
        have p1 : (0 : Int) ≤ (r : Int) := by omega
        have p2 : (r : Int) < 36 := by rw [hr]; have := Nat.mod_lt n (show 0 < 16 by decide); omega
        clear hq hr
        cases gk with
        | zero => exact absurd HI.out (by omega)
        | succ k1 =>
        go_wp2
        go_roundg k1
        case measure => omega
        case rel =>
          have hv : ∀ (h : r < letters.size), (letters[r]'h) = ch r := fun h => ch_eq h
          have hh := half_lt (show 2 ≤ 16 by decide) HQ.out HI.out.2.2.1 (by omega) HI.out.1
          exact ⟨q, i, C.setIfInBounds i (.int .u8 (((ch r).toNat : Nat) : Int)), ch r :: ds, rfl, rfl, ⟨by have := HI.out; omega⟩, ⟨by rw [HD.out.1, rdig_step (show 16 ≤ n by omega) (by decide), ← HQ.out, ← HR.out, List.append_assoc]; rfl, by rw [List.length_cons, HD.out.2]; have := HI.out; omega⟩, ⟨cells_cons HC.out (by omega) _⟩, ⟨by rw [← hv (by show r < 36; omega)]; exact blk_set HG.out i _⟩, ⟨below_set HB.out (Nat.le_refl _)⟩⟩
      · have c1b : decide ((16 : Int) ≤ (n : Int)) = false := decide_eq_false c1
        have c1n : decide (16 ≤ n) = false := decide_eq_false (by omega)
        have p1 : (0 : Int) ≤ (n : Int) := by omega
        have p2 : (n : Int) < 36 := by omega
        have hsl : ∀ W, (Instr.sliceAt 169 (.pointer (some ⟨w.heap.size, 0, none⟩)) (some (.int .i64 (i : Int))) none none).run Tryd.prog W = .ok (.slice (some ⟨w.heap.size, i, none⟩) (65 - i) (65 - i)) W := fun W => by
          have hal : Tryd.prog.arrayLen 169 = 65 := by simp [Program.arrayLen, Tryd.underlying169]
          rw [run_sliceAt_array_l W 169 ⟨w.heap.size, 0, none⟩ (by simp [Program.arrayLen, Program.elem, Tryd.underlying169]) .i64 (i : Int) (by omega) (by rw [hal]; omega)]
          go_simp
          omega
        have hcs := cells_cons HC.out (show i < 65 by omega) (ch n)
        have hn36 : n < letters.size := by show n < 36; omega
        have hset := blk_set HG.out i (.int .u8 (((ch n).toNat : Nat) : Int))
        have hbel := below_set (g := w.heap.size) (j := i) (v := .int .u8 (((ch n).toNat : Nat) : Int)) HB.out (Nat.le_refl _)
        have hcv := run_convert_bytes_back (P := Tryd.prog) (wr.setCell ⟨w.heap.size, i, none⟩ (.int .u8 (((ch n).toNat : Nat) : Int))) 140 9 5 ⟨w.heap.size, i, none⟩ (65 - i) (ch n :: ds) Tryd.underlying140 Tryd.underlying5 Tryd.underlying9 (fun j hj => by
          rw [add_at]
          exact (blk_cell hset (i + j)).trans (hcs.2 j hj))
        rw [List.length_cons, HD.out.2, show 65 - (i + 1) + 1 = 65 - i by have := HI.out; omega] at hcv
        rw [← ch_eq hn36] at hcv hbel
        go_wp2
        go_ret2
        refine ⟨?_, hbel⟩
        rw [HD.out.1, rdig_low (show n < 16 by omega), ← ch_eq hn36]
        rfl
  · have hu : IntKind.u64.wrap (-u) = (M : Int) := by simpa using hu
    go_enter Tryd.func92, Tryd.ntmps92
    go_wp2_with (first | (go_at_call 110; refine (HP.out _).mono ?_; rintro e w' ⟨rfl, rfl⟩) | (go_at_call 111; refine (HT.out _ ((Below.refl _ _).alloc (Nat.le_refl _) _)).mono ?_; rintro e w' ⟨rfl, rfl⟩))
    obtain ⟨W1, hW1⟩ : ∃ W1, W1 = w.alloc (.cells Z 169) := ⟨_, rfl⟩
    rw [← hW1]
    have HB := Aside0.mk (show Below w.heap.size w W1 by rw [hW1]; exact (Below.refl _ _).alloc (Nat.le_refl _) _)
    have HG := Aside0.mk (show W1.heap[w.heap.size]? = some (.cells Z 169 (0, 0)) by rw [hW1]; exact heap_alloc_new _ _)
    clear hW1
    go_loopg [1, 13] 65 (fun kq v1 v13 w' => ∃ (n i : Nat) (C : Array Value) (ds : List UInt8), v1 = .int .u64 (n : Int) ∧ v13 = .int .i64 (i : Int) ∧ Aside0 (12 ≤ i ∧ i ≤ 65 ∧ n < 2 ^ (i - 12) ∧ kq = i) ∧ Aside0 (rdig 16 M = rdig 16 n ++ ds ∧ ds.length = 65 - i) ∧ Aside0 (C.size = 65 ∧ ∀ k (h : k < ds.length), C[i + k]? = some (.int .u8 ((ds[k].toNat : Nat) : Int))) ∧ Aside0 (w'.heap[w.heap.size]? = some (.cells C 169 (0, 0))) ∧ Aside0 (Below w.heap.size w w'))
    case atStart => exact ⟨M, 65, Z, [], rfl, rfl, ⟨by omega, by omega, Nat.lt_of_lt_of_le HM.out (by decide), rfl⟩, ⟨by simp, rfl⟩, ⟨HZ.out, fun k h => by simp at h⟩, HG, HB⟩
    case round =>
      clear HG HB
      obtain ⟨n, i, C, ds, rfl, rfl, HI, HD, HC, HG, HB⟩ := hrel
      obtain ⟨i, rfl⟩ : ∃ i1, i = i1 + 1 := ⟨i - 1, by have := HI.out; omega⟩
      have hi65 : (i : Int) < 65 := by have := HI.out; omega
      have e2 : (((i + 1 : Nat) : Int) - 1) = (i : Int) := by omega
      have e3 : wrap64 (i : Int) = (i : Int) := IntWalk.wrap64_in _ (by omega)
      obtain ⟨old, hold⟩ : ∃ old, C[i]? = some old := ⟨_, Array.getElem?_eq_getElem (by have := HC.out.1; have := HI.out; omega)⟩
      have hz1 : wr.cell? ⟨w.heap.size, i, none⟩ = some old := (blk_cell HG.out i).trans hold
      have hf1 := blk_frozen HG.out i
      by_cases c1 : (16 : Int) ≤ (n : Int)
      · have c1b : decide ((16 : Int) ≤ (n : Int)) = true := decide_eq_true c1
        have c1n : decide (16 ≤ n) = true := decide_eq_true (by omega)
        obtain ⟨q, r, hq, hr, e4, e5, e6⟩ := and_code n 4 (small64 HI.out) (by decide)
        replace hq : q = n / 16 := hq
        replace hr : r = n % 16 := hr
        replace e4 : bits .and .u64 (n : Int) 15 = (r : Int) := e4
        replace e5 : IntKind.u64.wrap ((n : Int) / 16) = (q : Int) := e5
        replace e6 : (n : Int) / 16 = (q : Int) := e6
        have HQ := Aside0.mk hq
        have HR := Aside0.mk hr
        have p1 : (0 : Int) ≤ (r : Int) := by omega
        have p2 : (r : Int) < 36 := by rw [hr]; have := Nat.mod_lt n (show 0 < 16 by decide); omega
        clear hq hr
        cases gk with
        | zero => exact absurd HI.out (by omega)
        | succ k1 =>
        go_wp2
        go_roundg k1
        case measure => omega
        case rel =>
          have hv : ∀ (h : r < letters.size), (letters[r]'h) = ch r := fun h => ch_eq h
          have hh := half_lt (show 2 ≤ 16 by decide) HQ.out HI.out.2.2.1 (by omega) HI.out.1
          exact ⟨q, i, C.setIfInBounds i (.int .u8 (((ch r).toNat : Nat) : Int)), ch r :: ds, rfl, rfl, ⟨by have := HI.out; omega⟩, ⟨by rw [HD.out.1, rdig_step (show 16 ≤ n by omega) (by decide), ← HQ.out, ← HR.out, List.append_assoc]; rfl, by rw [List.length_cons, HD.out.2]; have := HI.out; omega⟩, ⟨cells_cons HC.out (by omega) _⟩, ⟨by rw [← hv (by show r < 36; omega)]; exact blk_set HG.out i _⟩, ⟨below_set HB.out (Nat.le_refl _)⟩⟩
      · have c1b : decide ((16 : Int) ≤ (n : Int)) = false := decide_eq_false c1
        have c1n : decide (16 ≤ n) = false := decide_eq_false (by omega)
        have p1 : (0 : Int) ≤ (n : Int) := by omega
        have p2 : (n : Int) < 36 := by omega
        obtain ⟨i, rfl⟩ : ∃ i2, i = i2 + 1 := ⟨i - 1, by have := HI.out; omega⟩
        have e7 : (((i + 1 : Nat) : Int) - 1) = (i : Int) := by omega
        have e8 : wrap64 (i : Int) = (i : Int) := IntWalk.wrap64_in _ (by omega)
        have hi64 : (i : Int) < 65 := by omega
        have hsl : ∀ W, (Instr.sliceAt 169 (.pointer (some ⟨w.heap.size, 0, none⟩)) (some (.int .i64 (i : Int))) none none).run Tryd.prog W = .ok (.slice (some ⟨w.heap.size, i, none⟩) (65 - i) (65 - i)) W := fun W => by
          have hal : Tryd.prog.arrayLen 169 = 65 := by simp [Program.arrayLen, Tryd.underlying169]
          rw [run_sliceAt_array_l W 169 ⟨w.heap.size, 0, none⟩ (by simp [Program.arrayLen, Program.elem, Tryd.underlying169]) .i64 (i : Int) (by omega) (by rw [hal]; omega)]
          go_simp
          omega
        have hcs := cells_cons HC.out (show i + 1 < 65 by omega) (ch n)
        have hcs2 := cells_cons hcs (show i < 65 by omega) 45
        have hn36 : n < letters.size := by show n < 36; omega
        have hset := blk_set HG.out (i + 1) (.int .u8 (((ch n).toNat : Nat) : Int))
        have hset2 := blk_set hset i (.int .u8 (((45 : UInt8).toNat : Nat) : Int))
        have hbel := below_set (g := w.heap.size) (j := i) (v := .int .u8 45) (below_set (g := w.heap.size) (j := i + 1) (v := .int .u8 (((ch n).toNat : Nat) : Int)) HB.out (Nat.le_refl _)) (Nat.le_refl _)
        have hcv := run_convert_bytes_back (P := Tryd.prog) ((wr.setCell ⟨w.heap.size, i + 1, none⟩ (.int .u8 (((ch n).toNat : Nat) : Int))).setCell ⟨w.heap.size, i, none⟩ (.int .u8 (((45 : UInt8).toNat : Nat) : Int))) 140 9 5 ⟨w.heap.size, i, none⟩ (65 - i) (45 :: ch n :: ds) Tryd.underlying140 Tryd.underlying5 Tryd.underlying9 (fun j hj => by
          rw [add_at]
          exact (blk_cell hset2 (i + j)).trans (hcs2.2 j hj))
        rw [List.length_cons, List.length_cons, HD.out.2, show 65 - (i + 1 + 1) + 1 + 1 = 65 - i by have := HI.out; omega, show (((45 : UInt8).toNat : Nat) : Int) = 45 from rfl] at hcv
        obtain ⟨old2, hold2⟩ : ∃ old, (C.setIfInBounds (i + 1) (.int .u8 (((ch n).toNat : Nat) : Int)))[i]? = some old := ⟨_, Array.getElem?_eq_getElem (by rw [hcs.1]; omega)⟩
        have hz2 := (blk_cell hset i).trans hold2
        have hf2 := blk_frozen hset i
        rw [← ch_eq hn36] at hcv hbel hz2 hf2
        go_wp2
        go_ret2
        refine ⟨?_, hbel⟩
        rw [HD.out.1, rdig_low (show n < 16 by omega), ← ch_eq hn36]
        rfl

set_option maxHeartbeats 4000000 in
set_option maxRecDepth 100000 in
theorem bits32_c (M : Nat) (hM : M < 9007199254740992) (neg : Bool) (u : Int) (hu : (if neg then IntKind.u64.wrap (-u) else u) = M)
    (w : World) (hP : ∀ w, Calls Tryd.prog 110 #[.int .i64 32] w fun e w' => e = .returned (.bool true) ∧ w = w') (hT : ∀ w', Below w.heap.size w w' → Calls Tryd.prog 111 #[.int .u64 32] w' fun e w'' => e = .returned (.int .i64 5) ∧ w' = w'') :
    Calls Tryd.prog 92 #[.slice none 0 0, .int .u64 u, .int .i64 32, .bool neg, .bool false] w fun e w' => e = .returned (.tuple #[.slice none 0 0, .string ⟨((if neg then [45] else []) ++ rdig 32 M).toArray⟩]) ∧ Below w.heap.size w w' := by
  obtain ⟨hz, -⟩ := zero_of_info zeros65
  have HZ : (Array.replicate 65 (Value.int .u8 0)).size = 65 := by simp
  generalize Array.replicate 65 (Value.int .u8 0) = Z at *
  have HZ := Aside0.mk HZ
  have HM := Aside0.mk hM
  have HP := Aside0.mk hP
  have HT := Aside0.mk hT
  clear hM hP hT
  cases neg
  · obtain rfl : u = (M : Int) := by simpa using hu
    clear hu
    go_enter Tryd.func92, Tryd.ntmps92
    go_wp2_with (first | (go_at_call 110; refine (HP.out _).mono ?_; rintro e w' ⟨rfl, rfl⟩) | (go_at_call 111; refine (HT.out _ ((Below.refl _ _).alloc (Nat.le_refl _) _)).mono ?_; rintro e w' ⟨rfl, rfl⟩))
    obtain ⟨W1, hW1⟩ : ∃ W1, W1 = w.alloc (.cells Z 169) := ⟨_, rfl⟩
    rw [← hW1]
    have HB := Aside0.mk (show Below w.heap.size w W1 by rw [hW1]; exact (Below.refl _ _).alloc (Nat.le_refl _) _)
    have HG := Aside0.mk (show W1.heap[w.heap.size]? = some (.cells Z 169 (0, 0)) by rw [hW1]; exact heap_alloc_new _ _)
    clear hW1
    go_loopg [1, 13] 65 (fun kq v1 v13 w' => ∃ (n i : Nat) (C : Array Value) (ds : List UInt8), v1 = .int .u64 (n : Int) ∧ v13 = .int .i64 (i : Int) ∧ Aside0 (12 ≤ i ∧ i ≤ 65 ∧ n < 2 ^ (i - 12) ∧ kq = i) ∧ Aside0 (rdig 32 M = rdig 32 n ++ ds ∧ ds.length = 65 - i) ∧ Aside0 (C.size = 65 ∧ ∀ k (h : k < ds.length), C[i + k]? = some (.int .u8 ((ds[k].toNat : Nat) : Int))) ∧ Aside0 (w'.heap[w.heap.size]? = some (.cells C 169 (0, 0))) ∧ Aside0 (Below w.heap.size w w'))
    case atStart => exact ⟨M, 65, Z, [], rfl, rfl, ⟨by omega, by omega, Nat.lt_of_lt_of_le HM.out (by decide), rfl⟩, ⟨by simp, rfl⟩, ⟨HZ.out, fun k h => by simp at h⟩, HG, HB⟩
    case round =>
      clear HG HB
      obtain ⟨n, i, C, ds, rfl, rfl, HI, HD, HC, HG, HB⟩ := hrel
      obtain ⟨i, rfl⟩ : ∃ i1, i = i1 + 1 := ⟨i - 1, by have := HI.out; omega⟩
      have hi65 : (i : Int) < 65 := by have := HI.out; omega
      have e2 : (((i + 1 : Nat) : Int) - 1) = (i : Int) := by omega
      have e3 : wrap64 (i : Int) = (i : Int) := IntWalk.wrap64_in _ (by omega)
      obtain ⟨old, hold⟩ : ∃ old, C[i]? = some old := ⟨_, Array.getElem?_eq_getElem (by have := HC.out.1; have := HI.out; omega)⟩
      have hz1 : wr.cell? ⟨w.heap.size, i, none⟩ = some old := (blk_cell HG.out i).trans hold
      have hf1 := blk_frozen HG.out i
      by_cases c1 : (32 : Int) ≤ (n : Int)
      · have c1b : decide ((32 : Int) ≤ (n : Int)) = true := decide_eq_true c1
        have c1n : decide (32 ≤ n) = true := decide_eq_true (by omega)
        obtain ⟨q, r, hq, hr, e4, e5, e6⟩ := and_code n 5 (small64 HI.out) (by decide)
        replace hq : q = n / 32 := hq
        replace hr : r = n % 32 := hr
        replace e4 : bits .and .u64 (n : Int) 31 = (r : Int) := e4
        replace e5 : IntKind.u64.wrap ((n : Int) / 32) = (q : Int) := e5
        replace e6 : (n : Int) / 32 = (q : Int) := e6
        have HQ := Aside0.mk hq
        have HR := Aside0.mk hr
        have p1 : (0 : Int) ≤ (r : Int) := by omega
        have p2 : (r : Int) < 36 := by rw [hr]; have := Nat.mod_lt n (show 0 < 32 by decide); omega
        clear hq hr
        cases gk with
        | zero => exact absurd HI.out (by omega)
        | succ k1 =>
        go_wp2
        go_roundg k1
        case measure => omega
        case rel =>
          have hv : ∀ (h : r < letters.size), (letters[r]'h) = ch r := fun h => ch_eq h
          have hh := half_lt (show 2 ≤ 32 by decide) HQ.out HI.out.2.2.1 (by omega) HI.out.1
          exact ⟨q, i, C.setIfInBounds i (.int .u8 (((ch r).toNat : Nat) : Int)), ch r :: ds, rfl, rfl, ⟨by have := HI.out; omega⟩, ⟨by rw [HD.out.1, rdig_step (show 32 ≤ n by omega) (by decide), ← HQ.out, ← HR.out, List.append_assoc]; rfl, by rw [List.length_cons, HD.out.2]; have := HI.out; omega⟩, ⟨cells_cons HC.out (by omega) _⟩, ⟨by rw [← hv (by show r < 36; omega)]; exact blk_set HG.out i _⟩, ⟨below_set HB.out (Nat.le_refl _)⟩⟩
      · have c1b : decide ((32 : Int) ≤ (n : Int)) = false := decide_eq_false c1
        have c1n : decide (32 ≤ n) = false := decide_eq_false (by omega)
        have p1 : (0 : Int) ≤ (n : Int) := by omega
        have p2 : (n : Int) < 36 := by omega
        have hsl : ∀ W, (Instr.sliceAt 169 (.pointer (some ⟨w.heap.size, 0, none⟩)) (some (.int .i64 (i : Int))) none none).run Tryd.prog W = .ok (.slice (some ⟨w.heap.size, i, none⟩) (65 - i) (65 - i)) W := fun W => by
          have hal : Tryd.prog.arrayLen 169 = 65 := by simp [Program.arrayLen, Tryd.underlying169]
          rw [run_sliceAt_array_l W 169 ⟨w.heap.size, 0, none⟩ (by simp [Program.arrayLen, Program.elem, Tryd.underlying169]) .i64 (i : Int) (by omega) (by rw [hal]; omega)]
          go_simp
          omega
        have hcs := cells_cons HC.out (show i < 65 by omega) (ch n)
        have hn36 : n < letters.size := by show n < 36; omega
        have hset := blk_set HG.out i (.int .u8 (((ch n).toNat : Nat) : Int))
        have hbel := below_set (g := w.heap.size) (j := i) (v := .int .u8 (((ch n).toNat : Nat) : Int)) HB.out (Nat.le_refl _)
        have hcv := run_convert_bytes_back (P := Tryd.prog) (wr.setCell ⟨w.heap.size, i, none⟩ (.int .u8 (((ch n).toNat : Nat) : Int))) 140 9 5 ⟨w.heap.size, i, none⟩ (65 - i) (ch n :: ds) Tryd.underlying140 Tryd.underlying5 Tryd.underlying9 (fun j hj => by
          rw [add_at]
          exact (blk_cell hset (i + j)).trans (hcs.2 j hj))
        rw [List.length_cons, HD.out.2, show 65 - (i + 1) + 1 = 65 - i by have := HI.out; omega] at hcv
        rw [← ch_eq hn36] at hcv hbel
        go_wp2
        go_ret2
        refine ⟨?_, hbel⟩
        rw [HD.out.1, rdig_low (show n < 32 by omega), ← ch_eq hn36]
        rfl
  · have hu : IntKind.u64.wrap (-u) = (M : Int) := by simpa using hu
    go_enter Tryd.func92, Tryd.ntmps92
    go_wp2_with (first | (go_at_call 110; refine (HP.out _).mono ?_; rintro e w' ⟨rfl, rfl⟩) | (go_at_call 111; refine (HT.out _ ((Below.refl _ _).alloc (Nat.le_refl _) _)).mono ?_; rintro e w' ⟨rfl, rfl⟩))
    obtain ⟨W1, hW1⟩ : ∃ W1, W1 = w.alloc (.cells Z 169) := ⟨_, rfl⟩
    rw [← hW1]
    have HB := Aside0.mk (show Below w.heap.size w W1 by rw [hW1]; exact (Below.refl _ _).alloc (Nat.le_refl _) _)
    have HG := Aside0.mk (show W1.heap[w.heap.size]? = some (.cells Z 169 (0, 0)) by rw [hW1]; exact heap_alloc_new _ _)
    clear hW1
    go_loopg [1, 13] 65 (fun kq v1 v13 w' => ∃ (n i : Nat) (C : Array Value) (ds : List UInt8), v1 = .int .u64 (n : Int) ∧ v13 = .int .i64 (i : Int) ∧ Aside0 (12 ≤ i ∧ i ≤ 65 ∧ n < 2 ^ (i - 12) ∧ kq = i) ∧ Aside0 (rdig 32 M = rdig 32 n ++ ds ∧ ds.length = 65 - i) ∧ Aside0 (C.size = 65 ∧ ∀ k (h : k < ds.length), C[i + k]? = some (.int .u8 ((ds[k].toNat : Nat) : Int))) ∧ Aside0 (w'.heap[w.heap.size]? = some (.cells C 169 (0, 0))) ∧ Aside0 (Below w.heap.size w w'))
    case atStart => exact ⟨M, 65, Z, [], rfl, rfl, ⟨by omega, by omega, Nat.lt_of_lt_of_le HM.out (by decide), rfl⟩, ⟨by simp, rfl⟩, ⟨HZ.out, fun k h => by simp at h⟩, HG, HB⟩
    case round =>
      clear HG HB
      obtain ⟨n, i, C, ds, rfl, rfl, HI, HD, HC, HG, HB⟩ := hrel
      obtain ⟨i, rfl⟩ : ∃ i1, i = i1 + 1 := ⟨i - 1, by have := HI.out; omega⟩
      have hi65 : (i : Int) < 65 := by have := HI.out; omega
      have e2 : (((i + 1 : Nat) : Int) - 1) = (i : Int) := by omega
      have e3 : wrap64 (i : Int) = (i : Int) := IntWalk.wrap64_in _ (by omega)
      obtain ⟨old, hold⟩ : ∃ old, C[i]? = some old := ⟨_, Array.getElem?_eq_getElem (by have := HC.out.1; have := HI.out; omega)⟩
      have hz1 : wr.cell? ⟨w.heap.size, i, none⟩ = some old := (blk_cell HG.out i).trans hold
      have hf1 := blk_frozen HG.out i
      by_cases c1 : (32 : Int) ≤ (n : Int)
      · have c1b : decide ((32 : Int) ≤ (n : Int)) = true := decide_eq_true c1
        have c1n : decide (32 ≤ n) = true := decide_eq_true (by omega)
        obtain ⟨q, r, hq, hr, e4, e5, e6⟩ := and_code n 5 (small64 HI.out) (by decide)
        replace hq : q = n / 32 := hq
        replace hr : r = n % 32 := hr
        replace e4 : bits .and .u64 (n : Int) 31 = (r : Int) := e4
        replace e5 : IntKind.u64.wrap ((n : Int) / 32) = (q : Int) := e5
        replace e6 : (n : Int) / 32 = (q : Int) := e6
        have HQ := Aside0.mk hq
        have HR := Aside0.mk hr
        have p1 : (0 : Int) ≤ (r : Int) := by omega
        have p2 : (r : Int) < 36 := by rw [hr]; have := Nat.mod_lt n (show 0 < 32 by decide); omega
        clear hq hr
        cases gk with
        | zero => exact absurd HI.out (by omega)
        | succ k1 =>
        go_wp2
        go_roundg k1
        case measure => omega
        case rel =>
          have hv : ∀ (h : r < letters.size), (letters[r]'h) = ch r := fun h => ch_eq h
          have hh := half_lt (show 2 ≤ 32 by decide) HQ.out HI.out.2.2.1 (by omega) HI.out.1
          exact ⟨q, i, C.setIfInBounds i (.int .u8 (((ch r).toNat : Nat) : Int)), ch r :: ds, rfl, rfl, ⟨by have := HI.out; omega⟩, ⟨by rw [HD.out.1, rdig_step (show 32 ≤ n by omega) (by decide), ← HQ.out, ← HR.out, List.append_assoc]; rfl, by rw [List.length_cons, HD.out.2]; have := HI.out; omega⟩, ⟨cells_cons HC.out (by omega) _⟩, ⟨by rw [← hv (by show r < 36; omega)]; exact blk_set HG.out i _⟩, ⟨below_set HB.out (Nat.le_refl _)⟩⟩
      · have c1b : decide ((32 : Int) ≤ (n : Int)) = false := decide_eq_false c1
        have c1n : decide (32 ≤ n) = false := decide_eq_false (by omega)
        have p1 : (0 : Int) ≤ (n : Int) := by omega
        have p2 : (n : Int) < 36 := by omega
        obtain ⟨i, rfl⟩ : ∃ i2, i = i2 + 1 := ⟨i - 1, by have := HI.out; omega⟩
        have e7 : (((i + 1 : Nat) : Int) - 1) = (i : Int) := by omega
        have e8 : wrap64 (i : Int) = (i : Int) := IntWalk.wrap64_in _ (by omega)
        have hi64 : (i : Int) < 65 := by omega
        have hsl : ∀ W, (Instr.sliceAt 169 (.pointer (some ⟨w.heap.size, 0, none⟩)) (some (.int .i64 (i : Int))) none none).run Tryd.prog W = .ok (.slice (some ⟨w.heap.size, i, none⟩) (65 - i) (65 - i)) W := fun W => by
          have hal : Tryd.prog.arrayLen 169 = 65 := by simp [Program.arrayLen, Tryd.underlying169]
          rw [run_sliceAt_array_l W 169 ⟨w.heap.size, 0, none⟩ (by simp [Program.arrayLen, Program.elem, Tryd.underlying169]) .i64 (i : Int) (by omega) (by rw [hal]; omega)]
          go_simp
          omega
        have hcs := cells_cons HC.out (show i + 1 < 65 by omega) (ch n)
        have hcs2 := cells_cons hcs (show i < 65 by omega) 45
        have hn36 : n < letters.size := by show n < 36; omega
        have hset := blk_set HG.out (i + 1) (.int .u8 (((ch n).toNat : Nat) : Int))
        have hset2 := blk_set hset i (.int .u8 (((45 : UInt8).toNat : Nat) : Int))
        have hbel := below_set (g := w.heap.size) (j := i) (v := .int .u8 45) (below_set (g := w.heap.size) (j := i + 1) (v := .int .u8 (((ch n).toNat : Nat) : Int)) HB.out (Nat.le_refl _)) (Nat.le_refl _)
        have hcv := run_convert_bytes_back (P := Tryd.prog) ((wr.setCell ⟨w.heap.size, i + 1, none⟩ (.int .u8 (((ch n).toNat : Nat) : Int))).setCell ⟨w.heap.size, i, none⟩ (.int .u8 (((45 : UInt8).toNat : Nat) : Int))) 140 9 5 ⟨w.heap.size, i, none⟩ (65 - i) (45 :: ch n :: ds) Tryd.underlying140 Tryd.underlying5 Tryd.underlying9 (fun j hj => by
          rw [add_at]
          exact (blk_cell hset2 (i + j)).trans (hcs2.2 j hj))
        rw [List.length_cons, List.length_cons, HD.out.2, show 65 - (i + 1 + 1) + 1 + 1 = 65 - i by have := HI.out; omega, show (((45 : UInt8).toNat : Nat) : Int) = 45 from rfl] at hcv
        obtain ⟨old2, hold2⟩ : ∃ old, (C.setIfInBounds (i + 1) (.int .u8 (((ch n).toNat : Nat) : Int)))[i]? = some old := ⟨_, Array.getElem?_eq_getElem (by rw [hcs.1]; omega)⟩
        have hz2 := (blk_cell hset i).trans hold2
        have hf2 := blk_frozen hset i
        rw [← ch_eq hn36] at hcv hbel hz2 hf2
        go_wp2
        go_ret2
        refine ⟨?_, hbel⟩
        rw [HD.out.1, rdig_low (show n < 32 by omega), ← ch_eq hn36]
        rfl
end Go.Proofs.YtinaibebdacnmaaDoor.Rad
