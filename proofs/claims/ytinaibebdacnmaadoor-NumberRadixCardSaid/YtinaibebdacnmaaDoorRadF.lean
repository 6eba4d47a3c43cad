/- internal/strconv.formatBits at a base that is no ten and no power of two. -/
import Derived.Test.YtinaibebdacnmaaDoorShelf
import Derived.Test.YtinaibebdacnmaaDoorWMore
import Derived.Deep.WholeRow
set_option linter.unusedVariables false
namespace Go.Proofs.YtinaibebdacnmaaDoor.Rad
open Go.RowKit Go.Proofs.YtinaibebdacnmaaDoorW.PrintWords

/-- The letters of the digits. -/
abbrev letters : ByteArray := ⟨#[48, 49, 50, 51, 52, 53, 54, 55, 56, 57, 97, 98, 99, 100, 101, 102, 103, 104, 105, 106, 107, 108, 109, 110, 111, 112, 113, 114, 115, 116, 117, 118, 119, 120, 121, 122]⟩
def ch (d : Nat) : UInt8 := letters.data.getD d 0
/-- A number's digits to a base. -/
def rdig (b n : Nat) : List UInt8 := if h : n < b ∨ b < 2 then [ch n] else rdig b (n / b) ++ [ch (n % b)]
termination_by n
decreasing_by exact Nat.div_lt_self (by omega) (by omega)
theorem rdig_low {b n : Nat} (h : n < b) : rdig b n = [ch n] := by rw [rdig, dif_pos (.inl h)]
theorem rdig_step {b n : Nat} (h : b ≤ n) (hb : 2 ≤ b) : rdig b n = rdig b (n / b) ++ [ch (n % b)] := by rw [rdig, dif_neg (by omega)]

theorem ch_eq {r : Nat} (h : r < letters.size) : letters[r] = ch r := by
  have h2 : r < letters.data.size := h
  show letters.data[r] = letters.data.getD r 0
  rw [Array.getD_eq_getD_getElem?, Array.getElem?_eq_getElem h2]; rfl
theorem add_at (g i j : Nat) : (⟨g, i, none⟩ : Addr).add j = ⟨g, i + j, none⟩ := by unfold Addr.add; split <;> simp_all
/-- One digit more at the head. -/
theorem cells_cons {C : Array Value} {i : Nat} {ds : List UInt8} (h : C.size = 65 ∧ ∀ k (h : k < ds.length), C[i + 1 + k]? = some (.int .u8 ((ds[k].toNat : Nat) : Int))) (hi : i < 65) (c : UInt8) :
    (C.setIfInBounds i (.int .u8 ((c.toNat : Nat) : Int))).size = 65 ∧ ∀ k (h : k < (c :: ds).length), (C.setIfInBounds i (.int .u8 ((c.toNat : Nat) : Int)))[i + k]? = some (.int .u8 (((c :: ds)[k].toNat : Nat) : Int)) := by
  refine ⟨by rw [Array.size_setIfInBounds]; exact h.1, fun k hk => ?_⟩
  cases k with
  | zero => rw [Nat.add_zero, Array.getElem?_setIfInBounds_self, if_pos (by omega)]; rfl
  | succ k =>
    rw [Array.getElem?_setIfInBounds_ne (by omega), show i + (k + 1) = i + 1 + k by omega, h.2 k (by simpa using hk)]; rfl
theorem half_lt {n b i q : Nat} (hb : 2 ≤ b) (hq : q = n / b) (h : n < 2 ^ (i + 1 - 12)) (hn : b ≤ n) (h12 : 12 ≤ i + 1) : 12 ≤ i ∧ q < 2 ^ (i - 12) := by
  have h1 : 12 ≤ i := by
    apply Nat.le_of_not_lt
    intro hc
    rw [show i + 1 - 12 = 0 by omega] at h
    omega
  refine ⟨h1, ?_⟩
  rw [show i + 1 - 12 = (i - 12) + 1 by omega, Nat.pow_succ] at h
  rw [hq]
  apply Nat.div_lt_of_lt_mul
  have : 2 * 2 ^ (i - 12) ≤ b * 2 ^ (i - 12) := Nat.mul_le_mul_right _ hb
  omega
theorem small64 {i n k : Nat} (h : 12 ≤ i ∧ i ≤ 65 ∧ n < 2 ^ (i - 12) ∧ k = i) : n < 9007199254740992 := by
  have : 2 ^ (i - 12) ≤ 2 ^ 53 := Nat.pow_le_pow_right (by decide) (by omega)
  have h2 : (2 : Nat) ^ 53 = 9007199254740992 := by decide
  omega
theorem rem_code (n b : Nat) (hb : 0 < b) (hn : n < 9007199254740992) : ∃ q s r : Nat, q = n / b ∧ r = n % b ∧ IntKind.u64.wrap ((n : Int) / (b : Int)) = (q : Int) ∧ IntKind.u64.wrap ((q : Int) * (b : Int)) = (s : Int) ∧ IntKind.u64.wrap ((n : Int) - (s : Int)) = (r : Int) := by
  have h1 : n / b ≤ n := Nat.div_le_self _ _
  have h2 : n / b * b + n % b = n := by rw [Nat.mul_comm]; exact Nat.div_add_mod n b
  have h3 : n / b * b ≤ n := Nat.div_mul_le_self n b
  refine ⟨n / b, n / b * b, n % b, rfl, rfl, ?_, ?_, ?_⟩
  · rw [← Int.natCast_ediv]
    generalize n / b = q at *
    exact IntWalk.u64_in _ (by omega)
  · rw [← Int.natCast_mul]
    generalize n / b * b = q at *
    exact IntWalk.u64_in _ (by omega)
  · generalize n / b * b = q at *
    generalize n % b = r at *
    rw [IntWalk.u64_in _ (by omega)]; omega
theorem zeros65 : (Tryd.prog.info? 169).map (fun i => (i.zero, i.size)) = some (some (.agg (Array.replicate 65 (.int .u8 0))), 65) := by kernel_rfl

set_option maxHeartbeats 4000000 in
set_option maxRecDepth 100000 in
theorem bits_c (b M : Nat) (hb : 2 ≤ b) (hb2 : b ≤ 36) (hb10 : b ≠ 10) (hM : M < 9007199254740992) (neg : Bool) (u : Int) (hu : (if neg then IntKind.u64.wrap (-u) else u) = M)
    (hP : ∀ w, Calls Tryd.prog 110 #[.int .i64 b] w fun e w' => e = .returned (.bool false) ∧ w = w') (w : World) :
    Calls Tryd.prog 92 #[.slice none 0 0, .int .u64 u, .int .i64 b, .bool neg, .bool false] w fun e w' => e = .returned (.tuple #[.slice none 0 0, .string ⟨((if neg then [45] else []) ++ rdig b M).toArray⟩]) ∧ Below w.heap.size w w' := by
  obtain ⟨hz, -⟩ := zero_of_info zeros65
  have HZ : (Array.replicate 65 (Value.int .u8 0)).size = 65 := by simp
  generalize Array.replicate 65 (Value.int .u8 0) = Z at *
  have HZ := Aside0.mk HZ
  have HM := Aside0.mk hM
  have HP := Aside0.mk hP
  clear hM hP
  have t1 : decide ((b : Int) < 2) = false := decide_eq_false (by omega)
  have t1n : decide (b < 2) = false := decide_eq_false (by omega)
  have t2 : ((b : Int) == 10) = false := by rw [beq_eq_false_iff_ne]; omega
  have t2n : (b == 10) = false := by rw [beq_eq_false_iff_ne]; omega
  have t3 : decide (36 < (b : Int)) = false := decide_eq_false (by omega)
  have t3n : decide (36 < b) = false := decide_eq_false (by omega)
  cases neg
  · obtain rfl : u = (M : Int) := by simpa using hu
    clear hu
    go_enter Tryd.func92, Tryd.ntmps92
    go_wp2_with (go_at_call 110; refine (HP.out _).mono ?_; rintro e w' ⟨rfl, rfl⟩)
    obtain ⟨W1, hW1⟩ : ∃ W1, W1 = w.alloc (.cells Z 169) := ⟨_, rfl⟩
    rw [← hW1]
    have HB := Aside0.mk (show Below w.heap.size w W1 by rw [hW1]; exact (Below.refl _ _).alloc (Nat.le_refl _) _)
    have HG := Aside0.mk (show W1.heap[w.heap.size]? = some (.cells Z 169 (0, 0)) by rw [hW1]; exact heap_alloc_new _ _)
    clear hW1
    go_loopg [1, 13] 65 (fun kq v1 v13 w' => ∃ (n i : Nat) (C : Array Value) (ds : List UInt8), v1 = .int .u64 (n : Int) ∧ v13 = .int .i64 (i : Int) ∧ Aside0 (12 ≤ i ∧ i ≤ 65 ∧ n < 2 ^ (i - 12) ∧ kq = i) ∧ Aside0 (rdig b M = rdig b n ++ ds ∧ ds.length = 65 - i) ∧ Aside0 (C.size = 65 ∧ ∀ k (h : k < ds.length), C[i + k]? = some (.int .u8 ((ds[k].toNat : Nat) : Int))) ∧ Aside0 (w'.heap[w.heap.size]? = some (.cells C 169 (0, 0))) ∧ Aside0 (Below w.heap.size w w'))
    case atStart => exact ⟨M, 65, Z, [], rfl, rfl, ⟨by omega, by omega, Nat.lt_of_lt_of_le HM.out (by decide), rfl⟩, ⟨by simp, rfl⟩, ⟨HZ.out, fun k h => by simp at h⟩, HG, HB⟩
    case round =>
      clear HG HB
      obtain ⟨n, i, C, ds, rfl, rfl, HI, HD, HC, HG, HB⟩ := hrel
      obtain ⟨i, rfl⟩ : ∃ i1, i = i1 + 1 := ⟨i - 1, by have := HI.out; omega⟩
      have hi65 : (i : Int) < 65 := by have := HI.out; omega
      have e2 : (((i + 1 : Nat) : Int) - 1) = (i : Int) := by omega
      have e3 : wrap64 (i : Int) = (i : Int) := IntWalk.wrap64_in _ (by omega)
      obtain ⟨old, hold⟩ : ∃ old, C[i]? = some old := ⟨_, Array.getElem?_eq_getElem (by have := HC.out.1; have := HI.out; omega)⟩
      have hz1 : wr.cell? ⟨w.heap.size, i, none⟩ = some old := (blk_cell HG.out i).trans hold
      have hf1 := blk_frozen HG.out i
      by_cases c1 : (b : Int) ≤ (n : Int)
      · have c1b : decide ((b : Int) ≤ (n : Int)) = true := decide_eq_true c1
        have c1n : decide (b ≤ n) = true := decide_eq_true (by omega)
        obtain ⟨q, s1, r, hq, hr, e4, e5, e6⟩ := rem_code n b (by omega) (small64 HI.out)
        have HQ := Aside0.mk hq
        have HR := Aside0.mk hr
        have p1 : (0 : Int) ≤ (r : Int) := by omega
        have p2 : (r : Int) < 36 := by rw [hr]; have := Nat.mod_lt n (show 0 < b by omega); omega
        clear hq hr
        cases gk with
        | zero => exact absurd HI.out (by omega)
        | succ k1 =>
        go_wp2
        go_roundg k1
        case measure => omega
        case rel =>
          have hv : ∀ (h : r < letters.size), (letters[r]'h) = ch r := fun h => ch_eq h
          have hh := half_lt hb HQ.out HI.out.2.2.1 (by omega) HI.out.1
          exact ⟨q, i, C.setIfInBounds i (.int .u8 (((ch r).toNat : Nat) : Int)), ch r :: ds, rfl, rfl, ⟨by have := HI.out; omega⟩, ⟨by rw [HD.out.1, rdig_step (show b ≤ n by omega) hb, ← HQ.out, ← HR.out, List.append_assoc]; rfl, by rw [List.length_cons, HD.out.2]; have := HI.out; omega⟩, ⟨cells_cons HC.out (by omega) _⟩, ⟨by rw [← hv (by show r < 36; omega)]; exact blk_set HG.out i _⟩, ⟨below_set HB.out (Nat.le_refl _)⟩⟩
      · have c1b : decide ((b : Int) ≤ (n : Int)) = false := decide_eq_false c1
        have c1n : decide (b ≤ n) = false := decide_eq_false (by omega)
        have p1 : (0 : Int) ≤ (n : Int) := by omega
        have p2 : (n : Int) < 36 := by omega
        have hsl : ∀ W, (Instr.sliceAt 169 (.pointer (some ⟨w.heap.size, 0, none⟩)) (some (.int .i64 (i : Int))) none none).run Tryd.prog W = .ok (.slice (some ⟨w.heap.size, i, none⟩) (65 - i) (65 - i)) W := fun W => by
          have hal : Tryd.prog.arrayLen 169 = 65 := by simp [Program.arrayLen, Tryd.underlying169]
          rw [run_sliceAt_array_l W 169 ⟨w.heap.size, 0, none⟩ (by simp [Program.arrayLen, Program.elem, Tryd.underlying169]) .i64 (i : Int) (by omega) (by rw [hal]; omega)]
          go_simp
          omega
        have hcs := cells_cons HC.out (show i < 65 by omega) (ch n)
        have hn36 : n < letters.size := by show n < 36; omega
        have hset := blk_set HG.out i (.int .u8 (((ch n).toNat : Nat) : Int))
        have hbel := below_set (g := w.heap.size) (j := i) (v := .int .u8 (((ch n).toNat : Nat) : Int)) HB.out (Nat.le_refl _)
        have hcv := run_convert_bytes_back (P := Tryd.prog) (wr.setCell ⟨w.heap.size, i, none⟩ (.int .u8 (((ch n).toNat : Nat) : Int))) 140 9 5 ⟨w.heap.size, i, none⟩ (65 - i) (ch n :: ds) Tryd.underlying140 Tryd.underlying5 Tryd.underlying9 (fun j hj => by
          rw [add_at]
          exact (blk_cell hset (i + j)).trans (hcs.2 j hj))
        rw [List.length_cons, HD.out.2, show 65 - (i + 1) + 1 = 65 - i by have := HI.out; omega] at hcv
        rw [← ch_eq hn36] at hcv hbel
        go_wp2
        go_ret2
        refine ⟨?_, hbel⟩
        rw [HD.out.1, rdig_low (show n < b by omega), ← ch_eq hn36]
        rfl
  · have hu : IntKind.u64.wrap (-u) = (M : Int) := by simpa using hu
    go_enter Tryd.func92, Tryd.ntmps92
    go_wp2_with (go_at_call 110; refine (HP.out _).mono ?_; rintro e w' ⟨rfl, rfl⟩)
    obtain ⟨W1, hW1⟩ : ∃ W1, W1 = w.alloc (.cells Z 169) := ⟨_, rfl⟩
    rw [← hW1]
    have HB := Aside0.mk (show Below w.heap.size w W1 by rw [hW1]; exact (Below.refl _ _).alloc (Nat.le_refl _) _)
    have HG := Aside0.mk (show W1.heap[w.heap.size]? = some (.cells Z 169 (0, 0)) by rw [hW1]; exact heap_alloc_new _ _)
    clear hW1
    go_loopg [1, 13] 65 (fun kq v1 v13 w' => ∃ (n i : Nat) (C : Array Value) (ds : List UInt8), v1 = .int .u64 (n : Int) ∧ v13 = .int .i64 (i : Int) ∧ Aside0 (12 ≤ i ∧ i ≤ 65 ∧ n < 2 ^ (i - 12) ∧ kq = i) ∧ Aside0 (rdig b M = rdig b n ++ ds ∧ ds.length = 65 - i) ∧ Aside0 (C.size = 65 ∧ ∀ k (h : k < ds.length), C[i + k]? = some (.int .u8 ((ds[k].toNat : Nat) : Int))) ∧ Aside0 (w'.heap[w.heap.size]? = some (.cells C 169 (0, 0))) ∧ Aside0 (Below w.heap.size w w'))
    case atStart => exact ⟨M, 65, Z, [], rfl, rfl, ⟨by omega, by omega, Nat.lt_of_lt_of_le HM.out (by decide), rfl⟩, ⟨by simp, rfl⟩, ⟨HZ.out, fun k h => by simp at h⟩, HG, HB⟩
    case round =>
      clear HG HB
      obtain ⟨n, i, C, ds, rfl, rfl, HI, HD, HC, HG, HB⟩ := hrel
      obtain ⟨i, rfl⟩ : ∃ i1, i = i1 + 1 := ⟨i - 1, by have := HI.out; omega⟩
      have hi65 : (i : Int) < 65 := by have := HI.out; omega
      have e2 : (((i + 1 : Nat) : Int) - 1) = (i : Int) := by omega
      have e3 : wrap64 (i : Int) = (i : Int) := IntWalk.wrap64_in _ (by omega)
      obtain ⟨old, hold⟩ : ∃ old, C[i]? = some old := ⟨_, Array.getElem?_eq_getElem (by have := HC.out.1; have := HI.out; omega)⟩
      have hz1 : wr.cell? ⟨w.heap.size, i, none⟩ = some old := (blk_cell HG.out i).trans hold
      have hf1 := blk_frozen HG.out i
      by_cases c1 : (b : Int) ≤ (n : Int)
      · have c1b : decide ((b : Int) ≤ (n : Int)) = true := decide_eq_true c1
        have c1n : decide (b ≤ n) = true := decide_eq_true (by omega)
        obtain ⟨q, s1, r, hq, hr, e4, e5, e6⟩ := rem_code n b (by omega) (small64 HI.out)
        have HQ := Aside0.mk hq
        have HR := Aside0.mk hr
        have p1 : (0 : Int) ≤ (r : Int) := by omega
        have p2 : (r : Int) < 36 := by rw [hr]; have := Nat.mod_lt n (show 0 < b by omega); omega
        clear hq hr
        cases gk with
        | zero => exact absurd HI.out (by omega)
        | succ k1 =>
        go_wp2
        go_roundg k1
        case measure => omega
        case rel =>
          have hv : ∀ (h : r < letters.size), (letters[r]'h) = ch r := fun h => ch_eq h
          have hh := half_lt hb HQ.out HI.out.2.2.1 (by omega) HI.out.1
          exact ⟨q, i, C.setIfInBounds i (.int .u8 (((ch r).toNat : Nat) : Int)), ch r :: ds, rfl, rfl, ⟨by have := HI.out; omega⟩, ⟨by rw [HD.out.1, rdig_step (show b ≤ n by omega) hb, ← HQ.out, ← HR.out, List.append_assoc]; rfl, by rw [List.length_cons, HD.out.2]; have := HI.out; omega⟩, ⟨cells_cons HC.out (by omega) _⟩, ⟨by rw [← hv (by show r < 36; omega)]; exact blk_set HG.out i _⟩, ⟨below_set HB.out (Nat.le_refl _)⟩⟩
      · have c1b : decide ((b : Int) ≤ (n : Int)) = false := decide_eq_false c1
        have c1n : decide (b ≤ n) = false := decide_eq_false (by omega)
        have p1 : (0 : Int) ≤ (n : Int) := by omega
        have p2 : (n : Int) < 36 := by omega
        obtain ⟨i, rfl⟩ : ∃ i2, i = i2 + 1 := ⟨i - 1, by have := HI.out; omega⟩
        have e7 : (((i + 1 : Nat) : Int) - 1) = (i : Int) := by omega
        have e8 : wrap64 (i : Int) = (i : Int) := IntWalk.wrap64_in _ (by omega)
        have hi64 : (i : Int) < 65 := by omega
        have hsl : ∀ W, (Instr.sliceAt 169 (.pointer (some ⟨w.heap.size, 0, none⟩)) (some (.int .i64 (i : Int))) none none).run Tryd.prog W = .ok (.slice (some ⟨w.heap.size, i, none⟩) (65 - i) (65 - i)) W := fun W => by
          have hal : Tryd.prog.arrayLen 169 = 65 := by simp [Program.arrayLen, Tryd.underlying169]
          rw [run_sliceAt_array_l W 169 ⟨w.heap.size, 0, none⟩ (by simp [Program.arrayLen, Program.elem, Tryd.underlying169]) .i64 (i : Int) (by omega) (by rw [hal]; omega)]
          go_simp
          omega
        have hcs := cells_cons HC.out (show i + 1 < 65 by omega) (ch n)
        have hcs2 := cells_cons hcs (show i < 65 by omega) 45
        have hn36 : n < letters.size := by show n < 36; omega
        have hset := blk_set HG.out (i + 1) (.int .u8 (((ch n).toNat : Nat) : Int))
        have hset2 := blk_set hset i (.int .u8 (((45 : UInt8).toNat : Nat) : Int))
        have hbel := below_set (g := w.heap.size) (j := i) (v := .int .u8 45) (below_set (g := w.heap.size) (j := i + 1) (v := .int .u8 (((ch n).toNat : Nat) : Int)) HB.out (Nat.le_refl _)) (Nat.le_refl _)
        have hcv := run_convert_bytes_back (P := Tryd.prog) ((wr.setCell ⟨w.heap.size, i + 1, none⟩ (.int .u8 (((ch n).toNat : Nat) : Int))).setCell ⟨w.heap.size, i, none⟩ (.int .u8 (((45 : UInt8).toNat : Nat) : Int))) 140 9 5 ⟨w.heap.size, i, none⟩ (65 - i) (45 :: ch n :: ds) Tryd.underlying140 Tryd.underlying5 Tryd.underlying9 (fun j hj => by
          rw [add_at]
          exact (blk_cell hset2 (i + j)).trans (hcs2.2 j hj))
        rw [List.length_cons, List.length_cons, HD.out.2, show 65 - (i + 1 + 1) + 1 + 1 = 65 - i by have := HI.out; omega, show (((45 : UInt8).toNat : Nat) : Int) = 45 from rfl] at hcv
        obtain ⟨old2, hold2⟩ : ∃ old, (C.setIfInBounds (i + 1) (.int .u8 (((ch n).toNat : Nat) : Int)))[i]? = some old := ⟨_, Array.getElem?_eq_getElem (by rw [hcs.1]; omega)⟩
        have hz2 := (blk_cell hset i).trans hold2
        have hf2 := blk_frozen hset i
        rw [← ch_eq hn36] at hcv hbel hz2 hf2
        go_wp2
        go_ret2
        refine ⟨?_, hbel⟩
        rw [HD.out.1, rdig_low (show n < b by omega), ← ch_eq hn36]
        rfl
end Go.Proofs.YtinaibebdacnmaaDoor.Rad
