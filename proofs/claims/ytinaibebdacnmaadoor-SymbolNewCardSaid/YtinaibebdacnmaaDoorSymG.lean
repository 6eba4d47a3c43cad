/- The law SymbolNew: its walk. -/
import Derived.Test.YtinaibebdacnmaaDoorSymF
import Derived.Deep.Cut
namespace Go.Proofs.YtinaibebdacnmaaDoor
open Go.RowKit Go.Proofs.YtinaibebdacnmaaDoorW.PrintWords
attribute [local go_sem] run_store_float
attribute [local go_sem ↓] Go.wp_at_zero Go.wp_at_succ

/-- A value's five fields. -/
structure Vl where
  k : Int
  b : Bool
  n : Nat
  s : ByteArray
  i : Int
/-- A row of values lies in the world. -/
def VRow (W : World) (A : Option Addr) (L : List Vl) : Prop :=
  0 < L.length → ∃ ad, A = some ad ∧ ∀ j v, L[j]? = some v → W.cell? (ad.add (j * 5)) = some (.int .i64 v.k) ∧ W.cell? (ad.add (j * 5 + 1)) = some (.bool v.b) ∧ W.cell? (ad.add (j * 5 + 2)) = some (.float .f64 v.n) ∧ W.cell? (ad.add (j * 5 + 3)) = some (.string v.s) ∧ W.cell? (ad.add (j * 5 + 4)) = some (.int .i64 v.i)

theorem addQ (ad : Addr) (x q : Nat) (hq : q ≠ 0) : (⟨(ad.add x).block, (ad.add x).off + q, none⟩ : Addr) = ad.add (x + q) := by
  unfold Addr.add
  by_cases hx : x = 0 <;> simp [hx, hq, Nat.add_assoc]
theorem VRow.at {W W' : World} {A : Option Addr} {L : List Vl} (h : VRow W A L) (hb : Below W.heap.size W W') (j : Nat) (hj : j < L.length) : ∃ ad v, A = some ad ∧ L[j]? = some v ∧ W'.cell? (ad.add (j * 5)) = some (.int .i64 v.k) ∧ W'.cell? ⟨(ad.add (j * 5)).block, (ad.add (j * 5)).off + 1, none⟩ = some (.bool v.b) ∧ W'.cell? ⟨(ad.add (j * 5)).block, (ad.add (j * 5)).off + 2, none⟩ = some (.float .f64 v.n) ∧ W'.cell? ⟨(ad.add (j * 5)).block, (ad.add (j * 5)).off + 3, none⟩ = some (.string v.s) ∧ W'.cell? ⟨(ad.add (j * 5)).block, (ad.add (j * 5)).off + 4, none⟩ = some (.int .i64 v.i) := by
  obtain ⟨ad, e, hc⟩ := h (by omega)
  obtain ⟨c0, c1, c2, c3, c4⟩ := hc j _ (List.getElem?_eq_getElem hj)
  have k : ∀ {p : Addr} {x : Value}, W.cell? p = some x → W'.cell? p = some x := fun {p} {x} h => by rw [hb.cell (World.block_lt_of_cell? W p h)]; exact h
  exact ⟨ad, _, e, List.getElem?_eq_getElem hj, k c0, by rw [addQ _ _ 1 (by decide)]; exact k c1, by rw [addQ _ _ 2 (by decide)]; exact k c2, by rw [addQ _ _ 3 (by decide)]; exact k c3, by rw [addQ _ _ 4 (by decide)]; exact k c4⟩

theorem lookE {W : World} {b : Nat} (n : Int) (h : W.heap[b]? = some (.map #[] 0)) : (Instr.lookup 67 (.map (some b)) (.int .i64 n) true).run Tryd.prog W = .ok (.tuple #[.agg #[.string ⟨#[]⟩], .bool false]) W :=
  lookN u67 Tryd.underlying3 (isKI _) h rfl (zEntry W)

theorem keepU {V W W' : World} {q0 q1 q2 q3 q4 q5 q6 q7 q8 q9 : Addr} {x0 x1 x2 x3 x4 x5 x6 x7 x8 x9 : Value} (hb : Below W.heap.size W W') (h : W.cell? q0 = some x0 ∧ W.cell? q1 = some x1 ∧ W.cell? q2 = some x2 ∧ W.cell? q3 = some x3 ∧ W.cell? q4 = some x4 ∧ W.cell? q5 = some x5 ∧ W.cell? q6 = some x6 ∧ W.cell? q7 = some x7 ∧ W.cell? q8 = some x8 ∧ W.cell? q9 = some x9 ∧ Below V.heap.size V W) : W'.cell? q0 = some x0 ∧ W'.cell? q1 = some x1 ∧ W'.cell? q2 = some x2 ∧ W'.cell? q3 = some x3 ∧ W'.cell? q4 = some x4 ∧ W'.cell? q5 = some x5 ∧ W'.cell? q6 = some x6 ∧ W'.cell? q7 = some x7 ∧ W'.cell? q8 = some x8 ∧ W'.cell? q9 = some x9 ∧ Below V.heap.size V W' := by
  have k : ∀ {p : Addr} {x : Value}, W.cell? p = some x → W'.cell? p = some x := fun {p} {x} h => by rw [hb.cell (World.block_lt_of_cell? W p h)]; exact h
  obtain ⟨h0, h1, h2, h3, h4, h5, h6, h7, h8, h9, hB⟩ := h
  exact ⟨k h0, k h1, k h2, k h3, k h4, k h5, k h6, k h7, k h8, k h9, hB.trans (hb.mono hB.size)⟩
theorem belU {V W : World} {q0 q1 q2 q3 q4 q5 q6 q7 q8 q9 : Addr} {x0 x1 x2 x3 x4 x5 x6 x7 x8 x9 : Value} (h : W.cell? q0 = some x0 ∧ W.cell? q1 = some x1 ∧ W.cell? q2 = some x2 ∧ W.cell? q3 = some x3 ∧ W.cell? q4 = some x4 ∧ W.cell? q5 = some x5 ∧ W.cell? q6 = some x6 ∧ W.cell? q7 = some x7 ∧ W.cell? q8 = some x8 ∧ W.cell? q9 = some x9 ∧ Below V.heap.size V W) : Below V.heap.size V W := h.2.2.2.2.2.2.2.2.2.2
theorem getR (xs : List Value) (cnt q : Nat) (ys : List Value) (hx : xs.length = cnt * 5) : (xs ++ ys)[cnt * 5 + q]? = ys[q]? := by
  rw [List.getElem?_append_right (by omega), hx]; congr 1; omega
theorem Reg.len {B p cnt : Nat} {xs : List Value} {b1 b2 : Nat} {o1 o2 : Obj} {W : World} (h : Reg B p cnt xs b1 b2 o1 o2 W) : xs.length = cnt * 5 := by
  obtain ⟨_, _, _, _, _, _, _, _, _, _, _, ho⟩ := h
  exact ho.1

set_option maxRecDepth 100000 in
set_option maxHeartbeats 1000000 in
theorem law_new (A : Option Addr) (L : List Vl) (cap : Nat) (w : World) (HT : Tabs w) (hL : VRow w A L) : Calls Tryd.prog 3 #[.slice A L.length cap] w fun e w' => e = .returned (.bool true) ∧ Below w.heap.size w w' := by
  have hW := Fact.mk (works_c w HT)
  have HT := Fact.mk HT
  have HL := Fact.mk hL
  have hn := Fact.mk num_c
  clear hL
  go_enter Tryd.func3, Tryd.ntmps3
  go_wp2_with fail
  refine hW.out.mono ?_
  rintro e w1 ⟨rfl, hb1⟩
  clear hW
  by_cases c1 : (1000 : Int) < (L.length : Int)
  · go_wp2
    go_ret
    exact ⟨rfl, hb1⟩
  · have c1' : ¬ (L.length : Int) > 1000 := c1
    have hB1 := Fact.mk hb1
    have hN := Fact.mk (new_c w1 (HT.out.below hb1))
    clear hb1
    go_wp2_with fail
    refine hN.out.mono ?_
    rintro e w2 ⟨p, b1, b2, rfl, hR, hb2⟩
    have hC := Fact.mk (count_c hR)
    have hR := Fact.mk hR
    have hB2 := Fact.mk hb2
    clear hN hb2
    go_wp2_with fail
    refine hC.out.mono ?_
    rintro e w3 ⟨rfl, rfl⟩
    clear hC
    go_wp2
    go_loopg [4, 5] L.length (fun kq v4 v5 w' => ∃ (j cnt : Nat) (xs : List Value), v4 = .int .i64 cnt ∧ v5 = .int .i64 j ∧ Aside0 (j + kq = L.length) ∧ Aside0 (cnt ≤ 13 + j) ∧ Aside0 (Reg w1.heap.size p cnt xs b1 b2 (.map #[] 0) (.map #[] 0) w') ∧ Aside0 (Below w1.heap.size w1 w'))
    case atStart => exact ⟨0, 13, _, rfl, rfl, ⟨by omega⟩, ⟨by omega⟩, ⟨hR.out⟩, ⟨hB2.out⟩⟩
    case round =>
      obtain ⟨j, cnt, xs, rfl, rfl, HN, HC, HR, HB⟩ := hrel
      clear hR hB2
      have hbw := Fact.mk (hB1.out.trans (HB.out.mono hB1.out.size))
      by_cases c2 : (j : Int) < (L.length : Int)
      · have hj : j < L.length := by omega
        obtain ⟨ad, v, rfl, hv, a0, a1, a2, a3, a4⟩ := HL.out.at hbw.out j hj
        have p1 : (0 : Int) ≤ (j : Int) := by omega
        have hTr := Fact.mk (HT.out.below hbw.out)
        by_cases hok : gd v.k v.b v.n v.s v.i = true ∧ (v.k = 1 ∨ v.k = 5)
        · obtain ⟨hg, hk⟩ := hok
          have hM := Fact.mk (make_c HR.out (by have := HC.out; omega) v.k v.b v.n v.s v.i hTr.out hg hk)
          have hlen := HR.out.len
          obtain ⟨k, b, n, s, i⟩ := v
          simp only at *
          have hq := Fact.mk (eqSelf_c k b n s i)
          unfold VV at hM hq
          clear hg hk
          cases gk with
          | zero => exact absurd HN.out (by omega)
          | succ k1 =>
            go_wp2_with fail
            refine hM.out.mono ?_
            rintro e w4 ⟨rfl, hR4, hb4⟩
            have hB4 := Fact.mk (HB.out.trans hb4)
            have hK := Fact.mk (keyFor_c hR4 ((cnt : Int) + 1) (by omega) (by omega) ⟨#[]⟩ false (lookE _ hR4.maps.2.2.2))
            have hR4 := Fact.mk hR4
            clear hM hb4 a0 a1 a2 a3 a4 hTr hbw
            go_wp2_with (go_at_call 11; refine (hn.out _ _).mono ?_; rintro e w' ⟨rfl, rfl⟩)
            refine hK.out.mono ?_
            rintro e w5 ⟨rfl, hb5⟩
            have hR5 := Fact.mk (hR4.out.keep hb5)
            have hB5 := Fact.mk (hB4.out.trans (hb5.mono hB4.out.size))
            have hD := Fact.mk (desc_c hR5.out (by have := HC.out; omega) cnt (by omega) (by have := getR xs cnt 0 [.int .i64 k, .bool b, .float .f64 n, .string s, .int .i64 i] hlen; simpa using this) (getR xs cnt 1 _ hlen) (getR xs cnt 2 _ hlen) (getR xs cnt 3 _ hlen) (getR xs cnt 4 _ hlen))
            unfold VV at hD
            clear hK hb5 hB4 hR4
            go_wp2_with fail
            refine hD.out.mono ?_
            rintro e w6 ⟨rfl, hb6⟩
            have hR6 := hR5.out.keep hb6
            have hB6 := hB5.out.trans (hb6.mono hB5.out.size)
            clear hD hb6 hB5 hR5
            go_upto_region 16 with (fail)
            obtain ⟨W, hW⟩ : ∃ W, W = w6.alloc (.cells #[.int .i64 k, .bool b, .float .f64 n, .string s, .int .i64 i] 32) := ⟨_, rfl⟩
            rw [← hW]
            have hv6 : W.heap[w6.heap.size]? = some (.cells #[.int .i64 k, .bool b, .float .f64 n, .string s, .int .i64 i] 32 (0, 0)) := hW ▸ heap_alloc_new w6 _
            have hBW := hB6.alloc hB6.size (.cells #[.int .i64 k, .bool b, .float .f64 n, .string s, .int .i64 i] 32)
            rw [← hW] at hBW
            have hRW := Fact.mk (hR6.keep (show Below w6.heap.size w6 W from hW ▸ (Below.refl _ _).alloc (Nat.le_refl _) _))
            clear hW hB6 hR6
            obtain ⟨ad2, v2, e2, hv2, a0, a1, a2, a3, a4⟩ := HL.out.at (hB1.out.trans (hBW.mono hB1.out.size)) j hj
            cases e2
            obtain rfl := Option.some.inj (hv.symm.trans hv2)
            simp only at a0 a1 a2 a3 a4
            obtain ⟨d0, d1, d2, d3, d4, _⟩ := facts5 hv6
            have hBW := Fact.mk hBW
            have hCW := Fact.mk (fun X (h : Below W.heap.size W X) => (show Calls Tryd.prog 9 #[.pointer (some ⟨p, 0, none⟩)] X fun e X' => e = .returned (.int .i64 ((cnt : Int) + 1)) ∧ X = X' from count_c (hRW.out.keep h)))
            have hmm : ((cnt : Int) + 1 != (cnt : Int) + 1) = false := bne_self_eq_false _
            have hwr : IntKind.i64.wrap ((cnt : Int) + 1) = (cnt : Int) + 1 := by rw [IntKind.wrap_i64]; have := HC.out; omega
            have hm2 : ((cnt : Int) + 1 != IntKind.i64.wrap ((cnt : Int) + 1)) = false := by rw [hwr]; exact hmm
            have hS0 : W.drew.cell? ⟨w6.heap.size, 0, none⟩ = some (.int .i64 k) ∧ W.drew.cell? ⟨w6.heap.size, 1, none⟩ = some (.bool b) ∧ W.drew.cell? ⟨w6.heap.size, 2, none⟩ = some (.float .f64 n) ∧ W.drew.cell? ⟨w6.heap.size, 3, none⟩ = some (.string s) ∧ W.drew.cell? ⟨w6.heap.size, 4, none⟩ = some (.int .i64 i) ∧ W.drew.cell? (ad.add (j * 5)) = some (.int .i64 k) ∧ W.drew.cell? ⟨(ad.add (j * 5)).block, (ad.add (j * 5)).off + 1, none⟩ = some (.bool b) ∧ W.drew.cell? ⟨(ad.add (j * 5)).block, (ad.add (j * 5)).off + 2, none⟩ = some (.float .f64 n) ∧ W.drew.cell? ⟨(ad.add (j * 5)).block, (ad.add (j * 5)).off + 3, none⟩ = some (.string s) ∧ W.drew.cell? ⟨(ad.add (j * 5)).block, (ad.add (j * 5)).off + 4, none⟩ = some (.int .i64 i) ∧ Below W.heap.size W W.drew := ⟨d0, d1, d2, d3, d4, a0, a1, a2, a3, a4, (Below.refl _ _).drew⟩
            clear d0 d1 d2 d3 d4 a0 a1 a2 a3 a4 hv hv2 hv6
            go_region_held3 (fun X => X.cell? ⟨w6.heap.size, 0, none⟩ = some (.int .i64 k) ∧ X.cell? ⟨w6.heap.size, 1, none⟩ = some (.bool b) ∧ X.cell? ⟨w6.heap.size, 2, none⟩ = some (.float .f64 n) ∧ X.cell? ⟨w6.heap.size, 3, none⟩ = some (.string s) ∧ X.cell? ⟨w6.heap.size, 4, none⟩ = some (.int .i64 i) ∧ X.cell? (ad.add (j * 5)) = some (.int .i64 k) ∧ X.cell? ⟨(ad.add (j * 5)).block, (ad.add (j * 5)).off + 1, none⟩ = some (.bool b) ∧ X.cell? ⟨(ad.add (j * 5)).block, (ad.add (j * 5)).off + 2, none⟩ = some (.float .f64 n) ∧ X.cell? ⟨(ad.add (j * 5)).block, (ad.add (j * 5)).off + 3, none⟩ = some (.string s) ∧ X.cell? ⟨(ad.add (j * 5)).block, (ad.add (j * 5)).off + 4, none⟩ = some (.int .i64 i) ∧ Below W.heap.size W X) (first | with_reducible exact hS0 | with_reducible assumption | with_reducible exact keepU (by with_reducible assumption) (by with_reducible assumption)) (first | (go_at_call 11; refine (hn.out _ _).mono ?_; rintro e w' ⟨rfl, rfl⟩) | (go_at_call 9; refine (hCW.out _ (belU (by assumption))).mono ?_; rintro e w' ⟨rfl, rfl⟩) | (go_at_call 14; refine (hq.out _).mono ?_; rintro e w9 ⟨rfl, hb9⟩; have hS9 := keepU hb9 (by assumption)))
            have hBe := belU hS9
            have hRe := Fact.mk (hRW.out.keep hBe)
            have hBf := Fact.mk (hBW.out.trans (hBe.mono hBW.out.size))
            clear hS9 hb9 hBe hS0 hCW hRW hBW hq HR HB hmm hm2
            go_wp2
            go_roundg k1
            case measure => omega
            case rel => exact ⟨j + 1, cnt + 1, _, by first | rfl | (congr 1; omega), by first | rfl | (congr 1; omega), ⟨by have := HN.out; omega⟩, ⟨by have := HC.out; omega⟩, ⟨hRe.out⟩, ⟨hBf.out⟩⟩
        · have hM := Fact.mk (makeNot_c (B := 0) (p := p) (cnt := 0) (xs := []) (b1 := 0) (b2 := 0) (o1 := .map #[] 0) (o2 := .map #[] 0) v.k v.b v.n v.s v.i hTr.out (by
            cases hg : gd v.k v.b v.n v.s v.i with
            | false => exact .inl rfl
            | true => right; refine ⟨fun h => hok ⟨hg, .inl h⟩, fun h => hok ⟨hg, .inr h⟩⟩))
          clear hok
          obtain ⟨k, b, n, s, i⟩ := v
          simp only at *
          unfold VV at hM
          cases gk with
          | zero => exact absurd HN.out (by omega)
          | succ k1 =>
            go_wp2_with fail
            refine hM.out.mono ?_
            rintro e w4 ⟨rfl, hb4⟩
            have hR4 := Fact.mk (HR.out.keep hb4)
            have hB4 := Fact.mk (HB.out.trans (hb4.mono HB.out.size))
            have hC4 := Fact.mk (count_c hR4.out)
            clear hM hb4 a0 a1 a2 a3 a4 hTr hbw HL
            go_wp2_with (first | (go_at_call 11; refine (hn.out _ _).mono ?_; rintro e w' ⟨rfl, rfl⟩) | (go_at_call 9; refine hC4.out.mono ?_; rintro e w' ⟨rfl, rfl⟩))
            go_roundg k1
            case measure => omega
            case rel => exact ⟨j + 1, cnt, xs, rfl, by first | rfl | (congr 1; omega), ⟨by have := HN.out; omega⟩, ⟨by have := HC.out; omega⟩, ⟨hR4.out⟩, ⟨hB4.out⟩⟩
      · go_wp2
        go_ret
        exact ⟨rfl, hbw.out⟩
end Go.Proofs.YtinaibebdacnmaaDoor
