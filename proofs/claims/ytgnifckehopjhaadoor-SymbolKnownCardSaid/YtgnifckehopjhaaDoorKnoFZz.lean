import Derived.Test.YtgnifckehopjhaaDoorNk
import Derived.Deep.Cut
import Derived.Deep.QuietTactic
set_option linter.all false
/- The law SymbolKnown: its walk. -/
namespace Go.Proofs.YtgnifckehopjhaaDoor
open Go.RowKit Go.Proofs.YtgnifckehopjhaaDoorW.PrintWords
open Go.ChangeMaps (setBlock)
attribute [local go_sem] run_store_float
attribute [local go_sem ↓] Go.wp_at_zero Go.wp_at_succ

/-- A row of strings lies in the world. -/
def SRow (W : World) (A : Option Addr) (T : List ByteArray) : Prop :=
  0 < T.length → ∃ ad, A = some ad ∧ ∀ j s, T[j]? = some s → W.cell? (ad.add j) = some (.string s)
theorem SRow.at {W W' : World} {A : Option Addr} {T : List ByteArray} (h : SRow W A T) (hb : Below W.heap.size W W') (j : Nat) (hj : j < T.length) : ∃ ad s, A = some ad ∧ T[j]? = some s ∧ W'.cell? (ad.add j) = some (.string s) := by
  obtain ⟨ad, e, hc⟩ := h (by omega)
  have c := hc j _ (List.getElem?_eq_getElem hj)
  exact ⟨ad, _, e, List.getElem?_eq_getElem hj, by rw [hb.cell (World.block_lt_of_cell? W _ c)]; exact c⟩
theorem SRow.cell {W W' : World} {ad : Addr} {T : List ByteArray} (h : SRow W (some ad) T) {j : Nat} {s : ByteArray} (hs : T[j]? = some s) (hb : Below W.heap.size W W') : W'.cell? (ad.add j) = some (.string s) := by
  obtain ⟨ad', e, hc⟩ := h (by have := (List.getElem?_eq_some_iff.1 hs).1; omega)
  cases e
  have c := hc j s hs
  rw [hb.cell (World.block_lt_of_cell? W _ c)]; exact c
theorem keepT {V W W' : World} {q0 q1 q2 q3 q4 q5 : Addr} {x0 x1 x2 x3 x4 x5 : Value} (hb : Below W.heap.size W W') (h : W.cell? q0 = some x0 ∧ W.cell? q1 = some x1 ∧ W.cell? q2 = some x2 ∧ W.cell? q3 = some x3 ∧ W.cell? q4 = some x4 ∧ W.cell? q5 = some x5 ∧ Below V.heap.size V W) : W'.cell? q0 = some x0 ∧ W'.cell? q1 = some x1 ∧ W'.cell? q2 = some x2 ∧ W'.cell? q3 = some x3 ∧ W'.cell? q4 = some x4 ∧ W'.cell? q5 = some x5 ∧ Below V.heap.size V W' := by
  have k : ∀ {p : Addr} {x : Value}, W.cell? p = some x → W'.cell? p = some x := fun {p} {x} h => by rw [hb.cell (World.block_lt_of_cell? W p h)]; exact h
  obtain ⟨h0, h1, h2, h3, h4, h5, hB⟩ := h
  exact ⟨k h0, k h1, k h2, k h3, k h4, k h5, hB.trans (hb.mono hB.size)⟩
theorem belT {V W : World} {q0 q1 q2 q3 q4 q5 : Addr} {x0 x1 x2 x3 x4 x5 : Value} (h : W.cell? q0 = some x0 ∧ W.cell? q1 = some x1 ∧ W.cell? q2 = some x2 ∧ W.cell? q3 = some x3 ∧ W.cell? q4 = some x4 ∧ W.cell? q5 = some x5 ∧ Below V.heap.size V W) : Below V.heap.size V W := h.2.2.2.2.2.2
theorem mm3 (w : World) : (Instr.makeMap 38 none).run Tryd.prog w = .ok (.map (some w.heap.size)) (w.alloc (.map #[] 0)) := by kernel_rfl

theorem lenM1 {W : World} {b : Nat} {K : List (ByteArray × Nat)} (hb : W.heap[b]? = some (M1 K)) : (Builtin.len_ #[37] 3 #[.map (some b)]).run Tryd.prog W = .ok (.int .i64 K.length) W := by
  have hu : Tryd.prog.underlying 37 = some (.map (Tryd.prog.mapKeyOf 37) (Tryd.prog.mapElemOf 37)) := by kernel_rfl
  refine (run_len_map W 37 3 b (ents kS kN K 0).toArray K.length hu hb).trans ?_
  simp [goInt, ents_len]

set_option maxRecDepth 100000 in
set_option maxHeartbeats 8000000 in
theorem law_known (A1 : Option Addr) (T : List ByteArray) (cap1 : Nat) (A2 : Option Addr) (L : List Vl) (cap2 : Nat) (w : World) (HT : Tabs w) (h1 : SRow w A1 T) (h2 : VRow w A2 L) :
    Calls Tryd.prog 4 #[.slice A1 T.length cap1, .slice A2 L.length cap2] w fun e w' => e = .returned (.bool true) ∧ Below w.heap.size w w' := by
  have hW := Fact.mk (works_c w HT)
  have HT := Fact.mk HT
  have H1 := Fact.mk h1
  have H2 := Fact.mk h2
  have hn := Fact.mk num_c
  have q1 := mm1
  have q2 := mm3
  clear h1 h2
  go_enter Tryd.func4, Tryd.ntmps4
  go_wp2_with fail
  refine hW.out.mono ?_
  rintro e w1 ⟨rfl, hb1⟩
  clear hW
  by_cases c1 : (300 : Int) < (T.length : Int)
  · go_wp2
    go_ret
    exact ⟨rfl, hb1⟩
  by_cases c2 : (300 : Int) < (L.length : Int)
  · go_wp2
    go_ret
    exact ⟨rfl, hb1⟩
  have hB1 := Fact.mk hb1
  have hN := Fact.mk (new_c w1 (HT.out.below hb1))
  clear hb1
  go_wp2_with fail
  refine hN.out.mono ?_
  rintro e w2 ⟨p, b1, b2, rfl, hR, hb2⟩
  have hR := Fact.mk hR
  have hB2 := Fact.mk hb2
  clear hN hb2
  go_wp2
  obtain ⟨W3, hW3⟩ : ∃ W3, W3 = (w2.alloc (.map #[] 0)).alloc (.map #[] 0) := ⟨_, rfl⟩
  have HS := Fact.mk (show St w1.heap.size p b1 b2 w2.heap.size (w2.heap.size + 1) 13 (flatW 13) [] [] W3 by
    have hr := hR.out.keep (show Below w2.heap.size w2 W3 by rw [hW3]; exact ((Below.refl _ _).alloc (Nat.le_refl _) _).alloc (by simp) _)
    have l1 := ltH hR.out.maps.2.2.1
    have l2 := ltH hR.out.maps.2.2.2
    have l3 := hB2.out.size
    refine ⟨hr, ⟨by omega, by omega, by omega, by omega, by omega, by omega, by omega⟩, ?_, ?_, ⟨by simp, by simp, by simp⟩, by simp [Lk]⟩
    · rw [hW3]; exact oldA (heap_alloc_new w2 _) _
    · rw [hW3]; exact heap_alloc2_new w2 _ _)
  have HB := Fact.mk (show Below w1.heap.size w1 W3 by rw [hW3]; exact (hB2.out.alloc hB2.out.size _).alloc (by simp; have := hB2.out.size; omega) _)
  rw [← hW3]
  clear hW3 hR hB2 q1 q2
  generalize hg : w2.heap.size + 1 = g at *
  clear hg
  generalize w2.heap.size = f at *
  go_loopg [8] 2 (fun kq v8 w' => ∃ (t cnt : Nat) (xs : List Value) (K : List (ByteArray × Nat)), v8 = .int .i64 t ∧ Aside0 (t + kq = 2) ∧ Aside0 (cnt ≤ 13 + 2 * (t * T.length) ∧ K.length ≤ cnt) ∧ Aside0 (St w1.heap.size p b1 b2 f g cnt xs K K w') ∧ Aside0 (Below w1.heap.size w1 w'))
  case atStart => exact ⟨0, 13, _, [], rfl, ⟨by omega⟩, ⟨by omega, by simp⟩, ⟨HS.out⟩, ⟨HB.out⟩⟩
  case round =>
    clear HS HB
    obtain ⟨t, cnt, xs, K, rfl, HN, HC, HS, HB⟩ := hrel
    by_cases ct : (t : Int) < 2
    · cases gk with
      | zero => exact absurd HN.out (by omega)
      | succ k1 =>
        go_wp2
        obtain ⟨V, hV⟩ : ∃ V, V = V := ⟨w1, rfl⟩
        clear hV V
        go_loopg [9] T.length (fun kq v9 w' => ∃ (j cnt : Nat) (xs : List Value) (K : List (ByteArray × Nat)), v9 = .int .i64 j ∧ Aside0 (j + kq = T.length) ∧ Aside0 (cnt ≤ 13 + 2 * (t * T.length + j) ∧ K.length ≤ cnt) ∧ Aside0 (St w1.heap.size p b1 b2 f g cnt xs K K w') ∧ Aside0 (Below w1.heap.size w1 w'))
        case atStart => exact ⟨0, cnt, xs, K, rfl, ⟨by omega⟩, HC, HS, HB⟩
        case round =>
          clear HS HB HC
          obtain ⟨j, cnt, xs, K, rfl, HM, HC, HS, HB⟩ := hrel
          by_cases cj : (j : Int) < (T.length : Int)
          · have hj : j < T.length := by omega
            have hcnt : cnt ≤ 1300 := by have := HC.out; have := HN.out; have : t * T.length ≤ 1 * T.length := Nat.mul_le_mul_right _ (by omega); omega
            have hbw := Fact.mk (hB1.out.trans (HB.out.mono hB1.out.size))
            obtain ⟨ad, s, rfl, hs, a0⟩ := H1.out.at hbw.out j hj
            clear a0
            cases gk with
            | zero => exact absurd HM.out (by omega)
            | succ k2 =>
            have p1 : (0 : Int) ≤ (j : Int) := by omega
            by_cases cb : (j : Int) < (L.length : Int)
            · obtain ⟨ad2, v, rfl, hv, x0, x1, x2, x3, x4⟩ := H2.out.at hbw.out j (by omega)
              have hM := Fact.mk (HS.out.makeA (by omega) (HT.out.below hbw.out) v.k v.b v.n v.s v.i)
              obtain ⟨k, b, n, s9, i⟩ := v
              simp only at x0 x1 x2 x3 x4 hM
              unfold VV at hM
              go_wp2_with fail
              refine hM.out.mono ?_
              rintro e w4 ⟨r1, r2, cnt4, xs4, rfl, hS4, hb4, hc5, hc4⟩
              have hS4 := Fact.mk hS4
              have hB4 := Fact.mk (HB.out.trans hb4)
              clear hM hb4 x0 x1 x2 x3 x4 HS HB hbw
              have hC := Fact.mk (count_c hS4.out.reg)
              have a0 := H1.out.cell hs (hB1.out.trans (hB4.out.mono hB1.out.size))
              go_wp2_with fail
              refine hC.out.mono ?_
              rintro e w5 ⟨rfl, rfl⟩
              clear hC
              by_cases hok : s.size ≤ 1048576 ∧ (Pt.all s).2 = true
              · by_cases hk : ∃ x ∈ K, x.1 = s
                · obtain ⟨x, hx, rfl⟩ := hk
                  have hF := Fact.mk (hS4.out.forHit (HT.out.below (hB1.out.trans (hB4.out.mono hB1.out.size))) hx)
                  go_wp2_with fail
                  refine hF.out.mono ?_
                  rintro e w5 ⟨rfl, hb5⟩
                  have hS5 := Fact.mk (hS4.out.keep hb5)
                  have hB5 := Fact.mk (hB4.out.trans (hb5.mono hB4.out.size))
                  have a5 := H1.out.cell hs (hB1.out.trans (hB5.out.mono hB1.out.size))
                  have ql := lookT_hit hS5.out.kn hx hS5.out.hf
                  have hC5 := Fact.mk (show Calls Tryd.prog 13 #[.pointer (some ⟨p, 0, none⟩)] w5 fun e X' => e = .returned (.int .i64 (cnt4 : Int)) ∧ w5 = X' from count_c hS5.out.reg)
                  have hm1 : ((x.2 : Int) != (x.2 : Int)) = false := bne_self_eq_false _
                  have hm2 : ((cnt4 : Int) != (cnt4 : Int)) = false := bne_self_eq_false _
                  clear hF hb5 a0 hS4 hB4
                  have q5 := updT_hit hS5.out.kn hx hS5.out.hf
                  obtain ⟨s1, s2, s3, s4⟩ := hS5.out.side K
                  have q6 := updO_hit hS5.out.kn hx s4
                  have hS7 := Fact.mk s1
                  have hB7 := Fact.mk (hB5.out.trans s3)
                  have hx := Fact.mk hx
                  clear s1 s2 s3 s4
                  have hKy := hS7.out.keyA hx.out
                  have hKy := Fact.mk hKy
                  go_wp2_with (first | (go_at_call 15; refine (hn.out _ _).mono ?_; rintro e w' ⟨rfl, rfl⟩) | (go_at_call 13; refine hC5.out.mono ?_; rintro e w' ⟨rfl, rfl⟩))
                  refine hKy.out.mono ?_
                  rintro e w8 ⟨rfl, hb8⟩
                  have hS8 := Fact.mk (hS7.out.keep hb8)
                  have hB8 := Fact.mk (hB7.out.trans (hb8.mono hB7.out.size))
                  have hDe := hS8.out.descA (by omega) hx.out
                  have hDe := Fact.mk hDe
                  unfold VV at hDe
                  clear hKy hb8 hS7 hB7
                  go_wp2_with fail
                  refine hDe.out.mono ?_
                  rintro e w9 ⟨rfl, hb9⟩
                  have hS9 := hS8.out.keep hb9
                  have hB9 := hB8.out.trans (hb9.mono hB8.out.size)
                  clear hDe hb9 hS8 hB8
                  go_upto_region 28 with (fail)
                  obtain ⟨W, hW⟩ : ∃ W, W = w9.alloc (.cells #[.int .i64 5, .bool false, .float .f64 0, .string x.1, .int .i64 0] 44) := ⟨_, rfl⟩
                  rw [← hW]
                  have hv6 : W.heap[w9.heap.size]? = some (.cells #[.int .i64 5, .bool false, .float .f64 0, .string x.1, .int .i64 0] 44 (0, 0)) := hW ▸ heap_alloc_new w9 _
                  have hBW := hB9.alloc hB9.size (.cells #[.int .i64 5, .bool false, .float .f64 0, .string x.1, .int .i64 0] 44)
                  rw [← hW] at hBW
                  have hSW := Fact.mk (hS9.keep (show Below w9.heap.size w9 W from hW ▸ (Below.refl _ _).alloc (Nat.le_refl _) _))
                  clear hW hB9 hS9
                  have aW := H1.out.cell hs (hB1.out.trans (hBW.mono hB1.out.size))
                  obtain ⟨d0, d1, d2, d3, d4, _⟩ := facts5 hv6
                  have hBW := Fact.mk hBW
                  have hq := Fact.mk (eqSelf_c 5 false 0 x.1 0)
                  unfold VV at hq
                  clear hv6
                  go_wp2_with (first | (go_at_call 15; refine (hn.out _ _).mono ?_; rintro e w' ⟨rfl, rfl⟩) | (go_at_call 18; refine (hq.out _).mono ?_; rintro e w9' ⟨rfl, hBe⟩))
                  have hSe := Fact.mk (hSW.out.keep hBe)
                  have hBf := Fact.mk (hBW.out.trans (hBe.mono hBW.out.size))
                  clear hBe hSW hBW hq
                  go_roundg k2
                  case measure => omega
                  case rel => exact ⟨j + 1, cnt4, xs4, K, by first | rfl | (congr 1; omega), ⟨by have := HM.out; omega⟩, ⟨by have := HC.out; omega, by have := HC.out; omega⟩, ⟨hSe.out⟩, ⟨hBf.out⟩⟩
                · have hk' : ∀ y ∈ K, y.1 ≠ s := fun y hy e => hk ⟨y, hy, e⟩
                  have hF := Fact.mk (hS4.out.forNew (by omega) (HT.out.below (hB1.out.trans (hB4.out.mono hB1.out.size))) s hok.1 hok.2 hk')
                  have hfr := Fact.mk hS4.out.lk.fresh
                  have he1 := Fact.mk (show ((cnt4 + 1 : Nat) : Int) = (cnt4 : Int) + 1 by omega)
                  have hkf := Fact.mk hk'
                  clear hk hok hk'
                  go_wp2_with fail
                  refine hF.out.mono ?_
                  rintro e w5 ⟨rfl, hS5, hb5⟩
                  have hB5 := Fact.mk (hB4.out.trans hb5)
                  have hS5 := Fact.mk hS5
                  have a5 := H1.out.cell hs (hB1.out.trans (hB5.out.mono hB1.out.size))
                  have ql := lookT_new hkf.out hS5.out.hf
                  have qo := lookO_new hfr.out hS5.out.hg
                  rw [he1.out] at qo
                  have hC5 := count_c hS5.out.reg
                  rw [he1.out] at hC5
                  have hC5 := Fact.mk hC5
                  have hwr : IntKind.i64.wrap ((cnt4 : Int) + 1) = (cnt4 : Int) + 1 := by rw [IntKind.wrap_i64]; omega
                  have hm2 : ((cnt4 : Int) + 1 != (cnt4 : Int) + 1) = false := bne_self_eq_false _
                  have hm1 : ((cnt4 : Int) + 1 != IntKind.i64.wrap ((cnt4 : Int) + 1)) = false := by rw [hwr]; exact hm2
                  clear hwr hF hb5 a0 hB4
                  have q5 := updT_new (cnt4 + 1) hkf.out hS5.out.hf
                  rw [he1.out] at q5
                  obtain ⟨s1, s2, s3, s4⟩ := hS5.out.side (K ++ [(s, cnt4 + 1)])
                  have q6 := updO_new s hfr.out s4
                  rw [he1.out] at q6
                  have hS7 := Fact.mk s1
                  have hB7 := Fact.mk (hB5.out.trans s3)
                  have hx : (s, cnt4 + 1) ∈ K ++ [(s, cnt4 + 1)] := by simp
                  have hx := Fact.mk hx
                  clear s1 s2 s3 s4
                  have hKy := hS7.out.keyA hx.out
                  dsimp only at hKy
                  rw [he1.out] at hKy
                  have hKy := Fact.mk hKy
                  go_wp2_with (first | (go_at_call 15; refine (hn.out _ _).mono ?_; rintro e w' ⟨rfl, rfl⟩) | (go_at_call 13; refine hC5.out.mono ?_; rintro e w' ⟨rfl, rfl⟩))
                  refine hKy.out.mono ?_
                  rintro e w8 ⟨rfl, hb8⟩
                  have hS8 := Fact.mk (hS7.out.keep hb8)
                  have hB8 := Fact.mk (hB7.out.trans (hb8.mono hB7.out.size))
                  have hDe := hS8.out.descA (by omega) hx.out
                  dsimp only at hDe
                  rw [he1.out] at hDe
                  have hDe := Fact.mk hDe
                  unfold VV at hDe
                  clear hKy hb8 hS7 hB7
                  go_wp2_with fail
                  refine hDe.out.mono ?_
                  rintro e w9 ⟨rfl, hb9⟩
                  have hS9 := hS8.out.keep hb9
                  have hB9 := hB8.out.trans (hb9.mono hB8.out.size)
                  clear hDe hb9 hS8 hB8
                  go_upto_region 28 with (fail)
                  obtain ⟨W, hW⟩ : ∃ W, W = w9.alloc (.cells #[.int .i64 5, .bool false, .float .f64 0, .string s, .int .i64 0] 44) := ⟨_, rfl⟩
                  rw [← hW]
                  have hv6 : W.heap[w9.heap.size]? = some (.cells #[.int .i64 5, .bool false, .float .f64 0, .string s, .int .i64 0] 44 (0, 0)) := hW ▸ heap_alloc_new w9 _
                  have hBW := hB9.alloc hB9.size (.cells #[.int .i64 5, .bool false, .float .f64 0, .string s, .int .i64 0] 44)
                  rw [← hW] at hBW
                  have hSW := Fact.mk (hS9.keep (show Below w9.heap.size w9 W from hW ▸ (Below.refl _ _).alloc (Nat.le_refl _) _))
                  clear hW hB9 hS9
                  have aW := H1.out.cell hs (hB1.out.trans (hBW.mono hB1.out.size))
                  obtain ⟨d0, d1, d2, d3, d4, _⟩ := facts5 hv6
                  have hBW := Fact.mk hBW
                  have hq := Fact.mk (eqSelf_c 5 false 0 s 0)
                  unfold VV at hq
                  clear hv6
                  go_wp2_with (first | (go_at_call 15; refine (hn.out _ _).mono ?_; rintro e w' ⟨rfl, rfl⟩) | (go_at_call 18; refine (hq.out _).mono ?_; rintro e w9' ⟨rfl, hBe⟩))
                  have hSe := Fact.mk (hSW.out.keep hBe)
                  have hBf := Fact.mk (hBW.out.trans (hBe.mono hBW.out.size))
                  clear hBe hSW hBW hq
                  go_roundg k2
                  case measure => omega
                  case rel => exact ⟨j + 1, cnt4 + 1, _, K ++ [(s, cnt4 + 1)], by first | rfl | (congr 1; omega), ⟨by have := HM.out; omega⟩, ⟨by have := HC.out; omega, by have := HC.out; simp; omega⟩, ⟨hSe.out⟩, ⟨hBf.out⟩⟩
              · have hF := Fact.mk (forBad_c (p := p) (HT.out.below (hB1.out.trans (hB4.out.mono hB1.out.size))) s (by
                  by_cases hz : (s.size : Int) ≤ 1048576
                  · right
                    cases hv : (Pt.all s).2 with
                    | false => rfl
                    | true => exact absurd ⟨by omega, hv⟩ hok
                  · exact .inl hz))
                clear hok
                go_wp2_with fail
                refine hF.out.mono ?_
                rintro e w5 ⟨rfl, hb5⟩
                have hS5 := Fact.mk (hS4.out.keep hb5)
                have hB5 := Fact.mk (hB4.out.trans (hb5.mono hB4.out.size))
                have hC5 := Fact.mk (count_c hS5.out.reg)
                clear hF hb5 a0 hS4 hB4
                go_wp2_with (first | (go_at_call 15; refine (hn.out _ _).mono ?_; rintro e w' ⟨rfl, rfl⟩) | (go_at_call 13; refine hC5.out.mono ?_; rintro e w' ⟨rfl, rfl⟩))
                go_roundg k2
                case measure => omega
                case rel => exact ⟨j + 1, cnt4, xs4, K, by first | rfl | (congr 1; omega), ⟨by have := HM.out; omega⟩, ⟨by have := HC.out; omega, by have := HC.out; omega⟩, ⟨hS5.out⟩, ⟨hB5.out⟩⟩
            · obtain ⟨cnt4, hc4e⟩ : ∃ c, c = cnt := ⟨_, rfl⟩
              obtain ⟨xs4, hx4e⟩ : ∃ c, c = xs := ⟨_, rfl⟩
              rw [← hc4e, ← hx4e] at HS
              have hc5 : cnt ≤ cnt4 := by omega
              have hc4 : cnt4 ≤ cnt + 1 := by omega
              have hS4 := Fact.mk HS.out
              have hB4 := Fact.mk HB.out
              clear hc4e hx4e HS HB hbw
              have hC := Fact.mk (count_c hS4.out.reg)
              have a0 := H1.out.cell hs (hB1.out.trans (hB4.out.mono hB1.out.size))
              go_wp2_with fail
              refine hC.out.mono ?_
              rintro e w5 ⟨rfl, rfl⟩
              clear hC
              by_cases hok : s.size ≤ 1048576 ∧ (Pt.all s).2 = true
              · by_cases hk : ∃ x ∈ K, x.1 = s
                · obtain ⟨x, hx, rfl⟩ := hk
                  have hF := Fact.mk (hS4.out.forHit (HT.out.below (hB1.out.trans (hB4.out.mono hB1.out.size))) hx)
                  go_wp2_with fail
                  refine hF.out.mono ?_
                  rintro e w5 ⟨rfl, hb5⟩
                  have hS5 := Fact.mk (hS4.out.keep hb5)
                  have hB5 := Fact.mk (hB4.out.trans (hb5.mono hB4.out.size))
                  have a5 := H1.out.cell hs (hB1.out.trans (hB5.out.mono hB1.out.size))
                  have ql := lookT_hit hS5.out.kn hx hS5.out.hf
                  have hC5 := Fact.mk (show Calls Tryd.prog 13 #[.pointer (some ⟨p, 0, none⟩)] w5 fun e X' => e = .returned (.int .i64 (cnt4 : Int)) ∧ w5 = X' from count_c hS5.out.reg)
                  have hm1 : ((x.2 : Int) != (x.2 : Int)) = false := bne_self_eq_false _
                  have hm2 : ((cnt4 : Int) != (cnt4 : Int)) = false := bne_self_eq_false _
                  clear hF hb5 a0 hS4 hB4
                  have q5 := updT_hit hS5.out.kn hx hS5.out.hf
                  obtain ⟨s1, s2, s3, s4⟩ := hS5.out.side K
                  have q6 := updO_hit hS5.out.kn hx s4
                  have hS7 := Fact.mk s1
                  have hB7 := Fact.mk (hB5.out.trans s3)
                  have hx := Fact.mk hx
                  clear s1 s2 s3 s4
                  have hKy := hS7.out.keyA hx.out
                  have hKy := Fact.mk hKy
                  go_wp2_with (first | (go_at_call 15; refine (hn.out _ _).mono ?_; rintro e w' ⟨rfl, rfl⟩) | (go_at_call 13; refine hC5.out.mono ?_; rintro e w' ⟨rfl, rfl⟩))
                  refine hKy.out.mono ?_
                  rintro e w8 ⟨rfl, hb8⟩
                  have hS8 := Fact.mk (hS7.out.keep hb8)
                  have hB8 := Fact.mk (hB7.out.trans (hb8.mono hB7.out.size))
                  have hDe := hS8.out.descA (by omega) hx.out
                  have hDe := Fact.mk hDe
                  unfold VV at hDe
                  clear hKy hb8 hS7 hB7
                  go_wp2_with fail
                  refine hDe.out.mono ?_
                  rintro e w9 ⟨rfl, hb9⟩
                  have hS9 := hS8.out.keep hb9
                  have hB9 := hB8.out.trans (hb9.mono hB8.out.size)
                  clear hDe hb9 hS8 hB8
                  go_upto_region 28 with (fail)
                  obtain ⟨W, hW⟩ : ∃ W, W = w9.alloc (.cells #[.int .i64 5, .bool false, .float .f64 0, .string x.1, .int .i64 0] 44) := ⟨_, rfl⟩
                  rw [← hW]
                  have hv6 : W.heap[w9.heap.size]? = some (.cells #[.int .i64 5, .bool false, .float .f64 0, .string x.1, .int .i64 0] 44 (0, 0)) := hW ▸ heap_alloc_new w9 _
                  have hBW := hB9.alloc hB9.size (.cells #[.int .i64 5, .bool false, .float .f64 0, .string x.1, .int .i64 0] 44)
                  rw [← hW] at hBW
                  have hSW := Fact.mk (hS9.keep (show Below w9.heap.size w9 W from hW ▸ (Below.refl _ _).alloc (Nat.le_refl _) _))
                  clear hW hB9 hS9
                  have aW := H1.out.cell hs (hB1.out.trans (hBW.mono hB1.out.size))
                  obtain ⟨d0, d1, d2, d3, d4, _⟩ := facts5 hv6
                  have hBW := Fact.mk hBW
                  have hq := Fact.mk (eqSelf_c 5 false 0 x.1 0)
                  unfold VV at hq
                  clear hv6
                  go_wp2_with (first | (go_at_call 15; refine (hn.out _ _).mono ?_; rintro e w' ⟨rfl, rfl⟩) | (go_at_call 18; refine (hq.out _).mono ?_; rintro e w9' ⟨rfl, hBe⟩))
                  have hSe := Fact.mk (hSW.out.keep hBe)
                  have hBf := Fact.mk (hBW.out.trans (hBe.mono hBW.out.size))
                  clear hBe hSW hBW hq
                  go_roundg k2
                  case measure => omega
                  case rel => exact ⟨j + 1, cnt4, xs4, K, by first | rfl | (congr 1; omega), ⟨by have := HM.out; omega⟩, ⟨by have := HC.out; omega, by have := HC.out; omega⟩, ⟨hSe.out⟩, ⟨hBf.out⟩⟩
                · have hk' : ∀ y ∈ K, y.1 ≠ s := fun y hy e => hk ⟨y, hy, e⟩
                  have hF := Fact.mk (hS4.out.forNew (by omega) (HT.out.below (hB1.out.trans (hB4.out.mono hB1.out.size))) s hok.1 hok.2 hk')
                  have hfr := Fact.mk hS4.out.lk.fresh
                  have he1 := Fact.mk (show ((cnt4 + 1 : Nat) : Int) = (cnt4 : Int) + 1 by omega)
                  have hkf := Fact.mk hk'
                  clear hk hok hk'
                  go_wp2_with fail
                  refine hF.out.mono ?_
                  rintro e w5 ⟨rfl, hS5, hb5⟩
                  have hB5 := Fact.mk (hB4.out.trans hb5)
                  have hS5 := Fact.mk hS5
                  have a5 := H1.out.cell hs (hB1.out.trans (hB5.out.mono hB1.out.size))
                  have ql := lookT_new hkf.out hS5.out.hf
                  have qo := lookO_new hfr.out hS5.out.hg
                  rw [he1.out] at qo
                  have hC5 := count_c hS5.out.reg
                  rw [he1.out] at hC5
                  have hC5 := Fact.mk hC5
                  have hwr : IntKind.i64.wrap ((cnt4 : Int) + 1) = (cnt4 : Int) + 1 := by rw [IntKind.wrap_i64]; omega
                  have hm2 : ((cnt4 : Int) + 1 != (cnt4 : Int) + 1) = false := bne_self_eq_false _
                  have hm1 : ((cnt4 : Int) + 1 != IntKind.i64.wrap ((cnt4 : Int) + 1)) = false := by rw [hwr]; exact hm2
                  clear hwr hF hb5 a0 hB4
                  have q5 := updT_new (cnt4 + 1) hkf.out hS5.out.hf
                  rw [he1.out] at q5
                  obtain ⟨s1, s2, s3, s4⟩ := hS5.out.side (K ++ [(s, cnt4 + 1)])
                  have q6 := updO_new s hfr.out s4
                  rw [he1.out] at q6
                  have hS7 := Fact.mk s1
                  have hB7 := Fact.mk (hB5.out.trans s3)
                  have hx : (s, cnt4 + 1) ∈ K ++ [(s, cnt4 + 1)] := by simp
                  have hx := Fact.mk hx
                  clear s1 s2 s3 s4
                  have hKy := hS7.out.keyA hx.out
                  dsimp only at hKy
                  rw [he1.out] at hKy
                  have hKy := Fact.mk hKy
                  go_wp2_with (first | (go_at_call 15; refine (hn.out _ _).mono ?_; rintro e w' ⟨rfl, rfl⟩) | (go_at_call 13; refine hC5.out.mono ?_; rintro e w' ⟨rfl, rfl⟩))
                  refine hKy.out.mono ?_
                  rintro e w8 ⟨rfl, hb8⟩
                  have hS8 := Fact.mk (hS7.out.keep hb8)
                  have hB8 := Fact.mk (hB7.out.trans (hb8.mono hB7.out.size))
                  have hDe := hS8.out.descA (by omega) hx.out
                  dsimp only at hDe
                  rw [he1.out] at hDe
                  have hDe := Fact.mk hDe
                  unfold VV at hDe
                  clear hKy hb8 hS7 hB7
                  go_wp2_with fail
                  refine hDe.out.mono ?_
                  rintro e w9 ⟨rfl, hb9⟩
                  have hS9 := hS8.out.keep hb9
                  have hB9 := hB8.out.trans (hb9.mono hB8.out.size)
                  clear hDe hb9 hS8 hB8
                  go_upto_region 28 with (fail)
                  obtain ⟨W, hW⟩ : ∃ W, W = w9.alloc (.cells #[.int .i64 5, .bool false, .float .f64 0, .string s, .int .i64 0] 44) := ⟨_, rfl⟩
                  rw [← hW]
                  have hv6 : W.heap[w9.heap.size]? = some (.cells #[.int .i64 5, .bool false, .float .f64 0, .string s, .int .i64 0] 44 (0, 0)) := hW ▸ heap_alloc_new w9 _
                  have hBW := hB9.alloc hB9.size (.cells #[.int .i64 5, .bool false, .float .f64 0, .string s, .int .i64 0] 44)
                  rw [← hW] at hBW
                  have hSW := Fact.mk (hS9.keep (show Below w9.heap.size w9 W from hW ▸ (Below.refl _ _).alloc (Nat.le_refl _) _))
                  clear hW hB9 hS9
                  have aW := H1.out.cell hs (hB1.out.trans (hBW.mono hB1.out.size))
                  obtain ⟨d0, d1, d2, d3, d4, _⟩ := facts5 hv6
                  have hBW := Fact.mk hBW
                  have hq := Fact.mk (eqSelf_c 5 false 0 s 0)
                  unfold VV at hq
                  clear hv6
                  go_wp2_with (first | (go_at_call 15; refine (hn.out _ _).mono ?_; rintro e w' ⟨rfl, rfl⟩) | (go_at_call 18; refine (hq.out _).mono ?_; rintro e w9' ⟨rfl, hBe⟩))
                  have hSe := Fact.mk (hSW.out.keep hBe)
                  have hBf := Fact.mk (hBW.out.trans (hBe.mono hBW.out.size))
                  clear hBe hSW hBW hq
                  go_roundg k2
                  case measure => omega
                  case rel => exact ⟨j + 1, cnt4 + 1, _, K ++ [(s, cnt4 + 1)], by first | rfl | (congr 1; omega), ⟨by have := HM.out; omega⟩, ⟨by have := HC.out; omega, by have := HC.out; simp; omega⟩, ⟨hSe.out⟩, ⟨hBf.out⟩⟩
              · have hF := Fact.mk (forBad_c (p := p) (HT.out.below (hB1.out.trans (hB4.out.mono hB1.out.size))) s (by
                  by_cases hz : (s.size : Int) ≤ 1048576
                  · right
                    cases hv : (Pt.all s).2 with
                    | false => rfl
                    | true => exact absurd ⟨by omega, hv⟩ hok
                  · exact .inl hz))
                clear hok
                go_wp2_with fail
                refine hF.out.mono ?_
                rintro e w5 ⟨rfl, hb5⟩
                have hS5 := Fact.mk (hS4.out.keep hb5)
                have hB5 := Fact.mk (hB4.out.trans (hb5.mono hB4.out.size))
                have hC5 := Fact.mk (count_c hS5.out.reg)
                clear hF hb5 a0 hS4 hB4
                go_wp2_with (first | (go_at_call 15; refine (hn.out _ _).mono ?_; rintro e w' ⟨rfl, rfl⟩) | (go_at_call 13; refine hC5.out.mono ?_; rintro e w' ⟨rfl, rfl⟩))
                go_roundg k2
                case measure => omega
                case rel => exact ⟨j + 1, cnt4, xs4, K, by first | rfl | (congr 1; omega), ⟨by have := HM.out; omega⟩, ⟨by have := HC.out; omega, by have := HC.out; omega⟩, ⟨hS5.out⟩, ⟨hB5.out⟩⟩
          · have hj : j = T.length := by have := HM.out; omega
            go_wp2
            go_roundg k1
            case measure => omega
            case rel => exact ⟨t + 1, cnt, xs, K, by first | rfl | (congr 1; omega), ⟨by have := HN.out; omega⟩, ⟨by have := HC.out; rw [Nat.add_mul, Nat.one_mul]; omega, HC.out.2⟩, HS, HB⟩
    · have hcl : K.length ≤ 1000000 := by have := HC.out; have := HN.out; have : t * T.length ≤ 2 * T.length := Nat.mul_le_mul_right _ (by omega); omega
      have hK := Fact.mk (knownK_c HS.out.reg HS.out.kn hcl (HT.out.below (hB1.out.trans (HB.out.mono hB1.out.size))))
      go_wp2_with fail
      refine hK.out.mono ?_
      rintro e w4 ⟨v, ts, rfl, hts, _, hro, hb4⟩
      have hlen : ts.length = K.length := by simpa using hts.length_eq
      have hf4 := keepA HS.out.hf hb4
      have hB4 := hB1.out.trans ((HB.out.trans (hb4.mono HB.out.size)).mono hB1.out.size)
      have ql := lenM1 hf4
      clear hf4 hts hlen
      rcases hro.2 with ⟨rfl, hz⟩ | ⟨gb, cap, cur, rfl, _⟩
      · rw [hz] at ql
        clear hro
        go_wp2
        go_ret
        exact ⟨rfl, hB4⟩
      · clear hro
        go_wp2
        go_ret
        exact ⟨by simp, hB4⟩
end Go.Proofs.YtgnifckehopjhaaDoor
