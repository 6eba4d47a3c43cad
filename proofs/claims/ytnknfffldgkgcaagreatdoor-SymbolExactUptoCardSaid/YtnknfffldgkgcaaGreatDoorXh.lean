import Derived.Test.YtnknfffldgkgcaaGreatDoorNd
import Derived.Test.YtnknfffldgkgcaaGreatDoorPu
import Derived.Test.YtnknfffldgkgcaaGreatDoorUx3Zz
import Derived.Test.YtnknfffldgkgcaaGreatDoorXc
import Derived.Deep.QuietTactic
set_option linter.all false
/- Plain: the reference's Compare; texts whose rows of units are the same are the same. above: its contract. -/
namespace Go.Proofs.YtnknfffldgkgcaaGreatDoor.PR
open Go.RowKit Go.Proofs.YtnknfffldgkgcaaGreatDoorW.PrintWords Go.Proofs.YtnknfffldgkgcaaGreatDoor.U Go.Proofs.YtnknfffldgkgcaaGreatDoor.Utf

theorem units_lt (s : ByteArray) (h : val (by_ s) = true) : ∀ x ∈ us (pts (by_ s)), x < 65536 := us_lt _ (good_le _ _ (val_true s h).2)

theorem ofS_us (s : ByteArray) (h : val (by_ s) = true) : ofS (us (pts (by_ s))) = s := by
  apply by_inj
  rw [by_ofS _ (units_lt s h), of, row_us _ 0 (val_true s h).2, ← (val_true s h).1]
theorem cmp_range : ∀ l m : List Int, Pt.cmpL l m = -1 ∨ Pt.cmpL l m = 0 ∨ Pt.cmpL l m = 1
  | [], [] => .inr (.inl rfl)
  | [], _ :: _ => .inl rfl
  | _ :: _, [] => .inr (.inr rfl)
  | a :: l, b :: m => by
    simp only [Pt.cmpL]
    split
    · exact .inl rfl
    · split
      · exact .inr (.inr rfl)
      · exact cmp_range l m
theorem cmp_swap : ∀ l m : List Int, Pt.cmpL m l = - Pt.cmpL l m
  | [], [] => rfl
  | [], _ :: _ => rfl
  | _ :: _, [] => rfl
  | a :: l, b :: m => by
    simp only [Pt.cmpL]
    by_cases h1 : a < b
    · rw [if_pos h1, if_neg (by omega), if_pos h1]; rfl
    · by_cases h2 : b < a
      · rw [if_pos h2, if_neg h1, if_pos h2]
      · rw [if_neg h2, if_neg h1, if_neg h1, if_neg h2]; exact cmp_swap l m
theorem cmp_zero : ∀ l m : List Int, Pt.cmpL l m = 0 ↔ l = m
  | [], [] => ⟨fun _ => rfl, fun _ => rfl⟩
  | [], _ :: _ => ⟨fun h => by simp [Pt.cmpL] at h, fun h => by cases h⟩
  | _ :: _, [] => ⟨fun h => by simp [Pt.cmpL] at h, fun h => by cases h⟩
  | a :: l, b :: m => by
    simp only [Pt.cmpL]
    by_cases h1 : a < b
    · rw [if_pos h1]
      exact ⟨fun h => by omega, fun h => by injection h with h h'; omega⟩
    · by_cases h2 : b < a
      · rw [if_neg h1, if_pos h2]
        exact ⟨fun h => by omega, fun h => by injection h with h h'; omega⟩
      · rw [if_neg h1, if_neg h2, cmp_zero l m]
        have e : a = b := by omega
        rw [e]
        exact ⟨fun h => by rw [h], fun h => by injection h⟩
theorem cmp_le : ∀ l m n : List Int, Pt.cmpL l m ≤ 0 → Pt.cmpL m n ≤ 0 → Pt.cmpL l n ≤ 0
  | [], m, [], _, _ => by simp [Pt.cmpL]
  | [], m, _ :: _, _, _ => by simp [Pt.cmpL]
  | _ :: _, [], _, h, _ => by simp [Pt.cmpL] at h
  | _ :: _, _ :: _, [], _, h => by simp [Pt.cmpL] at h
  | a :: l, b :: m, c :: n, h1, h2 => by
    simp only [Pt.cmpL] at h1 h2 ⊢
    split at h1
    · split at h2
      · rw [if_pos (by omega)]; decide
      · split at h2
        · omega
        · rw [if_pos (by omega)]; decide
    · split at h1
      · omega
      · split at h2
        · rw [if_pos (by omega)]; decide
        · split at h2
          · omega
          · rw [if_neg (by omega), if_neg (by omega)]
            exact cmp_le l m n h1 h2
theorem us_inj (a b : ByteArray) (ha : val (by_ a) = true) (hb : val (by_ b) = true) (h : cI (us (pts (by_ a))) = cI (us (pts (by_ b)))) : a = b := by
  rw [← ofS_us a ha, ← ofS_us b hb, cI_inj h]
theorem us_size (s : ByteArray) (h : val (by_ s) = true) : (us (pts (by_ s))).length ≤ 2 * s.size := by
  have h1 := us_le (pts (by_ s))
  have h2 := pts_len (pts (by_ s))
  rw [← (val_true s h).1, by_length] at h2
  omega
theorem Cmp_l0 (l m : List Int) (hb : l.length ≤ 4398046511104) : ∀ (d i k : Nat), i + d = l.length → i ≤ m.length → 2 * d + 1 < k →
    cameoref01_Compare.l0 k l m (i : Int) = some (Pt.cmpL (l.drop i) (m.drop i), 0)
  | 0, i, k, h, hm, hk => by
    obtain ⟨k, rfl⟩ : ∃ x, k = x + 2 := ⟨k - 2, by omega⟩
    simp only [cameoref01_Compare.l0]
    rw [if_neg (by omega)]
    simp only [cameoref01_Compare.j2]
    rw [if_neg (by decide), Pt.cmpL_end2 l m i (by omega)]
    by_cases h1 : l.length < m.length
    · rw [if_pos (by omega), if_pos (by omega)]
    · rw [if_neg (by omega), if_neg (show ¬ i < m.length by omega)]
      rw [if_neg (by omega)]
  | d + 1, i, k, h, hm, hk => by
    obtain ⟨k, rfl⟩ : ∃ x, k = x + 2 := ⟨k - 2, by omega⟩
    simp only [cameoref01_Compare.l0]
    rw [if_pos (by omega)]
    simp only [cameoref01_Compare.j2]
    by_cases h1 : i < m.length
    · have g : decide ((i : Int) < (m.length : Int)) = true := decide_eq_true (by omega)
      rw [g, if_pos rfl, if_pos (by omega), if_pos (by omega), if_pos (by omega)]
      have e : wrap64 ((i : Int) + 1) = ((i + 1 : Nat) : Int) := by rw [w64 (by omega) (by omega)]; omega
      rw [e, Cmp_l0 l m hb d (i + 1) k (by omega) (by omega) (by omega)]
      by_cases hr : rd l (i : Int) = rd m (i : Int)
      · rw [if_neg (by omega), if_neg (by omega), Pt.cmpL_step l m i (by omega) h1 hr]
      · rw [Pt.cmpL_ne l m i (by omega) h1 hr]
        by_cases h2 : rd l (i : Int) < rd m (i : Int)
        · rw [if_pos h2, if_pos h2]
        · rw [if_neg h2, if_neg h2, if_pos (by omega)]
    · have g : decide ((i : Int) < (m.length : Int)) = false := decide_eq_false (by omega)
      rw [g, if_neg (by decide), if_neg (by omega), if_pos (by omega), Pt.cmpL_end1 l m i (by omega) (by omega)]
theorem rcmpV (a b : ByteArray) (ha : a.size ≤ 1099511627776) (hb : b.size ≤ 1099511627776) (h1 : val (by_ a) = true) (h2 : val (by_ b) = true) (k : Nat) (hk : 60 + 9 * a.size + 9 * b.size ≤ k) : cameoref01_Compare.f k a b = some (Pt.cmpL (cI (us (pts (by_ a)))) (cI (us (pts (by_ b)))), 0) := by
  unfold cameoref01_Compare.f
  rw [Units_eq a ha k (by omega), Units_eq b hb k (by omega)]
  simp only [Option.bind_some]
  obtain ⟨k, rfl⟩ : ∃ x, k = x + 1 := ⟨k - 1, by omega⟩
  rw [if_pos h1, if_pos h2]
  dsimp only
  rw [if_pos rfl]
  simp only [cameoref01_Compare.j0]
  have u := us_size a h1
  have := Cmp_l0 (cI (us (pts (by_ a)))) (cI (us (pts (by_ b)))) (by rw [cI_length]; omega) (us (pts (by_ a))).length 0 k (by simp [cI_length]) (by omega) (by omega)
  simpa using this
end Go.Proofs.YtnknfffldgkgcaaGreatDoor.PR
namespace Go.Proofs.YtnknfffldgkgcaaGreatDoor
open Go.RowKit Go.Proofs.YtnknfffldgkgcaaGreatDoorW.PrintWords
/-- A text's units. -/
def uB (s : ByteArray) : List Int := Pt.us (Pt.all s).1
theorem uB_inj {a b : ByteArray} (ha : (Pt.all a).2 = true) (hb : (Pt.all b).2 = true) (h : uB a = uB b) : a = b := by
  unfold uB at h
  rw [PR.all_us, PR.all_us] at h
  rw [PR.all_val] at ha hb
  exact PR.us_inj a b ha hb h
theorem above_c (a b : ByteArray) (ha : a.size ≤ 1048576) (hb : b.size ≤ 1048576) (va : (Pt.all a).2 = true) (vb : (Pt.all b).2 = true) (w : World) :
    Calls Tryz.prog 47 #[.string a, .string b] w fun e w' => e = .returned (.bool (decide (0 < Pt.cmpL (uB a) (uB b)))) ∧ Below w.heap.size w w' := by
  have hf := PR.rcmpV a b (by omega) (by omega) (by rw [← PR.all_val]; exact va) (by rw [← PR.all_val]; exact vb) _ (Nat.le_refl _)
  rw [← PR.all_us, ← PR.all_us] at hf
  have hc := Fact.mk (fun w => U.cameoref01_Compare.calls _ a b _ _ w hf)
  unfold uB
  clear hf
  generalize Pt.cmpL _ _ = c at *
  by_cases h : 0 < c
  all_goals
    first | rw [decide_eq_true h] | rw [decide_eq_false h]
    go_enter Tryz.func47, Tryz.ntmps47
    go_wp2_with (go_at_call 66; refine (hc.out _).mono ?_; rintro e w1 ⟨rfl, hb⟩)
    go_ret
    exact ⟨by simp [h], hb⟩
end Go.Proofs.YtnknfffldgkgcaaGreatDoor

/- The reference's Known: the known texts, each put at its place. -/
namespace Go.Proofs.YtnknfffldgkgcaaGreatDoor
open Go.RowKit Go.Proofs.YtnknfffldgkgcaaGreatDoorW.PrintWords
attribute [local go_sem] run_store_float
attribute [local go_sem ↓] Go.wp_at_zero Go.wp_at_succ

/-- How two texts stand. -/
def cB (a b : ByteArray) : Int := Pt.cmpL (uB a) (uB b)
theorem cB_swap (a b : ByteArray) : cB b a = - cB a b := PR.cmp_swap _ _
theorem cB_le {a b c : ByteArray} (h : cB a b ≤ 0) (k : cB b c ≤ 0) : cB a c ≤ 0 := PR.cmp_le _ _ _ h k
/-- A text put at its place among others. -/
structure InsAt (L : List ByteArray) (s : ByteArray) (k : Nat) : Prop where
  le : k ≤ L.length
  up : ∀ y ∈ L.drop k, 0 < cB y s
  lo : ∀ y ∈ L.take k, cB y s ≤ 0
theorem insAt_of {L : List ByteArray} {s : ByteArray} {k : Nat} (hs : L.Pairwise fun a b => cB a b ≤ 0) (hk : k ≤ L.length) (hu : ∀ y ∈ L.drop k, 0 < cB y s) (hl : k = 0 ∨ ∃ y, L[k - 1]? = some y ∧ cB y s ≤ 0) : InsAt L s k := by
  refine ⟨hk, hu, fun y hy => ?_⟩
  rcases hl with rfl | ⟨z, hz, hzs⟩
  · simp at hy
  · obtain ⟨i, hi, rfl⟩ := List.mem_iff_getElem.1 hy
    simp only [List.length_take] at hi
    rw [List.getElem_take]
    by_cases h : i = k - 1
    · subst h
      rw [List.getElem?_eq_getElem (by omega)] at hz
      have hz := Option.some.inj hz
      rw [hz]
      exact hzs
    · have hk1 := (List.getElem?_eq_some_iff.1 hz)
      obtain ⟨hlt, rfl⟩ := hk1
      exact cB_le (List.pairwise_iff_getElem.1 hs i (k - 1) (by omega) hlt (by omega)) hzs
theorem InsAt.sorted {L : List ByteArray} {s : ByteArray} {k : Nat} (h : InsAt L s k) (hs : L.Pairwise fun a b => cB a b ≤ 0) : ((L.take k ++ [s]) ++ L.drop k).Pairwise fun a b => cB a b ≤ 0 := by
  rw [List.append_assoc, List.pairwise_append]
  have h2 := List.take_append_drop k L
  have hs' := hs
  rw [← h2, List.pairwise_append] at hs'
  refine ⟨hs'.1, ?_, fun a ha b hb => ?_⟩
  · simp only [List.singleton_append, List.pairwise_cons]
    exact ⟨fun b hb => by rw [cB_swap]; have := h.up b hb; omega, hs'.2.1⟩
  · simp only [List.singleton_append, List.mem_cons] at hb
    rcases hb with rfl | hb
    · exact h.lo a ha
    · exact hs'.2.2 a ha b hb
theorem ins_perm (L : List ByteArray) (s : ByteArray) (k : Nat) : ((L.take k ++ [s]) ++ L.drop k).Perm (L ++ [s]) := by
  rw [List.append_assoc]
  refine (List.Perm.append_left _ (List.perm_append_comm)).trans ?_
  rw [← List.append_assoc, List.take_append_drop]

theorem infoT : (Tryz.prog.info? 9).map (fun i => (i.zero, i.size, i.bytes)) = some (some (.string ⟨#[]⟩), 1, 16) := by kernel_rfl

theorem run_append_none {P : Program} {w : World} (t ty e : TypeId) (i : TypeInfo) (ht : P.underlying t = some (.slice e)) (hi : P.info? e = some i) (b : Option Addr) (n cap : Nat) (hn : n ≤ cap) :
    (Builtin.append_ #[t, t] ty #[.slice b n cap, .slice none 0 0]).run P w = .ok (.slice b n cap) w := by
  cases b <;> simp [Builtin.append_, run_underlying ht, sizeOf, typeInfo, hi, Builtin.lenOf, Builtin.firstCells, hn, storeCells]
theorem wpList_append_none {P : Program} {w : World} {ops : Array Oper} {rest : List Oper} {o : Oper} {a : Act} {Q : Exit → Act → World → Prop} (hgd : o.guard = none) (s x : Operand) (t : TypeId)
    (ho : o.op = .call { callee := .builtin .append, args := #[s, x], argTypes := #[t, t] }) (e : TypeId) (i : TypeInfo) (ht : P.underlying t = some (.slice e)) (hi : P.info? e = some i) (b : Option Addr) (n cap : Nat) (hn : n ≤ cap)
    (hs : a.eval s = .slice b n cap) (hx : a.eval x = .slice none 0 0) (h : wpList P ops Q rest (a.put o.dst (.slice b n cap)) w) : wpList P ops Q (o :: rest) a w :=
  wpList_plain hgd fun K hK => by
    unfold Oper.wp execOp
    simp only [ho, resolve, invoke, builtin, Sem.run_bind, Sem.run_pure, Result.andThen_ok, List.map_toArray, List.map_cons, List.map_nil, hs, hx, run_append_none (P := P) (w := w) t o.type e i ht hi b n cap hn]
    exact hK _ _ h

/-- A goal that the walk leaves alone. -/
def Hold (p : Prop) : Prop := p
theorem hold {p : Prop} (h : Hold p) : p := h

/-- What the reference's Known has put together out of the first j symbols. -/
structure KnR (A : List Sy) (j : Nat) (v : Value) (L : List ByteArray) (W0 w : World) : Prop where
  row : w.ownsRow W0.heap.size 9 1 v L.length (L.map Value.string)
  perm : L.Perm ((kl (A.take j) 0).map (·.1))
  srt : L.Pairwise fun a b => cB a b ≤ 0
  bel : Below W0.heap.size W0 w
  ok : ∀ x ∈ L, (Pt.all x).2 = true ∧ x.size ≤ 1048576
theorem KnR.keep {A : List Sy} {j : Nat} {v : Value} {L : List ByteArray} {W0 w w' : World} (h : KnR A j v L W0 w) (hb : Below w.heap.size w w') : KnR A j v L W0 w' :=
  ⟨h.row.kept (row := none) (Below.grown hb rfl) (by cases v <;> try simp [Value.ownBlock]
                                                     rename_i a _ _; cases a <;> simp), h.perm, h.srt, h.bel.trans (hb.mono h.bel.size), h.ok⟩
theorem kl_take {A : List Sy} {j : Nat} {x : Sy} (h : A[j]? = some x) : kl (A.take (j + 1)) 0 = kl (A.take j) 0 ++ (if x.kn = true then [(x.v.s, j + 1)] else []) := by
  have hj := (List.getElem?_eq_some_iff.1 h).1
  rw [List.take_add_one, h, Option.toList_some, kl_snoc]
  simp [Nat.min_eq_left (Nat.le_of_lt hj)]

theorem ones_str (L : List ByteArray) : ∀ u ∈ L.map Value.string, u.oneCell' = true := by
  intro u hu
  obtain ⟨s, _, rfl⟩ := List.mem_map.1 hu
  rfl
theorem cell_drop' {wr : World} {g cap k : Nat} {x : Nat} {L : List ByteArray} {cur : Array Value} (hg : wr.heap[g]? = some (.cells cur 9 (0, 0))) (ht : cur.toList.take (L.length * 1) = L.map Value.string) (hn : L.length ≤ cap)
    {j : Nat} {u : Value} (hu : ((L.drop k).map Value.string)[j]? = some u) (o : Obj) (hx : cap ≤ k ∨ x = k) : (wr.alloc o).cell? ((⟨g, x, none⟩ : Addr).add j) = some u := by
  have hadd : (⟨g, x, none⟩ : Addr).add j = ⟨g, x + j, none⟩ := by unfold Addr.add; split <;> simp_all
  rcases hx with h | rfl
  · have : L.drop k = [] := List.drop_eq_nil_of_le (by omega)
    rw [this] at hu
    simp at hu
  · rw [hadd]
    refine alloc_cellF ?_ o
    rw [Lib.cell_of_heap hg]
    rw [List.getElem?_map, List.getElem?_drop, ← List.getElem?_map, ← ht, Nat.mul_one] at hu
    have := (List.getElem?_eq_some_iff.1 hu).1
    simp only [List.length_take] at this
    rw [List.getElem?_take_of_lt (by omega)] at hu
    simpa using hu
theorem own_take {B g cap k : Nat} {w : World} {L : List ByteArray} {cur : Array Value} (hB : B ≤ g) (hg : w.heap[g]? = some (.cells cur 9 (0, 0))) (hs : cur.size = cap * 1) (ht : cur.toList.take (L.length * 1) = L.map Value.string) (hk : k ≤ L.length) (hn : L.length ≤ cap) (hc : cap ≤ maxLen) (o : Obj) :
    (w.alloc o).ownsRow B 9 1 (.slice (some ⟨g, 0, none⟩) k cap) k ((L.take k).map Value.string) := by
  refine ⟨by simp; omega, .inr ⟨g, cap, cur, rfl, hB, oldA hg o, by omega, hc, hs, ?_⟩⟩
  rw [List.map_take, ← ht, List.take_take]
  congr 1
  omega

set_option maxRecDepth 100000 in
set_option maxHeartbeats 2000000 in
theorem RefS.known {A : List Sy} {B q h0 : Nat} {W : World} (hR : RefS A B q h0 W) (hI : Inv A) :
    Calls Tryz.prog 20 #[.pointer (some ⟨q, 0, none⟩)] W fun e W' => ∃ v L, e = .returned v ∧ KnR A A.length v L W W' := by
  have hR' := Fact.mk hR
  have hI' := Fact.mk hI
  obtain ⟨cap, c0⟩ := hR.cell
  have hlen := hI.hi
  have hIT := Fact.mk (info_parts infoT)
  have C0 := Fact.mk (fun V (hb : Below W.heap.size W V) => keepC c0 hb)
  clear hR hI
  go_enter Tryz.func20, Tryz.ntmps20
  go_wp2
  go_loopg [3, 4] A.length (fun kq v3 v4 w' => ∃ (j : Nat) (L : List ByteArray), v4 = .int .i64 (j : Int) ∧ Aside0 (j + kq = A.length) ∧ Aside0 (KnR A j v3 L W w'))
  case atStart => exact ⟨0, [], rfl, ⟨by omega⟩, ⟨⟨World.ownsRow_nil _ _ _ _, by simp [kl], by simp, Below.refl _ _, by simp⟩⟩⟩
  case round =>
    obtain ⟨j, L, rfl, HN, HK⟩ := hrel
    have c0 := C0.out _ HK.out.bel
    by_cases cj : (j : Int) < (A.length : Int)
    · have hj : j < A.length := by omega
      obtain ⟨x, hx⟩ : ∃ x, A[j]? = some x := ⟨_, List.getElem?_eq_getElem hj⟩
      have hx' := Fact.mk hx
      obtain ⟨x0, x1, x2, x3, x4, x5⟩ := f6_six hx
      have hRw := RefG.keep hR'.out HK.out.bel
      have e3 := hRw.rd x3
      have e5 := hRw.rd x5
      have p1 : (0 : Int) ≤ (j : Int) := by omega
      clear x0 x1 x2 x3 x4 x5 hx hRw
      cases gk with
      | zero => exact absurd HN.out (by omega)
      | succ k1 =>
      cases hk : x.kn with
      | false =>
        rw [hk] at e5
        have hK2 := Aside0.mk (show KnR A (j + 1) u3 L W wr from ⟨HK.out.row, by rw [kl_take hx'.out, hk]; simpa using HK.out.perm, HK.out.srt, HK.out.bel, HK.out.ok⟩)
        clear hk HK hx' e3
        go_wp2
        go_roundg k1
        case measure => omega
        case rel => exact ⟨j + 1, L, by first | rfl | (congr 1; omega), ⟨by have := HN.out; omega⟩, hK2⟩
      | true =>
        rw [hk] at e5
        have hok := hI'.out.kn x (List.mem_of_getElem? hx'.out) hk
        have hgd := hI'.out.nd.val (x.v.s, j + 1) (by have := mem_kl (i := 0) hx'.out hk; simpa using this)
        have hkt := kl_take hx'.out
        rw [if_pos hk] at hkt
        have HX := Fact.mk (And.intro hgd hkt)
        clear hk hx' hok hgd hkt
        obtain ⟨s, hs⟩ : ∃ s, s = x.v.s := ⟨_, rfl⟩
        rw [← hs] at e3 HX
        clear hs
        rcases HK.out.row.2 with ⟨rfl, hz⟩ | ⟨g, cap3, cur, rfl, hbg, hg, hnc, hcm, hcs, htk⟩
        · obtain rfl : L = [] := List.eq_nil_of_length_eq_zero hz
          have hb := Fact.mk HK.out.bel
          clear hz
          go_wp2
          refine wp_loop_once ?_
          go_wp2_with (at_builtin; refine hold ?_)
          unfold Hold
          obtain ⟨i0, hi0, hz0, hz1, hz2⟩ := hIT.out
          refine wpList_append_none rfl _ _ 53 rfl 9 i0 Tryz.underlying53 hi0 (some ⟨wr.heap.size, 0, none⟩) 0 0 (Nat.le_refl _) rfl rfl ?_
          go_wp2_with (at_builtin; refine hold ?_)
          unfold Hold
          have hwl := hb.out.size
          refine wpList_append_own_at _ rfl _ _ 53 rfl W.heap.size 9 i0 _ 1 16 Tryz.underlying53 hi0 hz0 hz1 hz2 rfl (by omega) (.slice none 0 0) 0 [] rfl (World.ownsRow_nil _ _ _ _) ⟨wr.heap.size + 1, 0, none⟩ 1 _ [.string s] rfl rfl (World.news_of_block (cs := #[.string s]) (t := 9) (fr := (0, 0)) (heap_alloc2_new wr _ _)) ?qd1 ?qd2 ?qd3 ?qd4 ?_
          case qd1 => simp [Value.oneCell']
          case qd2 => simp only [maxLen]; omega
          case qd3 => omega
          case qd4 => simp; omega
          intro v2 w2 hown2 hgrow2 hnil2 hat2
          have hb2 := Fact.mk ((hb.out.trans ((((Below.refl _ wr).alloc (Nat.le_refl _) _).alloc (by simp) _).mono hwl)).grown hgrow2 (by simp; omega) (by intro k hk; simp [Value.ownBlock] at hk))
          have ho2 := Fact.mk hown2
          have hv2 := Fact.mk (show ∀ k, v2.ownBlock = some k → W.heap.size ≤ k from fun k hk => by
            rcases hat2 with h | h
            · rw [hk] at h; simp [Value.ownBlock] at h
            · rw [hk] at h; simp at h; omega)
          have hw2 := hb2.out.size
          clear hown2 hgrow2 hnil2 hat2
          go_wp2_with (at_builtin; refine hold ?_)
          unfold Hold
          refine wpList_append_own_at _ rfl _ _ 53 rfl W.heap.size 9 i0 _ 1 16 Tryz.underlying53 hi0 hz0 hz1 hz2 rfl (by omega) v2 _ _ rfl ho2.out _ 0 _ [] rfl rfl (by simp) ?qe3 ?qe4 ?qe5 ?qe6 ?_
          case qe3 => simp
          case qe4 => simp only [maxLen]; omega
          case qe5 => omega
          case qe6 => omega
          intro v3 w3 hown3 hgrow3 hnil3 hat3
          have hK3 := Aside0.mk (show KnR A (j + 1) v3 [s] W w3 from ⟨by simpa using hown3, by
              rw [HX.out.2, List.map_append]
              have := HK.out.perm
              exact this.append_right [s], by simp, hb2.out.grown hgrow3 hw2 hv2.out, fun y hy => by rw [List.mem_singleton.1 hy]; exact HX.out.1⟩)
          clear hown3 hgrow3 hnil3 hat3 ho2 hv2 hb2 HK HX hi0 hz0 hz1 hz2 hIT
          go_wp2
          go_roundg k1
          case measure => omega
          case rel => exact ⟨j + 1, _, by first | rfl | (congr 1; omega), ⟨by have := HN.out; omega⟩, hK3⟩
        · have hnl := HK.out.perm.length_eq
          have hll : L.length ≤ 65536 := by
            rw [List.length_map] at hnl
            have h1 := kl_length (A.take j) 0
            have h2 := List.length_take_le j A
            omega
          have HG := Fact.mk (And.intro hbg (And.intro hg (And.intro hcs htk)))
          clear hnl hbg hg hcs htk
          go_wp2
          go_loopg [6] L.length (fun kq v6 w' => ∃ k : Nat, v6 = .int .i64 (k : Int) ∧ k ≤ kq ∧ k ≤ L.length ∧ Aside0 (∀ y ∈ L.drop k, 0 < cB y s) ∧ Aside0 (KnR A j (.slice (some ⟨g, 0, none⟩) L.length cap3) L W w'))
          case atStart => exact ⟨L.length, rfl, Nat.le_refl _, Nat.le_refl _, ⟨by simp⟩, HK⟩
          case round =>
            clear HK HG c0 e3 e5
            obtain ⟨k, rfl, hkq, hkL, HU, hK⟩ := hrel
            rcases Nat.eq_zero_or_pos k with hk0 | hk0
            · have HI := Fact.mk (insAt_of hK.out.srt hkL HU.out (.inl hk0))
              have hdk : ¬ (0 : Int) < (k : Int) := by omega
              clear hk0 hkq
              have hb := hK.out.bel
              obtain ⟨hg0, cur2, hg2, hcs2, htk2⟩ : W.heap.size ≤ g ∧ ∃ cur2, wr.heap[g]? = some (.cells cur2 9 (0, 0)) ∧ cur2.size = cap3 * 1 ∧ cur2.toList.take (L.length * 1) = L.map Value.string := by
                rcases hK.out.row.2 with ⟨h, _⟩ | ⟨g', cap', cur', h1, h2, h3, h4, h5, h6, h7⟩
                · cases h
                · simp only [Value.slice.injEq, Option.some.injEq, Addr.mk.injEq, true_and, and_true] at h1
                  obtain ⟨rfl, rfl⟩ := h1
                  exact ⟨h2, cur', h3, h6, h7⟩
              have hgl := ltH hg2
              have hb := Fact.mk hb
              have G := Fact.mk (And.intro hg2 (And.intro hcs2 htk2))
              clear hg2 hcs2 htk2
              by_cases hck : k = cap3
              · subst hck
                go_wp2_with (at_builtin; refine hold ?_)
                unfold Hold
                obtain ⟨i0, hi0, hz0, hz1, hz2⟩ := hIT.out
                refine wpList_append_own_at _ rfl _ _ 53 rfl wr.heap.size 9 i0 _ 1 16 Tryz.underlying53 hi0 hz0 hz1 hz2 rfl (by omega) (.slice (some ⟨wr.heap.size, 0, none⟩) 0 0) _ _ rfl (World.ownsRow_made wr #[] 0 (Nat.le_refl _) (Nat.zero_le _) (by simp)) _ _ _ ((L.drop k).map Value.string) rfl ?qc1 ?qc2 ?qc3 ?qc4 ?qc5 ?qc6 ?_
                case qc1 => simp only [List.length_map, List.length_drop]; omega
                case qc2 => exact fun j' u hu => cell_drop' G.out.1 G.out.2.2 hnc hu _ (by first | exact .inr rfl | exact .inl (Nat.le_refl _))
                case qc3 => exact ones_str _
                case qc4 => simp only [maxLen]; omega
                case qc5 => omega
                case qc6 => simp
                intro v1 w1 hown hgrow hnil hat
                obtain ⟨g1, cap1, rfl, hg1, hg1l⟩ : ∃ g1 cap1, v1 = .slice (some ⟨g1, 0, none⟩) 0 cap1 ∧ wr.heap.size ≤ g1 ∧ g1 < w1.heap.size := by
                  rcases hown.2 with ⟨h, _⟩ | ⟨g', cap', cur', h1, h2, h3, _⟩
                  · exact absurd h (by simpa using hnil)
                  · exact ⟨g', cap', by simpa using h1, h2, ltH h3⟩
                have hR1 := Fact.mk (show RowAt wr.heap.size 9 1 g1 cap1 0 ((L.drop k).map Value.string) w1 by simpa [RowAt] using hown)
                have hb1 := Fact.mk (hb.out.trans ((((Below.refl _ wr).alloc (Nat.le_refl _) _).grown hgrow (by simp) (by intro k hk; simp [Value.ownBlock] at hk; omega)).mono hb.out.size))
                have hgw := Fact.mk ((hgrow.block g (by simp; omega) (by simp [Value.ownBlock]; omega)).trans ((Below.heap_alloc wr _ g hgl).trans G.out.1))
                have hw0 := hgrow.size
                simp only [World.size_alloc] at hw0
                clear hown hgrow hnil hat
                have hwl := hb.out.size
                have hw1 := hb1.out.size
                go_wp2_with (at_builtin; refine hold ?_)
                unfold Hold
                refine wpList_append_own_at _ rfl _ _ 53 rfl W.heap.size 9 i0 _ 1 16 Tryz.underlying53 hi0 hz0 hz1 hz2 rfl (by omega) (.slice (some ⟨g, 0, none⟩) k k) k ((L.take k).map Value.string) rfl (own_take hg0 hgw.out G.out.2.1 G.out.2.2 hkL hnc hcm _) _ _ _ [.string s] rfl rfl (cell_one_new _ _ _) ?qd1 ?qd2 ?qd3 ?qd4 ?_
                case qd1 => simp [Value.oneCell']
                case qd2 => simp only [maxLen]; omega
                case qd3 => omega
                case qd4 => simp; omega
                intro v2 w2 hown2 hgrow2 hnil2 hat2
                have hR2 := Fact.mk (show RowAt wr.heap.size 9 1 g1 cap1 0 ((L.drop k).map Value.string) w2 from orow_same hR1.out ((hgrow2.block g1 (by simp; omega) (by simp [Value.ownBlock]; omega)).trans (Below.heap_alloc w1 _ g1 hg1l)))
                have hb2 := Fact.mk (hb1.out.trans ((((Below.refl _ w1).alloc (Nat.le_refl _) _).mono hw1).grown hgrow2 (by simp; omega) (by intro k hk; simp [Value.ownBlock] at hk; omega)))
                have ho2 := Fact.mk hown2
                have hv2 := Fact.mk (show ∀ k, v2.ownBlock = some k → W.heap.size ≤ k from fun k hk => by
                  rcases hat2 with h | h
                  · rw [hk] at h; simp [Value.ownBlock] at h; omega
                  · rw [hk] at h; simp at h; omega)
                have hw2 := hb2.out.size
                clear hown2 hgrow2 hnil2 hat2 hR1 hgw
                go_wp2_with (at_builtin; refine hold ?_)
                unfold Hold
                refine wpList_append_own_at _ rfl _ _ 53 rfl W.heap.size 9 i0 _ 1 16 Tryz.underlying53 hi0 hz0 hz1 hz2 rfl (by omega) v2 _ _ rfl ho2.out ⟨g1, 0, none⟩ 0 _ ((L.drop k).map Value.string) rfl ?qe1 ?qe2 ?qe3 ?qe4 ?qe5 ?qe6 ?_
                case qe1 => simp only [List.length_map, List.length_drop]; omega
                case qe2 => exact fun j' u hu => World.ownsRow.cells hR2.out (g := g1) rfl j' u hu
                case qe3 => exact ones_str _
                case qe4 => simp only [maxLen]; omega
                case qe5 => omega
                case qe6 => omega
                intro v3 w3 hown3 hgrow3 hnil3 hat3
                have hK3 := Aside0.mk (show KnR A (j + 1) v3 ((L.take k ++ [s]) ++ L.drop k) W w3 from ⟨by
                    have e : ((L.take k ++ [s]) ++ L.drop k).length = k + 1 + 0 := by simp only [List.length_append, List.length_take, List.length_drop, List.length_cons, List.length_nil]; omega
                    rw [e]
                    simpa using hown3, by
                    refine (ins_perm L s k).trans ?_
                    rw [HX.out.2, List.map_append]
                    exact hK.out.perm.append_right _, HI.out.sorted hK.out.srt, hb2.out.grown hgrow3 hw2 hv2.out, fun y hy => by
                    rcases List.mem_append.1 hy with h | h
                    · rcases List.mem_append.1 h with h | h
                      · exact hK.out.ok y (List.mem_of_mem_take h)
                      · rw [List.mem_singleton.1 h]; exact HX.out.1
                    · exact hK.out.ok y (List.mem_of_mem_drop h)⟩)
                clear hown3 hgrow3 hnil3 hat3 ho2 hv2 hb2 hR2 hK HI HX G hi0 hz0 hz1 hz2 hIT
                go_wp2
                go_roundg k1
                case measure => omega
                case rel => exact ⟨j + 1, _, by first | rfl | (congr 1; omega), ⟨by have := HN.out; omega⟩, hK3⟩
              · have hck' : ¬ cap3 = k := fun h => hck h.symm
                go_wp2_with (at_builtin; refine hold ?_)
                unfold Hold
                obtain ⟨i0, hi0, hz0, hz1, hz2⟩ := hIT.out
                refine wpList_append_own_at _ rfl _ _ 53 rfl wr.heap.size 9 i0 _ 1 16 Tryz.underlying53 hi0 hz0 hz1 hz2 rfl (by omega) (.slice (some ⟨wr.heap.size, 0, none⟩) 0 0) _ _ rfl (World.ownsRow_made wr #[] 0 (Nat.le_refl _) (Nat.zero_le _) (by simp)) _ _ _ ((L.drop k).map Value.string) rfl ?qc1 ?qc2 ?qc3 ?qc4 ?qc5 ?qc6 ?_
                case qc1 => simp only [List.length_map, List.length_drop]; omega
                case qc2 => exact fun j' u hu => cell_drop' G.out.1 G.out.2.2 hnc hu _ (by first | exact .inr rfl | exact .inl (Nat.le_refl _))
                case qc3 => exact ones_str _
                case qc4 => simp only [maxLen]; omega
                case qc5 => omega
                case qc6 => simp
                intro v1 w1 hown hgrow hnil hat
                obtain ⟨g1, cap1, rfl, hg1, hg1l⟩ : ∃ g1 cap1, v1 = .slice (some ⟨g1, 0, none⟩) (L.length - k) cap1 ∧ wr.heap.size ≤ g1 ∧ g1 < w1.heap.size := by
                  rcases hown.2 with ⟨h, _⟩ | ⟨g', cap', cur', h1, h2, h3, _⟩
                  · exact absurd h (by simpa using hnil)
                  · exact ⟨g', cap', by simpa using h1, h2, ltH h3⟩
                have hR1 := Fact.mk (show RowAt wr.heap.size 9 1 g1 cap1 (L.length - k) ((L.drop k).map Value.string) w1 by simpa [RowAt] using hown)
                have hb1 := Fact.mk (hb.out.trans ((((Below.refl _ wr).alloc (Nat.le_refl _) _).grown hgrow (by simp) (by intro k hk; simp [Value.ownBlock] at hk; omega)).mono hb.out.size))
                have hgw := Fact.mk ((hgrow.block g (by simp; omega) (by simp [Value.ownBlock]; omega)).trans ((Below.heap_alloc wr _ g hgl).trans G.out.1))
                have hw0 := hgrow.size
                simp only [World.size_alloc] at hw0
                clear hown hgrow hnil hat
                have hwl := hb.out.size
                have hw1 := hb1.out.size
                go_wp2_with (at_builtin; refine hold ?_)
                unfold Hold
                refine wpList_append_own_at _ rfl _ _ 53 rfl W.heap.size 9 i0 _ 1 16 Tryz.underlying53 hi0 hz0 hz1 hz2 rfl (by omega) (.slice (some ⟨g, 0, none⟩) k cap3) k ((L.take k).map Value.string) rfl (own_take hg0 hgw.out G.out.2.1 G.out.2.2 hkL hnc hcm _) _ _ _ [.string s] rfl rfl (cell_one_new _ _ _) ?qd1 ?qd2 ?qd3 ?qd4 ?_
                case qd1 => simp [Value.oneCell']
                case qd2 => simp only [maxLen]; omega
                case qd3 => omega
                case qd4 => simp; omega
                intro v2 w2 hown2 hgrow2 hnil2 hat2
                have hR2 := Fact.mk (show RowAt wr.heap.size 9 1 g1 cap1 (L.length - k) ((L.drop k).map Value.string) w2 from orow_same hR1.out ((hgrow2.block g1 (by simp; omega) (by simp [Value.ownBlock]; omega)).trans (Below.heap_alloc w1 _ g1 hg1l)))
                have hb2 := Fact.mk (hb1.out.trans ((((Below.refl _ w1).alloc (Nat.le_refl _) _).mono hw1).grown hgrow2 (by simp; omega) (by intro k hk; simp [Value.ownBlock] at hk; omega)))
                have ho2 := Fact.mk hown2
                have hv2 := Fact.mk (show ∀ k, v2.ownBlock = some k → W.heap.size ≤ k from fun k hk => by
                  rcases hat2 with h | h
                  · rw [hk] at h; simp [Value.ownBlock] at h; omega
                  · rw [hk] at h; simp at h; omega)
                have hw2 := hb2.out.size
                clear hown2 hgrow2 hnil2 hat2 hR1 hgw
                go_wp2_with (at_builtin; refine hold ?_)
                unfold Hold
                refine wpList_append_own_at _ rfl _ _ 53 rfl W.heap.size 9 i0 _ 1 16 Tryz.underlying53 hi0 hz0 hz1 hz2 rfl (by omega) v2 _ _ rfl ho2.out ⟨g1, 0, none⟩ (L.length - k) _ ((L.drop k).map Value.string) rfl ?qe1 ?qe2 ?qe3 ?qe4 ?qe5 ?qe6 ?_
                case qe1 => simp only [List.length_map, List.length_drop]; omega
                case qe2 => exact fun j' u hu => World.ownsRow.cells hR2.out (g := g1) rfl j' u hu
                case qe3 => exact ones_str _
                case qe4 => simp only [maxLen]; omega
                case qe5 => omega
                case qe6 => omega
                intro v3 w3 hown3 hgrow3 hnil3 hat3
                have hK3 := Aside0.mk (show KnR A (j + 1) v3 ((L.take k ++ [s]) ++ L.drop k) W w3 from ⟨by
                    have e : ((L.take k ++ [s]) ++ L.drop k).length = k + 1 + (L.length - k) := by simp only [List.length_append, List.length_take, List.length_drop, List.length_cons, List.length_nil]; omega
                    rw [e]
                    simpa using hown3, by
                    refine (ins_perm L s k).trans ?_
                    rw [HX.out.2, List.map_append]
                    exact hK.out.perm.append_right _, HI.out.sorted hK.out.srt, hb2.out.grown hgrow3 hw2 hv2.out, fun y hy => by
                    rcases List.mem_append.1 hy with h | h
                    · rcases List.mem_append.1 h with h | h
                      · exact hK.out.ok y (List.mem_of_mem_take h)
                      · rw [List.mem_singleton.1 h]; exact HX.out.1
                    · exact hK.out.ok y (List.mem_of_mem_drop h)⟩)
                clear hown3 hgrow3 hnil3 hat3 ho2 hv2 hb2 hR2 hK HI HX G hi0 hz0 hz1 hz2 hIT
                go_wp2
                go_roundg k1
                case measure => omega
                case rel => exact ⟨j + 1, _, by first | rfl | (congr 1; omega), ⟨by have := HN.out; omega⟩, hK3⟩
            · obtain ⟨k, rfl⟩ : ∃ q, k = q + 1 := ⟨k - 1, by omega⟩
              obtain ⟨y, hy⟩ : ∃ y, L[k]? = some y := ⟨_, List.getElem?_eq_getElem (by omega)⟩
              have hwp : IntKind.i64.wrap (k : Int) = (k : Int) := by rw [IntKind.wrap_i64]; omega
              have q0 : (0 : Int) ≤ (k : Int) := by omega
              have q1 : (k : Int) < (L.length : Int) := by omega
              have q2 : (0 : Int) < (k : Int) + 1 := by omega
              have ey : wr.cell? ⟨g, k, none⟩ = some (.string y) := by
                have h := hK.out.row.cells (g := g) rfl k (.string y) (by rw [List.getElem?_map, hy]; rfl)
                have hadd : (⟨g, 0, none⟩ : Addr).add k = ⟨g, k, none⟩ := by unfold Addr.add; split <;> simp_all
                rw [hadd] at h; exact h
              have hyk := hK.out.ok y (List.mem_of_getElem? hy)
              have hA := Fact.mk (above_c y s hyk.2 HX.out.1.2 hyk.1 HX.out.1.1)
              have hy := Fact.mk hy
              clear hyk
              by_cases hup : 0 < cB y s
              · have hdec : decide (0 < Pt.cmpL (uB y) (uB s)) = true := decide_eq_true hup
                have hU2 := Aside0.mk (show ∀ z ∈ L.drop k, 0 < cB z s from fun z hz => by
                  rw [List.drop_eq_getElem_cons (by omega)] at hz
                  rcases List.mem_cons.1 hz with rfl | hz
                  · have := hy.out
                    rw [List.getElem?_eq_getElem (by omega)] at this
                    rw [Option.some.inj this]; exact hup
                  · exact HU.out z hz)
                rw [hdec] at hA
                clear hdec hup HU
                cases gk with
                | zero => omega
                | succ k2 =>
                go_wp2_with (go_at_call 47; refine (hA.out _).mono ?_; rintro e w2 ⟨rfl, hb2⟩; have hK2 := Aside0.mk (hK.out.keep hb2); clear hK hb2 ey)
                go_roundg k2
                case measure => omega
                case rel => exact ⟨k, by first | rfl | (congr 1; omega), by omega, by omega, hU2, hK2⟩
              · have hdec : decide (0 < Pt.cmpL (uB y) (uB s)) = false := decide_eq_false hup
                have HI := Fact.mk (insAt_of hK.out.srt hkL HU.out (.inr ⟨y, by simpa using hy.out, by omega⟩))
                rw [hdec] at hA
                clear hdec hup HU
                obtain ⟨kk, hkk⟩ : ∃ kk, kk = k + 1 := ⟨_, rfl⟩
                go_wp2_with (go_at_call 47; refine (hA.out _).mono ?_; rintro e w2 ⟨rfl, hb2⟩; replace hK := Aside0.mk (hK.out.keep hb2); refine hold ?_)
                clear hb2 ey hA
                have ek : (k : Int) + 1 = ((k + 1 : Nat) : Int) := rfl
                rw [ek, ← hkk]
                rw [← hkk] at HI hkL
                generalize w2 = wr at *
                clear hkk ek q0 q1 q2 hwp hy hk0 hkq
                unfold Hold
                have hb := hK.out.bel
                obtain ⟨hg0, cur2, hg2, hcs2, htk2⟩ : W.heap.size ≤ g ∧ ∃ cur2, wr.heap[g]? = some (.cells cur2 9 (0, 0)) ∧ cur2.size = cap3 * 1 ∧ cur2.toList.take (L.length * 1) = L.map Value.string := by
                  rcases hK.out.row.2 with ⟨h, _⟩ | ⟨g', cap', cur', h1, h2, h3, h4, h5, h6, h7⟩
                  · cases h
                  · simp only [Value.slice.injEq, Option.some.injEq, Addr.mk.injEq, true_and, and_true] at h1
                    obtain ⟨rfl, rfl⟩ := h1
                    exact ⟨h2, cur', h3, h6, h7⟩
                have hgl := ltH hg2
                have hb := Fact.mk hb
                have G := Fact.mk (And.intro hg2 (And.intro hcs2 htk2))
                clear hg2 hcs2 htk2
                by_cases hck : kk = cap3
                · subst hck
                  go_wp2_with (at_builtin; refine hold ?_)
                  unfold Hold
                  obtain ⟨i0, hi0, hz0, hz1, hz2⟩ := hIT.out
                  refine wpList_append_own_at _ rfl _ _ 53 rfl wr.heap.size 9 i0 _ 1 16 Tryz.underlying53 hi0 hz0 hz1 hz2 rfl (by omega) (.slice (some ⟨wr.heap.size, 0, none⟩) 0 0) _ _ rfl (World.ownsRow_made wr #[] 0 (Nat.le_refl _) (Nat.zero_le _) (by simp)) _ _ _ ((L.drop kk).map Value.string) rfl ?qc1 ?qc2 ?qc3 ?qc4 ?qc5 ?qc6 ?_
                  case qc1 => simp only [List.length_map, List.length_drop]; omega
                  case qc2 => exact fun j' u hu => cell_drop' G.out.1 G.out.2.2 hnc hu _ (by first | exact .inr rfl | exact .inl (Nat.le_refl _))
                  case qc3 => exact ones_str _
                  case qc4 => simp only [maxLen]; omega
                  case qc5 => omega
                  case qc6 => simp
                  intro v1 w1 hown hgrow hnil hat
                  obtain ⟨g1, cap1, rfl, hg1, hg1l⟩ : ∃ g1 cap1, v1 = .slice (some ⟨g1, 0, none⟩) 0 cap1 ∧ wr.heap.size ≤ g1 ∧ g1 < w1.heap.size := by
                    rcases hown.2 with ⟨h, _⟩ | ⟨g', cap', cur', h1, h2, h3, _⟩
                    · exact absurd h (by simpa using hnil)
                    · exact ⟨g', cap', by simpa using h1, h2, ltH h3⟩
                  have hR1 := Fact.mk (show RowAt wr.heap.size 9 1 g1 cap1 0 ((L.drop kk).map Value.string) w1 by simpa [RowAt] using hown)
                  have hb1 := Fact.mk (hb.out.trans ((((Below.refl _ wr).alloc (Nat.le_refl _) _).grown hgrow (by simp) (by intro k hk; simp [Value.ownBlock] at hk; omega)).mono hb.out.size))
                  have hgw := Fact.mk ((hgrow.block g (by simp; omega) (by simp [Value.ownBlock]; omega)).trans ((Below.heap_alloc wr _ g hgl).trans G.out.1))
                  have hw0 := hgrow.size
                  simp only [World.size_alloc] at hw0
                  clear hown hgrow hnil hat
                  have hwl := hb.out.size
                  have hw1 := hb1.out.size
                  go_wp2_with (at_builtin; refine hold ?_)
                  unfold Hold
                  refine wpList_append_own_at _ rfl _ _ 53 rfl W.heap.size 9 i0 _ 1 16 Tryz.underlying53 hi0 hz0 hz1 hz2 rfl (by omega) (.slice (some ⟨g, 0, none⟩) kk kk) kk ((L.take kk).map Value.string) rfl (own_take hg0 hgw.out G.out.2.1 G.out.2.2 hkL hnc hcm _) _ _ _ [.string s] rfl rfl (cell_one_new _ _ _) ?qd1 ?qd2 ?qd3 ?qd4 ?_
                  case qd1 => simp [Value.oneCell']
                  case qd2 => simp only [maxLen]; omega
                  case qd3 => omega
                  case qd4 => simp; omega
                  intro v2 w2 hown2 hgrow2 hnil2 hat2
                  have hR2 := Fact.mk (show RowAt wr.heap.size 9 1 g1 cap1 0 ((L.drop kk).map Value.string) w2 from orow_same hR1.out ((hgrow2.block g1 (by simp; omega) (by simp [Value.ownBlock]; omega)).trans (Below.heap_alloc w1 _ g1 hg1l)))
                  have hb2 := Fact.mk (hb1.out.trans ((((Below.refl _ w1).alloc (Nat.le_refl _) _).mono hw1).grown hgrow2 (by simp; omega) (by intro k hk; simp [Value.ownBlock] at hk; omega)))
                  have ho2 := Fact.mk hown2
                  have hv2 := Fact.mk (show ∀ k, v2.ownBlock = some k → W.heap.size ≤ k from fun k hk => by
                    rcases hat2 with h | h
                    · rw [hk] at h; simp [Value.ownBlock] at h; omega
                    · rw [hk] at h; simp at h; omega)
                  have hw2 := hb2.out.size
                  clear hown2 hgrow2 hnil2 hat2 hR1 hgw
                  go_wp2_with (at_builtin; refine hold ?_)
                  unfold Hold
                  refine wpList_append_own_at _ rfl _ _ 53 rfl W.heap.size 9 i0 _ 1 16 Tryz.underlying53 hi0 hz0 hz1 hz2 rfl (by omega) v2 _ _ rfl ho2.out ⟨g1, 0, none⟩ 0 _ ((L.drop kk).map Value.string) rfl ?qe1 ?qe2 ?qe3 ?qe4 ?qe5 ?qe6 ?_
                  case qe1 => simp only [List.length_map, List.length_drop]; omega
                  case qe2 => exact fun j' u hu => World.ownsRow.cells hR2.out (g := g1) rfl j' u hu
                  case qe3 => exact ones_str _
                  case qe4 => simp only [maxLen]; omega
                  case qe5 => omega
                  case qe6 => omega
                  intro v3 w3 hown3 hgrow3 hnil3 hat3
                  have hK3 := Aside0.mk (show KnR A (j + 1) v3 ((L.take kk ++ [s]) ++ L.drop kk) W w3 from ⟨by
                      have e : ((L.take kk ++ [s]) ++ L.drop kk).length = kk + 1 + 0 := by simp only [List.length_append, List.length_take, List.length_drop, List.length_cons, List.length_nil]; omega
                      rw [e]
                      simpa using hown3, by
                      refine (ins_perm L s kk).trans ?_
                      rw [HX.out.2, List.map_append]
                      exact hK.out.perm.append_right _, HI.out.sorted hK.out.srt, hb2.out.grown hgrow3 hw2 hv2.out, fun y hy => by
                      rcases List.mem_append.1 hy with h | h
                      · rcases List.mem_append.1 h with h | h
                        · exact hK.out.ok y (List.mem_of_mem_take h)
                        · rw [List.mem_singleton.1 h]; exact HX.out.1
                      · exact hK.out.ok y (List.mem_of_mem_drop h)⟩)
                  clear hown3 hgrow3 hnil3 hat3 ho2 hv2 hb2 hR2 hK HI HX G hi0 hz0 hz1 hz2 hIT
                  go_wp2
                  go_roundg k1
                  case measure => omega
                  case rel => exact ⟨j + 1, _, by first | rfl | (congr 1; omega), ⟨by have := HN.out; omega⟩, hK3⟩
                · have hck' : ¬ cap3 = kk := fun h => hck h.symm
                  go_wp2_with (at_builtin; refine hold ?_)
                  unfold Hold
                  obtain ⟨i0, hi0, hz0, hz1, hz2⟩ := hIT.out
                  refine wpList_append_own_at _ rfl _ _ 53 rfl wr.heap.size 9 i0 _ 1 16 Tryz.underlying53 hi0 hz0 hz1 hz2 rfl (by omega) (.slice (some ⟨wr.heap.size, 0, none⟩) 0 0) _ _ rfl (World.ownsRow_made wr #[] 0 (Nat.le_refl _) (Nat.zero_le _) (by simp)) _ _ _ ((L.drop kk).map Value.string) rfl ?qc1 ?qc2 ?qc3 ?qc4 ?qc5 ?qc6 ?_
                  case qc1 => simp only [List.length_map, List.length_drop]; omega
                  case qc2 => exact fun j' u hu => cell_drop' G.out.1 G.out.2.2 hnc hu _ (by first | exact .inr rfl | exact .inl (Nat.le_refl _))
                  case qc3 => exact ones_str _
                  case qc4 => simp only [maxLen]; omega
                  case qc5 => omega
                  case qc6 => simp
                  intro v1 w1 hown hgrow hnil hat
                  obtain ⟨g1, cap1, rfl, hg1, hg1l⟩ : ∃ g1 cap1, v1 = .slice (some ⟨g1, 0, none⟩) (L.length - kk) cap1 ∧ wr.heap.size ≤ g1 ∧ g1 < w1.heap.size := by
                    rcases hown.2 with ⟨h, _⟩ | ⟨g', cap', cur', h1, h2, h3, _⟩
                    · exact absurd h (by simpa using hnil)
                    · exact ⟨g', cap', by simpa using h1, h2, ltH h3⟩
                  have hR1 := Fact.mk (show RowAt wr.heap.size 9 1 g1 cap1 (L.length - kk) ((L.drop kk).map Value.string) w1 by simpa [RowAt] using hown)
                  have hb1 := Fact.mk (hb.out.trans ((((Below.refl _ wr).alloc (Nat.le_refl _) _).grown hgrow (by simp) (by intro k hk; simp [Value.ownBlock] at hk; omega)).mono hb.out.size))
                  have hgw := Fact.mk ((hgrow.block g (by simp; omega) (by simp [Value.ownBlock]; omega)).trans ((Below.heap_alloc wr _ g hgl).trans G.out.1))
                  have hw0 := hgrow.size
                  simp only [World.size_alloc] at hw0
                  clear hown hgrow hnil hat
                  have hwl := hb.out.size
                  have hw1 := hb1.out.size
                  go_wp2_with (at_builtin; refine hold ?_)
                  unfold Hold
                  refine wpList_append_own_at _ rfl _ _ 53 rfl W.heap.size 9 i0 _ 1 16 Tryz.underlying53 hi0 hz0 hz1 hz2 rfl (by omega) (.slice (some ⟨g, 0, none⟩) kk cap3) kk ((L.take kk).map Value.string) rfl (own_take hg0 hgw.out G.out.2.1 G.out.2.2 hkL hnc hcm _) _ _ _ [.string s] rfl rfl (cell_one_new _ _ _) ?qd1 ?qd2 ?qd3 ?qd4 ?_
                  case qd1 => simp [Value.oneCell']
                  case qd2 => simp only [maxLen]; omega
                  case qd3 => omega
                  case qd4 => simp; omega
                  intro v2 w2 hown2 hgrow2 hnil2 hat2
                  have hR2 := Fact.mk (show RowAt wr.heap.size 9 1 g1 cap1 (L.length - kk) ((L.drop kk).map Value.string) w2 from orow_same hR1.out ((hgrow2.block g1 (by simp; omega) (by simp [Value.ownBlock]; omega)).trans (Below.heap_alloc w1 _ g1 hg1l)))
                  have hb2 := Fact.mk (hb1.out.trans ((((Below.refl _ w1).alloc (Nat.le_refl _) _).mono hw1).grown hgrow2 (by simp; omega) (by intro k hk; simp [Value.ownBlock] at hk; omega)))
                  have ho2 := Fact.mk hown2
                  have hv2 := Fact.mk (show ∀ k, v2.ownBlock = some k → W.heap.size ≤ k from fun k hk => by
                    rcases hat2 with h | h
                    · rw [hk] at h; simp [Value.ownBlock] at h; omega
                    · rw [hk] at h; simp at h; omega)
                  have hw2 := hb2.out.size
                  clear hown2 hgrow2 hnil2 hat2 hR1 hgw
                  go_wp2_with (at_builtin; refine hold ?_)
                  unfold Hold
                  refine wpList_append_own_at _ rfl _ _ 53 rfl W.heap.size 9 i0 _ 1 16 Tryz.underlying53 hi0 hz0 hz1 hz2 rfl (by omega) v2 _ _ rfl ho2.out ⟨g1, 0, none⟩ (L.length - kk) _ ((L.drop kk).map Value.string) rfl ?qe1 ?qe2 ?qe3 ?qe4 ?qe5 ?qe6 ?_
                  case qe1 => simp only [List.length_map, List.length_drop]; omega
                  case qe2 => exact fun j' u hu => World.ownsRow.cells hR2.out (g := g1) rfl j' u hu
                  case qe3 => exact ones_str _
                  case qe4 => simp only [maxLen]; omega
                  case qe5 => omega
                  case qe6 => omega
                  intro v3 w3 hown3 hgrow3 hnil3 hat3
                  have hK3 := Aside0.mk (show KnR A (j + 1) v3 ((L.take kk ++ [s]) ++ L.drop kk) W w3 from ⟨by
                      have e : ((L.take kk ++ [s]) ++ L.drop kk).length = kk + 1 + (L.length - kk) := by simp only [List.length_append, List.length_take, List.length_drop, List.length_cons, List.length_nil]; omega
                      rw [e]
                      simpa using hown3, by
                      refine (ins_perm L s kk).trans ?_
                      rw [HX.out.2, List.map_append]
                      exact hK.out.perm.append_right _, HI.out.sorted hK.out.srt, hb2.out.grown hgrow3 hw2 hv2.out, fun y hy => by
                      rcases List.mem_append.1 hy with h | h
                      · rcases List.mem_append.1 h with h | h
                        · exact hK.out.ok y (List.mem_of_mem_take h)
                        · rw [List.mem_singleton.1 h]; exact HX.out.1
                      · exact hK.out.ok y (List.mem_of_mem_drop h)⟩)
                  clear hown3 hgrow3 hnil3 hat3 ho2 hv2 hb2 hR2 hK HI HX G hi0 hz0 hz1 hz2 hIT
                  go_wp2
                  go_roundg k1
                  case measure => omega
                  case rel => exact ⟨j + 1, _, by first | rfl | (congr 1; omega), ⟨by have := HN.out; omega⟩, hK3⟩
    · have hj : j = A.length := by have := HN.out; omega
      go_wp2
      go_ret
      subst hj
      exact ⟨u3, rfl, L, HK.out⟩
end Go.Proofs.YtnknfffldgkgcaaGreatDoor

/- Both registries tell the same: tells. -/
namespace Go.Proofs.YtnknfffldgkgcaaGreatDoor
open Go.RowKit Go.Sort Go.Proofs.YtnknfffldgkgcaaGreatDoorW.PrintWords
attribute [local go_sem] run_store_float
attribute [local go_sem ↓] Go.wp_at_zero Go.wp_at_succ

/-- The known texts of some symbols, in their order. -/
def IsK (A : List Sy) (L : List ByteArray) : Prop := L.Perm ((kl A 0).map (·.1)) ∧ L.Pairwise fun a b => cB a b ≤ 0
theorem sorted_eq : ∀ {L M : List ByteArray}, L.Perm M → (∀ x ∈ L, (Pt.all x).2 = true) → L.Pairwise (fun a b => cB a b ≤ 0) → M.Pairwise (fun a b => cB a b ≤ 0) → L = M
  | [], M, hp, _, _, _ => hp.nil_eq
  | a :: l, [], hp, _, _, _ => by have := hp.length_eq; simp at this
  | a :: l, b :: m, hp, hv, h1, h2 => by
    have hab : cB a b ≤ 0 := by
      rcases List.mem_cons.1 (hp.mem_iff.2 (List.mem_cons_self : b ∈ b :: m)) with rfl | h
      · unfold cB; rw [cmpL_self]; decide
      · exact (List.pairwise_cons.1 h1).1 b h
    have hba : cB b a ≤ 0 := by
      rcases List.mem_cons.1 (hp.mem_iff.1 (List.mem_cons_self : a ∈ a :: l)) with rfl | h
      · unfold cB; rw [cmpL_self]; decide
      · exact (List.pairwise_cons.1 h2).1 a h
    have e : a = b := by
      refine uB_inj (hv a List.mem_cons_self) (hv b (hp.mem_iff.2 List.mem_cons_self)) ((PR.cmp_zero _ _).1 ?_)
      have := cB_swap a b
      unfold cB at *
      omega
    subst e
    rw [sorted_eq (hp.cons_inv) (fun x hx => hv x (List.mem_cons_of_mem _ hx)) (List.pairwise_cons.1 h1).2 (List.pairwise_cons.1 h2).2]
theorem IsK.uniq {A : List Sy} {L M : List ByteArray} (h : IsK A L) (k : IsK A M) (hI : Inv A) : L = M :=
  sorted_eq (h.1.trans k.1.symm) (fun x hx => by
    obtain ⟨y, hy, rfl⟩ := List.mem_map.1 (h.1.mem_iff.1 hx)
    exact (hI.nd.val y hy).1) h.2 k.2
theorem IsK.len {A : List Sy} {L : List ByteArray} (h : IsK A L) (hI : Inv A) : L.length ≤ 65536 := by
  have := h.1.length_eq
  rw [List.length_map] at this
  have := kl_length A 0
  have := hI.hi
  omega

/-- A row of strings lies in the world. -/
def SRow (W : World) (A : Option Addr) (T : List ByteArray) : Prop :=
  0 < T.length → ∃ ad, A = some ad ∧ ∀ j s, T[j]? = some s → W.cell? (ad.add j) = some (.string s)

/-- What Known hands back: a row of the call's own. -/
def KRow (B : Nat) (v : Value) (L : List ByteArray) (w : World) : Prop := w.ownsRow B 9 1 v L.length (L.map Value.string)
theorem KRow.keep {B : Nat} {v : Value} {L : List ByteArray} {w w' : World} (h : KRow B v L w) (hb : Below w.heap.size w w') : KRow B v L w' := by
  refine ⟨h.1, ?_⟩
  rcases h.2 with h | ⟨g, cap, cur, h1, h2, h3, h4⟩
  · exact .inl h
  · exact .inr ⟨g, cap, cur, h1, h2, keepA h3 hb, h4⟩
theorem KRow.srow {B : Nat} {v : Value} {L : List ByteArray} {w : World} (h : KRow B v L w) : ∃ a cap, v = .slice a L.length cap ∧ SRow w a L ∧ (a = none ∨ ∃ g, a = some ⟨g, 0, none⟩ ∧ B ≤ g ∧ g < w.heap.size) := by
  rcases h.2 with ⟨rfl, h0⟩ | ⟨g, cap, cur, rfl, hB, hg, _, _, _, ht⟩
  · exact ⟨none, 0, by rw [h0], fun hp => by omega, .inl rfl⟩
  · refine ⟨_, cap, rfl, fun _ => ⟨_, rfl, fun j s hs => ?_⟩, .inr ⟨g, rfl, hB, ltH hg⟩⟩
    exact World.ownsRow.cells h (g := g) rfl j _ (by rw [List.getElem?_map, hs]; rfl)

theorem OwnS.known {A : List Sy} {B p g b1 b2 : Nat} {W : World} (h : OwnS A B p g b1 b2 W) (hI : Inv A) (HT : Tabs W) :
    Calls Tryz.prog 19 #[.pointer (some ⟨p, 0, none⟩)] W fun e W' => ∃ v L, e = .returned v ∧ IsK A L ∧ KRow W.heap.size v L W' ∧ Below W.heap.size W W' := by
  have hkl := kl_length A 0
  have hhi := hI.hi
  refine (knownK_c h.reg hI.nd (by omega) HT).mono ?_
  rintro e W' ⟨v, ts, rfl, hp, hs, hr, hb⟩
  have hl : ts.length = (kl A 0).length := by have := hp.length_eq; simpa using this
  refine ⟨v, ts.map (fun t => ⟨t.1.toArray⟩), rfl, ⟨?_, ?_⟩, ?_, hb⟩
  · have h1 := hp.map (fun s : List UInt8 => (⟨s.toArray⟩ : ByteArray))
    rw [List.map_map, List.map_map] at h1
    exact h1
  · rw [List.pairwise_map]
    refine hs.imp ?_
    intro x y hxy
    have : ¬ cfT y x < 0 := by simpa [ltOf] using hxy
    show cB ⟨x.1.toArray⟩ ⟨y.1.toArray⟩ ≤ 0
    rw [cB_swap]
    have e : cfT y x = cB ⟨y.1.toArray⟩ ⟨x.1.toArray⟩ := rfl
    omega
  · unfold KRow
    rw [List.length_map, hl]
    have e : (ts.map fun t => (⟨t.1.toArray⟩ : ByteArray)).map Value.string = (ts.map Subtype.val).map encStr := by
      rw [List.map_map, List.map_map]; rfl
    rw [e]
    exact hr
theorem RefS.knownK {A : List Sy} {B q h0 : Nat} {W : World} (hR : RefS A B q h0 W) (hI : Inv A) :
    Calls Tryz.prog 20 #[.pointer (some ⟨q, 0, none⟩)] W fun e W' => ∃ v L, e = .returned v ∧ IsK A L ∧ KRow W.heap.size v L W' ∧ Below W.heap.size W W' := by
  refine (RefS.known hR hI).mono ?_
  rintro e W' ⟨v, L, rfl, hK⟩
  have h1 := hK.perm
  rw [List.take_length] at h1
  exact ⟨v, L, rfl, ⟨h1, hK.srt⟩, hK.row, hK.bel⟩

set_option maxRecDepth 100000 in
theorem same_c (T : List ByteArray) (A1 A2 : Option Addr) (c1 c2 : Nat) (w : World) (h1 : SRow w A1 T) (h2 : SRow w A2 T) (hl : T.length ≤ 65536) :
    Calls Tryz.prog 22 #[.slice A1 T.length c1, .slice A2 T.length c2] w fun e w' => e = .returned (.bool true) ∧ ∃ m, w' = w.drewN m := by
  have H1 := Fact.mk h1
  have H2 := Fact.mk h2
  clear h1 h2
  go_enter Tryz.func22, Tryz.ntmps22
  go_wp2
  go_loopg [5] T.length (fun kq v5 w' => ∃ j m : Nat, v5 = .int .i64 (j : Int) ∧ Aside0 (j + kq = T.length) ∧ w' = w.drewN m)
  case atStart => exact ⟨0, 0, rfl, ⟨by omega⟩, rfl⟩
  case round =>
    obtain ⟨j, m, rfl, HN, rfl⟩ := hrel
    by_cases cj : (j : Int) < (T.length : Int)
    · have hj : j < T.length := by omega
      obtain ⟨ad1, e1, hc1⟩ := H1.out (by omega)
      obtain ⟨ad2, e2, hc2⟩ := H2.out (by omega)
      subst e1 e2
      have k1 := hc1 j _ (List.getElem?_eq_getElem hj)
      have k2 := hc2 j _ (List.getElem?_eq_getElem hj)
      have p1 : (0 : Int) ≤ (j : Int) := by omega
      clear hc1 hc2
      generalize T[j] = s at *
      cases gk with
      | zero => exact absurd HN.out (by omega)
      | succ k1 =>
        go_wp2_with fail
        go_quiet (fail)
        go_wp2
        go_roundg k1
        case measure => omega
        case rel => exact ⟨j + 1, _, by first | rfl | (congr 1; omega), ⟨by have := HN.out; omega⟩, by first | rfl | exact World.drewN_drewN _ _ _⟩
    · go_wp2
      go_ret
      exact ⟨rfl, m, rfl⟩

theorem SRow.same {w w' : World} {g : Nat} {T : List ByteArray} (h : SRow w (some ⟨g, 0, none⟩) T) (hg : w'.heap[g]? = w.heap[g]?) : SRow w' (some ⟨g, 0, none⟩) T := fun hp => by
  obtain ⟨ad, e, hc⟩ := h hp
  cases e
  refine ⟨_, rfl, fun j s hs => ?_⟩
  rw [World.cell?_of_block (w := w) (by simpa [Addr.add] using (by split <;> exact hg))]
  exact hc j s hs
theorem SRow.keepX {w w' : World} {a : Option Addr} {T : List ByteArray} {F : List Nat} (h : SRow w a T) (hk : KeepX F w w') (ha : a = none ∨ ∃ g, a = some ⟨g, 0, none⟩ ∧ g < w.heap.size ∧ g ∉ F) : SRow w' a T := by
  rcases ha with rfl | ⟨g, rfl, hl, hn⟩
  · intro hp
    obtain ⟨ad, e, _⟩ := h hp
    cases e
  · exact h.same (hk.block g hl hn)

/-- The block of a row of strings, as it is spoilt. -/
def Spo (g cap : Nat) (w : World) : Prop := ∃ cur : Array Value, w.heap[g]? = some (.cells cur 9 (0, 0)) ∧ cur.size = cap
theorem Spo.cell {g cap : Nat} {w : World} (h : Spo g cap w) (k : Nat) (hk : k < cap) : (∃ x, w.cell? ⟨g, k, none⟩ = some x) ∧ w.frozen? ⟨g, k, none⟩ = false := by
  obtain ⟨cur, hg, hs⟩ := h
  refine ⟨⟨cur[k], ?_⟩, Lib.frozen_of_heap hg k⟩
  rw [Lib.cell_of_heap hg]
  simp [hs, hk]
theorem Spo.put {g cap : Nat} {w : World} (h : Spo g cap w) (k : Nat) (v : Value) : Spo g cap (w.setCell ⟨g, k, none⟩ v) ∧ KeepX [g] w (w.setCell ⟨g, k, none⟩ v) := by
  obtain ⟨cur, hg, hs⟩ := h
  refine ⟨⟨_, by simp only [World.setCell, Array.getElem?_modify, hg]; simp; rfl, by simpa using hs⟩, ⟨rfl, rfl, rfl, by simp [World.setCell], fun q _ hn => Below.heap_setCell _ _ _ _ (by simpa using hn)⟩⟩
end Go.Proofs.YtnknfffldgkgcaaGreatDoor

/- Both registries tell the same: the walk of tells. -/
namespace Go.Proofs.YtnknfffldgkgcaaGreatDoor
open Go.RowKit Go.Sort Go.Proofs.YtnknfffldgkgcaaGreatDoorW.PrintWords
attribute [local go_sem] run_store_float
attribute [local go_sem ↓] Go.wp_at_zero Go.wp_at_succ

theorem KeepX.bel {g B : Nat} {w w' : World} (h : KeepX [g] w w') (hg : B ≤ g) (hB : B ≤ w.heap.size) : Below B w w' := h.below (by simpa using hg) hB

set_option maxRecDepth 100000 in
set_option maxHeartbeats 4000000 in
theorem tellsX_c {A : List Sy} {B p g b1 b2 q h0 P : Nat} {W : World} (i : Nat) (z : Int) (hz : i = 0 ∧ z = 0 ∨ i = 1 ∧ z = 1) (hO : OwnS A B p g b1 b2 W) (hR : RefS A B q h0 W) (hI : Inv A) (HT : Tabs W)
    (c0 : W.cell? ⟨P, i, none⟩ = some (.pointer (some ⟨p, 0, none⟩))) (c2 : W.cell? ⟨P, 2 + i, none⟩ = some (.pointer (some ⟨q, 0, none⟩))) :
    Calls Tryz.prog 7 #[.pointer (some ⟨P, 0, none⟩), .int .i64 z] W fun e W' => e = .returned (.bool true) ∧ Below W.heap.size W W' := by
  have h1 := Fact.mk (fun w' (hb : Below W.heap.size W w') => OwnS.known (A := A) (RegG.keep hO hb) hI (HT.below hb))
  have h2 := Fact.mk (fun w' (hb : Below W.heap.size W w') => RefS.knownK (RefG.keep hR hb) hI)
  have h3 := Fact.mk (fun w' (hb : Below W.heap.size W w') => (show Calls Tryz.prog 21 #[.pointer (some ⟨p, 0, none⟩)] w' fun e W' => e = .returned (.int .i64 A.length) ∧ W' = w' from (count_c (RegG.keep hO hb).reg).mono (fun _ _ h => ⟨h.1, h.2.symm⟩)))
  have k0 := Fact.mk (fun w' (hb : Below W.heap.size W w') => keepC c0 hb)
  have k2 := Fact.mk (fun w' (hb : Below W.heap.size W w') => keepC c2 hb)
  have kR := Fact.mk (fun w' (hb : Below W.heap.size W w') => RefG.cell (RefG.keep hR hb))
  have hs := Fact.mk same_c
  have hI' := Fact.mk hI
  clear hO hR hI
  rcases hz with ⟨rfl, rfl⟩ | ⟨rfl, rfl⟩
  all_goals
    simp only [Nat.add_zero, Nat.reduceAdd] at c2 k2
    go_enter Tryz.func7, Tryz.ntmps7
    go_wp2_with fail
    refine (h1.out _ (Below.refl _ _)).mono ?_
    rintro e w1 ⟨v1, L, rfl, hK1, hr1, hb1⟩
    have c0 := k0.out _ hb1
    have hl := hK1.len hI'.out
    obtain ⟨a1, cap1, rfl, s1, f1⟩ := hr1.srow
    have hb1 := Fact.mk hb1
    have hr1 := Fact.mk hr1
    have hK1 := Fact.mk hK1
    have F1 := Fact.mk f1
    clear s1 f1
    go_wp2_with fail
    refine (h1.out _ hb1.out).mono ?_
    rintro e w2 ⟨v2, L2, rfl, hK2, hr2, hb2⟩
    obtain rfl := hK1.out.uniq hK2 hI'.out
    obtain ⟨a2, cap2, rfl, s2, f2⟩ := hr2.srow
    have hr1 := Fact.mk (hr1.out.keep hb2)
    have hs1 := Fact.mk (And.intro hb1.out.size hb2.size)
    have hb2 := hb1.out.trans (hb2.mono hb1.out.size)
    have c2 := k2.out _ hb2
    have c0 := k0.out _ hb2
    have hb2 := Fact.mk hb2
    have S2 := Fact.mk s2
    have F2 := Fact.mk f2
    clear hb1 hK2 hr2 s2 f2
    go_wp2_with fail
    refine (h2.out _ hb2.out).mono ?_
    rintro e w3 ⟨v3, L3, rfl, hK3, hr3, hb3⟩
    obtain rfl := hK1.out.uniq hK3 hI'.out
    obtain ⟨a3, cap3, rfl, s3, f3⟩ := hr3.srow
    have hr1 := Fact.mk (hr1.out.keep hb3)
    have S2 := Fact.mk (S2.out.keepX (F := []) (KeepX.of_below hb3) (F2.out.imp id (fun ⟨g, h1, h2, h3⟩ => ⟨g, h1, h3, by simp⟩)))
    have hs3 := Fact.mk hb3.size
    have hb3 := hb2.out.trans (hb3.mono hb2.out.size)
    have c2 := k2.out _ hb3
    have c0 := k0.out _ hb3
    obtain ⟨cq, cr⟩ := kR.out _ hb3
    have hb3 := Fact.mk hb3
    have S3 := Fact.mk s3
    have F3 := Fact.mk f3
    have S1 := Fact.mk (show SRow w3 a1 L by
      obtain ⟨a, c, e, hh, _⟩ := hr1.out.srow
      cases e
      exact hh)
    clear hb2 hK3 hr3 s3 f3
    go_wp2_with fail
    go_quiet (first | (go_at_call 21; exact Calls.quiet_of_same (h3.out _ (pw_below_drewN hb3.out _))) | (go_at_call 22; exact Calls.quiet_of (hs.out _ _ _ _ _ _ S1.out S3.out hl)))
    have hb4 := Fact.mk (pw_below_drewN hb3.out nq)
    have S2 := Fact.mk (show SRow (w3.drewN nq) a2 L from S2.out)
    have S3 := Fact.mk (show SRow (w3.drewN nq) a3 L from S3.out)
    have hr1 := Fact.mk (show KRow W.heap.size (.slice a1 L.length cap1) L (w3.drewN nq) from hr1.out)
    have hs4 := Fact.mk (show w2.heap.size ≤ (w3.drewN nq).heap.size from hs3.out)
    have F3 := Fact.mk (show a3 = none ∨ ∃ g, a3 = some ⟨g, 0, none⟩ ∧ w2.heap.size ≤ g ∧ g < (w3.drewN nq).heap.size from F3.out)
    clear hb3 S1 hs3 c0 c2 cr h2 h3
    generalize w3.drewN nq = w4 at *
    have fin : Fact (∀ w5, Below W.heap.size W w5 → SRow w5 a2 L → SRow w5 a3 L → (a3 = none ∨ ∃ g, a3 = some ⟨g, 0, none⟩ ∧ g < w5.heap.size) → SRow w5 a2 L) := ⟨fun _ _ h _ _ => h⟩
    clear fin
    rcases F1.out with rfl | ⟨g1, rfl, hg1, hg1l⟩
    · have hL0 : L = [] := by
        rcases hr1.out.2 with ⟨_, h⟩ | ⟨g, cap, cur, h, _⟩
        · exact List.eq_nil_of_length_eq_zero h
        · cases h
      subst hL0
      have hb5 := Fact.mk hb4.out
      have HK5 := Fact.mk (KeepX.refl [] w4)
      have HN2 : ∀ g, w1.heap.size ≤ g → g ∉ ([] : List Nat) := fun g h => by simp
      clear hr1
      go_wp2
      refine wp_loop_once ?_
      have c0 := k0.out _ hb5.out
      have s2' := Fact.mk (S2.out.keepX HK5.out (F2.out.imp id (fun ⟨g, h1, h2, h3⟩ => ⟨g, h1, by have := hs4.out; omega, HN2 g (by first | exact h2 | omega)⟩)))
      have s3' := Fact.mk (S3.out.keepX HK5.out (F3.out.imp id (fun ⟨g, h1, h2, h3⟩ => ⟨g, h1, h3, HN2 g (by have := hs1.out; omega)⟩)))
      have f3' := Fact.mk (show a3 = none ∨ ∃ g, a3 = some ⟨g, 0, none⟩ ∧ g < w4.heap.size from F3.out.imp id (fun ⟨g, h1, h2, h3⟩ => ⟨g, h1, Nat.lt_of_lt_of_le h3 HK5.out.size⟩))
      clear hb4 hs4 hs1 F1 F2 F3 S2 S3 HK5
      go_wp2_with fail
      refine (hs.out _ _ _ _ _ _ s2'.out s3'.out hl).mono ?_
      rintro e w6 ⟨rfl, m, rfl⟩
      go_wp2_with fail
      refine (h1.out _ (pw_below_drewN hb5.out _)).mono ?_
      rintro e w7 ⟨v5, L5, rfl, hK5, hr5, hb7⟩
      obtain rfl := hK1.out.uniq hK5 hI'.out
      obtain ⟨a5, cap5, rfl, s5, f5⟩ := hr5.srow
      have s3' := Fact.mk (SRow.keepX (F := []) (show SRow (w4.drewN m) a3 [] from s3'.out) (KeepX.of_below hb7) (f3'.out.imp id (fun ⟨g, h1, h2⟩ => ⟨g, h1, h2, by simp⟩)))
      have hb8 := Fact.mk ((pw_below_drewN hb5.out m).trans (hb7.mono hb5.out.size))
      have s5 := Fact.mk s5
      clear hr5 hK5 f5 hb7 hb5 s2' f3' c0
      go_wp2_with fail
      refine (hs.out _ _ _ _ _ _ s5.out s3'.out hl).mono ?_
      rintro e w8 ⟨rfl, m2, rfl⟩
      go_wp2
      go_ret
      exact ⟨rfl, pw_below_drewN hb8.out _⟩
    · obtain ⟨hncap, hSp⟩ : L.length ≤ cap1 ∧ Spo g1 cap1 w4 := by
        rcases hr1.out.2 with ⟨h, _⟩ | ⟨g, cap, cur, h, _, h3, h4, _, h6, _⟩
        · cases h
        · simp only [Value.slice.injEq, Option.some.injEq, Addr.mk.injEq, true_and, and_true] at h
          obtain ⟨rfl, rfl⟩ := h
          exact ⟨h4, cur, h3, by simpa using h6⟩
      have hSp := Fact.mk hSp
      clear hr1
      go_wp2
      go_loopg [8] L.length (fun kq v8 w' => ∃ k : Nat, v8 = .int .i64 (k : Int) ∧ Aside0 (k + kq = L.length) ∧ Aside0 (Spo g1 cap1 w') ∧ Aside0 (KeepX [g1] w4 w'))
      case atStart => exact ⟨0, rfl, ⟨by omega⟩, ⟨hSp.out⟩, ⟨KeepX.refl _ _⟩⟩
      case round =>
        clear hSp
        obtain ⟨k, rfl, HN, HS, HK⟩ := hrel
        by_cases ck : (k : Int) < (L.length : Int)
        · have hk : k < L.length := by omega
          obtain ⟨⟨x, hx⟩, hf⟩ := HS.out.cell k (by omega)
          have p1 : (0 : Int) ≤ (k : Int) := by omega
          have HP := Fact.mk (HS.out.put k (.string ⟨#[115, 112, 111, 105, 108, 116]⟩))
          cases gk with
          | zero => exact absurd HN.out (by omega)
          | succ k1 =>
            clear HS
            go_wp2
            go_roundg k1
            case measure => omega
            case rel => exact ⟨k + 1, by first | rfl | (congr 1; omega), ⟨by have := HN.out; omega⟩, ⟨HP.out.1⟩, ⟨HK.out.trans HP.out.2 (fun q hq => .inl hq)⟩⟩
        · have hb5 := Fact.mk (hb4.out.trans ((HK.out.bel hg1 hb4.out.size)))
          have HK5 := Fact.mk HK.out
          have HN2 : ∀ g, w1.heap.size ≤ g → g ∉ [g1] := fun g h => by simp; omega
          clear HS HK
          have c0 := k0.out _ hb5.out
          have s2' := Fact.mk (S2.out.keepX HK5.out (F2.out.imp id (fun ⟨g, h1, h2, h3⟩ => ⟨g, h1, by have := hs4.out; omega, HN2 g (by first | exact h2 | omega)⟩)))
          have s3' := Fact.mk (S3.out.keepX HK5.out (F3.out.imp id (fun ⟨g, h1, h2, h3⟩ => ⟨g, h1, h3, HN2 g (by have := hs1.out; omega)⟩)))
          have f3' := Fact.mk (show a3 = none ∨ ∃ g, a3 = some ⟨g, 0, none⟩ ∧ g < wr.heap.size from F3.out.imp id (fun ⟨g, h1, h2, h3⟩ => ⟨g, h1, Nat.lt_of_lt_of_le h3 HK5.out.size⟩))
          clear hb4 hs4 hs1 F1 F2 F3 S2 S3 HK5
          go_wp2_with fail
          refine (hs.out _ _ _ _ _ _ s2'.out s3'.out hl).mono ?_
          rintro e w6 ⟨rfl, m, rfl⟩
          go_wp2_with fail
          refine (h1.out _ (pw_below_drewN hb5.out _)).mono ?_
          rintro e w7 ⟨v5, L5, rfl, hK5, hr5, hb7⟩
          obtain rfl := hK1.out.uniq hK5 hI'.out
          obtain ⟨a5, cap5, rfl, s5, f5⟩ := hr5.srow
          have s3' := Fact.mk (SRow.keepX (F := []) (show SRow (wr.drewN m) a3 L from s3'.out) (KeepX.of_below hb7) (f3'.out.imp id (fun ⟨g, h1, h2⟩ => ⟨g, h1, h2, by simp⟩)))
          have hb8 := Fact.mk ((pw_below_drewN hb5.out m).trans (hb7.mono hb5.out.size))
          have s5 := Fact.mk s5
          clear hr5 hK5 f5 hb7 hb5 s2' f3' c0
          go_wp2_with fail
          refine (hs.out _ _ _ _ _ _ s5.out s3'.out hl).mono ?_
          rintro e w8 ⟨rfl, m2, rfl⟩
          go_wp2
          go_ret
          exact ⟨rfl, pw_below_drewN hb8.out _⟩
end Go.Proofs.YtnknfffldgkgcaaGreatDoor

/- What both registries say of a symbol: asks, at any symbols. -/
namespace Go.Proofs.YtnknfffldgkgcaaGreatDoor
open Go.RowKit Go.Proofs.YtnknfffldgkgcaaGreatDoorW.PrintWords
attribute [local go_sem] run_store_float
attribute [local go_sem ↓] Go.wp_at_zero Go.wp_at_succ

def FiveV (W : World) (B : Nat) (k : Int) (b : Bool) (n : Nat) (s : ByteArray) (i : Int) : Prop := W.cell? ⟨B, 0, none⟩ = some (.int .i64 k) ∧ W.cell? ⟨B, 1, none⟩ = some (.bool b) ∧ W.cell? ⟨B, 2, none⟩ = some (.float .f64 n) ∧ W.cell? ⟨B, 3, none⟩ = some (.string s) ∧ W.cell? ⟨B, 4, none⟩ = some (.int .i64 i)
theorem FiveV.keep {W W' : World} {B : Nat} {k : Int} {b : Bool} {n : Nat} {s : ByteArray} {i : Int} (h : FiveV W B k b n s i) (hb : Below W.heap.size W W') : FiveV W' B k b n s i :=
  ⟨keepC h.1 hb, keepC h.2.1 hb, keepC h.2.2.1 hb, keepC h.2.2.2.1 hb, keepC h.2.2.2.2 hb⟩
theorem FiveV.new (W : World) (k : Int) (b : Bool) (n : Nat) (s : ByteArray) (i : Int) (t : TypeId) : FiveV (W.alloc (.cells #[.int .i64 k, .bool b, .float .f64 n, .string s, .int .i64 i] t)) W.heap.size k b n s i := by
  have h := heap_alloc_new W (.cells #[.int .i64 k, .bool b, .float .f64 n, .string s, .int .i64 i] t)
  refine ⟨?_, ?_, ?_, ?_, ?_⟩ <;> rw [Lib.cell_of_heap h] <;> rfl

set_option maxRecDepth 100000 in
set_option maxHeartbeats 1000000 in
theorem asksX_c {A : List Sy} {B p g b1 b2 B' q h0 P : Nat} {W : World} (hO : OwnS A B p g b1 b2 W) (hR : RefS A B' q h0 W) (hI : Inv A)
    (c0 : W.cell? ⟨P, 0, none⟩ = some (.pointer (some ⟨p, 0, none⟩))) (c2 : W.cell? ⟨P, 2, none⟩ = some (.pointer (some ⟨q, 0, none⟩))) (m : Int) :
    Calls Tryz.prog 8 #[.pointer (some ⟨P, 0, none⟩), .int .i64 m] W fun e W' => e = .returned (.bool true) ∧ Below W.heap.size W W' := by
  have h1 := Fact.mk (fun w' (hb : Below W.heap.size W w') => OwnS.key (A := A) (RegG.keep hO hb) hI m)
  have h2 := Fact.mk (fun w' (hb : Below W.heap.size W w') => RefS.key (A := A) (RefG.keep hR hb) hI m)
  have h3 := Fact.mk (fun w' (hb : Below W.heap.size W w') => OwnS.desc (A := A) (RegG.keep hO hb) hI m)
  have h4 := Fact.mk (fun w' (hb : Below W.heap.size W w') => RefS.desc (A := A) (RefG.keep hR hb) hI m)
  have h5 := Fact.mk (fun w' (hb : Below W.heap.size W w') => OwnS.text (A := A) (RegG.keep hO hb) hI m)
  have h6 := Fact.mk (fun w' (hb : Below W.heap.size W w') => RefS.text (A := A) (RefG.keep hR hb) hI m)
  have hn := Fact.mk num_c
  have k0 := Fact.mk (fun w' (hb : Below W.heap.size W w') => keepC c0 hb)
  have k2 := Fact.mk (fun w' (hb : Below W.heap.size W w') => keepC c2 hb)
  clear hO hR hI
  generalize keyR A m = ky at *
  generalize descR A m = de at *
  generalize textR A m = te at *
  obtain ⟨ks, kb, ke⟩ := ky
  obtain ⟨⟨k, b, n, s, i⟩, er⟩ := de
  obtain ⟨tx, et⟩ := te
  simp only at h1 h2 h3 h4 h5 h6
  unfold VV at *
  go_enter Tryz.func8, Tryz.ntmps8
  go_wp2_with fail
  refine (h1.out _ (Below.refl _ _)).mono ?_
  rintro e w1 ⟨rfl, hb1⟩
  have c0 := k0.out _ hb1
  have c2 := k2.out _ hb1
  have hb1 := Fact.mk hb1
  go_wp2_with fail
  refine (h2.out _ hb1.out).mono ?_
  rintro e w2 ⟨rfl, rfl⟩
  go_wp2_with fail
  refine (h3.out _ hb1.out).mono ?_
  rintro e w2 ⟨rfl, hb2⟩
  have hb2 := Fact.mk (hb1.out.trans (hb2.mono hb1.out.size))
  have hba := Fact.mk (hb2.out.alloc hb2.out.size (.cells #[.int .i64 k, .bool b, .float .f64 n, .string s, .int .i64 i] 35))
  have fa := Fact.mk (FiveV.new w2 k b n s i 35)
  have d2 := k2.out _ hba.out
  go_wp2_with fail
  refine (h4.out _ hba.out).mono ?_
  rintro e w3 ⟨rfl, hb3⟩
  have fa := Fact.mk (fa.out.keep hb3)
  have hb3 := Fact.mk (hba.out.trans (hb3.mono hba.out.size))
  generalize w2.heap.size = B1 at *
  clear d2 hba hb2 c0 c2 hb1 h1 h2 h3 h4
  have hbb := Fact.mk (hb3.out.alloc hb3.out.size (.cells #[.int .i64 k, .bool b, .float .f64 n, .string s, .int .i64 i] 35))
  have fb := Fact.mk (FiveV.new w3 k b n s i 35)
  have fa := Fact.mk (fa.out.keep ((Below.refl _ w3).alloc (Nat.le_refl _) (.cells #[.int .i64 k, .bool b, .float .f64 n, .string s, .int .i64 i] 35)))
  have d0 := k0.out _ hbb.out
  go_wp2_with fail
  refine (h5.out _ hbb.out).mono ?_
  rintro e w4 ⟨rfl, hb4⟩
  have fa := Fact.mk (fa.out.keep hb4)
  have fb := Fact.mk (fb.out.keep hb4)
  have hb4 := Fact.mk (hbb.out.trans (hb4.mono hbb.out.size))
  generalize w3.heap.size = B2 at *
  clear d0 hbb hb3 h5
  have d2 := k2.out _ hb4.out
  go_wp2_with fail
  refine (h6.out _ hb4.out).mono ?_
  rintro e w5 ⟨rfl, rfl⟩
  obtain ⟨a0, a1, a2, a3, a4⟩ := fa.out
  obtain ⟨b0, b1, b2, b3, b4⟩ := fb.out
  have he := Fact.mk (fun w => eqSelf_c k b n s i w)
  unfold VV at he
  clear d2 h6 k0 k2
  cases kb
  all_goals
    go_wp2_with (first | (go_at_call 13; refine (hn.out _ _).mono ?_; rintro e w' ⟨rfl, rfl⟩) | (go_at_call 29; refine (he.out _).mono ?_; rintro e w6 ⟨rfl, hb6⟩))
    go_ret
    exact ⟨rfl, hb4.out.trans (hb6.mono hb4.out.size)⟩
end Go.Proofs.YtnknfffldgkgcaaGreatDoor
