import Derived.Test.YtnknfffldgkgcaaGreatDoorXh
import Derived.Deep.RegionLaw
import Derived.BigRegion
import Derived.Test.YtnknfffldgkgcaaGreatDoorCards
import Derived.Test.YtnknfffldgkgcaaGreatDoorTie
import Derived.Deep.Slices
import Derived.OpenShut
import Derived.Lib.LaidIn
import Derived.Lib.LaidU8
import Derived.Deep.DeepHandedRow
import Derived.Deep.DeepWitnessRowRef
import Derived.ProofKit
import Derived.SizedLaws
set_option linter.all false
/- A pair of registries of the program's and a pair of the reference's, apart from one another. -/
namespace Go.Proofs.YtnknfffldgkgcaaGreatDoor
open Go.RowKit Go.Proofs.YtnknfffldgkgcaaGreatDoorW.PrintWords
attribute [local go_sem] run_store_float
attribute [local go_sem ↓] Go.wp_at_zero Go.wp_at_succ

def Apart (F G : List Nat) : Prop := ∀ x ∈ F, ∀ y ∈ G, x ≠ y
theorem Apart.symm {F G : List Nat} (h : Apart F G) : Apart G F := fun x hx y hy e => h y hy x hx e.symm
theorem Apart.out {F G : List Nat} (h : Apart F G) {y : Nat} (hy : y ∈ G) : y ∉ F := fun hx => h y hx y hy rfl
theorem Apart.new {F G : List Nat} (n : Nat) (hF : ∀ x ∈ F, x < n) (hG : ∀ y ∈ G, n ≤ y) : Apart F G := fun x hx y hy e => by have := hF x hx; have := hG y hy; omega
theorem Apart.moved4 {p g b d g' n : Nat} {G : List Nat} (h : Apart [p, g, b, d] G) (hg : g' = g ∨ n ≤ g') (hG : ∀ y ∈ G, y < n) : Apart [p, g', b, d] G := fun x hx y hy e => by
  simp only [List.mem_cons, List.not_mem_nil, or_false] at hx
  rcases hx with rfl | rfl | rfl | rfl
  · exact h _ (by simp) y hy e
  · rcases hg with rfl | hg
    · exact h _ (by simp) y hy e
    · have := hG y hy; omega
  · exact h _ (by simp) y hy e
  · exact h _ (by simp) y hy e
theorem Apart.moved2 {p g g' n : Nat} {G : List Nat} (h : Apart [p, g] G) (hg : g' = g ∨ n ≤ g') (hG : ∀ y ∈ G, y < n) : Apart [p, g'] G := fun x hx y hy e => by
  simp only [List.mem_cons, List.not_mem_nil, or_false] at hx
  rcases hx with rfl | rfl
  · exact h _ (by simp) y hy e
  · rcases hg with rfl | hg
    · exact h _ (by simp) y hy e
    · have := hG y hy; omega

theorem OwnS.lts {A : List Sy} {B p g b d : Nat} {W : World} (h : OwnS A B p g b d W) : ∀ y ∈ [p, g, b, d], y < W.heap.size := by
  obtain ⟨h1, h2, h3, h4, _⟩ := RegG.lts h
  intro y hy
  simp only [List.mem_cons, List.not_mem_nil, or_false] at hy
  rcases hy with rfl | rfl | rfl | rfl <;> assumption
theorem OwnS.ges {A : List Sy} {B p g b d : Nat} {W : World} (h : OwnS A B p g b d W) : ∀ y ∈ [p, g, b, d], B ≤ y := by
  obtain ⟨_, _, _, _, h1, h2, h3, h4⟩ := RegG.lts h
  intro y hy
  simp only [List.mem_cons, List.not_mem_nil, or_false] at hy
  rcases hy with rfl | rfl | rfl | rfl <;> assumption
theorem RefS.lts {A : List Sy} {B q h : Nat} {W : World} (hR : RefS A B q h W) : ∀ y ∈ [q, h], y < W.heap.size := by
  obtain ⟨h1, h2, _⟩ := RefG.lts hR
  intro y hy
  simp only [List.mem_cons, List.not_mem_nil, or_false] at hy
  rcases hy with rfl | rfl <;> assumption
theorem RefS.ges {A : List Sy} {B q h : Nat} {W : World} (hR : RefS A B q h W) : ∀ y ∈ [q, h], B ≤ y := by
  obtain ⟨_, _, h1, h2⟩ := RefG.lts hR
  intro y hy
  simp only [List.mem_cons, List.not_mem_nil, or_false] at hy
  rcases hy with rfl | rfl <;> assumption
theorem OwnS.keepA {A : List Sy} {B p g b d : Nat} {W W' : World} {F : List Nat} (h : OwnS A B p g b d W) (hk : KeepX F W W') (ha : Apart F [p, g, b, d]) : OwnS A B p g b d W' :=
  RegG.keepX h hk (ha.out (by simp)) (ha.out (by simp)) (ha.out (by simp)) (ha.out (by simp))
theorem RefS.keepA {A : List Sy} {B q h : Nat} {W W' : World} {F : List Nat} (hR : RefS A B q h W) (hk : KeepX F W W') (ha : Apart F [q, h]) : RefS A B q h W' :=
  RefG.keepX hR hk (ha.out (by simp)) (ha.out (by simp))
theorem OwnS.base {A : List Sy} {B B' p g b d : Nat} {W : World} (h : OwnS A B p g b d W) (hb : B' ≤ B) : OwnS A B' p g b d W := by
  obtain ⟨⟨h1, h2, h3⟩, ne, k1, k2, m1, m2, cap, hp, ho⟩ := h
  exact ⟨⟨by omega, by omega, by omega⟩, ne, k1, k2, m1, m2, cap, hp, orow_base ho hb⟩
theorem RefS.base {A : List Sy} {B B' q h : Nat} {W : World} (hR : RefS A B q h W) (hb : B' ≤ B) : RefS A B' q h W := by
  obtain ⟨h1, cap, hp, ho⟩ := hR
  exact ⟨by omega, cap, hp, orow_base ho hb⟩

/-- The pair at P, its registries' blocks. -/
structure PairF (a0 a1 c0 c1 : List Sy) (B P p0 g0 b0 d0 p1 g1 b1 d1 q0 h0 q1 h1 : Nat) (W : World) : Prop where
  hP : W.heap[P]? = some (.cells #[.pointer (some ⟨p0, 0, none⟩), .pointer (some ⟨p1, 0, none⟩), .pointer (some ⟨q0, 0, none⟩), .pointer (some ⟨q1, 0, none⟩)] 31 (0, 0))
  bP : B ≤ P
  o0 : OwnS a0 B p0 g0 b0 d0 W
  o1 : OwnS a1 B p1 g1 b1 d1 W
  r0 : RefS c0 B q0 h0 W
  r1 : RefS c1 B q1 h1 W
  x0 : Apart [p0, g0, b0, d0] [P]
  x1 : Apart [p1, g1, b1, d1] [P]
  x2 : Apart [q0, h0] [P]
  x3 : Apart [q1, h1] [P]
  y01 : Apart [p0, g0, b0, d0] [p1, g1, b1, d1]
  y02 : Apart [p0, g0, b0, d0] [q0, h0]
  y03 : Apart [p0, g0, b0, d0] [q1, h1]
  y12 : Apart [p1, g1, b1, d1] [q0, h0]
  y13 : Apart [p1, g1, b1, d1] [q1, h1]
  y23 : Apart [q0, h0] [q1, h1]

section
variable {a0 a1 c0 c1 a' : List Sy} {B P p0 g0 b0 d0 p1 g1 b1 d1 q0 h0 q1 h1 g' : Nat} {W W' : World}
theorem PairF.lP (h : PairF a0 a1 c0 c1 B P p0 g0 b0 d0 p1 g1 b1 d1 q0 h0 q1 h1 W) : ∀ y ∈ [P], y < W.heap.size := by
  intro y hy
  rw [List.mem_singleton.1 hy]
  exact ltH h.hP
theorem PairF.own0 (h : PairF a0 a1 c0 c1 B P p0 g0 b0 d0 p1 g1 b1 d1 q0 h0 q1 h1 W) (ho : OwnS a' B p0 g' b0 d0 W') (hg : g' = g0 ∨ W.heap.size ≤ g') (hk : KeepX [p0, g0, b0, d0] W W') : PairF a' a1 c0 c1 B P p0 g' b0 d0 p1 g1 b1 d1 q0 h0 q1 h1 W' :=
  ⟨hk.at h.hP (h.x0.out (by simp)), h.bP, ho, h.o1.keepA hk h.y01, h.r0.keepA hk h.y02, h.r1.keepA hk h.y03, h.x0.moved4 hg h.lP, h.x1, h.x2, h.x3, h.y01.moved4 hg h.o1.lts, h.y02.moved4 hg h.r0.lts, h.y03.moved4 hg h.r1.lts, h.y12, h.y13, h.y23⟩
theorem PairF.ref0 (h : PairF a0 a1 c0 c1 B P p0 g0 b0 d0 p1 g1 b1 d1 q0 h0 q1 h1 W) (ho : RefS a' B q0 g' W') (hg : g' = h0 ∨ W.heap.size ≤ g') (hk : KeepX [q0, h0] W W') : PairF a0 a1 a' c1 B P p0 g0 b0 d0 p1 g1 b1 d1 q0 g' q1 h1 W' :=
  ⟨hk.at h.hP (h.x2.out (by simp)), h.bP, h.o0.keepA hk h.y02.symm, h.o1.keepA hk h.y12.symm, ho, h.r1.keepA hk h.y23, h.x0, h.x1, h.x2.moved2 hg h.lP, h.x3, h.y01, (h.y02.symm.moved2 hg h.o0.lts).symm, h.y03, (h.y12.symm.moved2 hg h.o1.lts).symm, h.y13, h.y23.moved2 hg h.r1.lts⟩
theorem PairF.keepX {F : List Nat} (h : PairF a0 a1 c0 c1 B P p0 g0 b0 d0 p1 g1 b1 d1 q0 h0 q1 h1 W) (hk : KeepX F W W') (hP : P ∉ F) (e0 : Apart F [p0, g0, b0, d0]) (e1 : Apart F [p1, g1, b1, d1]) (e2 : Apart F [q0, h0]) (e3 : Apart F [q1, h1]) : PairF a0 a1 c0 c1 B P p0 g0 b0 d0 p1 g1 b1 d1 q0 h0 q1 h1 W' :=
  ⟨hk.at h.hP hP, h.bP, h.o0.keepA hk e0, h.o1.keepA hk e1, h.r0.keepA hk e2, h.r1.keepA hk e3, h.x0, h.x1, h.x2, h.x3, h.y01, h.y02, h.y03, h.y12, h.y13, h.y23⟩
theorem PairF.keep (h : PairF a0 a1 c0 c1 B P p0 g0 b0 d0 p1 g1 b1 d1 q0 h0 q1 h1 W) (hb : Below W.heap.size W W') : PairF a0 a1 c0 c1 B P p0 g0 b0 d0 p1 g1 b1 d1 q0 h0 q1 h1 W' :=
  h.keepX (F := []) (KeepX.of_below hb) (by simp) (fun x hx => by simp at hx) (fun x hx => by simp at hx) (fun x hx => by simp at hx) (fun x hx => by simp at hx)
theorem PairF.cells (h : PairF a0 a1 c0 c1 B P p0 g0 b0 d0 p1 g1 b1 d1 q0 h0 q1 h1 W) : W.cell? ⟨P, 0, none⟩ = some (.pointer (some ⟨p0, 0, none⟩)) ∧ W.cell? ⟨P, 1, none⟩ = some (.pointer (some ⟨p1, 0, none⟩)) ∧ W.cell? ⟨P, 2, none⟩ = some (.pointer (some ⟨q0, 0, none⟩)) ∧ W.cell? ⟨P, 3, none⟩ = some (.pointer (some ⟨q1, 0, none⟩)) := by
  refine ⟨?_, ?_, ?_, ?_⟩ <;> rw [Lib.cell_of_heap h.hP] <;> rfl
theorem PairF.frozen (h : PairF a0 a1 c0 c1 B P p0 g0 b0 d0 p1 g1 b1 d1 q0 h0 q1 h1 W) (i : Nat) : W.frozen? ⟨P, i, none⟩ = false := Lib.frozen_of_heap h.hP i
theorem setCell_keepX (W : World) (P i : Nat) (v : Value) : KeepX [P] W (W.setCell ⟨P, i, none⟩ v) := ⟨rfl, rfl, rfl, by simp [World.setCell], fun q _ hn => Below.heap_setCell _ _ _ _ (by simpa using hn)⟩

/-- The first becomes the second one, the second the first one. -/
theorem PairF.swap (h : PairF a0 a1 c0 c1 B P p0 g0 b0 d0 p1 g1 b1 d1 q0 h0 q1 h1 W) (hP : W'.heap[P]? = some (.cells #[.pointer (some ⟨p1, 0, none⟩), .pointer (some ⟨p0, 0, none⟩), .pointer (some ⟨q1, 0, none⟩), .pointer (some ⟨q0, 0, none⟩)] 31 (0, 0))) (hk : KeepX [P] W W') : PairF a1 a0 c1 c0 B P p1 g1 b1 d1 p0 g0 b0 d0 q1 h1 q0 h0 W' :=
  ⟨hP, h.bP, h.o1.keepA hk h.x1.symm, h.o0.keepA hk h.x0.symm, h.r1.keepA hk h.x3.symm, h.r0.keepA hk h.x2.symm, h.x1, h.x0, h.x3, h.x2, h.y01.symm, h.y13, h.y12, h.y03, h.y02, h.y23.symm⟩
/-- The second one of the program's becomes another one, of new blocks. -/
theorem PairF.new1 (h : PairF a0 a1 c0 c1 B P p0 g0 b0 d0 p1 g1 b1 d1 q0 h0 q1 h1 W) {p g b d : Nat} (hb : Below W.heap.size W W') (ho : OwnS a' W.heap.size p g b d W') : PairF a0 a' c0 c1 B P p0 g0 b0 d0 p g b d q0 h0 q1 h1 (W'.setCell ⟨P, 1, none⟩ (.pointer (some ⟨p, 0, none⟩))) := by
  have h' := h.keep hb
  have hk := setCell_keepX W' P 1 (.pointer (some ⟨p, 0, none⟩))
  have hB : B ≤ W.heap.size := by have := h.o0.lts p0 (by simp); have := h.o0.ges p0 (by simp); omega
  have hx : Apart [p, g, b, d] [P] := (Apart.new W.heap.size h.lP ho.ges).symm
  exact ⟨by simp [World.setCell, Array.getElem?_modify, h'.hP], h.bP, h'.o0.keepA hk h.x0.symm, (ho.base hB).keepA hk hx.symm, h'.r0.keepA hk h.x2.symm, h'.r1.keepA hk h.x3.symm, h.x0, hx, h.x2, h.x3, Apart.new W.heap.size h.o0.lts ho.ges, h.y02, h.y03, (Apart.new W.heap.size h.r0.lts ho.ges).symm, (Apart.new W.heap.size h.r1.lts ho.ges).symm, h.y23⟩
/-- The second one of the reference's does. -/
theorem PairF.new3 (h : PairF a0 a1 c0 c1 B P p0 g0 b0 d0 p1 g1 b1 d1 q0 h0 q1 h1 W) {p g : Nat} (hb : Below W.heap.size W W') (ho : RefS a' W.heap.size p g W') : PairF a0 a1 c0 a' B P p0 g0 b0 d0 p1 g1 b1 d1 q0 h0 p g (W'.setCell ⟨P, 3, none⟩ (.pointer (some ⟨p, 0, none⟩))) := by
  have h' := h.keep hb
  have hk := setCell_keepX W' P 3 (.pointer (some ⟨p, 0, none⟩))
  have hB : B ≤ W.heap.size := by have := h.o0.lts p0 (by simp); have := h.o0.ges p0 (by simp); omega
  have hx : Apart [p, g] [P] := (Apart.new W.heap.size h.lP ho.ges).symm
  exact ⟨by simp [World.setCell, Array.getElem?_modify, h'.hP], h.bP, h'.o0.keepA hk h.x0.symm, h'.o1.keepA hk h.x1.symm, h'.r0.keepA hk h.x2.symm, (ho.base hB).keepA hk hx.symm, h.x0, h.x1, h.x2, hx, h.y01, h.y02, Apart.new W.heap.size h.o0.lts ho.ges, h.y12, Apart.new W.heap.size h.o1.lts ho.ges, Apart.new W.heap.size h.r0.lts ho.ges⟩
theorem PairF.le (h : PairF a0 a1 c0 c1 B P p0 g0 b0 d0 p1 g1 b1 d1 q0 h0 q1 h1 W) : B ≤ W.heap.size := by have := h.o0.lts p0 (by simp); have := h.o0.ges p0 (by simp); omega
end

/-- The pair at P holds A0 and A1, on both sides. -/
def St2 (A0 A1 : List Sy) (B P : Nat) (W : World) : Prop := ∃ p0 g0 b0 d0 p1 g1 b1 d1 q0 h0 q1 h1, PairF A0 A1 A0 A1 B P p0 g0 b0 d0 p1 g1 b1 d1 q0 h0 q1 h1 W
theorem St2.keep {A0 A1 : List Sy} {B P : Nat} {W W' : World} (h : St2 A0 A1 B P W) (hb : Below W.heap.size W W') : St2 A0 A1 B P W' := by
  obtain ⟨p0, g0, b0, d0, p1, g1, b1, d1, q0, h0, q1, h1, h⟩ := h
  exact ⟨p0, g0, b0, d0, p1, g1, b1, d1, q0, h0, q1, h1, h.keep hb⟩

/-- The symbols of a new registry. -/
def nwA : List Sy := (List.range 13).map fun j => ⟨strV (wk j), false⟩
theorem nwA_f5 : f5 nwA = flatW 13 := rfl
theorem nwA_f6 : f6 nwA = flatS 13 := rfl
theorem nwA_kl : kl nwA 0 = [] := rfl
theorem nwA_inv : Inv nwA := by
  refine ⟨fun x hx => ?_, fun x hx hk => ?_, ⟨by rw [nwA_kl]; simp, by rw [nwA_kl]; simp, by rw [nwA_kl]; simp⟩, by simp [nwA], by simp [nwA]⟩
  · obtain ⟨j, hj, rfl⟩ := List.mem_map.1 hx
    have hj := List.mem_range.1 hj
    unfold okV strV
    simp only
    rw [wk_gd j hj]; rfl
  · obtain ⟨j, hj, rfl⟩ := List.mem_map.1 hx
    cases hk
theorem newX_c (w : World) (HT : Tabs w) : Calls Tryz.prog 9 #[] w fun e W' => ∃ p g b d, e = .returned (.pointer (some ⟨p, 0, none⟩)) ∧ OwnS nwA w.heap.size p g b d W' ∧ Below w.heap.size w W' := by
  refine (new_c w HT).mono ?_
  rintro e W' ⟨p, b, d, rfl, hR, hb⟩
  obtain ⟨g, hg⟩ := hR.regG (by decide)
  exact ⟨p, g, b, d, rfl, hg, hb⟩
theorem rnewX_c (w : World) (HN : NamesT w) : Calls Tryz.prog 10 #[] w fun e W' => ∃ q h, e = .returned (.pointer (some ⟨q, 0, none⟩)) ∧ RefS nwA w.heap.size q h W' ∧ Below w.heap.size w W' := by
  refine (rnew_c w HN).mono ?_
  rintro e W' ⟨q, rfl, hR, hb⟩
  obtain ⟨h, hg⟩ := hR.refG (by decide)
  exact ⟨q, h, rfl, hg, hb⟩

set_option maxRecDepth 100000 in
theorem npX_c (w : World) (HT : Tabs w) (HN : NamesT w) : Calls Tryz.prog 5 #[] w fun e W' => ∃ P, e = .returned (.pointer (some ⟨P, 0, none⟩)) ∧ St2 nwA nwA w.heap.size P W' ∧ Below w.heap.size w W' := by
  have hn := Fact.mk (fun w' (h : Below w.heap.size w w') => newX_c w' (HT.below h))
  have hr := Fact.mk (fun w' (h : Below w.heap.size w w') => rnewX_c w' (HN.below h))
  clear HT HN
  go_enter Tryz.func5, Tryz.ntmps5
  go_wp2_with fail
  refine (hn.out _ (Below.refl _ _)).mono ?_
  rintro e w1 ⟨p0, g0, b0, d0, rfl, o0, hB1⟩
  have o0 := Fact.mk o0
  have hB1 := Fact.mk hB1
  go_wp2_with fail
  refine (hn.out _ hB1.out).mono ?_
  rintro e w2 ⟨p1, g1, b1, d1, rfl, o1, hB2⟩
  have y01 := Fact.mk (Apart.new w1.heap.size o0.out.lts o1.ges)
  have o1 := Fact.mk (o1.base hB1.out.size)
  have o0 := Fact.mk (o0.out.keepA (F := []) (KeepX.of_below hB2) (fun x hx => by simp at hx))
  have hB2 := Fact.mk (hB1.out.trans (hB2.mono hB1.out.size))
  clear hB1
  go_wp2_with fail
  refine (hr.out _ hB2.out).mono ?_
  rintro e w3 ⟨q0, h0, rfl, r0, hB3⟩
  have y02 := Fact.mk (Apart.new w2.heap.size o0.out.lts r0.ges)
  have y12 := Fact.mk (Apart.new w2.heap.size o1.out.lts r0.ges)
  have r0 := Fact.mk (r0.base hB2.out.size)
  have o0 := Fact.mk (o0.out.keepA (F := []) (KeepX.of_below hB3) (fun x hx => by simp at hx))
  have o1 := Fact.mk (o1.out.keepA (F := []) (KeepX.of_below hB3) (fun x hx => by simp at hx))
  have hB3 := Fact.mk (hB2.out.trans (hB3.mono hB2.out.size))
  clear hB2
  go_wp2_with fail
  refine (hr.out _ hB3.out).mono ?_
  rintro e w4 ⟨q1, h1, rfl, r1, hB4⟩
  have y03 := Fact.mk (Apart.new w3.heap.size o0.out.lts r1.ges)
  have y13 := Fact.mk (Apart.new w3.heap.size o1.out.lts r1.ges)
  have y23 := Fact.mk (Apart.new w3.heap.size r0.out.lts r1.ges)
  have r1 := Fact.mk (r1.base hB3.out.size)
  have o0 := Fact.mk (o0.out.keepA (F := []) (KeepX.of_below hB4) (fun x hx => by simp at hx))
  have o1 := Fact.mk (o1.out.keepA (F := []) (KeepX.of_below hB4) (fun x hx => by simp at hx))
  have r0 := Fact.mk (r0.out.keepA (F := []) (KeepX.of_below hB4) (fun x hx => by simp at hx))
  have hB4 := Fact.mk (hB3.out.trans (hB4.mono hB3.out.size))
  clear hB3 hn hr
  go_wp2
  go_ret
  have hk := KeepX.of_below (F := []) ((Below.refl w4.heap.size w4).alloc (Nat.le_refl _) (.cells #[.pointer (some ⟨p0, 0, none⟩), .pointer (some ⟨p1, 0, none⟩), .pointer (some ⟨q0, 0, none⟩), .pointer (some ⟨q1, 0, none⟩)] 31))
  have nn : ∀ G : List Nat, Apart [] G := fun G x hx => by simp at hx
  have eP : ∀ y ∈ [w4.heap.size], w4.heap.size ≤ y := fun y hy => by rw [List.mem_singleton.1 hy]; exact Nat.le_refl _
  exact ⟨_, rfl, ⟨p0, g0, b0, d0, p1, g1, b1, d1, q0, h0, q1, h1, ⟨heap_alloc_new _ _, hB4.out.size, o0.out.keepA hk (nn _), o1.out.keepA hk (nn _), r0.out.keepA hk (nn _), r1.out.keepA hk (nn _), Apart.new _ o0.out.lts eP, Apart.new _ o1.out.lts eP, Apart.new _ r0.out.lts eP, Apart.new _ r1.out.lts eP, y01.out, y02.out, y03.out, y12.out, y13.out, y23.out⟩⟩, hB4.out.alloc hB4.out.size _⟩
end Go.Proofs.YtnknfffldgkgcaaGreatDoor

/- One act on both sides: Make, For. -/
namespace Go.Proofs.YtnknfffldgkgcaaGreatDoor
open Go.RowKit Go.Proofs.YtnknfffldgkgcaaGreatDoorW.PrintWords
attribute [local go_sem] run_store_float
attribute [local go_sem ↓] Go.wp_at_zero Go.wp_at_succ

/-- An act. -/
structure Ac where
  kd : Int
  v : Vl
  S : ByteArray
  N : Int
def acC (kd k : Int) (b : Bool) (n : Nat) (s : ByteArray) (i : Int) (S : ByteArray) (N : Int) : Array Value := #[.int .i64 kd, .int .i64 k, .bool b, .float .f64 n, .string s, .int .i64 i, .string S, .int .i64 N]
def AV (a : Ac) : Value := .agg (acC a.kd a.v.k a.v.b a.v.n a.v.s a.v.i a.S a.N)
theorem eight {W : World} {g : Nat} {t : TypeId} {kd k : Int} {b : Bool} {n : Nat} {s : ByteArray} {i : Int} {S : ByteArray} {N : Int} (h : W.heap[g]? = some (.cells (acC kd k b n s i S N) t (0, 0))) :
    W.cell? ⟨g, 0, none⟩ = some (.int .i64 kd) ∧ W.cell? ⟨g, 1, none⟩ = some (.int .i64 k) ∧ W.cell? ⟨g, 2, none⟩ = some (.bool b) ∧ W.cell? ⟨g, 3, none⟩ = some (.float .f64 n) ∧ W.cell? ⟨g, 4, none⟩ = some (.string s) ∧ W.cell? ⟨g, 5, none⟩ = some (.int .i64 i) ∧ W.cell? ⟨g, 6, none⟩ = some (.string S) ∧ W.cell? ⟨g, 7, none⟩ = some (.int .i64 N) := by
  refine ⟨?_, ?_, ?_, ?_, ?_, ?_, ?_, ?_⟩ <;> rw [Lib.cell_of_heap h] <;> rfl

section
variable {A0 A1 : List Sy} {B P : Nat} {W : World}
set_option maxRecDepth 100000 in
set_option maxHeartbeats 2000000 in
theorem play1_c (hS : St2 A0 A1 B P W) (hI : Inv A0) (HT : Tabs W) (v : Vl) (hn : v.n < 18446744073709551616) (S : ByteArray) (N : Int) :
    Calls Tryz.prog 6 #[.pointer (some ⟨P, 0, none⟩), AV ⟨1, v, S, N⟩] W fun e W' => e = .returned (.bool true) ∧ St2 (mkA A0 v).1 A1 B P W' ∧ Below B W W' := by
  obtain ⟨p0, g0, b0, d0, p1, g1, b1, d1, q0, h0, q1, h1, hF⟩ := hS
  have hF := Fact.mk hF
  have hle := Fact.mk hF.out.le
  have hM := Fact.mk (fun V (hb : Below W.heap.size W V) => (hF.out.keep hb).o0.make hI.hi (HT.below hb) v)
  have hR := Fact.mk (fun V g0' (h : PairF (mkA A0 v).1 A1 A0 A1 B P p0 g0' b0 d0 p1 g1 b1 d1 q0 h0 q1 h1 V) => h.r0.make hI.hi v hn)
  have hnu := Fact.mk num_c
  obtain ⟨k, b, n, s, i⟩ := v
  clear HT hI hn
  unfold AV acC
  unfold VV at *
  simp only at hM hR ⊢
  generalize hmk : mkA A0 ⟨k, b, n, s, i⟩ = mk at *
  obtain ⟨A0', r1, r2⟩ := mk
  clear hmk
  simp only at hM hR ⊢
  go_enter Tryz.func6, Tryz.ntmps6
  go_wp2_with fail
  obtain ⟨V0, hV0⟩ : ∃ V0, V0 = W.alloc (.cells #[.int .i64 1, .int .i64 k, .bool b, .float .f64 n, .string s, .int .i64 i, .string S, .int .i64 N] 37) := ⟨_, rfl⟩
  rw [← hV0]
  have hB0 := Fact.mk (show Below W.heap.size W V0 by rw [hV0]; exact (Below.refl _ _).alloc (Nat.le_refl _) _)
  have hX := Fact.mk (show V0.heap[W.heap.size]? = some (.cells (acC 1 k b n s i S N) 37 (0, 0)) by rw [hV0]; exact heap_alloc_new _ _)
  have hF0 := Fact.mk (show PairF A0 A1 A0 A1 B P p0 g0 b0 d0 p1 g1 b1 d1 q0 h0 q1 h1 V0.drew from hF.out.keep hB0.out.drew)
  have hlx := Fact.mk (show Apart [p0, g0, b0, d0] [W.heap.size] from Apart.new _ hF.out.o0.lts (fun y hy => by rw [List.mem_singleton.1 hy]; exact Nat.le_refl _))
  clear hV0
  have _u : True := trivial
  obtain ⟨x0, x1, x2, x3, x4, x5, x6, x7⟩ := eight (W := V0.drew) (g := W.heap.size) hX.out
  obtain ⟨e0, e1, e2, e3⟩ := hF0.out.cells
  go_region_law ((go_simp; go_at_call 11; refine (hM.out _ hB0.out.drew).mono ?_; rintro e w2 ⟨rfl, g0', ho, hg, hk⟩))
  all_goals
    have hB2 := Fact.mk (((hB0.out.drew).mono hle.out).trans (hk.below hF0.out.o0.ges (Nat.le_trans hle.out hB0.out.size)))
    have hF2 := Fact.mk (show PairF A0' A1 A0 A1 B P p0 g0' b0 d0 p1 g1 b1 d1 q0 h0 q1 h1 w2.drew from (hF0.out.own0 ho hg hk).keep ((Below.refl _ _).drew))
    have hX2 := Fact.mk (show w2.drew.heap[W.heap.size]? = some (.cells (acC 1 k b n s i S N) 37 (0, 0)) from hk.at hX.out (hlx.out.out (by simp)))
    clear ho hg hk x0 x1 x2 x3 x4 x5 x6 x7 e0 e1 e2 e3 hX hF0 hM hlx hB0
    obtain ⟨x0, x1, x2, x3, x4, x5, x6, x7⟩ := eight hX2.out
    obtain ⟨e0, e1, e2, e3⟩ := hF2.out.cells
    go_wp2_with fail
    go_region_law ((go_simp; go_at_call 12; refine (hR.out _ _ hF2.out).mono ?_; rintro e w3 ⟨rfl, h0', ho, hg, hk⟩))
    all_goals
      have hB3 := Fact.mk ((hB2.out.drew).trans (hk.below hF2.out.r0.ges hF2.out.le))
      have hF3 := Fact.mk (hF2.out.ref0 ho hg hk)
      clear ho hg hk x0 x1 x2 x3 x4 x5 x6 x7 e0 e1 e2 e3 hX2 hF2 hR hB2
      go_wp2_with (go_at_call 13; refine (hnu.out _ _).mono ?_; rintro e w' ⟨rfl, rfl⟩)
      go_ret
      exact ⟨by simp, ⟨_, _, _, _, _, _, _, _, _, _, _, _, hF3.out⟩, hB3.out⟩

set_option maxRecDepth 100000 in
set_option maxHeartbeats 2000000 in
theorem play2_c (hS : St2 A0 A1 B P W) (hI : Inv A0) (HT : Tabs W) (v : Vl) (S : ByteArray) (N : Int) :
    Calls Tryz.prog 6 #[.pointer (some ⟨P, 0, none⟩), AV ⟨2, v, S, N⟩] W fun e W' => e = .returned (.bool true) ∧ St2 (forA A0 S).1 A1 B P W' ∧ Below B W W' := by
  obtain ⟨p0, g0, b0, d0, p1, g1, b1, d1, q0, h0, q1, h1, hF⟩ := hS
  have hF := Fact.mk hF
  have hle := Fact.mk hF.out.le
  have hM := Fact.mk (fun V (hb : Below W.heap.size W V) => (hF.out.keep hb).o0.forS hI (HT.below hb) S)
  have hR := Fact.mk (fun V g0' (h : PairF (forA A0 S).1 A1 A0 A1 B P p0 g0' b0 d0 p1 g1 b1 d1 q0 h0 q1 h1 V) => h.r0.forS hI S)
  have hnu := Fact.mk num_c
  obtain ⟨k, b, n, s, i⟩ := v
  clear HT hI
  unfold AV acC
  unfold VV at *
  simp only at hM hR ⊢
  generalize hmk : forA A0 S = mk at *
  obtain ⟨A0', r1, r2⟩ := mk
  clear hmk
  simp only at hM hR ⊢
  go_enter Tryz.func6, Tryz.ntmps6
  go_wp2_with fail
  obtain ⟨V0, hV0⟩ : ∃ V0, V0 = W.alloc (.cells #[  .int .i64 2, .int .i64 k, .bool b, .float .f64 n, .string s, .int .i64 i, .string S, .int .i64 N] 37) := ⟨_, rfl⟩
  rw [← hV0]
  have hB0 := Fact.mk (show Below W.heap.size W V0 by rw [hV0]; exact (Below.refl _ _).alloc (Nat.le_refl _) _)
  have hX := Fact.mk (show V0.heap[W.heap.size]? = some (.cells (acC 2 k b n s i S N) 37 (0, 0)) by rw [hV0]; exact heap_alloc_new _ _)
  have hF0 := Fact.mk (show PairF A0 A1 A0 A1 B P p0 g0 b0 d0 p1 g1 b1 d1 q0 h0 q1 h1 V0.drew from hF.out.keep hB0.out.drew)
  have hlx := Fact.mk (show Apart [p0, g0, b0, d0] [W.heap.size] from Apart.new _ hF.out.o0.lts (fun y hy => by rw [List.mem_singleton.1 hy]; exact Nat.le_refl _))
  clear hV0
  have _u : True := trivial
  obtain ⟨x0, x1, x2, x3, x4, x5, x6, x7⟩ := eight (W := V0.drew) (g := W.heap.size) hX.out
  obtain ⟨e0, e1, e2, e3⟩ := hF0.out.cells
  go_region_law ((go_simp; go_at_call 14; refine (hM.out _ hB0.out.drew).mono ?_; rintro e w2 ⟨rfl, g0', ho, hg, hk⟩))
  all_goals
    have hB2 := Fact.mk (((hB0.out.drew).mono hle.out).trans (hk.below hF0.out.o0.ges (Nat.le_trans hle.out hB0.out.size)))
    have hF2 := Fact.mk (show PairF A0' A1 A0 A1 B P p0 g0' b0 d0 p1 g1 b1 d1 q0 h0 q1 h1 w2.drew from (hF0.out.own0 ho hg hk).keep ((Below.refl _ _).drew))
    have hX2 := Fact.mk (show w2.drew.heap[W.heap.size]? = some (.cells (acC 2 k b n s i S N) 37 (0, 0)) from hk.at hX.out (hlx.out.out (by simp)))
    clear ho hg hk x0 x1 x2 x3 x4 x5 x6 x7 e0 e1 e2 e3 hX hF0 hM hlx hB0
    obtain ⟨x0, x1, x2, x3, x4, x5, x6, x7⟩ := eight hX2.out
    obtain ⟨e0, e1, e2, e3⟩ := hF2.out.cells
    go_wp2_with fail
    go_region_law ((go_simp; go_at_call 15; refine (hR.out _ _ hF2.out).mono ?_; rintro e w3 ⟨rfl, h0', ho, hg, hk⟩))
    all_goals
      have hB3 := Fact.mk ((hB2.out.drew).trans (hk.below hF2.out.r0.ges hF2.out.le))
      have hF3 := Fact.mk (hF2.out.ref0 ho hg hk)
      clear ho hg hk x0 x1 x2 x3 x4 x5 x6 x7 e0 e1 e2 e3 hX2 hF2 hR hB2
      go_wp2_with (go_at_call 13; refine (hnu.out _ _).mono ?_; rintro e w' ⟨rfl, rfl⟩)
      go_ret
      exact ⟨by simp, ⟨_, _, _, _, _, _, _, _, _, _, _, _, hF3.out⟩, hB3.out⟩
end
end Go.Proofs.YtnknfffldgkgcaaGreatDoor

/- One act on both sides: what is asked and told, the clone, the swap. -/
namespace Go.Proofs.YtnknfffldgkgcaaGreatDoor
open Go.RowKit Go.Proofs.YtnknfffldgkgcaaGreatDoorW.PrintWords
attribute [local go_sem] run_store_float
attribute [local go_sem ↓] Go.wp_at_zero Go.wp_at_succ

section
variable {A0 A1 : List Sy} {B P : Nat} {W : World}
set_option maxRecDepth 100000 in
set_option maxHeartbeats 2000000 in
theorem play3_c (hS : St2 A0 A1 B P W) (hI : Inv A0) (v : Vl) (S : ByteArray) (N : Int) :
    Calls Tryz.prog 6 #[.pointer (some ⟨P, 0, none⟩), AV ⟨3, v, S, N⟩] W fun e W' => e = .returned (.bool true) ∧ Below W.heap.size W W' := by
  obtain ⟨p0, g0, b0, d0, p1, g1, b1, d1, q0, h0, q1, h1, hF⟩ := hS
  have hA := Fact.mk (fun V (hb : Below W.heap.size W V) => asksX_c (hF.keep hb).o0 (hF.keep hb).r0 hI (hF.keep hb).cells.1 (hF.keep hb).cells.2.2.1 N)
  obtain ⟨k, b, n, s, i⟩ := v
  clear hF hI
  unfold AV acC
  go_enter Tryz.func6, Tryz.ntmps6
  go_wp2_with fail
  refine (hA.out _ ((Below.refl _ _).alloc (Nat.le_refl _) _)).mono ?_
  rintro e w1 ⟨rfl, hb⟩
  clear hA
  go_wp2
  go_ret
  exact ⟨rfl, below1 hb⟩

set_option maxRecDepth 100000 in
set_option maxHeartbeats 2000000 in
theorem play4_c (hS : St2 A0 A1 B P W) (hI : Inv A0) (hI1 : Inv A1) (HT : Tabs W) (v : Vl) (S : ByteArray) (N : Int) :
    Calls Tryz.prog 6 #[.pointer (some ⟨P, 0, none⟩), AV ⟨4, v, S, N⟩] W fun e W' => e = .returned (.bool true) ∧ Below W.heap.size W W' := by
  obtain ⟨p0, g0, b0, d0, p1, g1, b1, d1, q0, h0, q1, h1, hF⟩ := hS
  have hA := Fact.mk (fun V (hb : Below W.heap.size W V) => tellsX_c 0 0 (.inl ⟨rfl, rfl⟩) (hF.keep hb).o0 (hF.keep hb).r0 hI (HT.below hb) (hF.keep hb).cells.1 (hF.keep hb).cells.2.2.1)
  have hC := Fact.mk (fun V (hb : Below W.heap.size W V) => tellsX_c 1 1 (.inr ⟨rfl, rfl⟩) (hF.keep hb).o1 (hF.keep hb).r1 hI1 (HT.below hb) (hF.keep hb).cells.2.1 (hF.keep hb).cells.2.2.2)
  obtain ⟨k, b, n, s, i⟩ := v
  clear hF hI hI1 HT
  unfold AV acC
  go_enter Tryz.func6, Tryz.ntmps6
  go_wp2_with fail
  refine (hA.out _ ((Below.refl _ _).alloc (Nat.le_refl _) _)).mono ?_
  rintro e w1 ⟨rfl, hb⟩
  have hb := Fact.mk (below1 hb)
  clear hA
  go_wp2_with fail
  refine (hC.out _ hb.out).mono ?_
  rintro e w2 ⟨rfl, hb2⟩
  clear hC
  go_wp2
  go_ret
  exact ⟨rfl, hb.out.trans (hb2.mono hb.out.size)⟩

set_option maxRecDepth 100000 in
set_option maxHeartbeats 4000000 in
theorem play5_c (hS : St2 A0 A1 B P W) (hI : Inv A0) (HT : Tabs W) (hBT : ∀ V, Below B W V → Tabs V) (v : Vl) (S : ByteArray) (N : Int) :
    Calls Tryz.prog 6 #[.pointer (some ⟨P, 0, none⟩), AV ⟨5, v, S, N⟩] W fun e W' => e = .returned (.bool true) ∧ St2 A0 A0 B P W' ∧ Below B W W' := by
  obtain ⟨p0, g0, b0, d0, p1, g1, b1, d1, q0, h0, q1, h1, hF⟩ := hS
  have hle := Fact.mk hF.le
  have hbP := Fact.mk hF.bP
  have hC := Fact.mk (fun (B1 P p0 g0 b0 d0 p1 g1 b1 d1 q0 h0 q1 h1 : Nat) (V : World) (c0 a1 c1 : List Sy) (h : PairF A0 a1 c0 c1 B1 P p0 g0 b0 d0 p1 g1 b1 d1 q0 h0 q1 h1 V) => h.o0.clone hI)
  have hD := Fact.mk (fun (B1 P p0 g0 b0 d0 p1 g1 b1 d1 q0 h0 q1 h1 : Nat) (V : World) (a0 a1 c1 : List Sy) (h : PairF a0 a1 A0 c1 B1 P p0 g0 b0 d0 p1 g1 b1 d1 q0 h0 q1 h1 V) => h.r0.clone hI)
  have hE := Fact.mk (fun (p0 g0 b0 d0 p1 g1 b1 d1 q0 h0 q1 h1 : Nat) (V : World) (a0 c0 : List Sy) (h : PairF a0 A0 c0 A0 B P p0 g0 b0 d0 p1 g1 b1 d1 q0 h0 q1 h1 V) (hb : Below B W V) => tellsX_c 1 1 (.inr ⟨rfl, rfl⟩) h.o1 h.r1 hI (hBT V hb) h.cells.2.1 h.cells.2.2.2)
  obtain ⟨k, b, n, s, i⟩ := v
  clear hI HT hBT
  unfold AV acC
  go_enter Tryz.func6, Tryz.ntmps6
  go_wp2_with fail
  obtain ⟨V0, hV0⟩ : ∃ V0, V0 = W.alloc (.cells #[.int .i64 5, .int .i64 k, .bool b, .float .f64 n, .string s, .int .i64 i, .string S, .int .i64 N] 37) := ⟨_, rfl⟩
  rw [← hV0]
  have hB0 := Fact.mk (show Below B W V0.drew by rw [hV0]; exact (((Below.refl _ _).alloc (Nat.le_refl _) _).drew).mono hle.out)
  have hF0 := Fact.mk (show PairF A0 A1 A0 A1 B P p0 g0 b0 d0 p1 g1 b1 d1 q0 h0 q1 h1 V0.drew by rw [hV0]; exact hF.keep (((Below.refl _ _).alloc (Nat.le_refl _) _).drew))
  clear hV0 hF
  obtain ⟨e0, e1, e2, e3⟩ := hF0.out.cells
  go_region_law ((go_simp; go_at_call 16; refine (hC.out _ _ _ _ _ _ _ _ _ _ _ _ _ _ _ _ _ _ hF0.out).mono ?_; rintro e w2 ⟨p', g', b', d', rfl, ho, hb⟩; obtain ⟨f0, f1, f2, f3⟩ := (hF0.out.keep hb).cells; have fz := (hF0.out.keep hb).frozen 1))
  all_goals
    have hF2 := Fact.mk (show PairF A0 A0 A0 A1 B P p0 g0 b0 d0 p' g' b' d' q0 h0 q1 h1 (w2.setCell ⟨P, 1, none⟩ (.pointer (some ⟨p', 0, none⟩))).drew from (hF0.out.new1 hb ho).keep ((Below.refl _ _).drew))
    have hB2 := Fact.mk (show Below B W (w2.setCell ⟨P, 1, none⟩ (.pointer (some ⟨p', 0, none⟩))).drew from ((hB0.out.trans (hb.mono hF0.out.le)).trans ((setCell_keepX w2 P 1 _).bel hbP.out (Nat.le_trans hF0.out.le hb.size))).drew)
    clear ho hb f0 f1 f2 f3 fz e0 e1 e2 e3 hF0 hB0 hC
    generalize w2.setCell ⟨P, 1, none⟩ (.pointer (some ⟨p', 0, none⟩)) = w3 at *
    obtain ⟨e0, e1, e2, e3⟩ := hF2.out.cells
    go_wp2_with fail
    go_region_law ((go_simp; go_at_call 17; refine (hD.out _ _ _ _ _ _ _ _ _ _ _ _ _ _ _ _ _ _ hF2.out).mono ?_; rintro e w4 ⟨q', h', rfl, ho, hb⟩; obtain ⟨f0, f1, f2, f3⟩ := (hF2.out.keep hb).cells; have fz := (hF2.out.keep hb).frozen 3))
    all_goals
      have hF4 := Fact.mk (hF2.out.new3 hb ho)
      have hB4 := Fact.mk ((hB2.out.trans (hb.mono hF2.out.le)).trans ((setCell_keepX w4 P 3 (.pointer (some ⟨q', 0, none⟩))).bel hbP.out (Nat.le_trans hF2.out.le hb.size)))
      clear ho hb f0 f1 f2 f3 fz e0 e1 e2 e3 hF2 hB2 hD
      generalize w4.setCell ⟨P, 3, none⟩ (.pointer (some ⟨q', 0, none⟩)) = w5 at *
      obtain ⟨e0, e1, e2, e3⟩ := hF4.out.cells
      go_wp2_with fail
      refine (hE.out _ _ _ _ _ _ _ _ _ _ _ _ _ _ _ hF4.out hB4.out).mono ?_
      rintro e w6 ⟨rfl, hb⟩
      have hF6 := Fact.mk (hF4.out.keep hb)
      have hB6 := Fact.mk (hB4.out.trans (hb.mono hF4.out.le))
      clear hE hb e0 e1 e2 e3 hF4 hB4
      go_wp2
      go_ret
      exact ⟨rfl, ⟨_, _, _, _, _, _, _, _, _, _, _, _, hF6.out⟩, hB6.out⟩

set_option maxRecDepth 100000 in
set_option maxHeartbeats 4000000 in
theorem play6_c (hS : St2 A0 A1 B P W) (v : Vl) (S : ByteArray) (N : Int) :
    Calls Tryz.prog 6 #[.pointer (some ⟨P, 0, none⟩), AV ⟨6, v, S, N⟩] W fun e W' => e = .returned (.bool true) ∧ St2 A1 A0 B P W' ∧ Below B W W' := by
  obtain ⟨p0, g0, b0, d0, p1, g1, b1, d1, q0, h0, q1, h1, hF⟩ := hS
  have hle := Fact.mk hF.le
  have hbP := Fact.mk hF.bP
  obtain ⟨k, b, n, s, i⟩ := v
  unfold AV acC
  go_enter Tryz.func6, Tryz.ntmps6
  go_wp2_with fail
  obtain ⟨V0, hV0⟩ : ∃ V0, V0 = W.alloc (.cells #[.int .i64 6, .int .i64 k, .bool b, .float .f64 n, .string s, .int .i64 i, .string S, .int .i64 N] 37) := ⟨_, rfl⟩
  rw [← hV0]
  have hB0 := Fact.mk (show Below B W V0 by rw [hV0]; exact ((Below.refl _ _).alloc (Nat.le_refl _) _).mono hle.out)
  have hF0 := Fact.mk (show PairF A0 A1 A0 A1 B P p0 g0 b0 d0 p1 g1 b1 d1 q0 h0 q1 h1 V0 by rw [hV0]; exact hF.keep ((Below.refl _ _).alloc (Nat.le_refl _) _))
  clear hV0 hF
  obtain ⟨e0, e1, e2, e3⟩ := hF0.out.cells
  have f0 := hF0.out.frozen 0
  have f1 := hF0.out.frozen 1
  have hA := Fact.mk (show ∃ V2, V2 = ((V0.setCell ⟨P, 0, none⟩ (.pointer (some ⟨p1, 0, none⟩))).setCell ⟨P, 1, none⟩ (.pointer (some ⟨p0, 0, none⟩))).drew ∧ KeepX [P] V0 V2 ∧ V2.heap[P]? = some (.cells #[.pointer (some ⟨p1, 0, none⟩), .pointer (some ⟨p0, 0, none⟩), .pointer (some ⟨q0, 0, none⟩), .pointer (some ⟨q1, 0, none⟩)] 31 (0, 0)) from
    ⟨_, rfl, ((setCell_keepX V0 P 0 _).trans (setCell_keepX _ P 1 _) (fun q hq => .inl hq)).trans (KeepX.of_below (F := [P]) ((Below.refl _ _).drew)) (fun q hq => .inl hq), by have := hF0.out.hP; simp [World.setCell, World.drew, Array.getElem?_modify, this]⟩)
  have hA' := Fact.mk (show ∃ V2, V2 = ((V0.setCell ⟨P, 1, none⟩ (.pointer (some ⟨p0, 0, none⟩))).setCell ⟨P, 0, none⟩ (.pointer (some ⟨p1, 0, none⟩))).drew ∧ KeepX [P] V0 V2 ∧ V2.heap[P]? = some (.cells #[.pointer (some ⟨p1, 0, none⟩), .pointer (some ⟨p0, 0, none⟩), .pointer (some ⟨q0, 0, none⟩), .pointer (some ⟨q1, 0, none⟩)] 31 (0, 0)) from
    ⟨_, rfl, ((setCell_keepX V0 P 1 _).trans (setCell_keepX _ P 0 _) (fun q hq => .inl hq)).trans (KeepX.of_below (F := [P]) ((Below.refl _ _).drew)) (fun q hq => .inl hq), by have := hF0.out.hP; simp [World.setCell, World.drew, Array.getElem?_modify, this]⟩)
  have hC := Fact.mk (fun (V3 : World) (hk : KeepX [P] V0 V3) (hP : V3.heap[P]? = some (.cells #[.pointer (some ⟨p1, 0, none⟩), .pointer (some ⟨p0, 0, none⟩), .pointer (some ⟨q1, 0, none⟩), .pointer (some ⟨q0, 0, none⟩)] 31 (0, 0))) => (show St2 A1 A0 B P V3 ∧ Below B W V3 from
    ⟨⟨_, _, _, _, _, _, _, _, _, _, _, _, hF0.out.swap hP hk⟩, hB0.out.trans (hk.bel hbP.out hF0.out.le)⟩))
  go_region_law (fail)
  all_goals
    first
      | (obtain ⟨V2, hV2, hk2, hP2⟩ := hA.out; rw [← hV2]; clear hV2)
      | (obtain ⟨V2, hV2, hk2, hP2⟩ := hA'.out; rw [← hV2]; clear hV2)
    clear hA hA' e0 e1 e2 e3 f0 f1 hF0 hB0
    have e0 : V2.cell? ⟨P, 0, none⟩ = some (.pointer (some ⟨p1, 0, none⟩)) := by rw [Lib.cell_of_heap hP2]; rfl
    have e1 : V2.cell? ⟨P, 1, none⟩ = some (.pointer (some ⟨p0, 0, none⟩)) := by rw [Lib.cell_of_heap hP2]; rfl
    have e2 : V2.cell? ⟨P, 2, none⟩ = some (.pointer (some ⟨q0, 0, none⟩)) := by rw [Lib.cell_of_heap hP2]; rfl
    have e3 : V2.cell? ⟨P, 3, none⟩ = some (.pointer (some ⟨q1, 0, none⟩)) := by rw [Lib.cell_of_heap hP2]; rfl
    have f2 : V2.frozen? ⟨P, 2, none⟩ = false := Lib.frozen_of_heap hP2 2
    have f3 : V2.frozen? ⟨P, 3, none⟩ = false := Lib.frozen_of_heap hP2 3
    have hA := Fact.mk (show ∃ V3, V3 = ((V2.setCell ⟨P, 2, none⟩ (.pointer (some ⟨q1, 0, none⟩))).setCell ⟨P, 3, none⟩ (.pointer (some ⟨q0, 0, none⟩))).drew ∧ St2 A1 A0 B P V3 ∧ Below B W V3 from
      ⟨_, rfl, hC.out _ (((hk2.trans (setCell_keepX V2 P 2 _) (fun q hq => .inl hq)).trans (setCell_keepX _ P 3 _) (fun q hq => .inl hq)).trans (KeepX.of_below (F := [P]) ((Below.refl _ _).drew)) (fun q hq => .inl hq)) (by simp [World.setCell, World.drew, Array.getElem?_modify, hP2])⟩)
    have hA' := Fact.mk (show ∃ V3, V3 = ((V2.setCell ⟨P, 3, none⟩ (.pointer (some ⟨q0, 0, none⟩))).setCell ⟨P, 2, none⟩ (.pointer (some ⟨q1, 0, none⟩))).drew ∧ St2 A1 A0 B P V3 ∧ Below B W V3 from
      ⟨_, rfl, hC.out _ (((hk2.trans (setCell_keepX V2 P 3 _) (fun q hq => .inl hq)).trans (setCell_keepX _ P 2 _) (fun q hq => .inl hq)).trans (KeepX.of_below (F := [P]) ((Below.refl _ _).drew)) (fun q hq => .inl hq)) (by simp [World.setCell, World.drew, Array.getElem?_modify, hP2])⟩)
    clear hC hk2 hP2
    go_wp2_with fail
    go_region_law (fail)
    all_goals
      first
        | (obtain ⟨V3, hV3, hS, hB⟩ := hA.out; rw [← hV3]; clear hV3)
        | (obtain ⟨V3, hV3, hS, hB⟩ := hA'.out; rw [← hV3]; clear hV3)
      have hSB := Fact.mk (And.intro hS hB)
      clear hA hA' e0 e1 e2 e3 f2 f3 hS hB
      go_wp2
      go_ret
      exact ⟨rfl, hSB.out⟩

set_option maxRecDepth 100000 in
set_option maxHeartbeats 2000000 in
/-- Acts of no kind. -/
theorem play0_c (a : Ac) (h : ∀ j : Int, 1 ≤ j → j ≤ 7 → a.kd ≠ j) :
    Calls Tryz.prog 6 #[.pointer (some ⟨P, 0, none⟩), AV a] W fun e W' => e = .returned (.bool true) ∧ Below W.heap.size W W' := by
  obtain ⟨kd, ⟨k, b, n, s, i⟩, S, N⟩ := a
  simp only at h
  have h1 : (kd == 1) = false := beq_false_of_ne (h 1 (by decide) (by decide))
  have h2 : (kd == 2) = false := beq_false_of_ne (h 2 (by decide) (by decide))
  have h3 : (kd == 3) = false := beq_false_of_ne (h 3 (by decide) (by decide))
  have h4 : (kd == 4) = false := beq_false_of_ne (h 4 (by decide) (by decide))
  have h5 : (kd == 5) = false := beq_false_of_ne (h 5 (by decide) (by decide))
  have h6 : (kd == 6) = false := beq_false_of_ne (h 6 (by decide) (by decide))
  have h7 : (kd == 7) = false := beq_false_of_ne (h 7 (by decide) (by decide))
  clear h
  unfold AV acC
  go_enter Tryz.func6, Tryz.ntmps6
  go_wp2
  go_ret
  exact ⟨rfl, (Below.refl _ _).alloc (Nat.le_refl _) _⟩
end
end Go.Proofs.YtnknfffldgkgcaaGreatDoor

/- One act on both sides: many are made. -/
namespace Go.Proofs.YtnknfffldgkgcaaGreatDoor
open Go.RowKit Go.Proofs.YtnknfffldgkgcaaGreatDoorW.PrintWords
attribute [local go_sem] run_store_float
attribute [local go_sem ↓] Go.wp_at_zero Go.wp_at_succ

set_option maxRecDepth 100000 in
theorem rund_c (w : World) : Calls Tryz.prog 18 #[] w fun e w' => e = .returned (VV 1 false 0 ⟨#[]⟩ 0) ∧ Below w.heap.size w w' := by
  unfold VV
  go_enter Tryz.func18, Tryz.ntmps18
  go_wp2
  refine bodyPost_ret (results_cell_row rfl _ _ w.heap.size _ _ _ _ rfl (heap_alloc_new _ _) Tryz.underlying35 rfl (by kernel_rfl)) rfl ?_
  exact ⟨rfl, (Below.refl _ _).alloc (Nat.le_refl _) _⟩

def und : Vl := ⟨1, false, 0, ⟨#[]⟩, 0⟩

section
variable {A0 A1 : List Sy} {B P : Nat} {W : World}
set_option maxRecDepth 100000 in
set_option maxHeartbeats 4000000 in
theorem play7_c (hS : St2 A0 A1 B P W) (hI : Inv A0) (hBT : ∀ V, Below B W V → Tabs V) (v : Vl) (S : ByteArray) (N : Int) :
    Calls Tryz.prog 6 #[.pointer (some ⟨P, 0, none⟩), AV ⟨7, v, S, N⟩] W fun e W' => e = .returned (.bool true) ∧ ∃ A0', Inv A0' ∧ St2 A0' A1 B P W' ∧ Below B W W' := by
  obtain ⟨p0, g0, b0, d0, p1, g1, b1, d1, q0, h0, q1, h1, hF⟩ := hS
  have hle := Fact.mk hF.le
  have hbP := Fact.mk hF.bP
  have hM := Fact.mk (fun (p0 g0 b0 d0 p1 g1 b1 d1 q0 h0 q1 h1 : Nat) (V : World) (a0 a1 c0 c1 : List Sy) (hI : Inv a0) (h : PairF a0 a1 c0 c1 B P p0 g0 b0 d0 p1 g1 b1 d1 q0 h0 q1 h1 V) (hb : Below B W V) => h.o0.make hI.hi (hBT V hb) und)
  have hR := Fact.mk (fun (p0 g0 b0 d0 p1 g1 b1 d1 q0 h0 q1 h1 : Nat) (V : World) (a0 a1 c0 c1 : List Sy) (hI : Inv c0) (h : PairF a0 a1 c0 c1 B P p0 g0 b0 d0 p1 g1 b1 d1 q0 h0 q1 h1 V) => h.r0.make hI.hi und (by decide))
  have hU := Fact.mk rund_c
  have hnu := Fact.mk num_c
  unfold VV und at *
  simp only at hM hR
  obtain ⟨k, b, n, s, i⟩ := v
  unfold AV acC
  go_enter Tryz.func6, Tryz.ntmps6
  go_wp2_with fail
  obtain ⟨V0, hV0⟩ : ∃ V0, V0 = W.alloc (.cells #[.int .i64 7, .int .i64 k, .bool b, .float .f64 n, .string s, .int .i64 i, .string S, .int .i64 N] 37) := ⟨_, rfl⟩
  rw [← hV0]
  have hB0 := Fact.mk (show Below B W V0 by rw [hV0]; exact ((Below.refl _ _).alloc (Nat.le_refl _) _).mono hle.out)
  have hF0 := Fact.mk (show PairF A0 A1 A0 A1 B P p0 g0 b0 d0 p1 g1 b1 d1 q0 h0 q1 h1 V0 by rw [hV0]; exact hF.keep ((Below.refl _ _).alloc (Nat.le_refl _) _))
  have hX := Fact.mk (show V0.heap[W.heap.size]? = some (.cells (acC 7 k b n s i S N) 37 (0, 0)) by rw [hV0]; exact heap_alloc_new _ _)
  have hx0 := Fact.mk (show Apart [p0, g0, b0, d0] [W.heap.size] from Apart.new _ hF.o0.lts (fun y hy => by rw [List.mem_singleton.1 hy]; exact Nat.le_refl _))
  have hx2 := Fact.mk (show Apart [q0, h0] [W.heap.size] from Apart.new _ hF.r0.lts (fun y hy => by rw [List.mem_singleton.1 hy]; exact Nat.le_refl _))
  clear hV0 hF
  have hI := Fact.mk hI
  clear hBT
  go_loopg [13] 70000 (fun kq v13 w' => ∃ (j g0 h0 : Nat) (a0 : List Sy), v13 = .int .i64 (j : Int) ∧ Aside0 (j + kq = 70000) ∧ Aside0 (Inv a0) ∧ Aside0 (PairF a0 A1 a0 A1 B P p0 g0 b0 d0 p1 g1 b1 d1 q0 h0 q1 h1 w') ∧ Aside0 (Below B W w') ∧ Aside0 (w'.heap[W.heap.size]? = some (.cells (acC 7 k b n s i S N) 37 (0, 0)) ∧ Apart [p0, g0, b0, d0] [W.heap.size] ∧ Apart [q0, h0] [W.heap.size]))
  case atStart => exact ⟨0, g0, h0, A0, rfl, ⟨rfl⟩, ⟨hI.out⟩, ⟨hF0.out⟩, ⟨hB0.out⟩, ⟨hX.out, hx0.out, hx2.out⟩⟩
  case round =>
    clear hI hF0 hB0 hX hx0 hx2
    obtain ⟨j, g0, h0, a0, rfl, HN, HI, HF, HB, HX⟩ := hrel
    obtain ⟨x0, x1, x2, x3, x4, x5, x6, x7⟩ := eight HX.out.1
    clear x0 x1 x2 x3 x4 x5 x6
    by_cases c1 : (j : Int) < N
    · by_cases c2 : (j : Int) < 70000
      · cases gk with
        | zero => exact absurd HN.out (by omega)
        | succ k1 =>
        have hF1 := Fact.mk (show PairF a0 A1 a0 A1 B P p0 g0 b0 d0 p1 g1 b1 d1 q0 h0 q1 h1 wr.drew from HF.out.keep ((Below.refl _ _).drew))
        have hB1 := Fact.mk (HB.out.drew)
        have hX1 := Fact.mk (show wr.drew.heap[W.heap.size]? = some (.cells (acC 7 k b n s i S N) 37 (0, 0)) from HX.out.1)
        have hI1 := Fact.mk HI.out
        have hA := Fact.mk HX.out.2
        clear HF HB HI HX
        obtain ⟨e0, e1, e2, e3⟩ := hF1.out.cells
        go_wp2_with fail
        go_region_law (first
          | (go_simp; go_at_call 18; refine (hU.out _).mono ?_; rintro e w2 ⟨rfl, hb⟩; have hF2 := Fact.mk (hF1.out.keep hb); obtain ⟨e0', e1', e2', e3'⟩ := hF2.out.cells)
          | (go_simp; go_at_call 11; refine (hM.out _ _ _ _ _ _ _ _ _ _ _ _ _ _ _ _ _ hI1.out hF2.out (hB1.out.trans (hb.mono hF1.out.le))).mono ?_; rintro e w3 ⟨rfl, g0', ho, hg, hk⟩))
        all_goals
          have hbx := ltH hX1.out
          have hF3 := Fact.mk ((hF2.out.own0 ho hg hk).keep ((Below.refl _ w3).drew))
          have hB3 := Fact.mk (show Below B W w3.drew from ((hB1.out.trans (hb.mono hF1.out.le)).trans (hk.below hF2.out.o0.ges hF2.out.le)).drew)
          have hX3 := Fact.mk (show w3.drew.heap[W.heap.size]? = some (.cells (acC 7 k b n s i S N) 37 (0, 0)) from hk.at (keepA hX1.out hb) (hA.out.1.out (by simp)))
          have hA3 := Fact.mk (show Apart [p0, g0', b0, d0] [W.heap.size] ∧ Apart [q0, h0] [W.heap.size] from ⟨hA.out.1.moved4 hg (fun y hy => by rw [List.mem_singleton.1 hy]; exact ltH (keepA hX1.out hb)), hA.out.2⟩)
          have hI3 := Fact.mk (hI1.out.mkA und)
          clear ho hg hk e0 e1 e2 e3 e0' e1' e2' e3' hF1 hF2 hB1 hX1 hA hb hbx
          obtain ⟨e0, e1, e2, e3⟩ := hF3.out.cells
          go_wp2_with fail
          go_region_law (first
            | (go_simp; go_at_call 18; refine (hU.out _).mono ?_; rintro e w4 ⟨rfl, hb⟩; have hF4 := Fact.mk (hF3.out.keep hb); obtain ⟨e0', e1', e2', e3'⟩ := hF4.out.cells)
            | (go_simp; go_at_call 12; refine (hR.out _ _ _ _ _ _ _ _ _ _ _ _ _ _ _ _ _ hI1.out hF4.out).mono ?_; rintro e w5 ⟨rfl, h0', ho, hg, hk⟩))
          all_goals
            have hF5 := Fact.mk (hF4.out.ref0 ho hg hk)
            have hB5 := Fact.mk (show Below B W w5 from (hB3.out.trans (hb.mono hF3.out.le)).trans (hk.below hF4.out.r0.ges hF4.out.le))
            have hX5 := Fact.mk (show w5.heap[W.heap.size]? = some (.cells (acC 7 k b n s i S N) 37 (0, 0)) from hk.at (keepA hX3.out hb) (hA3.out.2.out (by simp)))
            have hA5 := Fact.mk (show Apart [p0, g0', b0, d0] [W.heap.size] ∧ Apart [q0, h0'] [W.heap.size] from ⟨hA3.out.1, hA3.out.2.moved2 hg (fun y hy => by rw [List.mem_singleton.1 hy]; exact ltH (keepA hX3.out hb))⟩)
            clear ho hg hk e0 e1 e2 e3 e0' e1' e2' e3' hF3 hF4 hB3 hX3 hA3 hb hM hR hU
            unfold und at hI3
            generalize mkA a0 ⟨1, false, 0, ⟨#[]⟩, 0⟩ = mk at *
            go_wp2_with (go_at_call 13; refine (hnu.out _ _).mono ?_; rintro e w' ⟨rfl, rfl⟩)
            go_roundg k1
            case measure => omega
            case rel => exact ⟨j + 1, _, _, _, by first | rfl | (congr 1; omega), ⟨by have := HN.out; omega⟩, ⟨hI3.out⟩, ⟨hF5.out⟩, ⟨hB5.out⟩, ⟨hX5.out, hA5.out⟩⟩
      · go_wp2
        go_ret
        exact ⟨rfl, a0, HI.out, ⟨_, _, _, _, _, _, _, _, _, _, _, _, HF.out⟩, HB.out⟩
    · go_wp2
      go_ret
      exact ⟨rfl, a0, HI.out, ⟨_, _, _, _, _, _, _, _, _, _, _, _, HF.out⟩, HB.out⟩
end
end Go.Proofs.YtnknfffldgkgcaaGreatDoor

/- The law SymbolExact: its walk. -/
namespace Go.Proofs.YtnknfffldgkgcaaGreatDoor
open Go.RowKit Go.Proofs.YtnknfffldgkgcaaGreatDoorW.PrintWords
attribute [local go_sem] run_store_float
attribute [local go_sem ↓] Go.wp_at_zero Go.wp_at_succ

theorem play_c {A0 A1 : List Sy} {B P : Nat} {W : World} (hS : St2 A0 A1 B P W) (hI : Inv A0) (hI1 : Inv A1) (hBT : ∀ V, Below B W V → Tabs V) (a : Ac) (hn : a.v.n < 18446744073709551616) :
    Calls Tryz.prog 6 #[.pointer (some ⟨P, 0, none⟩), AV a] W fun e W' => e = .returned (.bool true) ∧ ∃ A0' A1', Inv A0' ∧ Inv A1' ∧ St2 A0' A1' B P W' ∧ Below B W W' := by
  have hle : B ≤ W.heap.size := by obtain ⟨_, _, _, _, _, _, _, _, _, _, _, _, h⟩ := hS; exact h.le
  have HT : Tabs W := hBT W (Below.refl _ _)
  obtain ⟨kd, v, S, N⟩ := a
  by_cases h1 : kd = 1
  · subst h1
    refine (play1_c hS hI HT v hn S N).mono ?_
    rintro e W' ⟨rfl, h, hb⟩
    exact ⟨rfl, _, A1, hI.mkA v, hI1, h, hb⟩
  by_cases h2 : kd = 2
  · subst h2
    refine (play2_c hS hI HT v S N).mono ?_
    rintro e W' ⟨rfl, h, hb⟩
    exact ⟨rfl, _, A1, hI.forA S, hI1, h, hb⟩
  by_cases h3 : kd = 3
  · subst h3
    refine (play3_c hS hI v S N).mono ?_
    rintro e W' ⟨rfl, hb⟩
    exact ⟨rfl, A0, A1, hI, hI1, hS.keep hb, hb.mono hle⟩
  by_cases h4 : kd = 4
  · subst h4
    refine (play4_c hS hI hI1 HT v S N).mono ?_
    rintro e W' ⟨rfl, hb⟩
    exact ⟨rfl, A0, A1, hI, hI1, hS.keep hb, hb.mono hle⟩
  by_cases h5 : kd = 5
  · subst h5
    refine (play5_c hS hI HT hBT v S N).mono ?_
    rintro e W' ⟨rfl, h, hb⟩
    exact ⟨rfl, A0, A0, hI, hI, h, hb⟩
  by_cases h6 : kd = 6
  · subst h6
    refine (play6_c hS v S N).mono ?_
    rintro e W' ⟨rfl, h, hb⟩
    exact ⟨rfl, A1, A0, hI1, hI, h, hb⟩
  by_cases h7 : kd = 7
  · subst h7
    refine (play7_c hS hI hBT v S N).mono ?_
    rintro e W' ⟨rfl, A0', h0, h, hb⟩
    exact ⟨rfl, A0', A1, h0, hI1, h, hb⟩
  refine (play0_c (P := P) (W := W) ⟨kd, v, S, N⟩ (fun j hj hj' e => ?_)).mono ?_
  · simp only at e
    omega
  · rintro e W' ⟨rfl, hb⟩
    exact ⟨rfl, A0, A1, hI, hI1, hS.keep hb, hb.mono hle⟩

/-- A row of acts lies in the world. -/
def ARow (W : World) (A : Option Addr) (L : List Ac) : Prop :=
  0 < L.length → ∃ ad, A = some ad ∧ ∀ (j : Nat) (a : Ac), L[j]? = some a → ∀ (r : Nat) (u : Value), (acC a.kd a.v.k a.v.b a.v.n a.v.s a.v.i a.S a.N)[r]? = some u → W.cell? (ad.add (j * 8 + r)) = some u
theorem ARow.at {W W' : World} {A : Option Addr} {L : List Ac} (h : ARow W A L) (hb : Below W.heap.size W W') (j : Nat) (hj : j < L.length) : ∃ ad a, A = some ad ∧ L[j]? = some a ∧ W'.cell? (ad.add (j * 8)) = some (.int .i64 a.kd) ∧ W'.cell? ⟨(ad.add (j * 8)).block, (ad.add (j * 8)).off + 1, none⟩ = some (.int .i64 a.v.k) ∧ W'.cell? ⟨(ad.add (j * 8)).block, (ad.add (j * 8)).off + 2, none⟩ = some (.bool a.v.b) ∧ W'.cell? ⟨(ad.add (j * 8)).block, (ad.add (j * 8)).off + 3, none⟩ = some (.float .f64 a.v.n) ∧ W'.cell? ⟨(ad.add (j * 8)).block, (ad.add (j * 8)).off + 4, none⟩ = some (.string a.v.s) ∧ W'.cell? ⟨(ad.add (j * 8)).block, (ad.add (j * 8)).off + 5, none⟩ = some (.int .i64 a.v.i) ∧ W'.cell? ⟨(ad.add (j * 8)).block, (ad.add (j * 8)).off + 6, none⟩ = some (.string a.S) ∧ W'.cell? ⟨(ad.add (j * 8)).block, (ad.add (j * 8)).off + 7, none⟩ = some (.int .i64 a.N) := by
  obtain ⟨ad, e, hc⟩ := h (by omega)
  have hcj := hc j _ (List.getElem?_eq_getElem hj)
  generalize hL : L[j] = a at hcj
  have k : ∀ {p : Addr} {x : Value}, W.cell? p = some x → W'.cell? p = some x := fun {p} {x} h => by rw [hb.cell (World.block_lt_of_cell? W p h)]; exact h
  refine ⟨ad, a, e, by rw [List.getElem?_eq_getElem hj, hL], k (hcj 0 _ rfl), ?_, ?_, ?_, ?_, ?_, ?_, ?_⟩
  · rw [addQ _ _ 1 (by decide)]; exact k (hcj 1 _ rfl)
  · rw [addQ _ _ 2 (by decide)]; exact k (hcj 2 _ rfl)
  · rw [addQ _ _ 3 (by decide)]; exact k (hcj 3 _ rfl)
  · rw [addQ _ _ 4 (by decide)]; exact k (hcj 4 _ rfl)
  · rw [addQ _ _ 5 (by decide)]; exact k (hcj 5 _ rfl)
  · rw [addQ _ _ 6 (by decide)]; exact k (hcj 6 _ rfl)
  · rw [addQ _ _ 7 (by decide)]; exact k (hcj 7 _ rfl)

set_option maxRecDepth 100000 in
set_option maxHeartbeats 2000000 in
theorem light_c (A : Option Addr) (L : List Ac) (cap : Nat) (w : World) (hL : ARow w A L) :
    Calls Tryz.prog 4 #[.slice A L.length cap] w fun e w' => (e = .returned (.bool false) ∨ (e = .returned (.bool true) ∧ L.length ≤ 300)) ∧ Below w.heap.size w w' := by
  have HL := Fact.mk hL
  clear hL
  go_enter Tryz.func4, Tryz.ntmps4
  go_wp2
  go_loopg [3, 4, 5] 301 (fun kq v3 v4 v5 w' => ∃ (j : Nat) (m : Int) (y : Int), v3 = .int .i64 m ∧ v4 = .int .i64 y ∧ v5 = .int .i64 (j : Int) ∧ Aside0 (j + kq = 301) ∧ Aside0 (Below w.heap.size w w'))
  case atStart => exact ⟨0, 0, 0, rfl, rfl, rfl, ⟨rfl⟩, ⟨Below.refl _ _⟩⟩
  case round =>
    obtain ⟨j, m, y, rfl, rfl, rfl, HN, HB⟩ := hrel
    by_cases c1 : (j : Int) < (L.length : Int)
    · by_cases c2 : (j : Int) ≤ 300
      · obtain ⟨ad, a, rfl, ha, x0, x1, x2, x3, x4, x5, x6, x7⟩ := HL.out.at HB.out j (by omega)
        have p1 : (0 : Int) ≤ (j : Int) := by omega
        clear x1 x2 x3 x5 x7
        cases gk with
        | zero => exact absurd HN.out (by omega)
        | succ k1 =>
        obtain ⟨kd, v, S, N⟩ := a
        simp only at x0 x4 x6
        go_wp2_with fail
        go_quiet (fail)
        have hB2 := Aside0.mk (pw_below_drewN HB.out nq)
        by_cases h7 : kd = 7
        · subst h7
          clear HB HL
          go_wp2
          go_roundg k1
          case measure => omega
          case rel => exact ⟨j + 1, _, _, rfl, rfl, by first | rfl | (congr 1; omega), ⟨by have := HN.out; omega⟩, hB2⟩
        · have h7' : (kd == 7) = false := beq_false_of_ne h7
          clear HB HL h7
          go_wp2
          go_roundg k1
          case measure => omega
          case rel => exact ⟨j + 1, _, _, rfl, rfl, by first | rfl | (congr 1; omega), ⟨by have := HN.out; omega⟩, hB2⟩
      · clear HL HN
        by_cases q1 : (L.length : Int) ≤ 300 <;> by_cases q2 : m ≤ 2 <;> by_cases q3 : y ≤ 4000000
        all_goals
          go_wp2
          go_ret
          exact ⟨by first | exact .inl rfl | exact .inr ⟨rfl, by omega⟩, HB.out⟩
    · clear HL HN
      by_cases q1 : (L.length : Int) ≤ 300 <;> by_cases q2 : m ≤ 2 <;> by_cases q3 : y ≤ 4000000
      all_goals
        go_wp2
        go_ret
        exact ⟨by first | exact .inl rfl | exact .inr ⟨rfl, by omega⟩, HB.out⟩

set_option maxRecDepth 100000 in
set_option maxHeartbeats 4000000 in
/-- The law SymbolExact, at every list of acts. -/
theorem law_exact (A : Option Addr) (L : List Ac) (cap : Nat) (w : World) (HT : Tabs w) (HN : NamesT w) (hL : ARow w A L) (hn : ∀ a ∈ L, a.v.n < 18446744073709551616) :
    Calls Tryz.prog 3 #[.slice A L.length cap] w fun e w' => e = .returned (.bool true) ∧ Below w.heap.size w w' := by
  have hli := Fact.mk (light_c A L cap w hL)
  have HL := Fact.mk hL
  have hn := Fact.mk hn
  have hp := Fact.mk (fun w' (hb : Below w.heap.size w w') => npX_c w' (HT.below hb) (HN.below hb))
  have hBT := Fact.mk (fun w' V (hb : Below w.heap.size w w') (h : Below w'.heap.size w' V) => HT.below (hb.trans (h.mono hb.size)))
  clear hL HT HN
  go_enter Tryz.func3, Tryz.ntmps3
  go_wp2_with fail
  refine hli.out.mono ?_
  rintro e w1 ⟨he, hb1⟩
  have hb1 := Fact.mk hb1
  clear hli
  rcases he with rfl | ⟨rfl, h300⟩
  · go_wp2
    go_ret
    exact ⟨rfl, hb1.out⟩
  go_wp2_with fail
  refine (hp.out _ hb1.out).mono ?_
  rintro e w2 ⟨P, rfl, hS, hb2⟩
  have hcel := Fact.mk (show ∃ p0 p1, w2.cell? ⟨P, 0, none⟩ = some (.pointer (some ⟨p0, 0, none⟩)) ∧ w2.cell? ⟨P, 1, none⟩ = some (.pointer (some ⟨p1, 0, none⟩)) by
    obtain ⟨_, _, _, _, _, _, _, _, _, _, _, _, h⟩ := hS
    exact ⟨_, _, h.cells.1, h.cells.2.1⟩)
  have hS := Fact.mk hS
  have hb2 := Fact.mk hb2
  have hBT := Fact.mk (fun V (h : Below w1.heap.size w1 V) => hBT.out w1 V hb1.out h)
  obtain ⟨p0, p1, e0, e1⟩ := hcel.out
  clear hp hcel
  go_wp2
  clear e0 e1
  go_loopg [4] L.length (fun kq v4 w' => ∃ (j : Nat) (A0 A1 : List Sy), v4 = .int .i64 (j : Int) ∧ Aside0 (j + kq = L.length) ∧ Aside0 (Inv A0 ∧ Inv A1) ∧ Aside0 (St2 A0 A1 w1.heap.size P w') ∧ Aside0 (Below w1.heap.size w1 w'))
  case atStart => exact ⟨0, _, _, rfl, ⟨by omega⟩, ⟨nwA_inv, nwA_inv⟩, ⟨hS.out⟩, ⟨hb2.out⟩⟩
  case round =>
    clear hS hb2
    obtain ⟨j, A0, A1, rfl, HN, HI, HS, HB⟩ := hrel
    have hbw := Fact.mk (hb1.out.trans (HB.out.mono hb1.out.size))
    by_cases c1 : (j : Int) < (L.length : Int)
    · obtain ⟨ad, a, rfl, ha, x0, x1, x2, x3, x4, x5, x6, x7⟩ := HL.out.at hbw.out j (by omega)
      have p1' : (0 : Int) ≤ (j : Int) := by omega
      have hpl := Fact.mk (play_c HS.out HI.out.1 HI.out.2 (fun V h => hBT.out V (HB.out.trans h)) a (hn.out a (List.mem_of_getElem? ha)))
      cases gk with
      | zero => exact absurd HN.out (by omega)
      | succ k1 =>
      obtain ⟨kd, ⟨k, b, n, s, i⟩, S, N⟩ := a
      simp only at x0 x1 x2 x3 x4 x5 x6 x7
      unfold AV acC at hpl
      simp only at hpl
      clear ha HI HS hbw
      go_wp2_with fail
      refine hpl.out.mono ?_
      rintro e w3 ⟨rfl, A0', A1', hI0, hI1, hS, hb⟩
      have hI := Aside0.mk (And.intro hI0 hI1)
      have hS := Aside0.mk hS
      have hB := Aside0.mk (HB.out.trans hb)
      clear hpl HB hI0 hI1 hb x0 x1 x2 x3 x4 x5 x6 x7
      go_wp2
      go_roundg k1
      case measure => omega
      case rel => exact ⟨j + 1, A0', A1', by first | rfl | (congr 1; omega), ⟨by have := HN.out; omega⟩, hI, hS, hB⟩
    · obtain ⟨p0, g0, b0, d0, p1, g1, b1, d1, q0, h0, q1, h1, hF⟩ := HS.out
      have hF := Fact.mk hF
      have hTw := Fact.mk (fun V (hb : Below wr.heap.size wr V) => hBT.out V (HB.out.trans (hb.mono HB.out.size)))
      have hT0 := Fact.mk (fun V (hb : Below wr.heap.size wr V) => tellsX_c 0 0 (.inl ⟨rfl, rfl⟩) (hF.out.keep hb).o0 (hF.out.keep hb).r0 HI.out.1 (hTw.out V hb) (hF.out.keep hb).cells.1 (hF.out.keep hb).cells.2.2.1)
      have hT1 := Fact.mk (fun V (hb : Below wr.heap.size wr V) => tellsX_c 1 1 (.inr ⟨rfl, rfl⟩) (hF.out.keep hb).o1 (hF.out.keep hb).r1 HI.out.2 (hTw.out V hb) (hF.out.keep hb).cells.2.1 (hF.out.keep hb).cells.2.2.2)
      have hA := Fact.mk (fun V (hb : Below wr.heap.size wr V) m => asksX_c (hF.out.keep hb).o0 (hF.out.keep hb).r0 HI.out.1 (hF.out.keep hb).cells.1 (hF.out.keep hb).cells.2.2.1 m)
      have hlen := HI.out.1.hi
      clear HS HI hBT HL hn HB HN
      go_wp2_with fail
      refine (hT0.out _ (Below.refl _ _)).mono ?_
      rintro e w3 ⟨rfl, hb3⟩
      have hb3 := Fact.mk hb3
      go_wp2_with fail
      refine (hT1.out _ hb3.out).mono ?_
      rintro e w4 ⟨rfl, hb4⟩
      have hb4 := Fact.mk (hb3.out.trans (hb4.mono hb3.out.size))
      have e2 := (hF.out.keep hb4.out).cells.2.2.1
      obtain ⟨cq, c0⟩ := RefG.cell (hF.out.keep hb4.out).r0
      clear hT0 hT1 hb3
      go_wp2_with fail
      refine (hA.out _ hb4.out _).mono ?_
      rintro e w5 ⟨rfl, hb5⟩
      have hb5 := Fact.mk (hb4.out.trans (hb5.mono hb4.out.size))
      have e2 := (hF.out.keep hb5.out).cells.2.2.1
      obtain ⟨cq, c0⟩ := RefG.cell (hF.out.keep hb5.out).r0
      clear hb4
      go_wp2_with fail
      refine (hA.out _ hb5.out _).mono ?_
      rintro e w6 ⟨rfl, hb6⟩
      have hb6 := Fact.mk (hb5.out.trans (hb6.mono hb5.out.size))
      clear hA e2 c0
      go_wp2
      go_ret
      exact ⟨rfl, hbw.out.trans (hb6.out.mono hbw.out.size)⟩
end Go.Proofs.YtnknfffldgkgcaaGreatDoor

/- What the card of SymbolExact needs: the world of the witness, the tables out of the row's list, a row of acts. -/
namespace Go.Proofs.YtnknfffldgkgcaaGreatDoor.CC
open Go.ChangeShapes Go.WideShapes Go.ChangeAt Go.RowKit Go.Lib

theorem own : ownKnob Tryz.prog.godebug = none := by kernel_rfl
def laidL : List (String × DataW Unit) := [("unicode/utf8.acceptRanges", Rows.laid_unicode_utf8_acceptRanges), ("cameo/cameoref08.Names", Rows.laid_cameo_cameoref08_Names), ("unicode/utf8.first", Rows.laid_unicode_utf8_first)]

/-- The world of the witness: settled, the two variables holding what their initialisers lay. -/
noncomputable def laidWorld (os : Os) : World :=
  let w0 := World.holding Tryz.prog os ⟨#[], #[], []⟩
  let put (h : Array Obj) (g : Nat) (cs : Array Value) : Array Obj := h.modify g fun
    | .cells _ t frozen => .cells cs t frozen
    | o => o
  let h1 := put w0.heap 2 (Lib.firstTab.map fun z => Value.int .u8 z).toArray
  let h2 := put h1 3 ((List.range 16).flatMap fun i => [Value.int .u8 (Lib.accLo i), Value.int .u8 (Lib.accHi i)]).toArray
  let h3 := put h2 0 ((List.range 13).map fun j => Value.string (nm j)).toArray
  { w0 with heap := h3 }
theorem laid_met (os : Os) (args : Array Value) : laidMet Tryz.prog laidL ((laidWorld os).forCall (fun _ _ => 0) ⟨#[], args, []⟩).memory :=
  (LaidIn.of_run (l := laidL) [3, 0, 2] 8 (by kernel_rfl) (by kernel_rfl) (by kernel_rfl) (by kernel_rfl)).met

theorem first_eq : Rows.laid_unicode_utf8_first = Lib.firstData := by kernel_rfl
theorem accept_eq : (Rows.laid_unicode_utf8_acceptRanges : DataW Unit) = Lib.acceptData := by kernel_rfl

def nmL : List (List UInt8) := (List.range 13).map fun j => (nm j).data.toList
theorem names_eq : (Rows.laid_cameo_cameoref08_Names : DataW Unit) = .agg (nmL.map fun z => .lit (.string z)) := by kernel_rfl

theorem cells_of_strs {H : Type} {enc : TypeId × Value → H} {P : Program} {w : World} {base : Nat} {sp : Nat → Bool} {held : Bool} {fuel : Nat} {t e : TypeId} {n : Nat} {cs : List Value} {zs : List (List UInt8)} {p : List MemPlace}
    (ht : P.underlying t = some (.array n e)) (he : P.underlying e = some .string) (hce : P.cellsOf e = 1) (hct : P.cellsOf t = n)
    (h : DataW.trod enc P w base sp held fuel t cs = some (.agg (zs.map fun z => .lit (.string z)), p)) : cs = zs.map fun z => Value.string ⟨z.toArray⟩ := by
  cases fuel with
  | zero => simp [DataW.trod] at h
  | succ fuel =>
    simp only [DataW.trod, ht, hce, hct, Nat.mul_one] at h
    split at h
    · rename_i hl
      obtain ⟨xs, hm, hx⟩ := Option.map_eq_some_iff.1 h
      have hxs : xs.map (·.1) = zs.map fun z => (DataW.lit (.string z) : DataW H) := by
        have := congrArg Prod.fst hx
        simpa using this
      have hxl : xs.length = n := by simpa using Lib.mapM_length hm
      have hzl : zs.length = n := by
        have := congrArg List.length hxs
        simp at this
        omega
      apply List.ext_getElem?
      intro i
      by_cases hi : i < n
      · obtain ⟨b, hb, hf⟩ := Lib.mapM_at hm i i (by simp [hi])
        obtain ⟨z, hc, rfl, _⟩ := DataW.trod_string he hf
        have h1 : cs[i]? = some (.string z) := by
          have := congrArg (·[0]?) hc
          simpa [List.getElem?_take, List.getElem?_drop] using this
        have h2 : (xs.map (·.1))[i]? = some (DataW.lit (.string z.data.toList) : DataW H) := by simp [hb]
        rw [hxs] at h2
        simp only [List.getElem?_map, Option.map_eq_some_iff, DataW.lit.injEq, Lit.string.injEq] at h2
        obtain ⟨z', hz', rfl⟩ := h2
        simp [h1, hz']
      · rw [List.getElem?_eq_none (by omega), List.getElem?_eq_none (by simp; omega)]
    · cases h

/-- What the law's walk asks of the world. -/
def TabsN (W : World) : Prop := Tabs W ∧ NamesT W
theorem tabs_of {W : World} (hL : laidMet Tryz.prog laidL W) : TabsN W := by
  have h4 := Lib.laidMet.reads hL (List.Mem.head _)
  have hn := Lib.laidMet.reads hL (List.Mem.tail _ (List.Mem.head _))
  have h3 := Lib.laidMet.reads hL (List.Mem.tail _ (List.Mem.tail _ (List.Mem.head _)))
  rw [first_eq] at h3
  rw [accept_eq] at h4
  rw [names_eq] at hn
  have U := utf8Tabs_of_reads Tryz.lays260 ⟨by kernel_rfl, by kernel_rfl, by kernel_rfl, by kernel_rfl, by kernel_rfl, by kernel_rfl, by kernel_rfl⟩ h3 h4
  have hN : ∀ j, j < 13 → W.cell? ⟨0, j, none⟩ = some (.string (nm j)) := by
    obtain ⟨g', t', cs, fuel, p, hg', ht', hvar, hd⟩ := hn
    obtain rfl := Option.some.inj ((show Tryz.prog.globalNamed "cameo/cameoref08.Names" = some 0 by kernel_rfl).symm.trans hg')
    obtain rfl := Option.some.inj ((show (Tryz.prog.globals[0]?).map (·.type) = some 100 by kernel_rfl).symm.trans ht')
    have hcs := cells_of_strs (n := 13) (e := 9) (by kernel_rfl) (by kernel_rfl) (by kernel_rfl) (by kernel_rfl) hd
    intro j hj
    have h := World.var?_cell hg' hvar j
    rw [h, ← Array.getElem?_toList, hcs]
    match j, hj with
    | 0, _ | 1, _ | 2, _ | 3, _ | 4, _ | 5, _ | 6, _ | 7, _ | 8, _ | 9, _ | 10, _ | 11, _ | 12, _ => rfl
    | _ + 13, h => omega
  refine ⟨⟨U, World.block_lt_of_cell? W ⟨2, 0, none⟩ (U.1 0 (by decide)), ?_⟩, hN, World.block_lt_of_cell? W _ (hN 0 (by decide))⟩
  exact World.block_lt_of_cell? W ⟨3, 0, none⟩ (U.2 0 (by decide)).1

theorem walkA (a : Option Addr) (L : List Ac) (cap : Nat) (z : ∀ x ∈ L, x.v.n < 18446744073709551616) (W : World) (H : TabsN W) (y : ARow W a L) : Calls Tryz.prog 3 #[.slice a L.length cap] W fun e w' => e = .returned (.bool true) ∧ Below W.heap.size W w' := law_exact a L cap W H.1 H.2 y z

theorem small {H : Type} {l : List (DataW H)} (hk : Rows.uptoSmall H l = true) : Rows.uptoBulkAll l ≤ 1048576 := of_decide_eq_true hk
theorem bulk_str {H : Type} (b : List UInt8) (r : List (DataW H)) : Rows.uptoBulkAll (DataW.lit (.string b) :: r) = b.length + 1 + Rows.uptoBulkAll r := by
  simp only [Rows.uptoBulkAll, Rows.uptoBulk]
theorem bulk_int {H : Type} (k : IntKind) (z : Int) (r : List (DataW H)) : Rows.uptoBulkAll (DataW.lit (.int k z) :: r) = 1 + Rows.uptoBulkAll r := by
  simp only [Rows.uptoBulkAll, Rows.uptoBulk]
theorem laidOut : laidOutB Tryz.prog = true := by kernel_rfl
theorem bulk_any {H : Type} (d : DataW H) (r : List (DataW H)) : Rows.uptoBulkAll (d :: r) = Rows.uptoBulk d + Rows.uptoBulkAll r := by
  simp only [Rows.uptoBulkAll]

section
variable {H : Type} {enc : TypeId × Value → H} {W : World}
theorem trod_float {t : TypeId} {k : FloatKind} {n : Nat} {cs : List Value} {x : DataW H × List MemPlace} {sp : Nat → Bool} {held : Bool} (ht : Tryz.prog.underlying t = some (.float k)) (h : DataW.trod enc Tryz.prog W 0 sp held n t cs = some x) : ∃ b, cs = [.float k b] ∧ (Lit.float k b).wf = true := by
  cases n with
  | zero => simp [DataW.trod] at h
  | succ n =>
    unfold DataW.trod at h
    rw [ht] at h
    split at h <;> simp_all

theorem cells_val : Tryz.prog.cellsOf 35 = 5 ∧ Tryz.prog.cellsOf 3 = 1 ∧ Tryz.prog.cellsOf 4 = 1 ∧ Tryz.prog.cellsOf 33 = 1 ∧ Tryz.prog.cellsOf 9 = 1 := ⟨by kernel_rfl, by kernel_rfl, by kernel_rfl, by kernel_rfl, by kernel_rfl⟩

set_option maxRecDepth 100000 in
theorem elem_val {n : Nat} {cs : List Value} {x : DataW H × List MemPlace} {sp : Nat → Bool} {held : Bool} (h : DataW.trod enc Tryz.prog W 0 sp held n 35 cs = some x) :
    ∃ v : Vl, cs = [.int .i64 v.k, .bool v.b, .float .f64 v.n, .string v.s, .int .i64 v.i] ∧ v.n < 18446744073709551616 := by
  obtain ⟨z0, z1, z2, z3, z4⟩ := cells_val
  obtain ⟨xs, m, _, _, hl, hx, hf⟩ := DataW.trod_struct Tryz.underlying35 h
  rw [z0] at hl
  match cs, hl with
  | [c0, c1, c2, c3, c4], _ =>
    have hxl : xs.length = 5 := hx
    match xs, hxl with
    | [y0, y1, y2, y3, y4], _ =>
      have g0 := hf 0 _ rfl
      have g1 := hf 1 _ rfl
      have g2 := hf 2 _ rfl
      have g3 := hf 3 _ rfl
      have g4 := hf 4 _ rfl
      simp [z1, z2, z3, z4] at g0 g1 g2 g3 g4
      obtain ⟨k, e0, _⟩ := DataW.trod_int Tryz.underlying3 g0
      obtain ⟨b, e1, _⟩ := DataW.trod_bool Tryz.underlying4 g1
      obtain ⟨f, e2, w2⟩ := trod_float Tryz.underlying33 g2
      obtain ⟨s, e3, _⟩ := DataW.trod_string Tryz.underlying9 g3
      obtain ⟨i, e4, _⟩ := DataW.trod_int Tryz.underlying3 g4
      refine ⟨⟨k, b, f, s, i⟩, ?_, ?_⟩
      · simp only [List.cons.injEq, and_true] at e0 e1 e2 e3 e4
        rw [e0, e1, e2, e3, e4]
      · simpa [Lit.wf, FloatKind.has] using w2


theorem cells_act : Tryz.prog.cellsOf 37 = 8 := by kernel_rfl
set_option maxRecDepth 100000 in
theorem elem_act {n : Nat} {cs : List Value} {x : DataW H × List MemPlace} {sp : Nat → Bool} {held : Bool} (h : DataW.trod enc Tryz.prog W 0 sp held n 37 cs = some x) :
    ∃ a : Ac, cs = (acC a.kd a.v.k a.v.b a.v.n a.v.s a.v.i a.S a.N).toList ∧ a.v.n < 18446744073709551616 := by
  obtain ⟨z0, z1, z2, z3, z4⟩ := cells_val
  obtain ⟨xs, m, _, _, hl, hx, hf⟩ := DataW.trod_struct Tryz.underlying37 h
  rw [cells_act] at hl
  match cs, hl with
  | [c0, c1, c2, c3, c4, c5, c6, c7], _ =>
    have hxl : xs.length = 4 := hx
    match xs, hxl with
    | [y0, y1, y2, y3], _ =>
      have g0 := hf 0 _ rfl
      have g1 := hf 1 _ rfl
      have g2 := hf 2 _ rfl
      have g3 := hf 3 _ rfl
      simp [z0, z1, z2, z3, z4] at g0 g1 g2 g3
      obtain ⟨kd, e0, _⟩ := DataW.trod_int Tryz.underlying3 g0
      obtain ⟨v, e1, w1⟩ := elem_val g1
      obtain ⟨S, e2, _⟩ := DataW.trod_string Tryz.underlying9 g2
      obtain ⟨N, e3, _⟩ := DataW.trod_int Tryz.underlying3 g3
      refine ⟨⟨kd, v, S, N⟩, ?_, w1⟩
      simp only [List.cons.injEq, and_true] at e0 e1 e2 e3
      obtain ⟨f1, f2, f3, f4, f5⟩ := e1
      rw [e0, f1, f2, f3, f4, f5, e2, e3]
      rfl

theorem open_acts {a : Option Addr} {len cap : Nat} {d : DataW H} {p : List MemPlace} (h : DataW.Trod enc Tryz.prog W 0 (fun _ => true) true 22 (.slice a len cap) d p) :
    ∃ L : List Ac, len = L.length ∧ ARow W a L ∧ ∀ x ∈ L, x.v.n < 18446744073709551616 := by
  obtain ⟨fuel, hf⟩ := h
  rcases Deep.open_slice Tryz.underlying22 hf with ⟨hcs, hx⟩ | ⟨x, l, c, m, n, D, Pl, hcs, hb, hl, hm, hmm, hx, hcell⟩
  · simp [Value.cells] at hcs
    obtain ⟨rfl, rfl, rfl⟩ := hcs
    exact ⟨[], rfl, fun h => absurd h (by simp), by simp⟩
  · simp [Value.cells] at hcs
    obtain ⟨rfl, rfl, rfl⟩ := hcs
    simp only [if_true] at hmm
    have each : ∀ i, i < len → ∃ v : Ac, (∀ (r : Nat) (u : Value), (acC v.kd v.v.k v.v.b v.v.n v.v.s v.v.i v.S v.N)[r]? = some u → W.cell? (x.add (i * 8 + r)) = some u) ∧ v.v.n < 18446744073709551616 := by
      intro i hi
      obtain ⟨cs', h1, h2⟩ := hcell i (by omega)
      rw [cells_act] at h1
      obtain ⟨v, rfl, hv⟩ := elem_act h2
      obtain ⟨_, _, hc⟩ := World.cells?_some h1
      refine ⟨v, fun r u hu => ?_, hv⟩
      have hr := (Array.getElem?_eq_some_iff.1 hu)
      obtain ⟨hr1, hr2⟩ := hr
      have q := hc r (by simpa [acC] using hr1)
      rw [Deep.add_add] at q
      rw [q]
      simpa using hu
    have : Inhabited Ac := ⟨⟨0, und, ⟨#[]⟩, 0⟩⟩
    obtain ⟨V, hV⟩ := Deep.choose_lt each
    refine ⟨(List.range len).map V, by simp, fun _ => ⟨x, rfl, fun j v hj => ?_⟩, fun v hv => ?_⟩
    · obtain ⟨hj1, hj2⟩ := List.getElem?_eq_some_iff.1 hj
      simp at hj1 hj2
      rw [← hj2]
      exact (hV j hj1).1
    · obtain ⟨j, hj, rfl⟩ := List.mem_map.1 hv
      exact (hV j (List.mem_range.1 hj)).2
end
end Go.Proofs.YtnknfffldgkgcaaGreatDoor.CC
