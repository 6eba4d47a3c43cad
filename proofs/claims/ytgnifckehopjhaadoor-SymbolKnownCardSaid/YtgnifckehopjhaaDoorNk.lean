import Derived.Test.YtgnifckehopjhaaDoorSymG
import Derived.Test.YtgnifckehopjhaaDoorNd
import Derived.Shelf.SlSortCmp.Whole1
import Derived.Sort.KeysCollected
import Derived.Sort.OwnSorted
import Derived.StringKeys
import Derived.Shelf.SlIter.Nil
import Derived.Test.YtgnifckehopjhaaDoorProg
import Derived.Shelf.SlSortCmp.NoneTotal
import Derived.RangeFuncNested
import Derived.RangeFuncBound
import Derived.RangeFuncCalls
import Derived.RangeFuncLeaves
import Derived.OwnWalkIn
import Derived.TacticsInMore
import Derived.LoopNIn
import Derived.LoopIn
set_option linter.all false
/- What a registry's map of known texts reads as; texts are compared by their units. -/
namespace Go.Proofs.YtgnifckehopjhaaDoor
open Go.RowKit Go.Maps Go.Sort Go.Proofs.YtgnifckehopjhaaDoorW.PrintWords
open Go.WideElems (Fit)
attribute [local go_sem] run_store_float

/-- A text that is valid and not too long. -/
abbrev Tx := {s : List UInt8 // (Pt.all ⟨s.toArray⟩).2 = true ∧ s.length ≤ 1048576}
theorem val_nil : (Pt.all ⟨#[]⟩).2 = true := by decide +kernel
instance : Inhabited Tx := ⟨⟨[], val_nil, by decide⟩⟩
def encT (x : Tx) : Value := encStr x.1
def uT (x : Tx) : List Int := Pt.us (Pt.all ⟨x.1.toArray⟩).1
def cfT (x y : Tx) : Int := Pt.cmpL (uT x) (uT y)

theorem known1_c (x y : Tx) (w : World) (HT : Tabs w) :
    Calls Tryd.prog 36 #[encT x, encT y] w fun e w' => e = .returned (.int .i64 (cfT x y)) ∧ Below w.heap.size w w' := by
  have h := Fact.mk (units_Compare.calls ⟨x.1.toArray⟩ ⟨y.1.toArray⟩ (cfT x y) 0 w ⟨HT⟩ (by
    have h1 := x.2.2
    have h2 := y.2.2
    unfold units_Compare.f
    rw [if_pos (by simp [ByteArray.size]; omega), if_pos x.2.1, if_pos y.2.1]
    rfl))
  unfold encT encStr
  clear HT
  go_enter Tryd.func36, Tryd.ntmps36
  go_wp2_with (go_at_call 37; refine h.out.mono ?_; rintro e w1 ⟨rfl, hb⟩)
  go_ret
  exact ⟨rfl, hb⟩

/-- The known texts, in the order in which they came, each with its symbol. -/
abbrev kS (x : ByteArray × Nat) : Value := .string x.1
abbrev kN (x : ByteArray × Nat) : Value := .int .i64 x.2
abbrev kE (x : ByteArray × Nat) : Value := .agg #[.string x.1]
def M1 (K : List (ByteArray × Nat)) : Obj := .map (ents kS kN K 0).toArray K.length
def M2 (K : List (ByteArray × Nat)) : Obj := .map (ents kN kE K 0).toArray K.length

theorem ents_map {α β : Type} (key val : α → Value) (f : MapEntry → β) (g : α → β) (h : ∀ x i, f { key := key x, val := val x, born := i } = g x) : ∀ (K : List α) (i : Nat), (ents key val K i).map f = K.map g
  | [], _ => rfl
  | x :: t, i => by simp only [ents, List.map_cons, h, ents_map key val f g h t]
theorem ents_born {α : Type} (key val : α → Value) : ∀ (K : List α) (i : Nat), (ents key val K i).map (·.born) = List.range' i K.length
  | [], _ => rfl
  | x :: t, i => by simp only [ents, List.map_cons, ents_born key val t, List.length_cons, List.range'_succ]
theorem ents_mem {α : Type} (key val : α → Value) : ∀ (K : List α) (i : Nat) (e : MapEntry), e ∈ ents key val K i → ∃ x ∈ K, e.key = key x ∧ e.val = val x ∧ i ≤ e.born ∧ e.born < i + K.length
  | [], _, e, h => by simp [ents] at h
  | x :: t, i, e, h => by
    simp only [ents, List.mem_cons] at h
    rcases h with rfl | h
    · exact ⟨x, by simp, rfl, rfl, Nat.le_refl _, by simp⟩
    · obtain ⟨y, hy, h1, h2, h3, h4⟩ := ents_mem key val t (i + 1) e h
      exact ⟨y, by simp [hy], h1, h2, by omega, by simp; omega⟩

/-- The texts are valid and not too long, and none comes twice; nor does a number. -/
structure Kn (K : List (ByteArray × Nat)) : Prop where
  val : ∀ x ∈ K, (Pt.all x.1).2 = true ∧ x.1.size ≤ 1048576
  txt : (K.map (·.1)).Nodup
  num : (K.map (·.2)).Nodup

theorem Kn.owns {K : List (ByteArray × Nat)} (hK : Kn K) (hl : K.length ≤ 1000000) {V : World} {b : Nat} (hV : V.heap[b]? = some (M1 K)) :
    ∃ D : DataW Unit, V.ownsMap Tryd.prog 9 (fun _ => some (.nil, [])) b K.length D ∧ (strKeys D).Perm (K.map fun x => x.1.data.toList) ∧ Maps.size D = K.length := by
  have hm : maxLen = 4611686018427387904 ∨ 1048576 ≤ maxLen := by right; decide
  have hm : 1048576 ≤ maxLen := by decide
  have hr : ∀ x ∈ K, ∀ i, WideElems.rd (H := Unit) Tryd.prog 9 (fun _ => some (.nil, [])) { key := kS x, val := kN x, born := i } = some (.string x.1.data.toList, .nil) := fun x hx i => by
    unfold WideElems.rd
    rw [show keyOf Tryd.prog 9 (kS x) = _ from Go.WideMaps.keyOf_string_mk Tryd.underlying9 (by have := (hK.val x hx).2; omega)]
    rfl
  refine ⟨_, ⟨_, _, hV, ⟨?_, ⟨?_, ?_, ?_⟩, ?_⟩, ?_, rfl⟩, ?_, ?_⟩
  · simp [ents_len]; omega
  · intro x hx
    obtain ⟨y, _, _, _, _, h⟩ := ents_mem _ _ _ _ _ (by simpa using hx)
    omega
  · simp only [ents_born]
    exact List.nodup_range'
  · simp only
    rw [ents_map kS kN (·.key) kS (fun _ _ => rfl)]
    have : K.map kS = (K.map (·.1)).map Value.string := by rw [List.map_map]; rfl
    rw [this]
    exact List.pairwise_map.2 (List.Pairwise.imp (fun h e => h (by simpa using e)) hK.txt)
  · intro x hx
    obtain ⟨y, hy, h1, h2, _, _⟩ := ents_mem _ _ _ _ _ (by simpa using hx)
    obtain ⟨k, v, i⟩ := x
    simp only at h1 h2
    subst h1 h2
    exact ⟨_, hr y hy i⟩
  · simp [ents_len]
  · refine ((WideShapes.sorted_perm _).map _).trans ?_
    rw [List.map_map]
    simp only
    refine List.Perm.of_eq ?_
    have : ∀ (L : List (ByteArray × Nat)) (i : Nat), (∀ x ∈ L, x ∈ K) → (ents kS kN L i).map ((fun p => strOf p.1) ∘ WideElems.rg (H := Unit) Tryd.prog 9 fun _ => some (.nil, [])) = L.map fun x => x.1.data.toList := by
      intro L
      induction L with
      | nil => intro i _; rfl
      | cons x t ih =>
        intro i h
        simp only [ents, List.map_cons, ih (i + 1) (fun y hy => h y (by simp [hy])), Function.comp]
        rw [show WideElems.rg (H := Unit) Tryd.prog 9 (fun _ => some (.nil, [])) { key := kS x, val := kN x, born := i } = (.string x.1.data.toList, .nil) by unfold WideElems.rg; rw [hr x (h x (by simp)) i]; rfl]
        rfl
    exact this K 0 (fun _ h => h)
  · rw [Maps.size_eq, (WideShapes.sorted_perm _).length_eq]
    simp [ents_len]
end Go.Proofs.YtgnifckehopjhaaDoor

/-
  DERIVED: THE SHELF's CONTRACTS AT THIS DUMP, IN PLAIN WORDS (tools/lay-plain.mjs out of 'TrydKnow.lean', which tools/lay-shelf.mjs wrote): THE SAME DECLARATIONS UNDER THE SAME NAMES: 'import', 'namespace', 'open', 'def', 'theorem' AND NOTHING ELSE: no command of the shelf's: FOR A HAND-IN. Each laying: the table of numbers ('.._ren') and one theorem, a field a fact of the dump's own or the kernel's comparison; each contract: ONE APPLICATION.
-/
namespace Go.Proofs
open Go.Shelf
def Tryd.keysA_ren : Go.Shelf.Ren := ⟨fun | 7 => 34 | 10 => 47 | n => n, fun | 23 => 37 | 26 => 9 | 3 => 3 | 28 => 83 | 0 => 0 | 27 => 82 | 33 => 75 | 4 => 4 | n => n, fun | n => n⟩
theorem Tryd.keysA : Go.Proofs.SlLaysZ.n7 Tryd.prog Tryd.keysA_ren := {
  mixed := by kernel_rfl
  f7 := ⟨Tryd.f34.name, by decide, Tryd.func34.trans (congrArg some (by kernel_rfl))⟩
  f10 := ⟨Tryd.f47.name, by decide, Tryd.func47.trans (congrArg some (by kernel_rfl))⟩
  t0 := Tryd.underlying0
  a0 := Tryd.isAgg0
  z0 := Tryd.sizeOf0
  v0 := Tryd.zeroValue0
  t4 := Tryd.underlying4
  a4 := Tryd.isAgg4
  z4 := Tryd.sizeOf4
  v4 := Tryd.zeroValue4
  t23 := Tryd.underlying37
  a23 := Tryd.isAgg37
  z23 := Tryd.sizeOf37
  v23 := Tryd.zeroValue37
  t26 := Tryd.underlying9
  a26 := Tryd.isAgg9
  z26 := Tryd.sizeOf9
  v26 := Tryd.zeroValue9
  t27 := Tryd.underlying82
  a27 := Tryd.isAgg82
  z27 := Tryd.sizeOf82
  v27 := Tryd.zeroValue82
  t28 := Tryd.underlying83
  a28 := Tryd.isAgg83
  z28 := Tryd.sizeOf83
  v28 := Tryd.zeroValue83
  t33 := Tryd.underlying75
  a33 := Tryd.isAgg75
  z33 := Tryd.sizeOf75
  v33 := Tryd.zeroValue75 }
def Tryd.collectA_ren : Go.Shelf.Ren := ⟨fun | 8 => 33 | 11 => 46 | n => n, fun | 26 => 9 | 28 => 83 | 24 => 33 | 0 => 0 | 33 => 75 | 4 => 4 | n => n, fun | n => n⟩
theorem Tryd.collectA : Go.Proofs.SlLaysZ.n8 Tryd.prog Tryd.collectA_ren := {
  mixed := by kernel_rfl
  f8 := ⟨Tryd.f33.name, by decide, Tryd.func33.trans (congrArg some (by kernel_rfl))⟩
  f11 := ⟨Tryd.f46.name, by decide, Tryd.func46.trans (congrArg some (by kernel_rfl))⟩
  t0 := Tryd.underlying0
  a0 := Tryd.isAgg0
  z0 := Tryd.sizeOf0
  v0 := Tryd.zeroValue0
  t24 := Tryd.underlying33
  a24 := Tryd.isAgg33
  z24 := Tryd.sizeOf33
  v24 := Tryd.zeroValue33
  t26 := Tryd.underlying9
  a26 := Tryd.isAgg9
  z26 := Tryd.sizeOf9
  v26 := Tryd.zeroValue9
  t28 := Tryd.underlying83
  a28 := Tryd.isAgg83
  z28 := Tryd.sizeOf83
  v28 := Tryd.zeroValue83
  i26 := by kernel_rfl }
end Go.Proofs

/-
  DERIVED: THE SHELF's CONTRACTS AT THIS DUMP, IN PLAIN WORDS (tools/lay-plain.mjs out of 'TrydSrtd.lean', which tools/lay-shelf.mjs wrote): THE SAME DECLARATIONS UNDER THE SAME NAMES: 'import', 'namespace', 'open', 'def', 'theorem' AND NOTHING ELSE: no command of the shelf's: FOR A HAND-IN. Each laying: the table of numbers ('.._ren') and one theorem, a field a fact of the dump's own or the kernel's comparison; each contract: ONE APPLICATION.
-/
namespace Go.Proofs
open Go.Shelf
def Tryd.sortA_ren : Go.Shelf.Ren := ⟨fun | 6 => 35 | 15 => 49 | 14 => 48 | 28 => 66 | 29 => 67 | 20 => 58 | 21 => 59 | 22 => 60 | 23 => 61 | 24 => 62 | 25 => 63 | 26 => 64 | 27 => 65 | 46 => 72 | 47 => 73 | 48 => 74 | 49 => 75 | 50 => 76 | 57 => 80 | n => n, fun | 22 => 33 | 24 => 9 | 25 => 87 | 3 => 3 | 39 => 103 | 0 => 0 | 53 => 124 | 55 => 79 | 4 => 4 | 46 => 118 | 45 => 117 | 50 => 48 | 5 => 5 | 9 => 9 | 66 => 136 | 70 => 140 | 76 => 144 | 77 => 110 | n => n, fun | n => n⟩
theorem Tryd.sortA : Go.Proofs.SlLaysF.n6 Tryd.prog Tryd.sortA_ren := {
  mixed := by kernel_rfl
  f6 := ⟨Tryd.f35.name, by decide, Tryd.func35.trans (congrArg some (by kernel_rfl))⟩
  f14 := ⟨Tryd.f48.name, by decide, Tryd.func48.trans (congrArg some (by kernel_rfl))⟩
  f15 := Tryd.func49.trans (congrArg some (by kernel_rfl))
  f20 := ⟨Tryd.f58.name, by decide, Tryd.func58.trans (congrArg some (by kernel_rfl))⟩
  f21 := ⟨Tryd.f59.name, by decide, Tryd.func59.trans (congrArg some (by kernel_rfl))⟩
  f22 := ⟨Tryd.f60.name, by decide, Tryd.func60.trans (congrArg some (by kernel_rfl))⟩
  f23 := ⟨Tryd.f61.name, by decide, Tryd.func61.trans (congrArg some (by kernel_rfl))⟩
  f24 := ⟨Tryd.f62.name, by decide, Tryd.func62.trans (congrArg some (by kernel_rfl))⟩
  f25 := ⟨Tryd.f63.name, by decide, Tryd.func63.trans (congrArg some (by kernel_rfl))⟩
  f26 := ⟨Tryd.f64.name, by decide, Tryd.func64.trans (congrArg some (by kernel_rfl))⟩
  f27 := ⟨Tryd.f65.name, by decide, Tryd.func65.trans (congrArg some (by kernel_rfl))⟩
  f28 := Tryd.func66.trans (congrArg some (by kernel_rfl))
  f29 := Tryd.func67.trans (congrArg some (by kernel_rfl))
  f46 := ⟨Tryd.f72.name, by decide, Tryd.func72.trans (congrArg some (by kernel_rfl))⟩
  f47 := Tryd.func73.trans (congrArg some (by kernel_rfl))
  f48 := Tryd.func74.trans (congrArg some (by kernel_rfl))
  f49 := ⟨Tryd.f75.name, by decide, Tryd.func75.trans (congrArg some (by kernel_rfl))⟩
  f50 := ⟨Tryd.f76.name, by decide, Tryd.func76.trans (congrArg some (by kernel_rfl))⟩
  f57 := ⟨Tryd.f80.name, by decide, Tryd.func80.trans (congrArg some (by kernel_rfl))⟩
  t0 := Tryd.underlying0
  a0 := Tryd.isAgg0
  z0 := Tryd.sizeOf0
  v0 := Tryd.zeroValue0
  t3 := Tryd.underlying3
  a3 := Tryd.isAgg3
  z3 := Tryd.sizeOf3
  v3 := Tryd.zeroValue3
  t4 := Tryd.underlying4
  a4 := Tryd.isAgg4
  z4 := Tryd.sizeOf4
  v4 := Tryd.zeroValue4
  t5 := Tryd.underlying5
  a5 := Tryd.isAgg5
  z5 := Tryd.sizeOf5
  v5 := Tryd.zeroValue5
  t9 := Tryd.underlying9
  a9 := Tryd.isAgg9
  z9 := Tryd.sizeOf9
  v9 := Tryd.zeroValue9
  t22 := Tryd.underlying33
  a22 := Tryd.isAgg33
  z22 := Tryd.sizeOf33
  v22 := Tryd.zeroValue33
  a24 := Tryd.isAgg9
  z24 := Tryd.sizeOf9
  t25 := Tryd.underlying87
  a25 := Tryd.isAgg87
  z25 := Tryd.sizeOf87
  v25 := Tryd.zeroValue87
  t39 := Tryd.underlying103
  a39 := Tryd.isAgg103
  z39 := Tryd.sizeOf103
  v39 := Tryd.zeroValue103
  t45 := Tryd.underlying117
  a45 := Tryd.isAgg117
  z45 := Tryd.sizeOf117
  v45 := Tryd.zeroValue117
  t46 := Tryd.underlying118
  a46 := Tryd.isAgg118
  z46 := Tryd.sizeOf118
  v46 := Tryd.zeroValue118
  t50 := Tryd.underlying48
  a50 := Tryd.isAgg48
  z50 := Tryd.sizeOf48
  v50 := Tryd.zeroValue48
  t53 := Tryd.underlying124
  a53 := Tryd.isAgg124
  z53 := Tryd.sizeOf124
  v53 := Tryd.zeroValue124
  t55 := Tryd.underlying79
  a55 := Tryd.isAgg79
  z55 := Tryd.sizeOf79
  v55 := Tryd.zeroValue79
  t66 := Tryd.underlying136
  a66 := Tryd.isAgg136
  z66 := Tryd.sizeOf136
  v66 := Tryd.zeroValue136
  t70 := Tryd.underlying140
  a70 := Tryd.isAgg140
  z70 := Tryd.sizeOf140
  v70 := Tryd.zeroValue140
  t76 := Tryd.underlying144
  a76 := Tryd.isAgg144
  z76 := Tryd.sizeOf144
  v76 := Tryd.zeroValue144
  t77 := Tryd.underlying110
  a77 := Tryd.isAgg110
  z77 := Tryd.sizeOf110
  v77 := Tryd.zeroValue110 }
end Go.Proofs

/- Known of a registry: the known texts in the order of their units. -/
namespace Go.Proofs.YtgnifckehopjhaaDoor
open Go.RowKit Go.Maps Go.Sort Go.Shelf Go.Proofs.YtgnifckehopjhaaDoorW.PrintWords

theorem holdsT {w : World} {g : Nat} (d : List Tx) (h : Holds encStr w g 0 (d.map Subtype.val).toArray) : Holds encT w g 0 d.toArray := by
  intro j hj
  have h := h j (by simpa using hj)
  have hj' : j < d.length := by simpa using hj
  rw [getElem!_pos _ j (by simpa using hj)] at h ⊢
  simpa [encT] using h
theorem sortWorldT (w : World) (g n : Nat) (d : List Tx) (os : Array Obj) : sortWorld encT w g 0 n d.toArray os = sortWorld encStr w g 0 n (d.map Subtype.val).toArray os := by
  unfold sortWorld putRow putCells
  congr 2
  funext c
  congr 1
  funext k x
  by_cases hk : k < d.length
  · have h1 : (0 ≤ k ∧ k < 0 + d.toArray.size) := by simp; omega
    have h2 : (0 ≤ k ∧ k < 0 + (d.map Subtype.val).toArray.size) := by simp; omega
    rw [if_pos h1, if_pos h2, getElem!_pos _ _ (by simp; omega), getElem!_pos _ _ (by simp; omega)]
    simp [encT]
  · have h1 : ¬ (0 ≤ k ∧ k < 0 + d.toArray.size) := by simp; omega
    have h2 : ¬ (0 ≤ k ∧ k < 0 + (d.map Subtype.val).toArray.size) := by simp; omega
    rw [if_neg h1, if_neg h2]

/-- slices.SortFunc at a row of known texts. -/
theorem sortK_c {B : Nat} {W : World} {v : Value} (d : List Tx) (hrow : W.ownsRow B 9 1 v d.length ((d.map Subtype.val).map encStr)) (hB : B ≤ W.heap.size) (HT : ∀ w', Below B W w' → Tabs w') (hl : d.length ≤ 1000000) :
    Calls Tryd.prog 35 #[v, .func (.func 36) #[] #[]] W fun e w' => e = .returned (.tuple #[]) ∧
      ∃ ts : List Tx, ts.Perm d ∧ ts.Pairwise (fun x y => ltOf cfT y x = false) ∧ w'.ownsRow B 9 1 v d.length ((ts.map Subtype.val).map encStr) ∧ Below B W w' := by
  rcases hrow.2 with ⟨rfl, hz⟩ | ⟨gb, cap, cur, rfl, hbase, hgb, r1, r2, r3, r4⟩
  · refine (AnyF.slices_SortFunc_none (ρ := Tryd.sortA_ren) { Tryd.sortA with } none 0 _ W).mono ?_
    rintro e w' ⟨rfl, rfl⟩
    exact ⟨rfl, d, List.Perm.refl _, by rw [List.eq_nil_of_length_eq_zero hz]; exact List.Pairwise.nil, hrow, Below.refl _ _⟩
  · have hH : Holds encT W gb 0 d.toArray := holdsT d (holds_of_block hgb (by simpa using r4))
    have hgl := ltH hgb
    have h := Any.slices_SortFunc Tryd.sortA encT (fun x => rfl) cfT (cmpL_swo uT) 36 #[] gb 0 cap d.toArray W (enters_of Tryd.func36 (by kernel_rfl) rfl)
      (fun m os dk hs x y => calls_grow (known1_c x y _ (HT _ (sortWorld_below encT W gb 0 m dk os hbase hB)))) hH hgl (by simp; omega)
    rw [show d.toArray.size = d.length by simp] at h
    refine h.mono ?_
    rintro e w' ⟨rfl, d', n, os, ⟨p1, _, p3⟩, hs, rfl⟩
    have hsz : d'.size = d.length := by simpa using p1
    refine ⟨rfl, d'.toList, ?_, ?_, ?_, ?_⟩
    · have e1 : d'.extract 0 d.length = d' := by rw [← hsz]; simp
      have e2 : d.toArray.extract 0 d.length = d.toArray := by simp
      rw [e1, e2] at p3
      simpa using p3
    · rw [List.pairwise_iff_getElem]
      intro i j hi hj hij
      have h := hs i j (Nat.zero_le _) hij (by simp at hj; omega)
      rw [getElem!_pos d' j (by simpa using hj), getElem!_pos d' i (by simpa using hi)] at h
      simpa using h
    · have e := sortWorldT W gb n d'.toList os
      simp only [Array.toArray_toList] at e
      rw [e]
      have hl' : ((d'.toList).map Subtype.val).length = (d.map Subtype.val).length := by simp [hsz]
      have := ownsRow_sorted (n := n) (os := os) hl' hbase hgb (by simpa using r1) r2 r3
      simpa [sortWorld] using this
    · exact sortWorld_below encT W gb 0 n d' os hbase hB

set_option maxRecDepth 100000 in
set_option maxHeartbeats 1000000 in
theorem knownK_c {B p cnt : Nat} {xs : List Value} {b1 b2 : Nat} {o2 : Obj} {K : List (ByteArray × Nat)} {W : World} (hR : Reg B p cnt xs b1 b2 (M1 K) o2 W) (hK : Kn K) (hl : K.length ≤ 1000000) (HT : Tabs W) :
    Calls Tryd.prog 19 #[.pointer (some ⟨p, 0, none⟩)] W fun e W' => ∃ (v : Value) (ts : List Tx), e = .returned v ∧
      (ts.map Subtype.val).Perm (K.map fun x => x.1.data.toList) ∧ ts.Pairwise (fun x y => ltOf cfT y x = false) ∧ W'.ownsRow W.heap.size 9 1 v K.length ((ts.map Subtype.val).map encStr) ∧ RowKit.Below W.heap.size W W' := by
  obtain ⟨c1, _, k1, _⟩ := hR.maps
  clear hR
  have hbl := ltH k1
  obtain ⟨D, hown, hperm, hsize⟩ := hK.owns hl ((Below.heap_alloc W (.cells #[.map (some b1)] 37) b1 hbl).trans k1)
  refine (callsIn_wide (n := 6)).1 ?_
  have hseq : SeqGives Fence.wide 3 Tryd.prog 47 #[.pointer (some ⟨W.heap.size, 0, none⟩)] encStr (fun ss => ss.Perm (strKeys D)) (Maps.size D) (W.alloc (.cells #[.map (some b1)] 37)) :=
    AnyZ.keys_gives (ρ := Tryd.keysA_ren) { Tryd.keysA with } Fence.wide _ trivial rfl (by omega) W.heap.size b1 K.length D _ (by simp) (by simp) hown
  have cK : ∀ mb W, CallsIn Fence.wide 5 Tryd.prog 34 #[.map mb] W fun e w' => e = .returned (.func (.func 47) #[] #[.pointer (some ⟨W.heap.size, 0, none⟩)]) ∧ w' = W.alloc (.cells #[.map mb] 37) := fun mb W => AnyZ.keys_in Tryd.keysA Fence.wide 5 trivial rfl mb W
  have cC := AnyZ.collect_in Tryd.collectA Fence.wide 5 trivial trivial rfl (by omega) 47 #[.pointer (some ⟨W.heap.size, 0, none⟩)] trivial (enters_of Tryd.func47 (by kernel_rfl) rfl) _ _ (show Maps.size D ≤ maxLen from by rw [hsize]; exact Nat.le_trans hl (by decide)) (show Maps.size D * 16 ≤ 140737488355328 from by rw [hsize]; omega) _ hseq
  change CallsIn _ _ Tryd.prog 33 _ _ _ at cC
  have hfK : Fence.wide.fn 34 := trivial
  have hfC : Fence.wide.fn 33 := trivial
  have hfS : Fence.wide.fn 35 := trivial
  have hso : Fact (∀ (ss : List (List UInt8)) (v : Value) (w' : World), ss.Perm (strKeys D) → w'.ownsRow (W.alloc (.cells #[.map (some b1)] 37)).heap.size 9 1 v ss.length (ss.map encStr) → Below (W.alloc (.cells #[.map (some b1)] 37)).heap.size (W.alloc (.cells #[.map (some b1)] 37)) w' →
      Calls Tryd.prog 35 #[v, .func (.func 36) #[] #[]] w' fun e w2 => e = .returned (.tuple #[]) ∧
        ∃ ts : List Tx, (ts.map Subtype.val).Perm (K.map fun x => x.1.data.toList) ∧ ts.Pairwise (fun x y => ltOf cfT y x = false) ∧ w2.ownsRow W.heap.size 9 1 v K.length ((ts.map Subtype.val).map encStr) ∧ RowKit.Below W.heap.size W w2) := by
    refine ⟨fun ss v w' hp hrow hb => ?_⟩
    have hp' := hp.trans hperm
    have hv : ∀ s ∈ ss, (Pt.all ⟨s.toArray⟩).2 = true ∧ s.length ≤ 1048576 := fun s hs => by
      obtain ⟨x, hx, rfl⟩ := List.mem_map.1 (hp'.mem_iff.1 hs)
      have := hK.val x hx
      exact ⟨this.1, this.2⟩
    obtain ⟨d, rfl⟩ : ∃ d : List Tx, ss = d.map Subtype.val := ⟨ss.attach.map fun x => ⟨x.1, hv x.1 x.2⟩, by simp [List.map_map]⟩
    have hlen : d.length = K.length := by simpa using hp'.length_eq
    have hb1 : RowKit.Below W.heap.size W w' := ((Below.refl _ W).alloc (Nat.le_refl _) _).trans (hb.mono (by simp))
    rw [show (d.map Subtype.val).length = d.length from List.length_map _] at hrow
    have hrow2 : w'.ownsRow W.heap.size 9 1 v d.length ((d.map Subtype.val).map encStr) := by
      refine ⟨hrow.1, ?_⟩
      rcases hrow.2 with h | ⟨gb, cap, cur, h1, h2, h3⟩
      · exact .inl h
      · exact .inr ⟨gb, cap, cur, h1, Nat.le_trans (by simp) h2, h3⟩
    have h := sortK_c d hrow2 hb1.size (fun w2 h2 => HT.below (hb1.trans h2)) (by omega)
    refine h.mono ?_
    rintro e w2 ⟨rfl, ts, hts, hso, hro, hb2⟩
    exact ⟨rfl, ts, (hts.map _).trans hp', hso, by rw [hlen] at hro; exact hro, hb1.trans hb2⟩
  have hcC := Fact.mk cC
  have hcK := Fact.mk cK
  clear hseq hown cC cK HT hK hperm
  refine callsIn_of_wp Tryd.func19 rfl trivial ?_ rfl
  simp only [Tryd.ntmps19, List.size_toArray, List.length_cons, List.length_nil, Nat.reduceAdd, Nat.reduceSub, Array.replicate_succ, Array.replicate_zero, List.push_toArray, List.append_toArray, List.nil_append, List.cons_append]
  gi_wp2_with (first
    | (gi_at_call 34; refine (hcK.out _ _).mono ?_; rintro e w' ⟨rfl, rfl⟩)
    | (gi_at_call 33; refine hcC.out.mono ?_; rintro e w' ⟨v, ss, rfl, hS, hrow, hnil, hb⟩; have hs := Fact.mk (hso.out ss v w' hS hrow hb); clear hrow hnil hS hso)
    | (gi_at_call 35; refine (callsIn_wide.2 hs.out).mono ?_; rintro e w2 ⟨rfl, hts⟩))
  go_ret
  obtain ⟨ts, h1, h2, h3, h4⟩ := hts
  exact ⟨v, ts, rfl, h1, h2, h3, h4⟩
end Go.Proofs.YtgnifckehopjhaaDoor

/- What a registry's calls leave as it is, besides what lay below: the maps of others. For of a bad text. -/
namespace Go.Proofs.YtgnifckehopjhaaDoor
open Go.RowKit Go.Proofs.YtgnifckehopjhaaDoorW.PrintWords
open Go.ChangeMaps (setBlock)
attribute [local go_sem] run_store_float

/-- Other maps than the registry's lie as they lay. -/
def KeepsM (b1 b2 : Nat) (W W' : World) : Prop := ∀ q es c, W.heap[q]? = some (.map es c) → q ≠ b1 → q ≠ b2 → W'.heap[q]? = some (.map es c)
theorem KeepsM.trans {b1 b2 : Nat} {W V U : World} (h : KeepsM b1 b2 W V) (k : KeepsM b1 b2 V U) : KeepsM b1 b2 W U := fun q es c e h1 h2 => k q es c (h q es c e h1 h2) h1 h2
theorem keepsM_of {b1 b2 : Nat} {W V : World} (h : Below W.heap.size W V) : KeepsM b1 b2 W V := fun q _ _ e _ _ => (h.block q (ltH e)).trans e
theorem keepsM_set1 (b1 b2 : Nat) (W : World) (o : Obj) : KeepsM b1 b2 W (setBlock W b1 o) := fun q _ _ e h1 _ => (setBlock_far W b1 q o h1).trans e
theorem keepsM_set2 (b1 b2 : Nat) (W : World) (o : Obj) : KeepsM b1 b2 W (setBlock W b2 o) := fun q _ _ e _ h2 => (setBlock_far W b2 q o h2).trans e
theorem grow_keepsM {B p cnt : Nat} {xs : List Value} {a : Option Addr} {cap : Nat} {t2 : TypeId} {m1 m2 : Value} {W V w1 : World} (b1 b2 : Nat)
    (hp : W.heap[p]? = some (.cells #[.slice a cnt cap, m1, m2] t2 (0, 0))) (ho : W.ownsRow B 44 5 (.slice a cnt cap) cnt xs)
    (hBV : Below W.heap.size W V) (hgrow : V.grownBy w1 (Value.slice a cnt cap).ownBlock) (v : Value) : KeepsM b1 b2 W (w1.setCell ⟨p, 0, none⟩ v) := by
  intro q es c e _ _
  have hq := ltH e
  have n := row_ne ho e (by simp)
  have e1 : q ≠ p := by rintro rfl; rw [hp] at e; cases e
  rw [Below.heap_setCell _ _ _ _ e1]
  exact ((hgrow.block q (by have := hBV.size; omega) n).trans (hBV.block q hq)).trans e

set_option maxRecDepth 100000 in
theorem addM_c {B p cnt : Nat} {xs : List Value} {b1 b2 : Nat} {o1 o2 : Obj} {W : World} (h : Reg B p cnt xs b1 b2 o1 o2 W) (hc : cnt < 65536) (k : Int) (b : Bool) (n : Nat) (s : ByteArray) (i : Int) :
    Calls Tryd.prog 29 #[.pointer (some ⟨p, 0, none⟩), VV k b n s i] W fun e W' => e = .returned (.tuple #[.int .i64 ((cnt : Int) + 1), .int .i64 0]) ∧ Reg B p (cnt + 1) (xs ++ [.int .i64 k, .bool b, .float .f64 n, .string s, .int .i64 i]) b1 b2 o1 o2 W' ∧ Below B W W' ∧ KeepsM b1 b2 W W' := by
  have hle := h.le
  obtain ⟨h1, h2, h3, h4, k1, k2, m1, m2, a, cap, hp, ho⟩ := h
  obtain ⟨i0, hi0, hz0, hz1, hz2⟩ := info_parts infoV
  have c0 := fun o => (show (W.alloc o).cell? ⟨p, 0, none⟩ = some (.slice a cnt cap) by rw [Lib.cell_of_heap (show (W.alloc o).heap[p]? = _ from by rw [Lib.alloc_old W o _ (ltH hp)]; exact hp)]; rfl)
  have d1 : ¬ (65536 : Int) ≤ (cnt : Int) := by omega
  have np := row_ne ho hp (by simp)
  have lp := ltH hp
  unfold VV at *
  go_enter Tryd.func29, Tryd.ntmps29
  go_wp2_with fail
  have c1 := fun o => (show (W.alloc o).frozen? ⟨p, 0, none⟩ = false from Lib.frozen_of_heap (show (W.alloc o).heap[p]? = _ from by rw [Lib.alloc_old W o _ (ltH hp)]; exact hp) 0)
  go_region_law ((refine step_append_lies _ (by rfl) _ _ _ (by rfl) B 44 i0 _ 5 48 Tryd.underlying34 hi0 hz0 hz1 hz2 rfl (by omega) (.slice a cnt cap) cnt xs (by rfl) (by first | exact ((ho.alloc _).alloc _) | exact ((ho.alloc _).drew).alloc _) ⟨W.heap.size + 1, 0, none⟩ 1 1 [.int .i64 k, .bool b, .float .f64 n, .string s, .int .i64 i] (by rfl) (by rfl) (World.news_of_block (cs := #[.int .i64 k, .bool b, .float .f64 n, .string s, .int .i64 i]) (t := 44) (fr := (0, 0)) (heap_alloc2_new W _ _)) (by simp [Value.oneCell']) (by omega) (by simp only [maxLen]; omega) (by omega) (by simp; omega) (W.heap.size + 2) (by simp) ?_; intro g cap' w1 hown1 hgrow hat hlt; have cp := (hgrow.cell_far ⟨p, 0, none⟩ (by simp; omega) np).trans (cp2 hp _ _); have fp := (hgrow.frozen_far ⟨p, 0, none⟩ (by simp; omega) np).trans (fp2 hp _ _)))
  all_goals
    have hKM := grow_keepsM b1 b2 hp ho (((((Below.refl W.heap.size W).alloc (Nat.le_refl _) _).alloc (by simp) _)).drew) hgrow (.slice (some ⟨g, 0, none⟩) (cnt + 1) cap')
    obtain ⟨hR, hB⟩ := reg_grow h1 h2 h3 h4 k1 k2 m1 m2 hp ho (((((Below.refl W.heap.size W).alloc (Nat.le_refl _) _).alloc (by simp) _)).drew) hgrow hown1
    have cn : (w1.setCell ⟨p, 0, none⟩ (.slice (some ⟨g, 0, none⟩) (cnt + 1) cap')).cell? ⟨p, 0, none⟩ = some (.slice (some ⟨g, 0, none⟩) (cnt + 1) cap') := by
      exact World.cell?_setCell_same' _ _ _ (by rw [cp]; rfl)
    generalize w1.setCell ⟨p, 0, none⟩ (.slice (some ⟨g, 0, none⟩) (cnt + 1) cap') = W2 at *
    clear hown1 hgrow hat hlt cp fp c0 c1
    go_wp2
    go_ret2
    exact ⟨by simp, hR, hB, hKM⟩
theorem makeM_c {B p cnt : Nat} {xs : List Value} {b1 b2 : Nat} {o1 o2 : Obj} {W : World} (hR : Reg B p cnt xs b1 b2 o1 o2 W) (hc : cnt < 65536) (k : Int) (b : Bool) (n : Nat) (s : ByteArray) (i : Int) (HT : Tabs W) (hG : gd k b n s i = true) (hk : k = 1 ∨ k = 5) :
    Calls Tryd.prog 12 #[.pointer (some ⟨p, 0, none⟩), VV k b n s i] W fun e W' => e = .returned (.tuple #[.int .i64 ((cnt : Int) + 1), .int .i64 0]) ∧ Reg B p (cnt + 1) (xs ++ [.int .i64 k, .bool b, .float .f64 n, .string s, .int .i64 i]) b1 b2 o1 o2 W' ∧ Below B W W' ∧ KeepsM b1 b2 W W' := by
  have hg := Fact.mk (fun w' (h : Below W.heap.size W w') => check_c k b n s i w' (HT.below h))
  have ha := Fact.mk (fun w' (h : Below W.heap.size W w') => addM_c (hR.keep h) hc k b n s i)
  have hle := hR.le
  rw [hG] at hg
  have d1 : (k != 1 && k != 5) = false := by rcases hk with rfl | rfl <;> rfl
  clear HT hG hR
  simp only [if_true] at hg
  unfold VV at *
  rcases hk with rfl | rfl
  all_goals
    clear d1
    go_enter Tryd.func12, Tryd.ntmps12
    go_wp2_with (first | (go_at_call 28; refine (hg.out _ ((Below.refl _ _).alloc (Nat.le_refl _) _)).mono ?_; rintro e w1 ⟨rfl, hb⟩; obtain ⟨c0, c1, c2, c3, c4⟩ := cells5' hb; have hb1 := below1 hb) | (go_at_call 29; refine (ha.out _ hb1).mono ?_; rintro e w2 ⟨rfl, hR2, hb2, hk2⟩))
    go_ret2
    exact ⟨rfl, hR2, (hb1.mono hle).trans hb2, (keepsM_of hb1).trans hk2⟩

set_option maxRecDepth 100000 in
theorem forBad_c {p : Nat} {W : World} (HT : Tabs W) (s : ByteArray) (hv : ¬ (s.size : Int) ≤ 1048576 ∨ (Pt.all s).2 = false) :
    Calls Tryd.prog 14 #[.pointer (some ⟨p, 0, none⟩), .string s] W fun e W' => e = .returned (.tuple #[.int .i64 0, .int .i64 5]) ∧ Below W.heap.size W W' := by
  by_cases hz : (1048576 : Int) < (s.size : Int)
  · go_enter Tryd.func14, Tryd.ntmps14
    go_wp2
    go_ret2
    exact ⟨rfl, Below.refl _ _⟩
  · have hv' : (Pt.all s).2 = false := by
      rcases hv with h | h
      · omega
      · exact h
    have hV := Fact.mk (show units_Valid.f s = some false by unfold units_Valid.f; rw [if_pos (by omega), hv'])
    have HT' := Fact.mk HT
    clear hv hv' HT
    go_enter Tryd.func14, Tryd.ntmps14
    go_wp2_with (go_at_call 30; refine (units_Valid.calls s _ _ ⟨HT'.out⟩ hV.out).mono ?_; rintro e w1 ⟨rfl, hb⟩)
    go_ret2
    exact ⟨rfl, hb⟩
set_option maxRecDepth 100000 in
theorem forNewM_c {B p cnt : Nat} {xs : List Value} {b1 b2 : Nat} {o1 o2 o1' o2' : Obj} {W : World} (hR : Reg B p cnt xs b1 b2 o1 o2 W) (hc : cnt < 65536) (HT : Tabs W) (s : ByteArray) (hs : (s.size : Int) ≤ 1048576) (hv : (Pt.all s).2 = true)
    (m1' : ∃ es c, o1' = .map es c) (m2' : ∃ es c, o2' = .map es c)
    (hl : ∀ W', W'.heap[b1]? = some o1 → (Instr.lookup 37 (.map (some b1)) (.string s) true).run Tryd.prog W' = .ok (.tuple #[.int .i64 0, .bool false]) W')
    (hu1 : ∀ W', W'.heap[b1]? = some o1 → (Instr.mapUpdate 37 (.map (some b1)) (.string s) (.int .i64 ((cnt : Int) + 1))).run Tryd.prog W' = .ok () (setBlock W' b1 o1'))
    (hu2 : ∀ W', W'.heap[b2]? = some o2 → (Instr.mapUpdate 70 (.map (some b2)) (.int .i64 ((cnt : Int) + 1)) (.agg #[.string s])).run Tryd.prog W' = .ok () (setBlock W' b2 o2')) :
    Calls Tryd.prog 14 #[.pointer (some ⟨p, 0, none⟩), .string s] W fun e W' => e = .returned (.tuple #[.int .i64 ((cnt : Int) + 1), .int .i64 0]) ∧ Reg B p (cnt + 1) (xs ++ [.int .i64 5, .bool false, .float .f64 0, .string s, .int .i64 0]) b1 b2 o1' o2' W' ∧ Below B W W' ∧ KeepsM b1 b2 W W' := by
  have hV := Fact.mk (show units_Valid.f s = some true by unfold units_Valid.f; rw [if_pos (by omega), hv])
  have hgd : gd 5 false 0 s 0 = true := by simp [gd, hv, hs]
  have hle := hR.le
  have hM := Fact.mk (fun w' (h : Below W.heap.size W w') => mkStr_c s w' (HT.below h))
  simp only [hgd, if_true] at hM
  have ha := Fact.mk (fun w' (h : Below W.heap.size W w') => addM_c (hR.keep h) hc 5 false 0 s 0)
  have HT' := Fact.mk HT
  have hR' := Fact.mk hR
  have hl' := Fact.mk hl
  have hu1' := Fact.mk hu1
  have hu2' := Fact.mk hu2
  have mm1 := Fact.mk m1'
  have mm2 := Fact.mk m2'
  clear hv HT hR hl hgd hu1 hu2 m1' m2'
  unfold VV at *
  go_enter Tryd.func14, Tryd.ntmps14
  go_wp2_with (first | (go_at_call 30; refine (units_Valid.calls s _ _ ⟨HT'.out⟩ hV.out).mono ?_; rintro e w1 ⟨rfl, hb⟩; obtain ⟨c1, c2, k1, k2⟩ := (hR'.out.keep hb).maps; have q := hl'.out w1 k1) | (go_at_call 27; refine (hM.out _ hb).mono ?_; rintro e w2 ⟨rfl, hb2⟩; have hb3 := hb.trans (hb2.mono hb.size)) | (go_at_call 29; refine (ha.out _ hb3).mono ?_; rintro e w3 ⟨rfl, hR3, hb4, hk4⟩; obtain ⟨P1, P2, B1, B2⟩ := hR3.put mm1.out mm2.out; obtain ⟨Q1, Q2, B3, B4⟩ := P1.put mm1.out mm2.out; have d1 := hR3.maps; have q1 := hu1'.out w3 d1.2.2.1; have d2 := P1.maps; have q2 := hu2'.out _ d2.2.2.2; have c3 := d1.1; have c4 := d2.2.1))
  go_ret2
  exact ⟨rfl, Q2, (((hb3.mono hle).trans hb4).trans B1).trans B4, (((keepsM_of hb3).trans hk4).trans (keepsM_set1 _ _ _ _)).trans (keepsM_set2 _ _ _ _)⟩
end Go.Proofs.YtgnifckehopjhaaDoor

/- A registry, with the two maps of the law SymbolKnown beside it. -/
namespace Go.Proofs.YtgnifckehopjhaaDoor
open Go.RowKit Go.Proofs.YtgnifckehopjhaaDoorW.PrintWords
open Go.ChangeMaps (setBlock)
open Go.MapKept
attribute [local go_sem] run_store_float

abbrev kO (_ : ByteArray × Nat) : Value := .int .i64 1
def M3 (K : List (ByteArray × Nat)) : Obj := .map (ents kN kO K 0).toArray K.length

instance : LawfulBEq ByteArray where
  eq_of_beq {a b} h := by
    cases a; cases b
    exact congrArg ByteArray.mk (eq_of_beq (α := Array UInt8) h)
  rfl {a} := by
    cases a
    exact beq_self_eq_true (α := Array UInt8) _
theorem uniq {α β : Type} (f : α → β) : ∀ {K : List α} {x y : α}, (K.map f).Nodup → x ∈ K → y ∈ K → f x = f y → x = y
  | [], _, _, _, h, _, _ => by simp at h
  | z :: t, x, y, hn, hx, hy, e => by
    simp only [List.map_cons, List.nodup_cons] at hn
    rcases List.mem_cons.1 hx with rfl | hx1
    · rcases List.mem_cons.1 hy with rfl | hy1
      · rfl
      · exact absurd (by rw [e]; exact List.mem_map_of_mem hy1) hn.1
    · rcases List.mem_cons.1 hy with rfl | hy1
      · exact absurd (by rw [← e]; exact List.mem_map_of_mem hx1) hn.1
      · exact uniq f hn.2 hx1 hy1 e
theorem pos_hit {α β : Type} [BEq β] [LawfulBEq β] (f : α → β) {K : List α} {x : α} (hn : (K.map f).Nodup) (hx : x ∈ K) : ∃ q, posBy (fun y => f x == f y) K = some (q, x) ∧ K[q]? = some x := by
  cases h : posBy (fun y => f x == f y) K with
  | none => exact absurd (posBy_none h x hx) (by simp)
  | some r =>
    obtain ⟨q, y⟩ := r
    obtain ⟨h1, h2⟩ := posBy_some h
    have hy : y ∈ K := List.mem_of_getElem? h1
    have := uniq f hn hx hy (by simpa using h2)
    subst this
    exact ⟨q, rfl, h1⟩
theorem find_txt (K : List (ByteArray × Nat)) (s : ByteArray) : Instr.findNow .string (.string s) (ents kS kN K 0) 0 = some ((posBy (fun x => s == x.1) K).map fun q => (0 + q.1, kN q.2)) :=
  find_ents .string (.string s) kS kN (fun x => s == x.1) K 0 0 (fun _ _ => rfl)
theorem find_num (val : ByteArray × Nat → Value) (K : List (ByteArray × Nat)) (n : Nat) : Instr.findNow (.int .i64) (.int .i64 (n : Int)) (ents kN val K 0) 0 = some ((posBy (fun x => n == x.2) K).map fun q => (0 + q.1, val q.2)) :=
  find_ents (.int .i64) (.int .i64 (n : Int)) kN val (fun x => n == x.2) K 0 0 (fun x _ => by
    simp only [Instr.sameNow, if_true, Option.some.injEq]
    by_cases h : n = x.2
    · subst h; simp
    · have : ¬ (n : Int) = (x.2 : Int) := by omega
      rw [beq_eq_false_iff_ne.2 h, beq_eq_false_iff_ne.2 this])

section
variable {K : List (ByteArray × Nat)} {x : ByteArray × Nat} {W : World} {b : Nat}
theorem lookT_hit (hK : Kn K) (hx : x ∈ K) (hb : W.heap[b]? = some (M1 K)) : (Instr.lookup 37 (.map (some b)) (.string x.1) true).run Tryd.prog W = .ok (.tuple #[.int .i64 x.2, .bool true]) W := by
  obtain ⟨q, h1, h2⟩ := pos_hit (·.1) hK.txt hx
  exact lookM u66 Tryd.underlying9 (isKS _) hb (by rw [find_txt, h1]; rfl)
theorem lookT_new {s : ByteArray} (hs : ∀ x ∈ K, x.1 ≠ s) (hb : W.heap[b]? = some (M1 K)) : (Instr.lookup 37 (.map (some b)) (.string s) true).run Tryd.prog W = .ok (.tuple #[.int .i64 0, .bool false]) W :=
  lookN u66 Tryd.underlying9 (isKS _) hb (by rw [find_txt, posBy_none' (fun x hx => by simpa using Ne.symm (hs x hx))]; rfl) (zInt W)
theorem updT_hit (hK : Kn K) (hx : x ∈ K) (hb : W.heap[b]? = some (M1 K)) : (Instr.mapUpdate 37 (.map (some b)) (.string x.1) (.int .i64 x.2)).run Tryd.prog W = .ok () (setBlock W b (M1 K)) := by
  obtain ⟨q, h1, h2⟩ := pos_hit (·.1) hK.txt hx
  have hf : Instr.findNow .string (.string x.1) (ents kS kN K 0).toArray.toList 0 = some (some (q, kN x)) := by
    show Instr.findNow _ _ (ents kS kN K 0) 0 = _
    rw [find_txt, h1]
    simp
  exact (updM (P := Tryd.prog) (val := kN x) u66 Tryd.underlying9 (isKS _) hb hf (by simp [ents_at kS kN K 0 q x h2, Instr.sameBits])).trans (congrArg (fun E => Result.ok () (setBlock W b (.map E K.length))) (modify_same kS kN K q x h2))
theorem updT_new {s : ByteArray} (n : Nat) (hs : ∀ x ∈ K, x.1 ≠ s) (hb : W.heap[b]? = some (M1 K)) : (Instr.mapUpdate 37 (.map (some b)) (.string s) (.int .i64 n)).run Tryd.prog W = .ok () (setBlock W b (M1 (K ++ [(s, n)]))) := by
  rw [updN (val := .int .i64 n) u66 Tryd.underlying9 (isKS _) hb (by rw [find_txt, posBy_none' (fun x hx => by simpa using Ne.symm (hs x hx))]; rfl)]
  unfold M1
  rw [ents_snoc]
  simp
theorem lookE_hit (hK : Kn K) (hx : x ∈ K) (hb : W.heap[b]? = some (M2 K)) : (Instr.lookup 70 (.map (some b)) (.int .i64 x.2) true).run Tryd.prog W = .ok (.tuple #[.agg #[.string x.1], .bool true]) W := by
  obtain ⟨q, h1, h2⟩ := pos_hit (·.2) hK.num hx
  exact lookM u67 Tryd.underlying3 (isKI _) hb (by rw [find_num, h1]; rfl)
theorem lookE_new {n : Nat} (hn : ∀ x ∈ K, x.2 ≠ n) (hb : W.heap[b]? = some (M2 K)) : (Instr.lookup 70 (.map (some b)) (.int .i64 n) true).run Tryd.prog W = .ok (.tuple #[.agg #[.string ⟨#[]⟩], .bool false]) W :=
  lookN u67 Tryd.underlying3 (isKI _) hb (by rw [find_num, posBy_none' (fun x hx => by simpa using Ne.symm (hn x hx))]; rfl) (zEntry W)
theorem updE_new {n : Nat} (s : ByteArray) (hn : ∀ x ∈ K, x.2 ≠ n) (hb : W.heap[b]? = some (M2 K)) : (Instr.mapUpdate 70 (.map (some b)) (.int .i64 n) (.agg #[.string s])).run Tryd.prog W = .ok () (setBlock W b (M2 (K ++ [(s, n)]))) := by
  rw [updN (val := .agg #[.string s]) u67 Tryd.underlying3 (isKI _) hb (by rw [find_num, posBy_none' (fun x hx => by simpa using Ne.symm (hn x hx))]; rfl)]
  unfold M2
  rw [ents_snoc]
  simp
theorem u38 : Tryd.prog.underlying 38 = some (.map 3 3) := Tryd.underlying38
theorem lookO_new {n : Nat} (hn : ∀ x ∈ K, x.2 ≠ n) (hb : W.heap[b]? = some (M3 K)) : (Instr.lookup 38 (.map (some b)) (.int .i64 n) false).run Tryd.prog W = .ok (.int .i64 0) W :=
  lookZ u38 Tryd.underlying3 (isKI _) hb (by rw [find_num, posBy_none' (fun x hx => by simpa using Ne.symm (hn x hx))]; rfl) (zInt W)
theorem updO_hit (hK : Kn K) (hx : x ∈ K) (hb : W.heap[b]? = some (M3 K)) : (Instr.mapUpdate 38 (.map (some b)) (.int .i64 x.2) (.int .i64 1)).run Tryd.prog W = .ok () (setBlock W b (M3 K)) := by
  obtain ⟨q, h1, h2⟩ := pos_hit (·.2) hK.num hx
  have hf : Instr.findNow (.int .i64) (.int .i64 x.2) (ents kN kO K 0).toArray.toList 0 = some (some (q, kO x)) := by
    show Instr.findNow _ _ (ents kN kO K 0) 0 = _
    rw [find_num, h1]
    simp
  exact (updM (P := Tryd.prog) (val := kO x) u38 Tryd.underlying3 (isKI _) hb hf (by simp [ents_at kN kO K 0 q x h2, Instr.sameBits])).trans (congrArg (fun E => Result.ok () (setBlock W b (.map E K.length))) (modify_same kN kO K q x h2))
theorem updO_new {n : Nat} (s : ByteArray) (hn : ∀ x ∈ K, x.2 ≠ n) (hb : W.heap[b]? = some (M3 K)) : (Instr.mapUpdate 38 (.map (some b)) (.int .i64 n) (.int .i64 1)).run Tryd.prog W = .ok () (setBlock W b (M3 (K ++ [(s, n)]))) := by
  rw [updN (val := .int .i64 1) u38 Tryd.underlying3 (isKI _) hb (by rw [find_num, posBy_none' (fun x hx => by simpa using Ne.symm (hn x hx))]; rfl)]
  unfold M3
  rw [ents_snoc]
  simp
end
end Go.Proofs.YtgnifckehopjhaaDoor

/- A registry with the law's two maps beside it: what its calls answer, and what they leave. -/
namespace Go.Proofs.YtgnifckehopjhaaDoor
open Go.RowKit Go.Proofs.YtgnifckehopjhaaDoorW.PrintWords
open Go.ChangeMaps (setBlock)
open Go.MapKept
attribute [local go_sem] run_store_float

/-- The cells of the symbols that texts are known by. -/
def Lk (K : List (ByteArray × Nat)) (cnt : Nat) (xs : List Value) : Prop :=
  ∀ x ∈ K, ∃ j, x.2 = j + 1 ∧ j < cnt ∧ xs[j * 5]? = some (.int .i64 5) ∧ xs[j * 5 + 1]? = some (.bool false) ∧ xs[j * 5 + 2]? = some (.float .f64 0) ∧ xs[j * 5 + 3]? = some (.string x.1) ∧ xs[j * 5 + 4]? = some (.int .i64 0)
theorem Lk.more {K : List (ByteArray × Nat)} {cnt : Nat} {xs : List Value} (h : Lk K cnt xs) (ys : List Value) (hl : xs.length = cnt * 5) : Lk K (cnt + 1) (xs ++ ys) := fun x hx => by
  obtain ⟨j, h0, h1, c0, c1, c2, c3, c4⟩ := h x hx
  refine ⟨j, h0, by omega, ?_, ?_, ?_, ?_, ?_⟩ <;> rw [List.getElem?_append_left (by omega)] <;> assumption
theorem Lk.snoc {K : List (ByteArray × Nat)} {cnt : Nat} {xs : List Value} (h : Lk K cnt xs) (s : ByteArray) (hl : xs.length = cnt * 5) : Lk (K ++ [(s, cnt + 1)]) (cnt + 1) (xs ++ [.int .i64 5, .bool false, .float .f64 0, .string s, .int .i64 0]) := fun x hx => by
  rcases List.mem_append.1 hx with hx | hx
  · exact h.more _ hl x hx
  · obtain rfl : x = (s, cnt + 1) := by simpa using hx
    refine ⟨cnt, rfl, by omega, ?_, ?_, ?_, ?_, ?_⟩
    · have := getR xs cnt 0 [.int .i64 5, .bool false, .float .f64 0, .string s, .int .i64 0] hl
      simpa using this
    · exact getR xs cnt 1 _ hl
    · exact getR xs cnt 2 _ hl
    · exact getR xs cnt 3 _ hl
    · exact getR xs cnt 4 _ hl
theorem Lk.fresh {K : List (ByteArray × Nat)} {cnt : Nat} {xs : List Value} (h : Lk K cnt xs) : ∀ x ∈ K, x.2 ≠ cnt + 1 := fun x hx => by
  obtain ⟨j, h0, h1, _⟩ := h x hx
  omega
theorem Kn.snoc {K : List (ByteArray × Nat)} (h : Kn K) {s : ByteArray} {n : Nat} (hv : (Pt.all s).2 = true) (hs : s.size ≤ 1048576) (ht : ∀ x ∈ K, x.1 ≠ s) (hn : ∀ x ∈ K, x.2 ≠ n) : Kn (K ++ [(s, n)]) := by
  refine ⟨fun x hx => ?_, ?_, ?_⟩
  · rcases List.mem_append.1 hx with hx | hx
    · exact h.val x hx
    · obtain rfl : x = (s, n) := by simpa using hx
      exact ⟨hv, hs⟩
  · rw [List.map_append, List.nodup_append]
    refine ⟨h.txt, by simp, fun a ha b hb => ?_⟩
    obtain ⟨x, hx, rfl⟩ := List.mem_map.1 ha
    obtain rfl : b = s := by simpa using hb
    exact ht x hx
  · rw [List.map_append, List.nodup_append]
    refine ⟨h.num, by simp, fun a ha b hb => ?_⟩
    obtain ⟨x, hx, rfl⟩ := List.mem_map.1 ha
    obtain rfl : b = n := by simpa using hb
    exact hn x hx

/-- A registry that knows the texts K, and two maps beside it, of the texts L. -/
structure St (B p b1 b2 f g cnt : Nat) (xs : List Value) (K L : List (ByteArray × Nat)) (W : World) : Prop where
  reg : Reg B p cnt xs b1 b2 (M1 K) (M2 K) W
  ne : f ≠ b1 ∧ f ≠ b2 ∧ g ≠ b1 ∧ g ≠ b2 ∧ f ≠ g ∧ B ≤ f ∧ B ≤ g
  hf : W.heap[f]? = some (M1 L)
  hg : W.heap[g]? = some (M3 L)
  kn : Kn K
  lk : Lk K cnt xs

section
variable {B p b1 b2 f g cnt : Nat} {xs : List Value} {K L : List (ByteArray × Nat)} {W W' : World}
theorem St.keep (h : St B p b1 b2 f g cnt xs K L W) (hb : Below W.heap.size W W') : St B p b1 b2 f g cnt xs K L W' :=
  ⟨h.reg.keep hb, h.ne, keepA h.hf hb, keepA h.hg hb, h.kn, h.lk⟩
theorem St.moved {cnt' : Nat} {xs' : List Value} {K' : List (ByteArray × Nat)} (h : St B p b1 b2 f g cnt xs K L W) (hr : Reg B p cnt' xs' b1 b2 (M1 K') (M2 K') W') (hk : KeepsM b1 b2 W W') (hn : Kn K') (hl : Lk K' cnt' xs') : St B p b1 b2 f g cnt' xs' K' L W' :=
  ⟨hr, h.ne, hk f _ _ h.hf h.ne.1 h.ne.2.1, hk g _ _ h.hg h.ne.2.2.1 h.ne.2.2.2.1, hn, hl⟩

theorem St.makeA (h : St B p b1 b2 f g cnt xs K L W) (hc : cnt < 65536) (HT : Tabs W) (k : Int) (b : Bool) (n : Nat) (s : ByteArray) (i : Int) :
    Calls Tryd.prog 12 #[.pointer (some ⟨p, 0, none⟩), VV k b n s i] W fun e W' => ∃ (r1 r2 : Int) (cnt' : Nat) (xs' : List Value), e = .returned (.tuple #[.int .i64 r1, .int .i64 r2]) ∧ St B p b1 b2 f g cnt' xs' K L W' ∧ Below B W W' ∧ cnt ≤ cnt' ∧ cnt' ≤ cnt + 1 := by
  by_cases hok : gd k b n s i = true ∧ (k = 1 ∨ k = 5)
  · refine (makeM_c h.reg hc k b n s i HT hok.1 hok.2).mono ?_
    rintro e W' ⟨rfl, hr, hb, hk⟩
    exact ⟨_, _, cnt + 1, _, rfl, h.moved hr hk h.kn (h.lk.more _ h.reg.len), hb, by omega, Nat.le_refl _⟩
  · refine (makeNot_c (B := 0) (p := p) (cnt := 0) (xs := []) (b1 := 0) (b2 := 0) (o1 := .map #[] 0) (o2 := .map #[] 0) k b n s i HT (by
      cases hg : gd k b n s i with
      | false => exact .inl rfl
      | true => right; exact ⟨fun h => hok ⟨hg, .inl h⟩, fun h => hok ⟨hg, .inr h⟩⟩)).mono ?_
    rintro e W' ⟨rfl, hb⟩
    exact ⟨_, _, cnt, xs, rfl, h.keep hb, hb.mono h.reg.le, by omega, by omega⟩

theorem St.forHit (h : St B p b1 b2 f g cnt xs K L W) (HT : Tabs W) {x : ByteArray × Nat} (hx : x ∈ K) :
    Calls Tryd.prog 14 #[.pointer (some ⟨p, 0, none⟩), .string x.1] W fun e W' => e = .returned (.tuple #[.int .i64 x.2, .int .i64 0]) ∧ Below W.heap.size W W' := by
  have hv := h.kn.val x hx
  exact forHit_c h.reg HT x.1 (by have := hv.2; omega) hv.1 x.2 (fun W' hb => lookT_hit h.kn hx hb)

theorem St.forNew (h : St B p b1 b2 f g cnt xs K L W) (hc : cnt < 65536) (HT : Tabs W) (s : ByteArray) (hs : s.size ≤ 1048576) (hv : (Pt.all s).2 = true) (hn : ∀ x ∈ K, x.1 ≠ s) :
    Calls Tryd.prog 14 #[.pointer (some ⟨p, 0, none⟩), .string s] W fun e W' => e = .returned (.tuple #[.int .i64 ((cnt + 1 : Nat) : Int), .int .i64 0]) ∧ St B p b1 b2 f g (cnt + 1) (xs ++ [.int .i64 5, .bool false, .float .f64 0, .string s, .int .i64 0]) (K ++ [(s, cnt + 1)]) L W' ∧ Below B W W' := by
  refine (forNewM_c h.reg hc HT s (by omega) hv ⟨_, _, rfl⟩ ⟨_, _, rfl⟩ (fun W' hb => lookT_new hn hb) (fun W' hb => updT_new (cnt + 1) hn hb) (fun W' hb => updE_new s h.lk.fresh hb)).mono ?_
  rintro e W' ⟨rfl, hr, hb, hk⟩
  exact ⟨rfl, h.moved hr hk (h.kn.snoc hv hs hn h.lk.fresh) (h.lk.snoc s h.reg.len), hb⟩

theorem St.keyA (h : St B p b1 b2 f g cnt xs K L W) {x : ByteArray × Nat} (hx : x ∈ K) :
    Calls Tryd.prog 16 #[.pointer (some ⟨p, 0, none⟩), .int .i64 x.2] W fun e W' => e = .returned (.tuple #[.string x.1, .bool true, .int .i64 0]) ∧ Below W.heap.size W W' := by
  obtain ⟨j, h0, h1, _⟩ := h.lk x hx
  exact keyFor_c h.reg x.2 (by omega) (by omega) x.1 true (lookE_hit h.kn hx h.reg.maps.2.2.2)
theorem St.descA (h : St B p b1 b2 f g cnt xs K L W) (hc : cnt ≤ 65536) {x : ByteArray × Nat} (hx : x ∈ K) :
    Calls Tryd.prog 17 #[.pointer (some ⟨p, 0, none⟩), .int .i64 x.2] W fun e W' => e = .returned (.tuple #[VV 5 false 0 x.1 0, .int .i64 0]) ∧ Below W.heap.size W W' := by
  obtain ⟨j, h0, h1, c0, c1, c2, c3, c4⟩ := h.lk x hx
  rw [h0]
  exact desc_c h.reg hc j h1 c0 c1 c2 c3 c4

/-- A map beside the registry is written. -/
theorem Reg.side (h : Reg B p cnt xs b1 b2 (M1 K) (M2 K) W) {q : Nat} {es : Array MapEntry} {c : Nat} (hq : W.heap[q]? = some (.map es c)) (n1 : q ≠ b1) (n2 : q ≠ b2) (o : Obj) : Reg B p cnt xs b1 b2 (M1 K) (M2 K) (setBlock W q o) := by
  obtain ⟨h1, h2, h3, h4, k1, k2, m1, m2, a, cap, hp, ho⟩ := h
  have n := row_ne ho hq (by simp)
  have e1 : p ≠ q := by rintro rfl; rw [hp] at hq; cases hq
  exact ⟨h1, h2, h3, h4, (setBlock_far _ _ _ _ (Ne.symm n1)).trans k1, (setBlock_far _ _ _ _ (Ne.symm n2)).trans k2, m1, m2, a, cap, (setBlock_far _ _ _ _ e1).trans hp, ho.kept (setBlock_grown W q o) (.inr (Ne.symm n))⟩
theorem St.side (h : St B p b1 b2 f g cnt xs K L W) (L' : List (ByteArray × Nat)) : St B p b1 b2 f g cnt xs K L' (setBlock (setBlock W f (M1 L')) g (M3 L')) ∧ Below B W (setBlock W f (M1 L')) ∧ Below B W (setBlock (setBlock W f (M1 L')) g (M3 L')) ∧ (setBlock W f (M1 L')).heap[g]? = some (M3 L) := by
  obtain ⟨n1, n2, n3, n4, n5, n6, n7⟩ := h.ne
  have hg1 : (setBlock W f (M1 L')).heap[g]? = some (M3 L) := (setBlock_far W f g _ (Ne.symm n5)).trans h.hg
  have hf1 : (setBlock W f (M1 L')).heap[f]? = some (M1 L') := setBlock_heap W f _ (ltH h.hf)
  have bl : ∀ (V : World) (q : Nat) (o : Obj), B ≤ q → Below B V (setBlock V q o) := fun V q o hq => ⟨rfl, rfl, rfl, by simp [setBlock], fun k hk => setBlock_far V q k o (by omega)⟩
  refine ⟨⟨(h.reg.side h.hf n1 n2 _).side hg1 n3 n4 _, h.ne, (setBlock_far _ g f _ n5).trans hf1, setBlock_heap _ g _ (ltH hg1), h.kn, h.lk⟩, bl _ _ _ n6, (bl _ _ _ n6).trans (bl _ _ _ n7), hg1⟩
end
end Go.Proofs.YtgnifckehopjhaaDoor
