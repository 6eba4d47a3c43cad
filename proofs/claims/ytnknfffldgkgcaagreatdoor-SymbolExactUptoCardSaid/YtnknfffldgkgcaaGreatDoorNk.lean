import Derived.Test.YtnknfffldgkgcaaGreatDoorSa
import Derived.Test.YtnknfffldgkgcaaGreatDoorNd
import Derived.Shelf.SlSortCmp.Whole1
import Derived.Sort.KeysCollected
import Derived.Sort.OwnSorted
import Derived.StringKeys
import Derived.Shelf.SlIter.Nil
import Derived.Test.YtnknfffldgkgcaaGreatDoorProg
import Derived.Shelf.SlSortCmp.NoneTotal
import Derived.RangeFuncNested
import Derived.RangeFuncBound
import Derived.RangeFuncCalls
import Derived.RangeFuncLeaves
import Derived.OwnWalkIn
import Derived.TacticsInMore
import Derived.LoopNIn
import Derived.LoopIn
set_option linter.all false
/- What a registry's map of known texts reads as; texts are compared by their units. -/
namespace Go.Proofs.YtnknfffldgkgcaaGreatDoor
open Go.RowKit Go.Maps Go.Sort Go.Proofs.YtnknfffldgkgcaaGreatDoorW.PrintWords
open Go.WideElems (Fit)
attribute [local go_sem] run_store_float

/-- A text that is valid and not too long. -/
abbrev Tx := {s : List UInt8 // (Pt.all ⟨s.toArray⟩).2 = true ∧ s.length ≤ 1048576}
theorem val_nil : (Pt.all ⟨#[]⟩).2 = true := by decide +kernel
instance : Inhabited Tx := ⟨⟨[], val_nil, by decide⟩⟩
def encT (x : Tx) : Value := encStr x.1
def uT (x : Tx) : List Int := Pt.us (Pt.all ⟨x.1.toArray⟩).1
def cfT (x y : Tx) : Int := Pt.cmpL (uT x) (uT y)

theorem known1_c (x y : Tx) (w : World) (HT : Tabs w) :
    Calls Tryz.prog 45 #[encT x, encT y] w fun e w' => e = .returned (.int .i64 (cfT x y)) ∧ Below w.heap.size w w' := by
  have h := Fact.mk (units_Compare.calls ⟨x.1.toArray⟩ ⟨y.1.toArray⟩ (cfT x y) 0 w ⟨HT⟩ (by
    have h1 := x.2.2
    have h2 := y.2.2
    unfold units_Compare.f
    rw [if_pos (by simp [ByteArray.size]; omega), if_pos x.2.1, if_pos y.2.1]
    rfl))
  unfold encT encStr
  clear HT
  go_enter Tryz.func45, Tryz.ntmps45
  go_wp2_with (go_at_call 46; refine h.out.mono ?_; rintro e w1 ⟨rfl, hb⟩)
  go_ret
  exact ⟨rfl, hb⟩

/-- The known texts, in the order in which they came, each with its symbol. -/
abbrev kS (x : ByteArray × Nat) : Value := .string x.1
abbrev kN (x : ByteArray × Nat) : Value := .int .i64 x.2
abbrev kE (x : ByteArray × Nat) : Value := .agg #[.string x.1]
def M1 (K : List (ByteArray × Nat)) : Obj := .map (ents kS kN K 0).toArray K.length
def M2 (K : List (ByteArray × Nat)) : Obj := .map (ents kN kE K 0).toArray K.length

theorem ents_map {α β : Type} (key val : α → Value) (f : MapEntry → β) (g : α → β) (h : ∀ x i, f { key := key x, val := val x, born := i } = g x) : ∀ (K : List α) (i : Nat), (ents key val K i).map f = K.map g
  | [], _ => rfl
  | x :: t, i => by simp only [ents, List.map_cons, h, ents_map key val f g h t]
theorem ents_born {α : Type} (key val : α → Value) : ∀ (K : List α) (i : Nat), (ents key val K i).map (·.born) = List.range' i K.length
  | [], _ => rfl
  | x :: t, i => by simp only [ents, List.map_cons, ents_born key val t, List.length_cons, List.range'_succ]
theorem ents_mem {α : Type} (key val : α → Value) : ∀ (K : List α) (i : Nat) (e : MapEntry), e ∈ ents key val K i → ∃ x ∈ K, e.key = key x ∧ e.val = val x ∧ i ≤ e.born ∧ e.born < i + K.length
  | [], _, e, h => by simp [ents] at h
  | x :: t, i, e, h => by
    simp only [ents, List.mem_cons] at h
    rcases h with rfl | h
    · exact ⟨x, by simp, rfl, rfl, Nat.le_refl _, by simp⟩
    · obtain ⟨y, hy, h1, h2, h3, h4⟩ := ents_mem key val t (i + 1) e h
      exact ⟨y, by simp [hy], h1, h2, by omega, by simp; omega⟩

/-- The texts are valid and not too long, and none comes twice; nor does a number. -/
structure Kn (K : List (ByteArray × Nat)) : Prop where
  val : ∀ x ∈ K, (Pt.all x.1).2 = true ∧ x.1.size ≤ 1048576
  txt : (K.map (·.1)).Nodup
  num : (K.map (·.2)).Nodup

theorem Kn.owns {K : List (ByteArray × Nat)} (hK : Kn K) (hl : K.length ≤ 1000000) {V : World} {b : Nat} (hV : V.heap[b]? = some (M1 K)) :
    ∃ D : DataW Unit, V.ownsMap Tryz.prog 9 (fun _ => some (.nil, [])) b K.length D ∧ (strKeys D).Perm (K.map fun x => x.1.data.toList) ∧ Maps.size D = K.length := by
  have hm : maxLen = 4611686018427387904 ∨ 1048576 ≤ maxLen := by right; decide
  have hm : 1048576 ≤ maxLen := by decide
  have hr : ∀ x ∈ K, ∀ i, WideElems.rd (H := Unit) Tryz.prog 9 (fun _ => some (.nil, [])) { key := kS x, val := kN x, born := i } = some (.string x.1.data.toList, .nil) := fun x hx i => by
    unfold WideElems.rd
    rw [show keyOf Tryz.prog 9 (kS x) = _ from Go.WideMaps.keyOf_string_mk Tryz.underlying9 (by have := (hK.val x hx).2; omega)]
    rfl
  refine ⟨_, ⟨_, _, hV, ⟨?_, ⟨?_, ?_, ?_⟩, ?_⟩, ?_, rfl⟩, ?_, ?_⟩
  · simp [ents_len]; omega
  · intro x hx
    obtain ⟨y, _, _, _, _, h⟩ := ents_mem _ _ _ _ _ (by simpa using hx)
    omega
  · simp only [ents_born]
    exact List.nodup_range'
  · simp only
    rw [ents_map kS kN (·.key) kS (fun _ _ => rfl)]
    have : K.map kS = (K.map (·.1)).map Value.string := by rw [List.map_map]; rfl
    rw [this]
    exact List.pairwise_map.2 (List.Pairwise.imp (fun h e => h (by simpa using e)) hK.txt)
  · intro x hx
    obtain ⟨y, hy, h1, h2, _, _⟩ := ents_mem _ _ _ _ _ (by simpa using hx)
    obtain ⟨k, v, i⟩ := x
    simp only at h1 h2
    subst h1 h2
    exact ⟨_, hr y hy i⟩
  · simp [ents_len]
  · refine ((WideShapes.sorted_perm _).map _).trans ?_
    rw [List.map_map]
    simp only
    refine List.Perm.of_eq ?_
    have : ∀ (L : List (ByteArray × Nat)) (i : Nat), (∀ x ∈ L, x ∈ K) → (ents kS kN L i).map ((fun p => strOf p.1) ∘ WideElems.rg (H := Unit) Tryz.prog 9 fun _ => some (.nil, [])) = L.map fun x => x.1.data.toList := by
      intro L
      induction L with
      | nil => intro i _; rfl
      | cons x t ih =>
        intro i h
        simp only [ents, List.map_cons, ih (i + 1) (fun y hy => h y (by simp [hy])), Function.comp]
        rw [show WideElems.rg (H := Unit) Tryz.prog 9 (fun _ => some (.nil, [])) { key := kS x, val := kN x, born := i } = (.string x.1.data.toList, .nil) by unfold WideElems.rg; rw [hr x (h x (by simp)) i]; rfl]
        rfl
    exact this K 0 (fun _ h => h)
  · rw [Maps.size_eq, (WideShapes.sorted_perm _).length_eq]
    simp [ents_len]
end Go.Proofs.YtnknfffldgkgcaaGreatDoor

/-
  DERIVED: THE SHELF's CONTRACTS AT THIS DUMP, IN PLAIN WORDS (tools/lay-plain.mjs out of 'TryzKnow.lean', which tools/lay-shelf.mjs wrote): THE SAME DECLARATIONS UNDER THE SAME NAMES: 'import', 'namespace', 'open', 'def', 'theorem' AND NOTHING ELSE: no command of the shelf's: FOR A HAND-IN. Each laying: the table of numbers ('.._ren') and one theorem, a field a fact of the dump's own or the kernel's comparison; each contract: ONE APPLICATION.
-/
namespace Go.Proofs
open Go.Shelf
def Tryz.keysA_ren : Go.Shelf.Ren := ⟨fun | 7 => 43 | 10 => 60 | n => n, fun | 23 => 70 | 26 => 9 | 3 => 3 | 28 => 91 | 0 => 0 | 27 => 90 | 33 => 82 | 4 => 4 | n => n, fun | n => n⟩
theorem Tryz.keysA : Go.Proofs.SlLaysZ.n7 Tryz.prog Tryz.keysA_ren := {
  mixed := by kernel_rfl
  f7 := ⟨Tryz.f43.name, by decide, Tryz.func43.trans (congrArg some (by kernel_rfl))⟩
  f10 := ⟨Tryz.f60.name, by decide, Tryz.func60.trans (congrArg some (by kernel_rfl))⟩
  t0 := Tryz.underlying0
  a0 := Tryz.isAgg0
  z0 := Tryz.sizeOf0
  v0 := Tryz.zeroValue0
  t4 := Tryz.underlying4
  a4 := Tryz.isAgg4
  z4 := Tryz.sizeOf4
  v4 := Tryz.zeroValue4
  t23 := Tryz.underlying70
  a23 := Tryz.isAgg70
  z23 := Tryz.sizeOf70
  v23 := Tryz.zeroValue70
  t26 := Tryz.underlying9
  a26 := Tryz.isAgg9
  z26 := Tryz.sizeOf9
  v26 := Tryz.zeroValue9
  t27 := Tryz.underlying90
  a27 := Tryz.isAgg90
  z27 := Tryz.sizeOf90
  v27 := Tryz.zeroValue90
  t28 := Tryz.underlying91
  a28 := Tryz.isAgg91
  z28 := Tryz.sizeOf91
  v28 := Tryz.zeroValue91
  t33 := Tryz.underlying82
  a33 := Tryz.isAgg82
  z33 := Tryz.sizeOf82
  v33 := Tryz.zeroValue82 }
def Tryz.collectA_ren : Go.Shelf.Ren := ⟨fun | 8 => 42 | 11 => 59 | n => n, fun | 26 => 9 | 28 => 91 | 24 => 53 | 0 => 0 | 33 => 82 | 4 => 4 | n => n, fun | n => n⟩
theorem Tryz.collectA : Go.Proofs.SlLaysZ.n8 Tryz.prog Tryz.collectA_ren := {
  mixed := by kernel_rfl
  f8 := ⟨Tryz.f42.name, by decide, Tryz.func42.trans (congrArg some (by kernel_rfl))⟩
  f11 := ⟨Tryz.f59.name, by decide, Tryz.func59.trans (congrArg some (by kernel_rfl))⟩
  t0 := Tryz.underlying0
  a0 := Tryz.isAgg0
  z0 := Tryz.sizeOf0
  v0 := Tryz.zeroValue0
  t24 := Tryz.underlying53
  a24 := Tryz.isAgg53
  z24 := Tryz.sizeOf53
  v24 := Tryz.zeroValue53
  t26 := Tryz.underlying9
  a26 := Tryz.isAgg9
  z26 := Tryz.sizeOf9
  v26 := Tryz.zeroValue9
  t28 := Tryz.underlying91
  a28 := Tryz.isAgg91
  z28 := Tryz.sizeOf91
  v28 := Tryz.zeroValue91
  i26 := by kernel_rfl }
end Go.Proofs

/-
  DERIVED: THE SHELF's CONTRACTS AT THIS DUMP, IN PLAIN WORDS (tools/lay-plain.mjs out of 'TryzSrtd.lean', which tools/lay-shelf.mjs wrote): THE SAME DECLARATIONS UNDER THE SAME NAMES: 'import', 'namespace', 'open', 'def', 'theorem' AND NOTHING ELSE: no command of the shelf's: FOR A HAND-IN. Each laying: the table of numbers ('.._ren') and one theorem, a field a fact of the dump's own or the kernel's comparison; each contract: ONE APPLICATION.
-/
namespace Go.Proofs
open Go.Shelf
def Tryz.sortA_ren : Go.Shelf.Ren := ⟨fun | 6 => 44 | 15 => 62 | 14 => 61 | 28 => 81 | 29 => 82 | 20 => 73 | 21 => 74 | 22 => 75 | 23 => 76 | 24 => 77 | 25 => 78 | 26 => 79 | 27 => 80 | 46 => 90 | 47 => 91 | 48 => 92 | 49 => 93 | 50 => 94 | 57 => 98 | n => n, fun | 22 => 53 | 24 => 9 | 25 => 95 | 3 => 3 | 39 => 114 | 0 => 0 | 53 => 137 | 55 => 98 | 4 => 4 | 46 => 131 | 45 => 130 | 50 => 83 | 5 => 5 | 9 => 9 | 66 => 156 | 70 => 160 | 76 => 162 | 77 => 47 | n => n, fun | n => n⟩
theorem Tryz.sortA : Go.Proofs.SlLaysF.n6 Tryz.prog Tryz.sortA_ren := {
  mixed := by kernel_rfl
  f6 := ⟨Tryz.f44.name, by decide, Tryz.func44.trans (congrArg some (by kernel_rfl))⟩
  f14 := ⟨Tryz.f61.name, by decide, Tryz.func61.trans (congrArg some (by kernel_rfl))⟩
  f15 := Tryz.func62.trans (congrArg some (by kernel_rfl))
  f20 := ⟨Tryz.f73.name, by decide, Tryz.func73.trans (congrArg some (by kernel_rfl))⟩
  f21 := ⟨Tryz.f74.name, by decide, Tryz.func74.trans (congrArg some (by kernel_rfl))⟩
  f22 := ⟨Tryz.f75.name, by decide, Tryz.func75.trans (congrArg some (by kernel_rfl))⟩
  f23 := ⟨Tryz.f76.name, by decide, Tryz.func76.trans (congrArg some (by kernel_rfl))⟩
  f24 := ⟨Tryz.f77.name, by decide, Tryz.func77.trans (congrArg some (by kernel_rfl))⟩
  f25 := ⟨Tryz.f78.name, by decide, Tryz.func78.trans (congrArg some (by kernel_rfl))⟩
  f26 := ⟨Tryz.f79.name, by decide, Tryz.func79.trans (congrArg some (by kernel_rfl))⟩
  f27 := ⟨Tryz.f80.name, by decide, Tryz.func80.trans (congrArg some (by kernel_rfl))⟩
  f28 := Tryz.func81.trans (congrArg some (by kernel_rfl))
  f29 := Tryz.func82.trans (congrArg some (by kernel_rfl))
  f46 := ⟨Tryz.f90.name, by decide, Tryz.func90.trans (congrArg some (by kernel_rfl))⟩
  f47 := Tryz.func91.trans (congrArg some (by kernel_rfl))
  f48 := Tryz.func92.trans (congrArg some (by kernel_rfl))
  f49 := ⟨Tryz.f93.name, by decide, Tryz.func93.trans (congrArg some (by kernel_rfl))⟩
  f50 := ⟨Tryz.f94.name, by decide, Tryz.func94.trans (congrArg some (by kernel_rfl))⟩
  f57 := ⟨Tryz.f98.name, by decide, Tryz.func98.trans (congrArg some (by kernel_rfl))⟩
  t0 := Tryz.underlying0
  a0 := Tryz.isAgg0
  z0 := Tryz.sizeOf0
  v0 := Tryz.zeroValue0
  t3 := Tryz.underlying3
  a3 := Tryz.isAgg3
  z3 := Tryz.sizeOf3
  v3 := Tryz.zeroValue3
  t4 := Tryz.underlying4
  a4 := Tryz.isAgg4
  z4 := Tryz.sizeOf4
  v4 := Tryz.zeroValue4
  t5 := Tryz.underlying5
  a5 := Tryz.isAgg5
  z5 := Tryz.sizeOf5
  v5 := Tryz.zeroValue5
  t9 := Tryz.underlying9
  a9 := Tryz.isAgg9
  z9 := Tryz.sizeOf9
  v9 := Tryz.zeroValue9
  t22 := Tryz.underlying53
  a22 := Tryz.isAgg53
  z22 := Tryz.sizeOf53
  v22 := Tryz.zeroValue53
  a24 := Tryz.isAgg9
  z24 := Tryz.sizeOf9
  t25 := Tryz.underlying95
  a25 := Tryz.isAgg95
  z25 := Tryz.sizeOf95
  v25 := Tryz.zeroValue95
  t39 := Tryz.underlying114
  a39 := Tryz.isAgg114
  z39 := Tryz.sizeOf114
  v39 := Tryz.zeroValue114
  t45 := Tryz.underlying130
  a45 := Tryz.isAgg130
  z45 := Tryz.sizeOf130
  v45 := Tryz.zeroValue130
  t46 := Tryz.underlying131
  a46 := Tryz.isAgg131
  z46 := Tryz.sizeOf131
  v46 := Tryz.zeroValue131
  t50 := Tryz.underlying83
  a50 := Tryz.isAgg83
  z50 := Tryz.sizeOf83
  v50 := Tryz.zeroValue83
  t53 := Tryz.underlying137
  a53 := Tryz.isAgg137
  z53 := Tryz.sizeOf137
  v53 := Tryz.zeroValue137
  t55 := Tryz.underlying98
  a55 := Tryz.isAgg98
  z55 := Tryz.sizeOf98
  v55 := Tryz.zeroValue98
  t66 := Tryz.underlying156
  a66 := Tryz.isAgg156
  z66 := Tryz.sizeOf156
  v66 := Tryz.zeroValue156
  t70 := Tryz.underlying160
  a70 := Tryz.isAgg160
  z70 := Tryz.sizeOf160
  v70 := Tryz.zeroValue160
  t76 := Tryz.underlying162
  a76 := Tryz.isAgg162
  z76 := Tryz.sizeOf162
  v76 := Tryz.zeroValue162
  t77 := Tryz.underlying47
  a77 := Tryz.isAgg47
  z77 := Tryz.sizeOf47
  v77 := Tryz.zeroValue47 }
end Go.Proofs

/- Known of a registry: the known texts in the order of their units. -/
namespace Go.Proofs.YtnknfffldgkgcaaGreatDoor
open Go.RowKit Go.Maps Go.Sort Go.Shelf Go.Proofs.YtnknfffldgkgcaaGreatDoorW.PrintWords

theorem holdsT {w : World} {g : Nat} (d : List Tx) (h : Holds encStr w g 0 (d.map Subtype.val).toArray) : Holds encT w g 0 d.toArray := by
  intro j hj
  have h := h j (by simpa using hj)
  have hj' : j < d.length := by simpa using hj
  rw [getElem!_pos _ j (by simpa using hj)] at h ⊢
  simpa [encT] using h
theorem sortWorldT (w : World) (g n : Nat) (d : List Tx) (os : Array Obj) : sortWorld encT w g 0 n d.toArray os = sortWorld encStr w g 0 n (d.map Subtype.val).toArray os := by
  unfold sortWorld putRow putCells
  congr 2
  funext c
  congr 1
  funext k x
  by_cases hk : k < d.length
  · have h1 : (0 ≤ k ∧ k < 0 + d.toArray.size) := by simp; omega
    have h2 : (0 ≤ k ∧ k < 0 + (d.map Subtype.val).toArray.size) := by simp; omega
    rw [if_pos h1, if_pos h2, getElem!_pos _ _ (by simp; omega), getElem!_pos _ _ (by simp; omega)]
    simp [encT]
  · have h1 : ¬ (0 ≤ k ∧ k < 0 + d.toArray.size) := by simp; omega
    have h2 : ¬ (0 ≤ k ∧ k < 0 + (d.map Subtype.val).toArray.size) := by simp; omega
    rw [if_neg h1, if_neg h2]

/-- slices.SortFunc at a row of known texts. -/
theorem sortK_c {B : Nat} {W : World} {v : Value} (d : List Tx) (hrow : W.ownsRow B 9 1 v d.length ((d.map Subtype.val).map encStr)) (hB : B ≤ W.heap.size) (HT : ∀ w', Below B W w' → Tabs w') (hl : d.length ≤ 1000000) :
    Calls Tryz.prog 44 #[v, .func (.func 45) #[] #[]] W fun e w' => e = .returned (.tuple #[]) ∧
      ∃ ts : List Tx, ts.Perm d ∧ ts.Pairwise (fun x y => ltOf cfT y x = false) ∧ w'.ownsRow B 9 1 v d.length ((ts.map Subtype.val).map encStr) ∧ Below B W w' := by
  rcases hrow.2 with ⟨rfl, hz⟩ | ⟨gb, cap, cur, rfl, hbase, hgb, r1, r2, r3, r4⟩
  · refine (AnyF.slices_SortFunc_none (ρ := Tryz.sortA_ren) { Tryz.sortA with } none 0 _ W).mono ?_
    rintro e w' ⟨rfl, rfl⟩
    exact ⟨rfl, d, List.Perm.refl _, by rw [List.eq_nil_of_length_eq_zero hz]; exact List.Pairwise.nil, hrow, Below.refl _ _⟩
  · have hH : Holds encT W gb 0 d.toArray := holdsT d (holds_of_block hgb (by simpa using r4))
    have hgl := ltH hgb
    have h := Any.slices_SortFunc Tryz.sortA encT (fun x => rfl) cfT (cmpL_swo uT) 45 #[] gb 0 cap d.toArray W (enters_of Tryz.func45 (by kernel_rfl) rfl)
      (fun m os dk hs x y => calls_grow (known1_c x y _ (HT _ (sortWorld_below encT W gb 0 m dk os hbase hB)))) hH hgl (by simp; omega)
    rw [show d.toArray.size = d.length by simp] at h
    refine h.mono ?_
    rintro e w' ⟨rfl, d', n, os, ⟨p1, _, p3⟩, hs, rfl⟩
    have hsz : d'.size = d.length := by simpa using p1
    refine ⟨rfl, d'.toList, ?_, ?_, ?_, ?_⟩
    · have e1 : d'.extract 0 d.length = d' := by rw [← hsz]; simp
      have e2 : d.toArray.extract 0 d.length = d.toArray := by simp
      rw [e1, e2] at p3
      simpa using p3
    · rw [List.pairwise_iff_getElem]
      intro i j hi hj hij
      have h := hs i j (Nat.zero_le _) hij (by simp at hj; omega)
      rw [getElem!_pos d' j (by simpa using hj), getElem!_pos d' i (by simpa using hi)] at h
      simpa using h
    · have e := sortWorldT W gb n d'.toList os
      simp only [Array.toArray_toList] at e
      rw [e]
      have hl' : ((d'.toList).map Subtype.val).length = (d.map Subtype.val).length := by simp [hsz]
      have := ownsRow_sorted (n := n) (os := os) hl' hbase hgb (by simpa using r1) r2 r3
      simpa [sortWorld] using this
    · exact sortWorld_below encT W gb 0 n d' os hbase hB

set_option maxRecDepth 100000 in
set_option maxHeartbeats 1000000 in
theorem knownK_c {B p cnt : Nat} {xs : List Value} {b1 b2 : Nat} {o2 : Obj} {K : List (ByteArray × Nat)} {W : World} (hR : Reg B p cnt xs b1 b2 (M1 K) o2 W) (hK : Kn K) (hl : K.length ≤ 1000000) (HT : Tabs W) :
    Calls Tryz.prog 19 #[.pointer (some ⟨p, 0, none⟩)] W fun e W' => ∃ (v : Value) (ts : List Tx), e = .returned v ∧
      (ts.map Subtype.val).Perm (K.map fun x => x.1.data.toList) ∧ ts.Pairwise (fun x y => ltOf cfT y x = false) ∧ W'.ownsRow W.heap.size 9 1 v K.length ((ts.map Subtype.val).map encStr) ∧ RowKit.Below W.heap.size W W' := by
  obtain ⟨c1, _, k1, _⟩ := hR.maps
  clear hR
  have hbl := ltH k1
  obtain ⟨D, hown, hperm, hsize⟩ := hK.owns hl ((Below.heap_alloc W (.cells #[.map (some b1)] 70) b1 hbl).trans k1)
  refine (callsIn_wide (n := 6)).1 ?_
  have hseq : SeqGives Fence.wide 3 Tryz.prog 60 #[.pointer (some ⟨W.heap.size, 0, none⟩)] encStr (fun ss => ss.Perm (strKeys D)) (Maps.size D) (W.alloc (.cells #[.map (some b1)] 70)) :=
    AnyZ.keys_gives (ρ := Tryz.keysA_ren) { Tryz.keysA with } Fence.wide _ trivial rfl (by omega) W.heap.size b1 K.length D _ (by simp) (by simp) hown
  have cK : ∀ mb W, CallsIn Fence.wide 5 Tryz.prog 43 #[.map mb] W fun e w' => e = .returned (.func (.func 60) #[] #[.pointer (some ⟨W.heap.size, 0, none⟩)]) ∧ w' = W.alloc (.cells #[.map mb] 70) := fun mb W => AnyZ.keys_in Tryz.keysA Fence.wide 5 trivial rfl mb W
  have cC := AnyZ.collect_in Tryz.collectA Fence.wide 5 trivial trivial rfl (by omega) 60 #[.pointer (some ⟨W.heap.size, 0, none⟩)] trivial (enters_of Tryz.func60 (by kernel_rfl) rfl) _ _ (show Maps.size D ≤ maxLen from by rw [hsize]; exact Nat.le_trans hl (by decide)) (show Maps.size D * 16 ≤ 140737488355328 from by rw [hsize]; omega) _ hseq
  change CallsIn _ _ Tryz.prog 42 _ _ _ at cC
  have hfK : Fence.wide.fn 43 := trivial
  have hfC : Fence.wide.fn 42 := trivial
  have hfS : Fence.wide.fn 44 := trivial
  have hso : Fact (∀ (ss : List (List UInt8)) (v : Value) (w' : World), ss.Perm (strKeys D) → w'.ownsRow (W.alloc (.cells #[.map (some b1)] 70)).heap.size 9 1 v ss.length (ss.map encStr) → Below (W.alloc (.cells #[.map (some b1)] 70)).heap.size (W.alloc (.cells #[.map (some b1)] 70)) w' →
      Calls Tryz.prog 44 #[v, .func (.func 45) #[] #[]] w' fun e w2 => e = .returned (.tuple #[]) ∧
        ∃ ts : List Tx, (ts.map Subtype.val).Perm (K.map fun x => x.1.data.toList) ∧ ts.Pairwise (fun x y => ltOf cfT y x = false) ∧ w2.ownsRow W.heap.size 9 1 v K.length ((ts.map Subtype.val).map encStr) ∧ RowKit.Below W.heap.size W w2) := by
    refine ⟨fun ss v w' hp hrow hb => ?_⟩
    have hp' := hp.trans hperm
    have hv : ∀ s ∈ ss, (Pt.all ⟨s.toArray⟩).2 = true ∧ s.length ≤ 1048576 := fun s hs => by
      obtain ⟨x, hx, rfl⟩ := List.mem_map.1 (hp'.mem_iff.1 hs)
      have := hK.val x hx
      exact ⟨this.1, this.2⟩
    obtain ⟨d, rfl⟩ : ∃ d : List Tx, ss = d.map Subtype.val := ⟨ss.attach.map fun x => ⟨x.1, hv x.1 x.2⟩, by simp [List.map_map]⟩
    have hlen : d.length = K.length := by simpa using hp'.length_eq
    have hb1 : RowKit.Below W.heap.size W w' := ((Below.refl _ W).alloc (Nat.le_refl _) _).trans (hb.mono (by simp))
    rw [show (d.map Subtype.val).length = d.length from List.length_map _] at hrow
    have hrow2 : w'.ownsRow W.heap.size 9 1 v d.length ((d.map Subtype.val).map encStr) := by
      refine ⟨hrow.1, ?_⟩
      rcases hrow.2 with h | ⟨gb, cap, cur, h1, h2, h3⟩
      · exact .inl h
      · exact .inr ⟨gb, cap, cur, h1, Nat.le_trans (by simp) h2, h3⟩
    have h := sortK_c d hrow2 hb1.size (fun w2 h2 => HT.below (hb1.trans h2)) (by omega)
    refine h.mono ?_
    rintro e w2 ⟨rfl, ts, hts, hso, hro, hb2⟩
    exact ⟨rfl, ts, (hts.map _).trans hp', hso, by rw [hlen] at hro; exact hro, hb1.trans hb2⟩
  have hcC := Fact.mk cC
  have hcK := Fact.mk cK
  clear hseq hown cC cK HT hK hperm
  refine callsIn_of_wp Tryz.func19 rfl trivial ?_ rfl
  simp only [Tryz.ntmps19, List.size_toArray, List.length_cons, List.length_nil, Nat.reduceAdd, Nat.reduceSub, Array.replicate_succ, Array.replicate_zero, List.push_toArray, List.append_toArray, List.nil_append, List.cons_append]
  gi_wp2_with (first
    | (gi_at_call 43; refine (hcK.out _ _).mono ?_; rintro e w' ⟨rfl, rfl⟩)
    | (gi_at_call 42; refine hcC.out.mono ?_; rintro e w' ⟨v, ss, rfl, hS, hrow, hnil, hb⟩; have hs := Fact.mk (hso.out ss v w' hS hrow hb); clear hrow hnil hS hso)
    | (gi_at_call 44; refine (callsIn_wide.2 hs.out).mono ?_; rintro e w2 ⟨rfl, hts⟩))
  go_ret
  obtain ⟨ts, h1, h2, h3, h4⟩ := hts
  exact ⟨v, ts, rfl, h1, h2, h3, h4⟩
end Go.Proofs.YtnknfffldgkgcaaGreatDoor

/- What a registry's calls leave as it is, besides what lay below: the maps of others. For of a bad text. -/
namespace Go.Proofs.YtnknfffldgkgcaaGreatDoor
open Go.RowKit Go.Proofs.YtnknfffldgkgcaaGreatDoorW.PrintWords
open Go.ChangeMaps (setBlock)
attribute [local go_sem] run_store_float

/-- Other maps than the registry's lie as they lay. -/
def KeepsM (b1 b2 : Nat) (W W' : World) : Prop := ∀ q es c, W.heap[q]? = some (.map es c) → q ≠ b1 → q ≠ b2 → W'.heap[q]? = some (.map es c)
theorem KeepsM.trans {b1 b2 : Nat} {W V U : World} (h : KeepsM b1 b2 W V) (k : KeepsM b1 b2 V U) : KeepsM b1 b2 W U := fun q es c e h1 h2 => k q es c (h q es c e h1 h2) h1 h2
theorem keepsM_of {b1 b2 : Nat} {W V : World} (h : Below W.heap.size W V) : KeepsM b1 b2 W V := fun q _ _ e _ _ => (h.block q (ltH e)).trans e
theorem keepsM_set1 (b1 b2 : Nat) (W : World) (o : Obj) : KeepsM b1 b2 W (setBlock W b1 o) := fun q _ _ e h1 _ => (setBlock_far W b1 q o h1).trans e
theorem keepsM_set2 (b1 b2 : Nat) (W : World) (o : Obj) : KeepsM b1 b2 W (setBlock W b2 o) := fun q _ _ e _ h2 => (setBlock_far W b2 q o h2).trans e
theorem grow_keepsM {B p cnt : Nat} {xs : List Value} {a : Option Addr} {cap : Nat} {t2 : TypeId} {m1 m2 : Value} {W V w1 : World} (b1 b2 : Nat)
    (hp : W.heap[p]? = some (.cells #[.slice a cnt cap, m1, m2] t2 (0, 0))) (ho : W.ownsRow B 35 5 (.slice a cnt cap) cnt xs)
    (hBV : Below W.heap.size W V) (hgrow : V.grownBy w1 (Value.slice a cnt cap).ownBlock) (v : Value) : KeepsM b1 b2 W (w1.setCell ⟨p, 0, none⟩ v) := by
  intro q es c e _ _
  have hq := ltH e
  have n := row_ne ho e (by simp)
  have e1 : q ≠ p := by rintro rfl; rw [hp] at e; cases e
  rw [Below.heap_setCell _ _ _ _ e1]
  exact ((hgrow.block q (by have := hBV.size; omega) n).trans (hBV.block q hq)).trans e

set_option maxRecDepth 100000 in
theorem addM_c {B p cnt : Nat} {xs : List Value} {b1 b2 : Nat} {o1 o2 : Obj} {W : World} (h : Reg B p cnt xs b1 b2 o1 o2 W) (hc : cnt < 65536) (k : Int) (b : Bool) (n : Nat) (s : ByteArray) (i : Int) :
    Calls Tryz.prog 35 #[.pointer (some ⟨p, 0, none⟩), VV k b n s i] W fun e W' => e = .returned (.tuple #[.int .i64 ((cnt : Int) + 1), .int .i64 0]) ∧ Reg B p (cnt + 1) (xs ++ [.int .i64 k, .bool b, .float .f64 n, .string s, .int .i64 i]) b1 b2 o1 o2 W' ∧ Below B W W' ∧ KeepsM b1 b2 W W' := by
  have hle := h.le
  obtain ⟨h1, h2, h3, h4, k1, k2, m1, m2, a, cap, hp, ho⟩ := h
  obtain ⟨i0, hi0, hz0, hz1, hz2⟩ := info_parts infoV
  have c0 := fun o => (show (W.alloc o).cell? ⟨p, 0, none⟩ = some (.slice a cnt cap) by rw [Lib.cell_of_heap (show (W.alloc o).heap[p]? = _ from by rw [Lib.alloc_old W o _ (ltH hp)]; exact hp)]; rfl)
  have d1 : ¬ (65536 : Int) ≤ (cnt : Int) := by omega
  have np := row_ne ho hp (by simp)
  have lp := ltH hp
  unfold VV at *
  go_enter Tryz.func35, Tryz.ntmps35
  go_wp2_with fail
  have c1 := fun o => (show (W.alloc o).frozen? ⟨p, 0, none⟩ = false from Lib.frozen_of_heap (show (W.alloc o).heap[p]? = _ from by rw [Lib.alloc_old W o _ (ltH hp)]; exact hp) 0)
  go_region_law ((refine step_append_lies _ (by rfl) _ _ _ (by rfl) B 35 i0 _ 5 48 Tryz.underlying72 hi0 hz0 hz1 hz2 rfl (by omega) (.slice a cnt cap) cnt xs (by rfl) (by first | exact ((ho.alloc _).alloc _) | exact ((ho.alloc _).drew).alloc _) ⟨W.heap.size + 1, 0, none⟩ 1 1 [.int .i64 k, .bool b, .float .f64 n, .string s, .int .i64 i] (by rfl) (by rfl) (World.news_of_block (cs := #[.int .i64 k, .bool b, .float .f64 n, .string s, .int .i64 i]) (t := 35) (fr := (0, 0)) (heap_alloc2_new W _ _)) (by simp [Value.oneCell']) (by omega) (by simp only [maxLen]; omega) (by omega) (by simp; omega) (W.heap.size + 2) (by simp) ?_; intro g cap' w1 hown1 hgrow hat hlt; have cp := (hgrow.cell_far ⟨p, 0, none⟩ (by simp; omega) np).trans (cp2 hp _ _); have fp := (hgrow.frozen_far ⟨p, 0, none⟩ (by simp; omega) np).trans (fp2 hp _ _)))
  all_goals
    have hKM := grow_keepsM b1 b2 hp ho (((((Below.refl W.heap.size W).alloc (Nat.le_refl _) _).alloc (by simp) _)).drew) hgrow (.slice (some ⟨g, 0, none⟩) (cnt + 1) cap')
    obtain ⟨hR, hB⟩ := reg_grow h1 h2 h3 h4 k1 k2 m1 m2 hp ho (((((Below.refl W.heap.size W).alloc (Nat.le_refl _) _).alloc (by simp) _)).drew) hgrow hown1
    have cn : (w1.setCell ⟨p, 0, none⟩ (.slice (some ⟨g, 0, none⟩) (cnt + 1) cap')).cell? ⟨p, 0, none⟩ = some (.slice (some ⟨g, 0, none⟩) (cnt + 1) cap') := by
      exact World.cell?_setCell_same' _ _ _ (by rw [cp]; rfl)
    generalize w1.setCell ⟨p, 0, none⟩ (.slice (some ⟨g, 0, none⟩) (cnt + 1) cap') = W2 at *
    clear hown1 hgrow hat hlt cp fp c0 c1
    go_wp2
    go_ret2
    exact ⟨by simp, hR, hB, hKM⟩
theorem makeM_c {B p cnt : Nat} {xs : List Value} {b1 b2 : Nat} {o1 o2 : Obj} {W : World} (hR : Reg B p cnt xs b1 b2 o1 o2 W) (hc : cnt < 65536) (k : Int) (b : Bool) (n : Nat) (s : ByteArray) (i : Int) (HT : Tabs W) (hG : gd k b n s i = true) (hk : k = 1 ∨ k = 5) :
    Calls Tryz.prog 11 #[.pointer (some ⟨p, 0, none⟩), VV k b n s i] W fun e W' => e = .returned (.tuple #[.int .i64 ((cnt : Int) + 1), .int .i64 0]) ∧ Reg B p (cnt + 1) (xs ++ [.int .i64 k, .bool b, .float .f64 n, .string s, .int .i64 i]) b1 b2 o1 o2 W' ∧ Below B W W' ∧ KeepsM b1 b2 W W' := by
  have hg := Fact.mk (fun w' (h : Below W.heap.size W w') => check_c k b n s i w' (HT.below h))
  have ha := Fact.mk (fun w' (h : Below W.heap.size W w') => addM_c (hR.keep h) hc k b n s i)
  have hle := hR.le
  rw [hG] at hg
  have d1 : (k != 1 && k != 5) = false := by rcases hk with rfl | rfl <;> rfl
  clear HT hG hR
  simp only [if_true] at hg
  unfold VV at *
  rcases hk with rfl | rfl
  all_goals
    clear d1
    go_enter Tryz.func11, Tryz.ntmps11
    go_wp2_with (first | (go_at_call 34; refine (hg.out _ ((Below.refl _ _).alloc (Nat.le_refl _) _)).mono ?_; rintro e w1 ⟨rfl, hb⟩; obtain ⟨c0, c1, c2, c3, c4⟩ := cells5' hb; have hb1 := below1 hb) | (go_at_call 35; refine (ha.out _ hb1).mono ?_; rintro e w2 ⟨rfl, hR2, hb2, hk2⟩))
    go_ret2
    exact ⟨rfl, hR2, (hb1.mono hle).trans hb2, (keepsM_of hb1).trans hk2⟩

set_option maxRecDepth 100000 in
theorem forBad_c {p : Nat} {W : World} (HT : Tabs W) (s : ByteArray) (hv : ¬ (s.size : Int) ≤ 1048576 ∨ (Pt.all s).2 = false) :
    Calls Tryz.prog 14 #[.pointer (some ⟨p, 0, none⟩), .string s] W fun e W' => e = .returned (.tuple #[.int .i64 0, .int .i64 5]) ∧ Below W.heap.size W W' := by
  by_cases hz : (1048576 : Int) < (s.size : Int)
  · go_enter Tryz.func14, Tryz.ntmps14
    go_wp2
    go_ret2
    exact ⟨rfl, Below.refl _ _⟩
  · have hv' : (Pt.all s).2 = false := by
      rcases hv with h | h
      · omega
      · exact h
    have hV := Fact.mk (show units_Valid.f s = some false by unfold units_Valid.f; rw [if_pos (by omega), hv'])
    have HT' := Fact.mk HT
    clear hv hv' HT
    go_enter Tryz.func14, Tryz.ntmps14
    go_wp2_with (go_at_call 37; refine (units_Valid.calls s _ _ ⟨HT'.out⟩ hV.out).mono ?_; rintro e w1 ⟨rfl, hb⟩)
    go_ret2
    exact ⟨rfl, hb⟩
set_option maxRecDepth 100000 in
theorem forNewM_c {B p cnt : Nat} {xs : List Value} {b1 b2 : Nat} {o1 o2 o1' o2' : Obj} {W : World} (hR : Reg B p cnt xs b1 b2 o1 o2 W) (hc : cnt < 65536) (HT : Tabs W) (s : ByteArray) (hs : (s.size : Int) ≤ 1048576) (hv : (Pt.all s).2 = true)
    (m1' : ∃ es c, o1' = .map es c) (m2' : ∃ es c, o2' = .map es c)
    (hl : ∀ W', W'.heap[b1]? = some o1 → (Instr.lookup 70 (.map (some b1)) (.string s) true).run Tryz.prog W' = .ok (.tuple #[.int .i64 0, .bool false]) W')
    (hu1 : ∀ W', W'.heap[b1]? = some o1 → (Instr.mapUpdate 70 (.map (some b1)) (.string s) (.int .i64 ((cnt : Int) + 1))).run Tryz.prog W' = .ok () (setBlock W' b1 o1'))
    (hu2 : ∀ W', W'.heap[b2]? = some o2 → (Instr.mapUpdate 71 (.map (some b2)) (.int .i64 ((cnt : Int) + 1)) (.agg #[.string s])).run Tryz.prog W' = .ok () (setBlock W' b2 o2')) :
    Calls Tryz.prog 14 #[.pointer (some ⟨p, 0, none⟩), .string s] W fun e W' => e = .returned (.tuple #[.int .i64 ((cnt : Int) + 1), .int .i64 0]) ∧ Reg B p (cnt + 1) (xs ++ [.int .i64 5, .bool false, .float .f64 0, .string s, .int .i64 0]) b1 b2 o1' o2' W' ∧ Below B W W' ∧ KeepsM b1 b2 W W' := by
  have hV := Fact.mk (show units_Valid.f s = some true by unfold units_Valid.f; rw [if_pos (by omega), hv])
  have hgd : gd 5 false 0 s 0 = true := by simp [gd, hv, hs]
  have hle := hR.le
  have hM := Fact.mk (fun w' (h : Below W.heap.size W w') => mkStr_c s w' (HT.below h))
  simp only [hgd, if_true] at hM
  have ha := Fact.mk (fun w' (h : Below W.heap.size W w') => addM_c (hR.keep h) hc 5 false 0 s 0)
  have HT' := Fact.mk HT
  have hR' := Fact.mk hR
  have hl' := Fact.mk hl
  have hu1' := Fact.mk hu1
  have hu2' := Fact.mk hu2
  have mm1 := Fact.mk m1'
  have mm2 := Fact.mk m2'
  clear hv HT hR hl hgd hu1 hu2 m1' m2'
  unfold VV at *
  go_enter Tryz.func14, Tryz.ntmps14
  go_wp2_with (first | (go_at_call 37; refine (units_Valid.calls s _ _ ⟨HT'.out⟩ hV.out).mono ?_; rintro e w1 ⟨rfl, hb⟩; obtain ⟨c1, c2, k1, k2⟩ := (hR'.out.keep hb).maps; have q := hl'.out w1 k1) | (go_at_call 31; refine (hM.out _ hb).mono ?_; rintro e w2 ⟨rfl, hb2⟩; have hb3 := hb.trans (hb2.mono hb.size)) | (go_at_call 35; refine (ha.out _ hb3).mono ?_; rintro e w3 ⟨rfl, hR3, hb4, hk4⟩; obtain ⟨P1, P2, B1, B2⟩ := hR3.put mm1.out mm2.out; obtain ⟨Q1, Q2, B3, B4⟩ := P1.put mm1.out mm2.out; have d1 := hR3.maps; have q1 := hu1'.out w3 d1.2.2.1; have d2 := P1.maps; have q2 := hu2'.out _ d2.2.2.2; have c3 := d1.1; have c4 := d2.2.1))
  go_ret2
  exact ⟨rfl, Q2, (((hb3.mono hle).trans hb4).trans B1).trans B4, (((keepsM_of hb3).trans hk4).trans (keepsM_set1 _ _ _ _)).trans (keepsM_set2 _ _ _ _)⟩
end Go.Proofs.YtnknfffldgkgcaaGreatDoor

/- A registry, with the two maps of the law SymbolKnown beside it. -/
namespace Go.Proofs.YtnknfffldgkgcaaGreatDoor
open Go.RowKit Go.Proofs.YtnknfffldgkgcaaGreatDoorW.PrintWords
open Go.ChangeMaps (setBlock)
open Go.MapKept
attribute [local go_sem] run_store_float

abbrev kO (_ : ByteArray × Nat) : Value := .int .i64 1
def M3 (K : List (ByteArray × Nat)) : Obj := .map (ents kN kO K 0).toArray K.length

instance : LawfulBEq ByteArray where
  eq_of_beq {a b} h := by
    cases a; cases b
    exact congrArg ByteArray.mk (eq_of_beq (α := Array UInt8) h)
  rfl {a} := by
    cases a
    exact beq_self_eq_true (α := Array UInt8) _
theorem uniq {α β : Type} (f : α → β) : ∀ {K : List α} {x y : α}, (K.map f).Nodup → x ∈ K → y ∈ K → f x = f y → x = y
  | [], _, _, _, h, _, _ => by simp at h
  | z :: t, x, y, hn, hx, hy, e => by
    simp only [List.map_cons, List.nodup_cons] at hn
    rcases List.mem_cons.1 hx with rfl | hx1
    · rcases List.mem_cons.1 hy with rfl | hy1
      · rfl
      · exact absurd (by rw [e]; exact List.mem_map_of_mem hy1) hn.1
    · rcases List.mem_cons.1 hy with rfl | hy1
      · exact absurd (by rw [← e]; exact List.mem_map_of_mem hx1) hn.1
      · exact uniq f hn.2 hx1 hy1 e
theorem pos_hit {α β : Type} [BEq β] [LawfulBEq β] (f : α → β) {K : List α} {x : α} (hn : (K.map f).Nodup) (hx : x ∈ K) : ∃ q, posBy (fun y => f x == f y) K = some (q, x) ∧ K[q]? = some x := by
  cases h : posBy (fun y => f x == f y) K with
  | none => exact absurd (posBy_none h x hx) (by simp)
  | some r =>
    obtain ⟨q, y⟩ := r
    obtain ⟨h1, h2⟩ := posBy_some h
    have hy : y ∈ K := List.mem_of_getElem? h1
    have := uniq f hn hx hy (by simpa using h2)
    subst this
    exact ⟨q, rfl, h1⟩
theorem find_txt (K : List (ByteArray × Nat)) (s : ByteArray) : Instr.findNow .string (.string s) (ents kS kN K 0) 0 = some ((posBy (fun x => s == x.1) K).map fun q => (0 + q.1, kN q.2)) :=
  find_ents .string (.string s) kS kN (fun x => s == x.1) K 0 0 (fun _ _ => rfl)
theorem find_num (val : ByteArray × Nat → Value) (K : List (ByteArray × Nat)) (n : Nat) : Instr.findNow (.int .i64) (.int .i64 (n : Int)) (ents kN val K 0) 0 = some ((posBy (fun x => n == x.2) K).map fun q => (0 + q.1, val q.2)) :=
  find_ents (.int .i64) (.int .i64 (n : Int)) kN val (fun x => n == x.2) K 0 0 (fun x _ => by
    simp only [Instr.sameNow, if_true, Option.some.injEq]
    by_cases h : n = x.2
    · subst h; simp
    · have : ¬ (n : Int) = (x.2 : Int) := by omega
      rw [beq_eq_false_iff_ne.2 h, beq_eq_false_iff_ne.2 this])

section
variable {K : List (ByteArray × Nat)} {x : ByteArray × Nat} {W : World} {b : Nat}
theorem lookT_hit (hK : Kn K) (hx : x ∈ K) (hb : W.heap[b]? = some (M1 K)) : (Instr.lookup 70 (.map (some b)) (.string x.1) true).run Tryz.prog W = .ok (.tuple #[.int .i64 x.2, .bool true]) W := by
  obtain ⟨q, h1, h2⟩ := pos_hit (·.1) hK.txt hx
  exact lookM u66 Tryz.underlying9 (isKS _) hb (by rw [find_txt, h1]; rfl)
theorem lookT_new {s : ByteArray} (hs : ∀ x ∈ K, x.1 ≠ s) (hb : W.heap[b]? = some (M1 K)) : (Instr.lookup 70 (.map (some b)) (.string s) true).run Tryz.prog W = .ok (.tuple #[.int .i64 0, .bool false]) W :=
  lookN u66 Tryz.underlying9 (isKS _) hb (by rw [find_txt, posBy_none' (fun x hx => by simpa using Ne.symm (hs x hx))]; rfl) (zInt W)
theorem updT_hit (hK : Kn K) (hx : x ∈ K) (hb : W.heap[b]? = some (M1 K)) : (Instr.mapUpdate 70 (.map (some b)) (.string x.1) (.int .i64 x.2)).run Tryz.prog W = .ok () (setBlock W b (M1 K)) := by
  obtain ⟨q, h1, h2⟩ := pos_hit (·.1) hK.txt hx
  have hf : Instr.findNow .string (.string x.1) (ents kS kN K 0).toArray.toList 0 = some (some (q, kN x)) := by
    show Instr.findNow _ _ (ents kS kN K 0) 0 = _
    rw [find_txt, h1]
    simp
  exact (updM (P := Tryz.prog) (val := kN x) u66 Tryz.underlying9 (isKS _) hb hf (by simp [ents_at kS kN K 0 q x h2, Instr.sameBits])).trans (congrArg (fun E => Result.ok () (setBlock W b (.map E K.length))) (modify_same kS kN K q x h2))
theorem updT_new {s : ByteArray} (n : Nat) (hs : ∀ x ∈ K, x.1 ≠ s) (hb : W.heap[b]? = some (M1 K)) : (Instr.mapUpdate 70 (.map (some b)) (.string s) (.int .i64 n)).run Tryz.prog W = .ok () (setBlock W b (M1 (K ++ [(s, n)]))) := by
  rw [updN (val := .int .i64 n) u66 Tryz.underlying9 (isKS _) hb (by rw [find_txt, posBy_none' (fun x hx => by simpa using Ne.symm (hs x hx))]; rfl)]
  unfold M1
  rw [ents_snoc]
  simp
theorem lookE_hit (hK : Kn K) (hx : x ∈ K) (hb : W.heap[b]? = some (M2 K)) : (Instr.lookup 71 (.map (some b)) (.int .i64 x.2) true).run Tryz.prog W = .ok (.tuple #[.agg #[.string x.1], .bool true]) W := by
  obtain ⟨q, h1, h2⟩ := pos_hit (·.2) hK.num hx
  exact lookM u67 Tryz.underlying3 (isKI _) hb (by rw [find_num, h1]; rfl)
theorem lookE_new {n : Nat} (hn : ∀ x ∈ K, x.2 ≠ n) (hb : W.heap[b]? = some (M2 K)) : (Instr.lookup 71 (.map (some b)) (.int .i64 n) true).run Tryz.prog W = .ok (.tuple #[.agg #[.string ⟨#[]⟩], .bool false]) W :=
  lookN u67 Tryz.underlying3 (isKI _) hb (by rw [find_num, posBy_none' (fun x hx => by simpa using Ne.symm (hn x hx))]; rfl) (zEntry W)
theorem updE_new {n : Nat} (s : ByteArray) (hn : ∀ x ∈ K, x.2 ≠ n) (hb : W.heap[b]? = some (M2 K)) : (Instr.mapUpdate 71 (.map (some b)) (.int .i64 n) (.agg #[.string s])).run Tryz.prog W = .ok () (setBlock W b (M2 (K ++ [(s, n)]))) := by
  rw [updN (val := .agg #[.string s]) u67 Tryz.underlying3 (isKI _) hb (by rw [find_num, posBy_none' (fun x hx => by simpa using Ne.symm (hn x hx))]; rfl)]
  unfold M2
  rw [ents_snoc]
  simp
end
end Go.Proofs.YtnknfffldgkgcaaGreatDoor

/- A registry with the law's two maps beside it: what its calls answer, and what they leave. -/
namespace Go.Proofs.YtnknfffldgkgcaaGreatDoor
open Go.RowKit Go.Proofs.YtnknfffldgkgcaaGreatDoorW.PrintWords
open Go.ChangeMaps (setBlock)
open Go.MapKept
attribute [local go_sem] run_store_float

/-- The cells of the symbols that texts are known by. -/
def Lk (K : List (ByteArray × Nat)) (cnt : Nat) (xs : List Value) : Prop :=
  ∀ x ∈ K, ∃ j, x.2 = j + 1 ∧ j < cnt ∧ xs[j * 5]? = some (.int .i64 5) ∧ xs[j * 5 + 1]? = some (.bool false) ∧ xs[j * 5 + 2]? = some (.float .f64 0) ∧ xs[j * 5 + 3]? = some (.string x.1) ∧ xs[j * 5 + 4]? = some (.int .i64 0)
theorem Lk.more {K : List (ByteArray × Nat)} {cnt : Nat} {xs : List Value} (h : Lk K cnt xs) (ys : List Value) (hl : xs.length = cnt * 5) : Lk K (cnt + 1) (xs ++ ys) := fun x hx => by
  obtain ⟨j, h0, h1, c0, c1, c2, c3, c4⟩ := h x hx
  refine ⟨j, h0, by omega, ?_, ?_, ?_, ?_, ?_⟩ <;> rw [List.getElem?_append_left (by omega)] <;> assumption
theorem Lk.snoc {K : List (ByteArray × Nat)} {cnt : Nat} {xs : List Value} (h : Lk K cnt xs) (s : ByteArray) (hl : xs.length = cnt * 5) : Lk (K ++ [(s, cnt + 1)]) (cnt + 1) (xs ++ [.int .i64 5, .bool false, .float .f64 0, .string s, .int .i64 0]) := fun x hx => by
  rcases List.mem_append.1 hx with hx | hx
  · exact h.more _ hl x hx
  · obtain rfl : x = (s, cnt + 1) := by simpa using hx
    refine ⟨cnt, rfl, by omega, ?_, ?_, ?_, ?_, ?_⟩
    · have := getR xs cnt 0 [.int .i64 5, .bool false, .float .f64 0, .string s, .int .i64 0] hl
      simpa using this
    · exact getR xs cnt 1 _ hl
    · exact getR xs cnt 2 _ hl
    · exact getR xs cnt 3 _ hl
    · exact getR xs cnt 4 _ hl
theorem Lk.fresh {K : List (ByteArray × Nat)} {cnt : Nat} {xs : List Value} (h : Lk K cnt xs) : ∀ x ∈ K, x.2 ≠ cnt + 1 := fun x hx => by
  obtain ⟨j, h0, h1, _⟩ := h x hx
  omega
theorem Kn.snoc {K : List (ByteArray × Nat)} (h : Kn K) {s : ByteArray} {n : Nat} (hv : (Pt.all s).2 = true) (hs : s.size ≤ 1048576) (ht : ∀ x ∈ K, x.1 ≠ s) (hn : ∀ x ∈ K, x.2 ≠ n) : Kn (K ++ [(s, n)]) := by
  refine ⟨fun x hx => ?_, ?_, ?_⟩
  · rcases List.mem_append.1 hx with hx | hx
    · exact h.val x hx
    · obtain rfl : x = (s, n) := by simpa using hx
      exact ⟨hv, hs⟩
  · rw [List.map_append, List.nodup_append]
    refine ⟨h.txt, by simp, fun a ha b hb => ?_⟩
    obtain ⟨x, hx, rfl⟩ := List.mem_map.1 ha
    obtain rfl : b = s := by simpa using hb
    exact ht x hx
  · rw [List.map_append, List.nodup_append]
    refine ⟨h.num, by simp, fun a ha b hb => ?_⟩
    obtain ⟨x, hx, rfl⟩ := List.mem_map.1 ha
    obtain rfl : b = n := by simpa using hb
    exact hn x hx

/-- A registry that knows the texts K, and two maps beside it, of the texts L. -/
structure St (B p b1 b2 f g cnt : Nat) (xs : List Value) (K L : List (ByteArray × Nat)) (W : World) : Prop where
  reg : Reg B p cnt xs b1 b2 (M1 K) (M2 K) W
  ne : f ≠ b1 ∧ f ≠ b2 ∧ g ≠ b1 ∧ g ≠ b2 ∧ f ≠ g ∧ B ≤ f ∧ B ≤ g
  hf : W.heap[f]? = some (M1 L)
  hg : W.heap[g]? = some (M3 L)
  kn : Kn K
  lk : Lk K cnt xs

section
variable {B p b1 b2 f g cnt : Nat} {xs : List Value} {K L : List (ByteArray × Nat)} {W W' : World}
theorem St.keep (h : St B p b1 b2 f g cnt xs K L W) (hb : Below W.heap.size W W') : St B p b1 b2 f g cnt xs K L W' :=
  ⟨h.reg.keep hb, h.ne, keepA h.hf hb, keepA h.hg hb, h.kn, h.lk⟩
theorem St.moved {cnt' : Nat} {xs' : List Value} {K' : List (ByteArray × Nat)} (h : St B p b1 b2 f g cnt xs K L W) (hr : Reg B p cnt' xs' b1 b2 (M1 K') (M2 K') W') (hk : KeepsM b1 b2 W W') (hn : Kn K') (hl : Lk K' cnt' xs') : St B p b1 b2 f g cnt' xs' K' L W' :=
  ⟨hr, h.ne, hk f _ _ h.hf h.ne.1 h.ne.2.1, hk g _ _ h.hg h.ne.2.2.1 h.ne.2.2.2.1, hn, hl⟩

theorem St.makeA (h : St B p b1 b2 f g cnt xs K L W) (hc : cnt < 65536) (HT : Tabs W) (k : Int) (b : Bool) (n : Nat) (s : ByteArray) (i : Int) :
    Calls Tryz.prog 11 #[.pointer (some ⟨p, 0, none⟩), VV k b n s i] W fun e W' => ∃ (r1 r2 : Int) (cnt' : Nat) (xs' : List Value), e = .returned (.tuple #[.int .i64 r1, .int .i64 r2]) ∧ St B p b1 b2 f g cnt' xs' K L W' ∧ Below B W W' ∧ cnt ≤ cnt' ∧ cnt' ≤ cnt + 1 := by
  by_cases hok : gd k b n s i = true ∧ (k = 1 ∨ k = 5)
  · refine (makeM_c h.reg hc k b n s i HT hok.1 hok.2).mono ?_
    rintro e W' ⟨rfl, hr, hb, hk⟩
    exact ⟨_, _, cnt + 1, _, rfl, h.moved hr hk h.kn (h.lk.more _ h.reg.len), hb, by omega, Nat.le_refl _⟩
  · refine (makeNot_c (B := 0) (p := p) (cnt := 0) (xs := []) (b1 := 0) (b2 := 0) (o1 := .map #[] 0) (o2 := .map #[] 0) k b n s i HT (by
      cases hg : gd k b n s i with
      | false => exact .inl rfl
      | true => right; exact ⟨fun h => hok ⟨hg, .inl h⟩, fun h => hok ⟨hg, .inr h⟩⟩)).mono ?_
    rintro e W' ⟨rfl, hb⟩
    exact ⟨_, _, cnt, xs, rfl, h.keep hb, hb.mono h.reg.le, by omega, by omega⟩

theorem St.forHit (h : St B p b1 b2 f g cnt xs K L W) (HT : Tabs W) {x : ByteArray × Nat} (hx : x ∈ K) :
    Calls Tryz.prog 14 #[.pointer (some ⟨p, 0, none⟩), .string x.1] W fun e W' => e = .returned (.tuple #[.int .i64 x.2, .int .i64 0]) ∧ Below W.heap.size W W' := by
  have hv := h.kn.val x hx
  exact forHit_c h.reg HT x.1 (by have := hv.2; omega) hv.1 x.2 (fun W' hb => lookT_hit h.kn hx hb)

theorem St.forNew (h : St B p b1 b2 f g cnt xs K L W) (hc : cnt < 65536) (HT : Tabs W) (s : ByteArray) (hs : s.size ≤ 1048576) (hv : (Pt.all s).2 = true) (hn : ∀ x ∈ K, x.1 ≠ s) :
    Calls Tryz.prog 14 #[.pointer (some ⟨p, 0, none⟩), .string s] W fun e W' => e = .returned (.tuple #[.int .i64 ((cnt + 1 : Nat) : Int), .int .i64 0]) ∧ St B p b1 b2 f g (cnt + 1) (xs ++ [.int .i64 5, .bool false, .float .f64 0, .string s, .int .i64 0]) (K ++ [(s, cnt + 1)]) L W' ∧ Below B W W' := by
  refine (forNewM_c h.reg hc HT s (by omega) hv ⟨_, _, rfl⟩ ⟨_, _, rfl⟩ (fun W' hb => lookT_new hn hb) (fun W' hb => updT_new (cnt + 1) hn hb) (fun W' hb => updE_new s h.lk.fresh hb)).mono ?_
  rintro e W' ⟨rfl, hr, hb, hk⟩
  exact ⟨rfl, h.moved hr hk (h.kn.snoc hv hs hn h.lk.fresh) (h.lk.snoc s h.reg.len), hb⟩

theorem St.keyA (h : St B p b1 b2 f g cnt xs K L W) {x : ByteArray × Nat} (hx : x ∈ K) :
    Calls Tryz.prog 23 #[.pointer (some ⟨p, 0, none⟩), .int .i64 x.2] W fun e W' => e = .returned (.tuple #[.string x.1, .bool true, .int .i64 0]) ∧ Below W.heap.size W W' := by
  obtain ⟨j, h0, h1, _⟩ := h.lk x hx
  exact keyFor_c h.reg x.2 (by omega) (by omega) x.1 true (lookE_hit h.kn hx h.reg.maps.2.2.2)
theorem St.descA (h : St B p b1 b2 f g cnt xs K L W) (hc : cnt ≤ 65536) {x : ByteArray × Nat} (hx : x ∈ K) :
    Calls Tryz.prog 25 #[.pointer (some ⟨p, 0, none⟩), .int .i64 x.2] W fun e W' => e = .returned (.tuple #[VV 5 false 0 x.1 0, .int .i64 0]) ∧ Below W.heap.size W W' := by
  obtain ⟨j, h0, h1, c0, c1, c2, c3, c4⟩ := h.lk x hx
  rw [h0]
  exact desc_c h.reg hc j h1 c0 c1 c2 c3 c4

/-- A map beside the registry is written. -/
theorem Reg.side (h : Reg B p cnt xs b1 b2 (M1 K) (M2 K) W) {q : Nat} {es : Array MapEntry} {c : Nat} (hq : W.heap[q]? = some (.map es c)) (n1 : q ≠ b1) (n2 : q ≠ b2) (o : Obj) : Reg B p cnt xs b1 b2 (M1 K) (M2 K) (setBlock W q o) := by
  obtain ⟨h1, h2, h3, h4, k1, k2, m1, m2, a, cap, hp, ho⟩ := h
  have n := row_ne ho hq (by simp)
  have e1 : p ≠ q := by rintro rfl; rw [hp] at hq; cases hq
  exact ⟨h1, h2, h3, h4, (setBlock_far _ _ _ _ (Ne.symm n1)).trans k1, (setBlock_far _ _ _ _ (Ne.symm n2)).trans k2, m1, m2, a, cap, (setBlock_far _ _ _ _ e1).trans hp, ho.kept (setBlock_grown W q o) (.inr (Ne.symm n))⟩
theorem St.side (h : St B p b1 b2 f g cnt xs K L W) (L' : List (ByteArray × Nat)) : St B p b1 b2 f g cnt xs K L' (setBlock (setBlock W f (M1 L')) g (M3 L')) ∧ Below B W (setBlock W f (M1 L')) ∧ Below B W (setBlock (setBlock W f (M1 L')) g (M3 L')) ∧ (setBlock W f (M1 L')).heap[g]? = some (M3 L) := by
  obtain ⟨n1, n2, n3, n4, n5, n6, n7⟩ := h.ne
  have hg1 : (setBlock W f (M1 L')).heap[g]? = some (M3 L) := (setBlock_far W f g _ (Ne.symm n5)).trans h.hg
  have hf1 : (setBlock W f (M1 L')).heap[f]? = some (M1 L') := setBlock_heap W f _ (ltH h.hf)
  have bl : ∀ (V : World) (q : Nat) (o : Obj), B ≤ q → Below B V (setBlock V q o) := fun V q o hq => ⟨rfl, rfl, rfl, by simp [setBlock], fun k hk => setBlock_far V q k o (by omega)⟩
  refine ⟨⟨(h.reg.side h.hf n1 n2 _).side hg1 n3 n4 _, h.ne, (setBlock_far _ g f _ n5).trans hf1, setBlock_heap _ g _ (ltH hg1), h.kn, h.lk⟩, bl _ _ _ n6, (bl _ _ _ n6).trans (bl _ _ _ n7), hg1⟩
end
end Go.Proofs.YtnknfffldgkgcaaGreatDoor

/- A registry whose row of descriptions lies at a known block: what its calls leave as it is. -/
namespace Go.Proofs.YtnknfffldgkgcaaGreatDoor
open Go.RowKit Go.Proofs.YtnknfffldgkgcaaGreatDoorW.PrintWords
open Go.ChangeMaps (setBlock)
attribute [local go_sem] run_store_float

/-- Blocks other than these are as they were. -/
structure KeepX (F : List Nat) (W W' : World) : Prop where
  os : W'.os = W.os
  tape : W'.tape = W.tape
  output : W'.output = W.output
  size : W.heap.size ≤ W'.heap.size
  block : ∀ q, q < W.heap.size → q ∉ F → W'.heap[q]? = W.heap[q]?

theorem KeepX.refl (F : List Nat) (W : World) : KeepX F W W := ⟨rfl, rfl, rfl, Nat.le_refl _, fun _ _ _ => rfl⟩
theorem KeepX.trans {F G : List Nat} {W V U : World} (h : KeepX F W V) (k : KeepX G V U) (hg : ∀ q ∈ G, q ∈ F ∨ W.heap.size ≤ q) : KeepX F W U :=
  ⟨k.os.trans h.os, k.tape.trans h.tape, k.output.trans h.output, Nat.le_trans h.size k.size, fun q hq hF => (k.block q (by have := h.size; omega) (fun hm => by rcases hg q hm with h1 | h1; exact hF h1; omega)).trans (h.block q hq hF)⟩
theorem KeepX.of_below {F : List Nat} {W V : World} (h : Below W.heap.size W V) : KeepX F W V := ⟨h.os, h.tape, h.output, h.size, fun q hq _ => h.block q hq⟩
theorem KeepX.below {F : List Nat} {B : Nat} {W V : World} (h : KeepX F W V) (hF : ∀ q ∈ F, B ≤ q) (hB : B ≤ W.heap.size) : Below B W V :=
  ⟨h.os, h.tape, h.output, h.size, fun q hq => h.block q (by omega) (fun hm => by have := hF q hm; omega)⟩
theorem KeepX.at {F : List Nat} {W V : World} {q : Nat} {o : Obj} (h : KeepX F W V) (hq : W.heap[q]? = some o) (hn : q ∉ F) : V.heap[q]? = some o := (h.block q (ltH hq) hn).trans hq
theorem keepX_set {W : World} (b : Nat) (o : Obj) : KeepX [b] W (setBlock W b o) := ⟨rfl, rfl, rfl, by simp [setBlock], fun q _ hn => setBlock_far W b q o (by simpa using hn)⟩

theorem orow_same {W V : World} {base : Nat} {e : TypeId} {size g n cap : Nat} {xs : List Value} (h : W.ownsRow base e size (.slice (some ⟨g, 0, none⟩) n cap) n xs) (hg : V.heap[g]? = W.heap[g]?) : V.ownsRow base e size (.slice (some ⟨g, 0, none⟩) n cap) n xs := by
  refine ⟨h.1, ?_⟩
  rcases h.2 with ⟨h1, h2⟩ | ⟨g', cap', cur, h1, h2, h3, h4⟩
  · cases h1
  · simp only [Value.slice.injEq, Option.some.injEq, Addr.mk.injEq, true_and, and_true] at h1
    obtain ⟨rfl, rfl⟩ := h1
    exact .inr ⟨g, cap, cur, rfl, h2, hg.trans h3, h4⟩
theorem orow_lt {W : World} {base : Nat} {e : TypeId} {size g n cap : Nat} {xs : List Value} (h : W.ownsRow base e size (.slice (some ⟨g, 0, none⟩) n cap) n xs) : g < W.heap.size ∧ base ≤ g := by
  rcases h.2 with ⟨h1, h2⟩ | ⟨g', cap', cur, h1, h2, h3, h4⟩
  · cases h1
  · simp only [Value.slice.injEq, Option.some.injEq, Addr.mk.injEq, true_and, and_true] at h1
    obtain ⟨rfl, rfl⟩ := h1
    exact ⟨ltH h3, h2⟩

/-- A registry, its row at g. -/
structure RegG (B p g cnt : Nat) (xs : List Value) (b1 b2 : Nat) (o1 o2 : Obj) (W : World) : Prop where
  hB : B ≤ p ∧ B ≤ b1 ∧ B ≤ b2
  ne : b1 ≠ b2
  k1 : W.heap[b1]? = some o1
  k2 : W.heap[b2]? = some o2
  m1 : ∃ es c, o1 = .map es c
  m2 : ∃ es c, o2 = .map es c
  row : ∃ cap, W.heap[p]? = some (.cells #[.slice (some ⟨g, 0, none⟩) cnt cap, .map (some b1), .map (some b2)] 74 (0, 0)) ∧ W.ownsRow B 35 5 (.slice (some ⟨g, 0, none⟩) cnt cap) cnt xs

section
variable {B p g cnt : Nat} {xs : List Value} {b1 b2 : Nat} {o1 o2 : Obj} {W W' : World}
theorem RegG.reg (h : RegG B p g cnt xs b1 b2 o1 o2 W) : Reg B p cnt xs b1 b2 o1 o2 W := by
  obtain ⟨⟨h1, h2, h3⟩, h4, k1, k2, m1, m2, cap, hp, ho⟩ := h
  exact ⟨h1, h2, h3, h4, k1, k2, m1, m2, _, cap, hp, ho⟩
theorem Reg.regG (h : Reg B p cnt xs b1 b2 o1 o2 W) (hc : 0 < cnt) : ∃ g, RegG B p g cnt xs b1 b2 o1 o2 W := by
  obtain ⟨h1, h2, h3, h4, k1, k2, m1, m2, a, cap, hp, ho⟩ := h
  obtain ⟨g, cap', e, _, _⟩ := ho.form hc
  cases e
  exact ⟨g, ⟨h1, h2, h3⟩, h4, k1, k2, m1, m2, cap, hp, ho⟩
theorem RegG.keepX {F : List Nat} (h : RegG B p g cnt xs b1 b2 o1 o2 W) (hk : KeepX F W W') (h1 : p ∉ F) (h2 : g ∉ F) (h3 : b1 ∉ F) (h4 : b2 ∉ F) : RegG B p g cnt xs b1 b2 o1 o2 W' := by
  obtain ⟨hB, ne, k1, k2, m1, m2, cap, hp, ho⟩ := h
  exact ⟨hB, ne, hk.at k1 h3, hk.at k2 h4, m1, m2, cap, hk.at hp h1, orow_same ho (hk.block g (orow_lt ho).1 h2)⟩
theorem RegG.keep (h : RegG B p g cnt xs b1 b2 o1 o2 W) (hk : Below W.heap.size W W') : RegG B p g cnt xs b1 b2 o1 o2 W' := h.keepX (F := []) (KeepX.of_below hk) (by simp) (by simp) (by simp) (by simp)
theorem RegG.lts (h : RegG B p g cnt xs b1 b2 o1 o2 W) : p < W.heap.size ∧ g < W.heap.size ∧ b1 < W.heap.size ∧ b2 < W.heap.size ∧ B ≤ p ∧ B ≤ g ∧ B ≤ b1 ∧ B ≤ b2 := by
  obtain ⟨hB, ne, k1, k2, m1, m2, cap, hp, ho⟩ := h
  exact ⟨ltH hp, (orow_lt ho).1, ltH k1, ltH k2, hB.1, (orow_lt ho).2, hB.2.1, hB.2.2⟩
/-- The four blocks are four. -/
theorem RegG.nes (h : RegG B p g cnt xs b1 b2 o1 o2 W) : p ≠ g ∧ p ≠ b1 ∧ p ≠ b2 ∧ g ≠ b1 ∧ g ≠ b2 ∧ b1 ≠ b2 := by
  obtain ⟨hB, ne, k1, k2, m1, m2, cap, hp, ho⟩ := h
  have n0 : some p ≠ (Value.slice (some ⟨g, 0, none⟩) cnt cap).ownBlock := row_ne ho hp (by simp)
  have n1 := row_ne ho k1 (by obtain ⟨es, c, rfl⟩ := m1; simp)
  have n2 := row_ne ho k2 (by obtain ⟨es, c, rfl⟩ := m2; simp)
  simp only [Value.ownBlock, ne_eq, Option.some.injEq] at n0 n1 n2
  refine ⟨n0, ?_, ?_, fun e => n1 e.symm, fun e => n2 e.symm, ne⟩
  · rintro rfl; obtain ⟨es, c, rfl⟩ := m1; rw [k1] at hp; cases hp
  · rintro rfl; obtain ⟨es, c, rfl⟩ := m2; rw [k2] at hp; cases hp
theorem RegG.put1 (h : RegG B p g cnt xs b1 b2 o1 o2 W) {o1' : Obj} (m : ∃ es c, o1' = .map es c) : RegG B p g cnt xs b1 b2 o1' o2 (setBlock W b1 o1') := by
  have hn := h.nes
  obtain ⟨hB, ne, k1, k2, m1, m2, cap, hp, ho⟩ := h
  have hk := keepX_set (W := W) b1 o1'
  exact ⟨hB, ne, setBlock_heap _ _ _ (ltH k1), hk.at k2 (by simp; exact fun e => ne e.symm), m, m2, cap, hk.at hp (by simp; exact hn.2.1), orow_same ho (hk.block g (orow_lt ho).1 (by simp; exact hn.2.2.2.1))⟩
theorem RegG.put2 (h : RegG B p g cnt xs b1 b2 o1 o2 W) {o2' : Obj} (m : ∃ es c, o2' = .map es c) : RegG B p g cnt xs b1 b2 o1 o2' (setBlock W b2 o2') := by
  have hn := h.nes
  obtain ⟨hB, ne, k1, k2, m1, m2, cap, hp, ho⟩ := h
  have hk := keepX_set (W := W) b2 o2'
  exact ⟨hB, ne, hk.at k1 (by simp; exact ne), setBlock_heap _ _ _ (ltH k2), m1, m, cap, hk.at hp (by simp; exact hn.2.2.1), orow_same ho (hk.block g (orow_lt ho).1 (by simp; exact hn.2.2.2.2.1))⟩
end

theorem reg_growG {B p cnt : Nat} {xs ys : List Value} {b1 b2 : Nat} {o1 o2 : Obj} {g0 cap g cap' : Nat} {W V w1 : World} (hB : B ≤ p ∧ B ≤ b1 ∧ B ≤ b2) (h4 : b1 ≠ b2) (k1 : W.heap[b1]? = some o1) (k2 : W.heap[b2]? = some o2) (m1 : ∃ es c, o1 = .map es c) (m2 : ∃ es c, o2 = .map es c)
    (hp : W.heap[p]? = some (.cells #[.slice (some ⟨g0, 0, none⟩) cnt cap, .map (some b1), .map (some b2)] 74 (0, 0))) (ho : W.ownsRow B 35 5 (.slice (some ⟨g0, 0, none⟩) cnt cap) cnt xs)
    (hBV : Below W.heap.size W V) (hgrow : V.grownBy w1 (Value.slice (some ⟨g0, 0, none⟩) cnt cap).ownBlock) (hown : w1.ownsRow B 35 5 (.slice (some ⟨g, 0, none⟩) (cnt + 1) cap') (cnt + 1) ys) :
    RegG B p g (cnt + 1) ys b1 b2 o1 o2 (w1.setCell ⟨p, 0, none⟩ (.slice (some ⟨g, 0, none⟩) (cnt + 1) cap')) ∧ KeepX [p, g0] W (w1.setCell ⟨p, 0, none⟩ (.slice (some ⟨g, 0, none⟩) (cnt + 1) cap')) := by
  have hk : ∀ q, q < W.heap.size → some q ≠ (Value.slice (some ⟨g0, 0, none⟩) cnt cap).ownBlock → w1.heap[q]? = W.heap[q]? := fun q hq hne => (hgrow.block q (by have := hBV.size; omega) hne).trans (hBV.block q hq)
  have np := row_ne ho hp (by simp)
  have n1 := row_ne ho k1 (by obtain ⟨es, c, rfl⟩ := m1; simp)
  have n2 := row_ne ho k2 (by obtain ⟨es, c, rfl⟩ := m2; simp)
  have hp1 := (hk p (ltH hp) np).trans hp
  have hb1 := (hk b1 (ltH k1) n1).trans k1
  have hb2 := (hk b2 (ltH k2) n2).trans k2
  have e1 : b1 ≠ p := by rintro rfl; obtain ⟨es, c, rfl⟩ := m1; rw [k1] at hp; cases hp
  have e2 : b2 ≠ p := by rintro rfl; obtain ⟨es, c, rfl⟩ := m2; rw [k2] at hp; cases hp
  have hgp : some p ≠ (Value.slice (some ⟨g, 0, none⟩) (cnt + 1) cap').ownBlock := row_ne hown hp1 (by simp)
  have hs : w1.grownBy (w1.setCell ⟨p, 0, none⟩ (.slice (some ⟨g, 0, none⟩) (cnt + 1) cap')) (some p) :=
    ⟨rfl, rfl, rfl, by simp [World.setCell], fun q _ hne => Below.heap_setCell _ _ _ _ (fun e => hne (by rw [e]))⟩
  refine ⟨⟨hB, h4, ?_, ?_, m1, m2, cap', ?_, hown.kept hs (.inr (Ne.symm hgp))⟩, ?_⟩
  · rw [Below.heap_setCell _ _ _ _ e1]; exact hb1
  · rw [Below.heap_setCell _ _ _ _ e2]; exact hb2
  · simp [World.setCell, Array.getElem?_modify, hp1]
  · refine ⟨hgrow.os.trans hBV.os, hgrow.tape.trans hBV.tape, hgrow.output.trans hBV.output, ?_, fun q hq hF => ?_⟩
    · have e := hgrow.size
      have e' := hBV.size
      simp only [World.setCell, Array.size_modify]
      omega
    · simp only [List.mem_cons, List.not_mem_nil, or_false, not_or] at hF
      rw [Below.heap_setCell _ _ _ _ hF.1]
      refine hk q hq fun e => ?_
      exact hF.2 (by simpa [Value.ownBlock] using e)

set_option maxRecDepth 100000 in
theorem addX_c {B p g0 cnt : Nat} {xs : List Value} {b1 b2 : Nat} {o1 o2 : Obj} {W : World} (h : RegG B p g0 cnt xs b1 b2 o1 o2 W) (hc : cnt < 65536) (k : Int) (b : Bool) (n : Nat) (s : ByteArray) (i : Int) :
    Calls Tryz.prog 35 #[.pointer (some ⟨p, 0, none⟩), VV k b n s i] W fun e W' => e = .returned (.tuple #[.int .i64 ((cnt : Int) + 1), .int .i64 0]) ∧ ∃ g, RegG B p g (cnt + 1) (xs ++ [.int .i64 k, .bool b, .float .f64 n, .string s, .int .i64 i]) b1 b2 o1 o2 W' ∧ (g = g0 ∨ W.heap.size ≤ g) ∧ KeepX [p, g0] W W' := by
  have hle := h.reg.le
  obtain ⟨hB, h4, k1, k2, m1, m2, cap, hp, ho⟩ := h
  obtain ⟨i0, hi0, hz0, hz1, hz2⟩ := info_parts infoV
  have c0 := fun o => (show (W.alloc o).cell? ⟨p, 0, none⟩ = some (.slice (some ⟨g0, 0, none⟩) cnt cap) by rw [Lib.cell_of_heap (show (W.alloc o).heap[p]? = _ from by rw [Lib.alloc_old W o _ (ltH hp)]; exact hp)]; rfl)
  have d1 : ¬ (65536 : Int) ≤ (cnt : Int) := by omega
  have np := row_ne ho hp (by simp)
  have lp := ltH hp
  unfold VV at *
  go_enter Tryz.func35, Tryz.ntmps35
  go_wp2_with fail
  have c1 := fun o => (show (W.alloc o).frozen? ⟨p, 0, none⟩ = false from Lib.frozen_of_heap (show (W.alloc o).heap[p]? = _ from by rw [Lib.alloc_old W o _ (ltH hp)]; exact hp) 0)
  go_region_law ((refine step_append_lies _ (by rfl) _ _ _ (by rfl) B 35 i0 _ 5 48 Tryz.underlying72 hi0 hz0 hz1 hz2 rfl (by omega) (.slice (some ⟨g0, 0, none⟩) cnt cap) cnt xs (by rfl) (by first | exact ((ho.alloc _).alloc _) | exact ((ho.alloc _).drew).alloc _) ⟨W.heap.size + 1, 0, none⟩ 1 1 [.int .i64 k, .bool b, .float .f64 n, .string s, .int .i64 i] (by rfl) (by rfl) (World.news_of_block (cs := #[.int .i64 k, .bool b, .float .f64 n, .string s, .int .i64 i]) (t := 35) (fr := (0, 0)) (heap_alloc2_new W _ _)) (by simp [Value.oneCell']) (by omega) (by simp only [maxLen]; omega) (by omega) (by simp; omega) (W.heap.size + 2) (by simp) ?_; intro g cap' w1 hown1 hgrow hat hlt; have cp := (hgrow.cell_far ⟨p, 0, none⟩ (by simp; omega) np).trans (cp2 hp _ _); have fp := (hgrow.frozen_far ⟨p, 0, none⟩ (by simp; omega) np).trans (fp2 hp _ _)))
  all_goals
    obtain ⟨hR, hK⟩ := reg_growG hB h4 k1 k2 m1 m2 hp ho (((((Below.refl W.heap.size W).alloc (Nat.le_refl _) _).alloc (by simp) _)).drew) hgrow hown1
    have cn : (w1.setCell ⟨p, 0, none⟩ (.slice (some ⟨g, 0, none⟩) (cnt + 1) cap')).cell? ⟨p, 0, none⟩ = some (.slice (some ⟨g, 0, none⟩) (cnt + 1) cap') := by
      exact World.cell?_setCell_same' _ _ _ (by rw [cp]; rfl)
    have hgw : g = g0 ∨ W.heap.size ≤ g := by
      rcases hat with h | h
      · left; have : g0 = g := by simpa [Value.ownBlock] using h
        exact this.symm
      · right; omega
    generalize w1.setCell ⟨p, 0, none⟩ (.slice (some ⟨g, 0, none⟩) (cnt + 1) cap') = W2 at *
    clear hown1 hgrow hat hlt cp fp c0 c1
    go_wp2
    go_ret2
    exact ⟨by simp, g, hR, hgw, hK⟩

set_option maxRecDepth 100000 in
/-- No room. -/
theorem addFull_c {B p g0 cnt : Nat} {xs : List Value} {b1 b2 : Nat} {o1 o2 : Obj} {W : World} (h : RegG B p g0 cnt xs b1 b2 o1 o2 W) (hc : 65536 ≤ cnt) (k : Int) (b : Bool) (n : Nat) (s : ByteArray) (i : Int) :
    Calls Tryz.prog 35 #[.pointer (some ⟨p, 0, none⟩), VV k b n s i] W fun e W' => e = .returned (.tuple #[.int .i64 0, .int .i64 3]) ∧ Below W.heap.size W W' := by
  obtain ⟨hB, h4, k1, k2, m1, m2, cap, hp, ho⟩ := h
  have c0 := fun o => (show (W.alloc o).cell? ⟨p, 0, none⟩ = some (.slice (some ⟨g0, 0, none⟩) cnt cap) by rw [Lib.cell_of_heap (show (W.alloc o).heap[p]? = _ from by rw [Lib.alloc_old W o _ (ltH hp)]; exact hp)]; rfl)
  have d1 : (65536 : Int) ≤ (cnt : Int) := by omega
  clear hp ho k1 k2 m1 m2
  unfold VV at *
  go_enter Tryz.func35, Tryz.ntmps35
  go_wp2
  go_ret2
  exact ⟨rfl, (Below.refl _ _).alloc (Nat.le_refl _) _⟩

theorem makeX_c {B p g0 cnt : Nat} {xs : List Value} {b1 b2 : Nat} {o1 o2 : Obj} {W : World} (hR : RegG B p g0 cnt xs b1 b2 o1 o2 W) (hc : cnt < 65536) (k : Int) (b : Bool) (n : Nat) (s : ByteArray) (i : Int) (HT : Tabs W) (hG : gd k b n s i = true) (hk : k = 1 ∨ k = 5) :
    Calls Tryz.prog 11 #[.pointer (some ⟨p, 0, none⟩), VV k b n s i] W fun e W' => e = .returned (.tuple #[.int .i64 ((cnt : Int) + 1), .int .i64 0]) ∧ ∃ g, RegG B p g (cnt + 1) (xs ++ [.int .i64 k, .bool b, .float .f64 n, .string s, .int .i64 i]) b1 b2 o1 o2 W' ∧ (g = g0 ∨ W.heap.size ≤ g) ∧ KeepX [p, g0] W W' := by
  have hg := Fact.mk (fun w' (h : Below W.heap.size W w') => check_c k b n s i w' (HT.below h))
  have ha := Fact.mk (fun w' (h : Below W.heap.size W w') => addX_c (hR.keep h) hc k b n s i)
  rw [hG] at hg
  have d1 : (k != 1 && k != 5) = false := by rcases hk with rfl | rfl <;> rfl
  clear HT hG hR
  simp only [if_true] at hg
  unfold VV at *
  rcases hk with rfl | rfl
  all_goals
    clear d1
    go_enter Tryz.func11, Tryz.ntmps11
    go_wp2_with (first | (go_at_call 34; refine (hg.out _ ((Below.refl _ _).alloc (Nat.le_refl _) _)).mono ?_; rintro e w1 ⟨rfl, hb⟩; obtain ⟨c0, c1, c2, c3, c4⟩ := cells5' hb; have hb1 := below1 hb) | (go_at_call 35; refine (ha.out _ hb1).mono ?_; rintro e w2 ⟨rfl, g, hR2, hg2, hk2⟩))
    go_ret2
    exact ⟨rfl, g, hR2, hg2.imp id (fun h => Nat.le_trans hb1.size h), (KeepX.of_below hb1).trans hk2 (fun q hq => .inl hq)⟩
theorem makeFull_c {B p g0 cnt : Nat} {xs : List Value} {b1 b2 : Nat} {o1 o2 : Obj} {W : World} (hR : RegG B p g0 cnt xs b1 b2 o1 o2 W) (hc : 65536 ≤ cnt) (k : Int) (b : Bool) (n : Nat) (s : ByteArray) (i : Int) (HT : Tabs W) (hG : gd k b n s i = true) (hk : k = 1 ∨ k = 5) :
    Calls Tryz.prog 11 #[.pointer (some ⟨p, 0, none⟩), VV k b n s i] W fun e W' => e = .returned (.tuple #[.int .i64 0, .int .i64 3]) ∧ Below W.heap.size W W' := by
  have hg := Fact.mk (fun w' (h : Below W.heap.size W w') => check_c k b n s i w' (HT.below h))
  have ha := Fact.mk (fun w' (h : Below W.heap.size W w') => addFull_c (hR.keep h) hc k b n s i)
  rw [hG] at hg
  clear HT hG hR
  simp only [if_true] at hg
  unfold VV at *
  rcases hk with rfl | rfl
  all_goals
    go_enter Tryz.func11, Tryz.ntmps11
    go_wp2_with (first | (go_at_call 34; refine (hg.out _ ((Below.refl _ _).alloc (Nat.le_refl _) _)).mono ?_; rintro e w1 ⟨rfl, hb⟩; obtain ⟨c0, c1, c2, c3, c4⟩ := cells5' hb; have hb1 := below1 hb) | (go_at_call 35; refine (ha.out _ hb1).mono ?_; rintro e w2 ⟨rfl, hb2⟩))
    go_ret2
    exact ⟨rfl, hb1.trans (hb2.mono hb1.size)⟩

set_option maxRecDepth 100000 in
theorem forNewX_c {B p g0 cnt : Nat} {xs : List Value} {b1 b2 : Nat} {o1 o2 o1' o2' : Obj} {W : World} (hR : RegG B p g0 cnt xs b1 b2 o1 o2 W) (hc : cnt < 65536) (HT : Tabs W) (s : ByteArray) (hs : (s.size : Int) ≤ 1048576) (hv : (Pt.all s).2 = true)
    (m1' : ∃ es c, o1' = .map es c) (m2' : ∃ es c, o2' = .map es c)
    (hl : ∀ W', W'.heap[b1]? = some o1 → (Instr.lookup 70 (.map (some b1)) (.string s) true).run Tryz.prog W' = .ok (.tuple #[.int .i64 0, .bool false]) W')
    (hu1 : ∀ W', W'.heap[b1]? = some o1 → (Instr.mapUpdate 70 (.map (some b1)) (.string s) (.int .i64 ((cnt : Int) + 1))).run Tryz.prog W' = .ok () (setBlock W' b1 o1'))
    (hu2 : ∀ W', W'.heap[b2]? = some o2 → (Instr.mapUpdate 71 (.map (some b2)) (.int .i64 ((cnt : Int) + 1)) (.agg #[.string s])).run Tryz.prog W' = .ok () (setBlock W' b2 o2')) :
    Calls Tryz.prog 14 #[.pointer (some ⟨p, 0, none⟩), .string s] W fun e W' => e = .returned (.tuple #[.int .i64 ((cnt : Int) + 1), .int .i64 0]) ∧ ∃ g, RegG B p g (cnt + 1) (xs ++ [.int .i64 5, .bool false, .float .f64 0, .string s, .int .i64 0]) b1 b2 o1' o2' W' ∧ (g = g0 ∨ W.heap.size ≤ g) ∧ KeepX [p, g0, b1, b2] W W' := by
  have hV := Fact.mk (show units_Valid.f s = some true by unfold units_Valid.f; rw [if_pos (by omega), hv])
  have hgd : gd 5 false 0 s 0 = true := by simp [gd, hv, hs]
  have hM := Fact.mk (fun w' (h : Below W.heap.size W w') => mkStr_c s w' (HT.below h))
  simp only [hgd, if_true] at hM
  have ha := Fact.mk (fun w' (h : Below W.heap.size W w') => addX_c (hR.keep h) hc 5 false 0 s 0)
  have HT' := Fact.mk HT
  have hR' := Fact.mk hR
  have hl' := Fact.mk hl
  have hu1' := Fact.mk hu1
  have hu2' := Fact.mk hu2
  have mm1 := Fact.mk m1'
  have mm2 := Fact.mk m2'
  clear hv HT hR hl hgd hu1 hu2 m1' m2'
  unfold VV at *
  go_enter Tryz.func14, Tryz.ntmps14
  go_wp2_with (first | (go_at_call 37; refine (units_Valid.calls s _ _ ⟨HT'.out⟩ hV.out).mono ?_; rintro e w1 ⟨rfl, hb⟩; obtain ⟨c1, c2, k1, k2⟩ := (hR'.out.keep hb).reg.maps; have q := hl'.out w1 k1) | (go_at_call 31; refine (hM.out _ hb).mono ?_; rintro e w2 ⟨rfl, hb2⟩; have hb3 := hb.trans (hb2.mono hb.size)) | (go_at_call 35; refine (ha.out _ hb3).mono ?_; rintro e w3 ⟨rfl, g, hR3, hg3, hk4⟩; have P1 := hR3.put1 mm1.out; have Q2 := P1.put2 mm2.out; have d1 := hR3.reg.maps; have q1 := hu1'.out w3 d1.2.2.1; have d2 := P1.reg.maps; have q2 := hu2'.out _ d2.2.2.2; have c3 := d1.1; have c4 := d2.2.1))
  go_ret2
  exact ⟨rfl, g, Q2, hg3.imp id (fun h => Nat.le_trans hb3.size h), (((KeepX.of_below (F := [p, g0, b1, b2]) hb3).trans hk4 (by simp)).trans (keepX_set _ _) (by simp)).trans (keepX_set _ _) (by simp)⟩

set_option maxRecDepth 100000 in
theorem forFull_c {B p g0 cnt : Nat} {xs : List Value} {b1 b2 : Nat} {o1 o2 : Obj} {W : World} (hR : RegG B p g0 cnt xs b1 b2 o1 o2 W) (hc : 65536 ≤ cnt) (HT : Tabs W) (s : ByteArray) (hs : (s.size : Int) ≤ 1048576) (hv : (Pt.all s).2 = true)
    (hl : ∀ W', W'.heap[b1]? = some o1 → (Instr.lookup 70 (.map (some b1)) (.string s) true).run Tryz.prog W' = .ok (.tuple #[.int .i64 0, .bool false]) W') :
    Calls Tryz.prog 14 #[.pointer (some ⟨p, 0, none⟩), .string s] W fun e W' => e = .returned (.tuple #[.int .i64 0, .int .i64 3]) ∧ Below W.heap.size W W' := by
  have hV := Fact.mk (show units_Valid.f s = some true by unfold units_Valid.f; rw [if_pos (by omega), hv])
  have hgd : gd 5 false 0 s 0 = true := by simp [gd, hv, hs]
  have hM := Fact.mk (fun w' (h : Below W.heap.size W w') => mkStr_c s w' (HT.below h))
  simp only [hgd, if_true] at hM
  have ha := Fact.mk (fun w' (h : Below W.heap.size W w') => addFull_c (hR.keep h) hc 5 false 0 s 0)
  have HT' := Fact.mk HT
  have hR' := Fact.mk hR
  have hl' := Fact.mk hl
  clear hv HT hR hl hgd
  unfold VV at *
  go_enter Tryz.func14, Tryz.ntmps14
  go_wp2_with (first | (go_at_call 37; refine (units_Valid.calls s _ _ ⟨HT'.out⟩ hV.out).mono ?_; rintro e w1 ⟨rfl, hb⟩; obtain ⟨c1, c2, k1, k2⟩ := (hR'.out.keep hb).reg.maps; have q := hl'.out w1 k1) | (go_at_call 31; refine (hM.out _ hb).mono ?_; rintro e w2 ⟨rfl, hb2⟩; have hb3 := hb.trans (hb2.mono hb.size)) | (go_at_call 35; refine (ha.out _ hb3).mono ?_; rintro e w3 ⟨rfl, hb4⟩; have hb5 := hb3.trans (hb4.mono hb3.size)))
  go_ret2
  exact ⟨rfl, hb5⟩
end Go.Proofs.YtnknfffldgkgcaaGreatDoor

/- The symbols of a registry, as a list: what a call makes of it, and what the program's registry answers. -/
namespace Go.Proofs.YtnknfffldgkgcaaGreatDoor
open Go.RowKit Go.Proofs.YtnknfffldgkgcaaGreatDoorW.PrintWords
open Go.ChangeMaps (setBlock)
open Go.MapKept
attribute [local go_sem] run_store_float

/-- A symbol: its description, and whether a text knows it. -/
structure Sy where
  v : Vl
  kn : Bool
def Vl.cells (v : Vl) : List Value := [.int .i64 v.k, .bool v.b, .float .f64 v.n, .string v.s, .int .i64 v.i]
def f5 : List Sy → List Value
  | [] => []
  | x :: t => x.v.cells ++ f5 t
def f6 : List Sy → List Value
  | [] => []
  | x :: t => (x.v.cells ++ [.bool x.kn]) ++ f6 t
theorem f5_snoc (x : Sy) : ∀ A, f5 (A ++ [x]) = f5 A ++ x.v.cells
  | [] => by simp [f5]
  | y :: t => by simp [f5, f5_snoc x t]
theorem f6_snoc (x : Sy) : ∀ A, f6 (A ++ [x]) = f6 A ++ (x.v.cells ++ [.bool x.kn])
  | [] => by simp [f6]
  | y :: t => by simp [f6, f6_snoc x t]
theorem f5_at : ∀ (A : List Sy) (j q : Nat) (x : Sy), A[j]? = some x → q < 5 → (f5 A)[j * 5 + q]? = x.v.cells[q]?
  | [], _, _, _, h, _ => by simp at h
  | y :: t, 0, q, x, h, hq => by
    simp at h; subst h
    simp only [f5, Nat.zero_mul, Nat.zero_add]
    rw [List.getElem?_append_left (by simp [Vl.cells]; omega)]
  | y :: t, j + 1, q, x, h, hq => by
    simp only [List.getElem?_cons_succ] at h
    simp only [f5]
    rw [List.getElem?_append_right (by simp [Vl.cells]; omega)]
    have e : (j + 1) * 5 + q - y.v.cells.length = j * 5 + q := by simp [Vl.cells]; omega
    rw [e, f5_at t j q x h hq]
theorem f6_at : ∀ (A : List Sy) (j q : Nat) (x : Sy), A[j]? = some x → q < 6 → (f6 A)[j * 6 + q]? = (x.v.cells ++ [Value.bool x.kn])[q]?
  | [], _, _, _, h, _ => by simp at h
  | y :: t, 0, q, x, h, hq => by
    simp at h; subst h
    simp only [f6, Nat.zero_mul, Nat.zero_add]
    rw [List.getElem?_append_left (by simp [Vl.cells]; omega)]
  | y :: t, j + 1, q, x, h, hq => by
    simp only [List.getElem?_cons_succ] at h
    simp only [f6]
    rw [List.getElem?_append_right (by simp [Vl.cells]; omega)]
    have e : (j + 1) * 6 + q - (y.v.cells ++ [Value.bool y.kn]).length = j * 6 + q := by simp [Vl.cells]; omega
    rw [e, f6_at t j q x h hq]
theorem f5_five {A : List Sy} {j : Nat} {x : Sy} (h : A[j]? = some x) : (f5 A)[j * 5]? = some (.int .i64 x.v.k) ∧ (f5 A)[j * 5 + 1]? = some (.bool x.v.b) ∧ (f5 A)[j * 5 + 2]? = some (.float .f64 x.v.n) ∧ (f5 A)[j * 5 + 3]? = some (.string x.v.s) ∧ (f5 A)[j * 5 + 4]? = some (.int .i64 x.v.i) :=
  ⟨f5_at A j 0 x h (by decide), f5_at A j 1 x h (by decide), f5_at A j 2 x h (by decide), f5_at A j 3 x h (by decide), f5_at A j 4 x h (by decide)⟩
theorem f6_six {A : List Sy} {j : Nat} {x : Sy} (h : A[j]? = some x) : (f6 A)[j * 6]? = some (.int .i64 x.v.k) ∧ (f6 A)[j * 6 + 1]? = some (.bool x.v.b) ∧ (f6 A)[j * 6 + 2]? = some (.float .f64 x.v.n) ∧ (f6 A)[j * 6 + 3]? = some (.string x.v.s) ∧ (f6 A)[j * 6 + 4]? = some (.int .i64 x.v.i) ∧ (f6 A)[j * 6 + 5]? = some (.bool x.kn) :=
  ⟨f6_at A j 0 x h (by decide), f6_at A j 1 x h (by decide), f6_at A j 2 x h (by decide), f6_at A j 3 x h (by decide), f6_at A j 4 x h (by decide), f6_at A j 5 x h (by decide)⟩

/-- The known texts, each with its symbol. -/
def kl : List Sy → Nat → List (ByteArray × Nat)
  | [], _ => []
  | x :: t, i => if x.kn = true then (x.v.s, i + 1) :: kl t (i + 1) else kl t (i + 1)
theorem kl_snoc (x : Sy) : ∀ (A : List Sy) (i : Nat), kl (A ++ [x]) i = kl A i ++ (if x.kn = true then [(x.v.s, i + A.length + 1)] else [])
  | [], i => by simp [kl]
  | y :: t, i => by
    simp only [List.cons_append, kl, kl_snoc x t, List.length_cons]
    have e : i + 1 + t.length + 1 = i + (t.length + 1) + 1 := by omega
    rw [e]
    split <;> simp
theorem kl_mem {y : ByteArray × Nat} : ∀ {A : List Sy} {i : Nat}, y ∈ kl A i → ∃ j x, A[j]? = some x ∧ x.kn = true ∧ y = (x.v.s, i + j + 1)
  | [], i, h => by simp [kl] at h
  | z :: t, i, h => by
    simp only [kl] at h
    have tl : y ∈ kl t (i + 1) → ∃ j x, (z :: t)[j]? = some x ∧ x.kn = true ∧ y = (x.v.s, i + j + 1) := fun h => by
      obtain ⟨j, x, h1, h2, h3⟩ := kl_mem h
      exact ⟨j + 1, x, by simpa using h1, h2, by rw [h3]; congr 1; omega⟩
    split at h
    · rename_i hz
      rcases List.mem_cons.1 h with h | h
      · exact ⟨0, z, rfl, hz, by simpa using h⟩
      · exact tl h
    · exact tl h
theorem mem_kl {x : Sy} : ∀ {A : List Sy} {i j : Nat}, A[j]? = some x → x.kn = true → (x.v.s, i + j + 1) ∈ kl A i
  | [], i, j, h, _ => by simp at h
  | z :: t, i, 0, h, hk => by
    simp at h; subst h
    simp [kl, hk]
  | z :: t, i, j + 1, h, hk => by
    simp only [List.getElem?_cons_succ] at h
    have := mem_kl (i := i + 1) h hk
    have e : i + 1 + j + 1 = i + (j + 1) + 1 := by omega
    rw [e] at this
    simp only [kl]
    split
    · exact List.mem_cons_of_mem _ this
    · exact this
theorem kl_length (A : List Sy) (i : Nat) : (kl A i).length ≤ A.length := by
  induction A generalizing i with
  | nil => simp [kl]
  | cons z t ih =>
    simp only [kl]
    have := ih (i + 1)
    split <;> simp <;> omega
theorem kl_lt {A : List Sy} {y : ByteArray × Nat} (h : y ∈ kl A 0) : 1 ≤ y.2 ∧ y.2 ≤ A.length := by
  obtain ⟨j, x, h1, _, rfl⟩ := kl_mem h
  have := (List.getElem?_eq_some_iff.1 h1).1
  simp; omega

/-- The first symbol that a text is known by. -/
def firstK (s : ByteArray) : List Sy → Option Nat
  | [] => none
  | x :: t => if (x.kn && (s == x.v.s)) = true then some 0 else (firstK s t).map (· + 1)
theorem firstK_some {s : ByteArray} : ∀ {A : List Sy} {j : Nat}, firstK s A = some j → ∃ x, A[j]? = some x ∧ x.kn = true ∧ x.v.s = s
  | [], _, h => by simp [firstK] at h
  | x :: t, j, h => by
    simp only [firstK] at h
    split at h
    · rename_i hx
      cases h
      rw [Bool.and_eq_true, beq_iff_eq] at hx
      exact ⟨x, rfl, hx.1, hx.2.symm⟩
    · obtain ⟨q, h1, rfl⟩ := Option.map_eq_some_iff.1 h
      obtain ⟨y, h2, h3⟩ := firstK_some h1
      exact ⟨y, by simpa using h2, h3⟩
theorem firstK_none {s : ByteArray} : ∀ {A : List Sy}, firstK s A = none → ∀ (j : Nat) (x : Sy), A[j]? = some x → x.kn = true → x.v.s ≠ s
  | [], _, j, x, h, _ => by simp at h
  | y :: t, h, j, x, hj, hk => by
    simp only [firstK] at h
    split at h
    · cases h
    · rename_i hx
      match j, hj with
      | 0, hj =>
        simp at hj; subst hj
        intro e
        exact hx (by rw [hk, e]; simp)
      | j + 1, hj => exact firstK_none (Option.map_eq_none_iff.1 h) j x (by simpa using hj) hk

/-- May it be described so? -/
def okV (v : Vl) : Bool := gd v.k v.b v.n v.s v.i && (decide (v.k = 1) || decide (v.k = 5))
/-- May it be known by that? -/
def okS (s : ByteArray) : Bool := decide ((s.size : Int) ≤ 1048576) && (Pt.all s).2
def strV (s : ByteArray) : Vl := ⟨5, false, 0, s, 0⟩
/-- Make: the symbols then, the answer's two numbers. -/
def mkA (A : List Sy) (v : Vl) : List Sy × Int × Int :=
  if okV v = true then if A.length < 65536 then (A ++ [⟨v, false⟩], (A.length : Int) + 1, 0) else (A, 0, 3) else (A, 0, 5)
/-- For. -/
def forA (A : List Sy) (s : ByteArray) : List Sy × Int × Int :=
  if okS s = true then match firstK s A with
    | some j => (A, (j : Int) + 1, 0)
    | none => if A.length < 65536 then (A ++ [⟨strV s, true⟩], (A.length : Int) + 1, 0) else (A, 0, 3)
  else (A, 0, 5)

/-- What holds of the symbols of each registry. -/
structure Inv (A : List Sy) : Prop where
  ok : ∀ x ∈ A, okV x.v = true
  kn : ∀ x ∈ A, x.kn = true → x.v = strV x.v.s
  nd : Kn (kl A 0)
  lo : 13 ≤ A.length
  hi : A.length ≤ 65536
theorem Inv.mkA {A : List Sy} (h : Inv A) (v : Vl) : Inv (mkA A v).1 := by
  unfold Go.Proofs.YtnknfffldgkgcaaGreatDoor.mkA
  split
  · rename_i hv
    split
    · rename_i hl
      refine ⟨fun x hx => ?_, fun x hx hk => ?_, ?_, by simp; have := h.lo; omega, by simp; omega⟩
      · rcases List.mem_append.1 hx with hx | hx
        · exact h.ok x hx
        · obtain rfl : x = ⟨v, false⟩ := by simpa using hx
          exact hv
      · rcases List.mem_append.1 hx with hx | hx
        · exact h.kn x hx hk
        · obtain rfl : x = ⟨v, false⟩ := by simpa using hx
          cases hk
      · simp only [kl_snoc, Bool.false_eq_true, if_false, List.append_nil]
        exact h.nd
    · exact h
  · exact h
theorem okS_gd {s : ByteArray} (h : okS s = true) : gd 5 false 0 s 0 = true := by
  unfold okS at h
  simp only [gd]
  simp
  simp at h
  exact h
theorem Inv.forA {A : List Sy} (h : Inv A) (s : ByteArray) : Inv (forA A s).1 := by
  unfold Go.Proofs.YtnknfffldgkgcaaGreatDoor.forA
  split
  · rename_i hs
    split
    · exact h
    · rename_i hf
      split
      · rename_i hl
        have hs' := hs
        unfold okS at hs'
        simp only [Bool.and_eq_true, decide_eq_true_eq] at hs'
        refine ⟨fun x hx => ?_, fun x hx hk => ?_, ?_, by simp; have := h.lo; omega, by simp; omega⟩
        · rcases List.mem_append.1 hx with hx | hx
          · exact h.ok x hx
          · obtain rfl : x = ⟨strV s, true⟩ := by simpa using hx
            unfold okV strV
            simp only
            rw [okS_gd hs]; rfl
        · rcases List.mem_append.1 hx with hx | hx
          · exact h.kn x hx hk
          · obtain rfl : x = ⟨strV s, true⟩ := by simpa using hx
            rfl
        · simp only [kl_snoc, if_true, Nat.zero_add]
          refine h.nd.snoc (n := A.length + 1) hs'.2 (by have := hs'.1; simp only [strV]; omega) (fun y hy => ?_) (fun y hy => ?_)
          · obtain ⟨j, x, h1, h2, rfl⟩ := kl_mem hy
            exact firstK_none hf j x h1 h2
          · have := kl_lt hy; omega
      · exact h
  · exact h

/-- The program's registry holds these symbols. -/
def OwnS (A : List Sy) (B p g b1 b2 : Nat) (W : World) : Prop := RegG B p g A.length (f5 A) b1 b2 (M1 (kl A 0)) (M2 (kl A 0)) W

section
variable {A : List Sy} {B p g b1 b2 : Nat} {W : World}
theorem OwnS.make (h : OwnS A B p g b1 b2 W) (hi : A.length ≤ 65536) (HT : Tabs W) (v : Vl) :
    Calls Tryz.prog 11 #[.pointer (some ⟨p, 0, none⟩), VV v.k v.b v.n v.s v.i] W fun e W' => e = .returned (.tuple #[.int .i64 (mkA A v).2.1, .int .i64 (mkA A v).2.2]) ∧ ∃ g', OwnS (mkA A v).1 B p g' b1 b2 W' ∧ (g' = g ∨ W.heap.size ≤ g') ∧ KeepX [p, g, b1, b2] W W' := by
  unfold mkA
  split
  · rename_i hv
    have hv' := hv
    unfold okV at hv'
    simp only [Bool.and_eq_true, Bool.or_eq_true, decide_eq_true_eq] at hv'
    split
    · rename_i hl
      refine (makeX_c h hl v.k v.b v.n v.s v.i HT hv'.1 hv'.2).mono ?_
      rintro e W' ⟨rfl, g', hR, hg, hk⟩
      refine ⟨rfl, g', ?_, hg, (KeepX.refl [p, g, b1, b2] W).trans hk (by simp)⟩
      unfold OwnS
      simp only [kl_snoc, f5_snoc, Bool.false_eq_true, if_false, List.append_nil, List.length_append, List.length_cons, List.length_nil]
      exact hR
    · rename_i hl
      refine (makeFull_c h (by omega) v.k v.b v.n v.s v.i HT hv'.1 hv'.2).mono ?_
      rintro e W' ⟨rfl, hb⟩
      exact ⟨rfl, g, h.keep hb, .inl rfl, KeepX.of_below hb⟩
  · rename_i hv
    refine (makeNot_c (B := 0) (p := p) (cnt := 0) (xs := []) (b1 := 0) (b2 := 0) (o1 := .map #[] 0) (o2 := .map #[] 0) v.k v.b v.n v.s v.i HT (by
      unfold okV at hv
      cases hg : gd v.k v.b v.n v.s v.i with
      | false => exact .inl rfl
      | true =>
        right
        rw [hg] at hv
        simp at hv
        exact hv)).mono ?_
    rintro e W' ⟨rfl, hb⟩
    exact ⟨rfl, g, h.keep hb, .inl rfl, KeepX.of_below hb⟩

theorem OwnS.forS (h : OwnS A B p g b1 b2 W) (hI : Inv A) (HT : Tabs W) (s : ByteArray) :
    Calls Tryz.prog 14 #[.pointer (some ⟨p, 0, none⟩), .string s] W fun e W' => e = .returned (.tuple #[.int .i64 (forA A s).2.1, .int .i64 (forA A s).2.2]) ∧ ∃ g', OwnS (forA A s).1 B p g' b1 b2 W' ∧ (g' = g ∨ W.heap.size ≤ g') ∧ KeepX [p, g, b1, b2] W W' := by
  unfold forA
  split
  · rename_i hs
    have hs' := hs
    unfold okS at hs'
    simp only [Bool.and_eq_true, decide_eq_true_eq] at hs'
    split
    · rename_i j hj
      obtain ⟨x, h1, h2, rfl⟩ := firstK_some hj
      have hm : (x.v.s, j + 1) ∈ kl A 0 := by have := mem_kl (i := 0) h1 h2; simpa using this
      refine (forHit_c h.reg HT x.v.s hs'.1 hs'.2 ((j : Int) + 1) (fun W' hb => by have := lookT_hit hI.nd hm hb; simpa using this)).mono ?_
      rintro e W' ⟨rfl, hb⟩
      exact ⟨rfl, g, h.keep hb, .inl rfl, KeepX.of_below hb⟩
    · rename_i hf
      have hn : ∀ x ∈ kl A 0, x.1 ≠ s := fun y hy => by
        obtain ⟨j, x, h1, h2, rfl⟩ := kl_mem hy
        exact firstK_none hf j x h1 h2
      have hm : ∀ x ∈ kl A 0, x.2 ≠ A.length + 1 := fun y hy => by have := kl_lt hy; omega
      split
      · rename_i hl
        refine (forNewX_c (o1' := M1 (kl A 0 ++ [(s, A.length + 1)])) (o2' := M2 (kl A 0 ++ [(s, A.length + 1)])) h hl HT s hs'.1 hs'.2 ⟨_, _, rfl⟩ ⟨_, _, rfl⟩ (fun W' hb => lookT_new hn hb) (fun W' hb => updT_new (A.length + 1) hn hb) (fun W' hb => updE_new s hm hb)).mono ?_
        rintro e W' ⟨rfl, g', hR, hg, hk⟩
        refine ⟨rfl, g', ?_, hg, hk⟩
        unfold OwnS
        simp only [kl_snoc, f5_snoc, if_true, List.length_append, List.length_cons, List.length_nil, Nat.zero_add]
        exact hR
      · rename_i hl
        refine (forFull_c h (by omega) HT s hs'.1 hs'.2 (fun W' hb => lookT_new hn hb)).mono ?_
        rintro e W' ⟨rfl, hb⟩
        exact ⟨rfl, g, h.keep hb, .inl rfl, KeepX.of_below hb⟩
  · rename_i hs
    refine (forBad_c HT s (by
      unfold okS at hs
      by_cases hz : (s.size : Int) ≤ 1048576
      · right
        cases hv : (Pt.all s).2 with
        | false => rfl
        | true => rw [hv] at hs; simp at hs; omega
      · exact .inl hz)).mono ?_
    rintro e W' ⟨rfl, hb⟩
    exact ⟨rfl, g, h.keep hb, .inl rfl, KeepX.of_below hb⟩
end

/-- The symbol of a number. -/
def look (A : List Sy) (n : Int) : Option Sy := if 1 ≤ n then A[(n - 1).toNat]? else none
theorem look_cases (A : List Sy) (n : Int) : (∃ (j : Nat) (x : Sy), j < A.length ∧ n = (j : Int) + 1 ∧ A[j]? = some x ∧ look A n = some x) ∨ ((n < 1 ∨ (A.length : Int) < n) ∧ look A n = none) := by
  unfold look
  by_cases h : 1 ≤ n
  · by_cases h2 : n ≤ (A.length : Int)
    · left
      have hj : (n - 1).toNat < A.length := by omega
      exact ⟨(n - 1).toNat, A[(n - 1).toNat], hj, by omega, List.getElem?_eq_getElem hj, by rw [if_pos h]; exact List.getElem?_eq_getElem hj⟩
    · right
      exact ⟨.inr (by omega), by rw [if_pos h]; exact List.getElem?_eq_none (by omega)⟩
  · right
    exact ⟨.inl (by omega), by rw [if_neg h]⟩
def keyR (A : List Sy) (n : Int) : ByteArray × Bool × Int := match look A n with
  | some x => (if x.kn = true then x.v.s else ⟨#[]⟩, x.kn, 0)
  | none => (⟨#[]⟩, false, 7)
def descR (A : List Sy) (n : Int) : Vl × Int := match look A n with
  | some x => (x.v, 0)
  | none => (⟨0, false, 0, ⟨#[]⟩, 0⟩, 7)
def S1 (s : ByteArray) : ByteArray := ⟨#[83, 121, 109, 98, 111, 108, 40]⟩ ++ s
def S2 (s : ByteArray) : ByteArray := S1 s ++ ⟨#[41]⟩
def textR (A : List Sy) (n : Int) : ByteArray × Int := match look A n with
  | some x => if ((S2 x.v.s).size : Int) ≤ 1048576 then (S2 x.v.s, 0) else (⟨#[]⟩, 6)
  | none => (⟨#[]⟩, 7)
theorem S1_run (s : ByteArray) (h : s.size ≤ 1048576) : ∀ W, (Op.stringOp .add ⟨#[83, 121, 109, 98, 111, 108, 40]⟩ s).run Tryz.prog W = .ok (.string (S1 s)) W := fun W => by
  have h1 : (⟨#[83, 121, 109, 98, 111, 108, 40]⟩ : ByteArray).size = 7 := rfl
  rw [addS _ _ (by omega)]; rfl
theorem S2_run (s : ByteArray) (h : s.size ≤ 1048576) : ∀ W, (Op.stringOp .add (S1 s) ⟨#[41]⟩).run Tryz.prog W = .ok (.string (S2 s)) W := fun W => by
  have : (S1 s).size = 7 + s.size := by unfold S1; rw [ByteArray.size_append]; rfl
  have h1 : (⟨#[41]⟩ : ByteArray).size = 1 := rfl
  rw [addS _ _ (by omega)]; rfl
theorem gd_size {x : Vl} (h : okV x = true) : x.s.size ≤ 1048576 := by
  unfold okV at h
  simp only [Bool.and_eq_true, Bool.or_eq_true, decide_eq_true_eq] at h
  obtain ⟨h1, h2 | h2⟩ := h
  · rw [h2] at h1
    unfold gd at h1
    simp only [if_true, Bool.and_eq_true, decide_eq_true_eq] at h1
    have := h1.2.1
    rw [Lib.toList_data] at this
    have e : x.s.size = x.s.data.toList.length := rfl
    rw [e, this]
    exact Nat.zero_le _
  · rw [h2] at h1
    unfold gd at h1
    rw [if_neg (by decide), if_neg (by decide), if_neg (by decide), if_neg (by decide), if_pos rfl] at h1
    simp only [Bool.and_eq_true, decide_eq_true_eq] at h1
    omega

section
variable {B p g cnt : Nat} {xs : List Value} {b1 b2 : Nat} {o1 o2 : Obj} {W : World}
set_option maxRecDepth 100000 in
theorem keyNoX_c (h : Reg B p cnt xs b1 b2 o1 o2 W) (n : Int) (hn : n < 1 ∨ (cnt : Int) < n) :
    Calls Tryz.prog 23 #[.pointer (some ⟨p, 0, none⟩), .int .i64 n] W fun e W' => e = .returned (.tuple #[.string ⟨#[]⟩, .bool false, .int .i64 7]) ∧ Below W.heap.size W W' := by
  have hh := Fact.mk (hasNot_c h n hn)
  clear h hn
  go_enter Tryz.func23, Tryz.ntmps23
  go_wp2_with (go_at_call 48; refine hh.out.mono ?_; rintro e w1 ⟨rfl, rfl⟩)
  refine bodyPost_ret (results_tmp3 rfl _ _ _) rfl ?_
  first | exact ⟨rfl, Below.refl _ _⟩ | exact ⟨rfl, (Below.refl _ _).alloc (Nat.le_refl _) _⟩
set_option maxRecDepth 100000 in
theorem descNoX_c (h : Reg B p cnt xs b1 b2 o1 o2 W) (n : Int) (hn : n < 1 ∨ (cnt : Int) < n) :
    Calls Tryz.prog 25 #[.pointer (some ⟨p, 0, none⟩), .int .i64 n] W fun e W' => e = .returned (.tuple #[VV 0 false 0 ⟨#[]⟩ 0, .int .i64 7]) ∧ Below W.heap.size W W' := by
  unfold VV
  have hh := Fact.mk (fun w' (hb : Below W.heap.size W w') => hasNot_c (h.keep hb) n hn)
  clear h hn
  go_enter Tryz.func25, Tryz.ntmps25
  go_wp2_with (go_at_call 48; refine (hh.out _ ((Below.refl _ _).alloc (Nat.le_refl _) _)).mono ?_; rintro e w1 ⟨rfl, rfl⟩)
  first
    | refine bodyPost_ret (results_ct rfl _ _ W.heap.size _ _ _ _ rfl (heap_alloc_new _ _) Tryz.underlying35 rfl (by kernel_rfl)) rfl ⟨rfl, (Below.refl _ _).alloc (Nat.le_refl _) _⟩
    | refine bodyPost_ret (results_ct rfl _ _ W.heap.size _ _ _ _ rfl (set5 (heap_alloc_new _ _) _ _ _ _ _) Tryz.underlying35 rfl (by kernel_rfl)) rfl ⟨rfl, setB5 ((Below.refl _ _).alloc (Nat.le_refl _) _) (Nat.le_refl _) _ _ _ _ _⟩
set_option maxRecDepth 100000 in
theorem textNoX_c (h : Reg B p cnt xs b1 b2 o1 o2 W) (n : Int) (hn : n < 1 ∨ (cnt : Int) < n) :
    Calls Tryz.prog 27 #[.pointer (some ⟨p, 0, none⟩), .int .i64 n] W fun e W' => e = .returned (.tuple #[.string ⟨#[]⟩, .int .i64 7]) ∧ Below W.heap.size W W' := by
  have hd := Fact.mk (descNoX_c h n hn)
  clear h hn
  unfold VV at *
  go_enter Tryz.func27, Tryz.ntmps27
  go_wp2_with (go_at_call 25; refine hd.out.mono ?_; rintro e w1 ⟨rfl, hb⟩)
  go_ret2
  first | exact ⟨rfl, hb.alloc hb.size _⟩ | exact ⟨rfl, setB5 (hb.alloc hb.size _) hb.size _ _ _ _ _⟩
set_option maxRecDepth 100000 in
theorem textLongX_c (hR : Reg B p cnt xs b1 b2 o1 o2 W) (hc : cnt ≤ 65536) (j : Nat) (hj : j < cnt) {k : Int} {b : Bool} {n : Nat} {s S1 S2 : ByteArray} {i : Int} (h0 : xs[j * 5]? = some (.int .i64 k)) (h1 : xs[j * 5 + 1]? = some (.bool b)) (h2 : xs[j * 5 + 2]? = some (.float .f64 n)) (h3 : xs[j * 5 + 3]? = some (.string s)) (h4 : xs[j * 5 + 4]? = some (.int .i64 i))
    (ha1 : ∀ W, (Op.stringOp .add ⟨#[83, 121, 109, 98, 111, 108, 40]⟩ s).run Tryz.prog W = .ok (.string S1) W) (ha2 : ∀ W, (Op.stringOp .add S1 ⟨#[41]⟩).run Tryz.prog W = .ok (.string S2) W) (hs : (1048576 : Int) < (S2.size : Int)) :
    Calls Tryz.prog 27 #[.pointer (some ⟨p, 0, none⟩), .int .i64 ((j : Int) + 1)] W fun e W' => e = .returned (.tuple #[.string ⟨#[]⟩, .int .i64 6]) ∧ Below W.heap.size W W' := by
  have hd := Fact.mk (desc_c hR hc j hj h0 h1 h2 h3 h4)
  clear hR h0 h1 h2 h3 h4
  unfold VV at *
  go_enter Tryz.func27, Tryz.ntmps27
  go_wp2_with (go_at_call 25; refine hd.out.mono ?_; rintro e w1 ⟨rfl, hb⟩)
  go_ret2
  first | exact ⟨rfl, hb.alloc hb.size _⟩ | exact ⟨rfl, setB5 (hb.alloc hb.size _) hb.size _ _ _ _ _⟩
end

section
variable {A : List Sy} {B p g b1 b2 : Nat} {W : World}
theorem OwnS.key (h : OwnS A B p g b1 b2 W) (hI : Inv A) (n : Int) :
    Calls Tryz.prog 23 #[.pointer (some ⟨p, 0, none⟩), .int .i64 n] W fun e W' => e = .returned (.tuple #[.string (keyR A n).1, .bool (keyR A n).2.1, .int .i64 (keyR A n).2.2]) ∧ Below W.heap.size W W' := by
  unfold keyR
  rcases look_cases A n with ⟨j, x, hj, rfl, hx, he⟩ | ⟨hn, he⟩
  · rw [he]
    simp only
    have hb := h.reg.maps.2.2.2
    cases hk : x.kn with
    | true =>
      have hm : (x.v.s, j + 1) ∈ kl A 0 := by have := mem_kl (i := 0) hx hk; simpa using this
      have := lookE_hit hI.nd hm hb
      exact keyFor_c h.reg ((j : Int) + 1) (by omega) (by omega) x.v.s true (by simpa using this)
    | false =>
      have := lookE_new (K := kl A 0) (n := j + 1) (fun y hy e => by
        obtain ⟨q, z, h1, h2, rfl⟩ := kl_mem hy
        have : q = j := by simp at e; exact e
        subst this
        rw [hx] at h1
        cases h1
        rw [hk] at h2
        cases h2) hb
      simp only [Bool.false_eq_true, if_false]
      exact keyFor_c h.reg ((j : Int) + 1) (by omega) (by omega) ⟨#[]⟩ false (by simpa using this)
  · rw [he]
    exact keyNoX_c h.reg n hn
theorem OwnS.desc (h : OwnS A B p g b1 b2 W) (hI : Inv A) (n : Int) :
    Calls Tryz.prog 25 #[.pointer (some ⟨p, 0, none⟩), .int .i64 n] W fun e W' => e = .returned (.tuple #[VV (descR A n).1.k (descR A n).1.b (descR A n).1.n (descR A n).1.s (descR A n).1.i, .int .i64 (descR A n).2]) ∧ Below W.heap.size W W' := by
  unfold descR
  rcases look_cases A n with ⟨j, x, hj, rfl, hx, he⟩ | ⟨hn, he⟩
  · rw [he]
    obtain ⟨x0, x1, x2, x3, x4⟩ := f5_five hx
    exact desc_c h.reg hI.hi j hj x0 x1 x2 x3 x4
  · rw [he]
    exact descNoX_c h.reg n hn
theorem OwnS.text (h : OwnS A B p g b1 b2 W) (hI : Inv A) (n : Int) :
    Calls Tryz.prog 27 #[.pointer (some ⟨p, 0, none⟩), .int .i64 n] W fun e W' => e = .returned (.tuple #[.string (textR A n).1, .int .i64 (textR A n).2]) ∧ Below W.heap.size W W' := by
  unfold textR
  rcases look_cases A n with ⟨j, x, hj, rfl, hx, he⟩ | ⟨hn, he⟩
  · rw [he]
    obtain ⟨x0, x1, x2, x3, x4⟩ := f5_five hx
    have hz := gd_size (hI.ok x (List.mem_of_getElem? hx))
    simp only
    split
    · rename_i hs
      exact text_c h.reg hI.hi j hj x0 x1 x2 x3 x4 (S1_run _ hz) (S2_run _ hz) hs
    · rename_i hs
      exact textLongX_c h.reg hI.hi j hj x0 x1 x2 x3 x4 (S1_run _ hz) (S2_run _ hz) (by omega)
  · rw [he]
    exact textNoX_c h.reg n hn
end
end Go.Proofs.YtnknfffldgkgcaaGreatDoor
