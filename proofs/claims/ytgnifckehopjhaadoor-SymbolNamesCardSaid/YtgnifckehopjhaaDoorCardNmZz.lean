import Derived.Test.YtgnifckehopjhaaDoorCards
import Derived.Test.YtgnifckehopjhaaDoorTie
import Derived.Test.YtgnifckehopjhaaDoorMl
import Derived.Lib.LaidIn
import Derived.Lib.LaidU8
import Derived.Deep.DeepHandedRow
import Derived.Deep.DeepWitnessRowRef
import Derived.ProofKit
import Derived.SizedLaws
set_option linter.all false
/- What the card of SymbolNames needs: the world of the witness, the tables out of the row's list. -/
namespace Go.Proofs.YtgnifckehopjhaaDoor.CC
open Go.ChangeShapes Go.WideShapes Go.ChangeAt Go.RowKit Go.Lib

theorem own : ownKnob Tryd.prog.godebug = none := by kernel_rfl
def laidL : List (String × DataW Unit) := [("unicode/utf8.acceptRanges", Rows.laid_unicode_utf8_acceptRanges), ("cameo/cameoref08.Names", Rows.laid_cameo_cameoref08_Names), ("unicode/utf8.first", Rows.laid_unicode_utf8_first)]

/-- The world of the witness: settled, the two variables holding what their initialisers lay. -/
noncomputable def laidWorld (os : Os) : World :=
  let w0 := World.holding Tryd.prog os ⟨#[], #[], []⟩
  let put (h : Array Obj) (g : Nat) (cs : Array Value) : Array Obj := h.modify g fun
    | .cells _ t frozen => .cells cs t frozen
    | o => o
  let h1 := put w0.heap 2 (Lib.firstTab.map fun z => Value.int .u8 z).toArray
  let h2 := put h1 3 ((List.range 16).flatMap fun i => [Value.int .u8 (Lib.accLo i), Value.int .u8 (Lib.accHi i)]).toArray
  let h3 := put h2 0 ((List.range 13).map fun j => Value.string (nm j)).toArray
  { w0 with heap := h3 }
theorem laid_met (os : Os) (args : Array Value) : laidMet Tryd.prog laidL ((laidWorld os).forCall (fun _ _ => 0) ⟨#[], args, []⟩).memory :=
  (LaidIn.of_run (l := laidL) [3, 0, 2] 8 (by kernel_rfl) (by kernel_rfl) (by kernel_rfl) (by kernel_rfl)).met

theorem first_eq : Rows.laid_unicode_utf8_first = Lib.firstData := by kernel_rfl
theorem accept_eq : (Rows.laid_unicode_utf8_acceptRanges : DataW Unit) = Lib.acceptData := by kernel_rfl

def nmL : List (List UInt8) := (List.range 13).map fun j => (nm j).data.toList
theorem names_eq : (Rows.laid_cameo_cameoref08_Names : DataW Unit) = .agg (nmL.map fun z => .lit (.string z)) := by kernel_rfl

theorem cells_of_strs {H : Type} {enc : TypeId × Value → H} {P : Program} {w : World} {base : Nat} {sp : Nat → Bool} {held : Bool} {fuel : Nat} {t e : TypeId} {n : Nat} {cs : List Value} {zs : List (List UInt8)} {p : List MemPlace}
    (ht : P.underlying t = some (.array n e)) (he : P.underlying e = some .string) (hce : P.cellsOf e = 1) (hct : P.cellsOf t = n)
    (h : DataW.trod enc P w base sp held fuel t cs = some (.agg (zs.map fun z => .lit (.string z)), p)) : cs = zs.map fun z => Value.string ⟨z.toArray⟩ := by
  cases fuel with
  | zero => simp [DataW.trod] at h
  | succ fuel =>
    simp only [DataW.trod, ht, hce, hct, Nat.mul_one] at h
    split at h
    · rename_i hl
      obtain ⟨xs, hm, hx⟩ := Option.map_eq_some_iff.1 h
      have hxs : xs.map (·.1) = zs.map fun z => (DataW.lit (.string z) : DataW H) := by
        have := congrArg Prod.fst hx
        simpa using this
      have hxl : xs.length = n := by simpa using Lib.mapM_length hm
      have hzl : zs.length = n := by
        have := congrArg List.length hxs
        simp at this
        omega
      apply List.ext_getElem?
      intro i
      by_cases hi : i < n
      · obtain ⟨b, hb, hf⟩ := Lib.mapM_at hm i i (by simp [hi])
        obtain ⟨z, hc, rfl, _⟩ := DataW.trod_string he hf
        have h1 : cs[i]? = some (.string z) := by
          have := congrArg (·[0]?) hc
          simpa [List.getElem?_take, List.getElem?_drop] using this
        have h2 : (xs.map (·.1))[i]? = some (DataW.lit (.string z.data.toList) : DataW H) := by simp [hb]
        rw [hxs] at h2
        simp only [List.getElem?_map, Option.map_eq_some_iff, DataW.lit.injEq, Lit.string.injEq] at h2
        obtain ⟨z', hz', rfl⟩ := h2
        simp [h1, hz']
      · rw [List.getElem?_eq_none (by omega), List.getElem?_eq_none (by simp; omega)]
    · cases h

/-- What the law's walk asks of the world. -/
def TabsN (W : World) : Prop := Tabs W ∧ NamesT W
theorem tabs_of {W : World} (hL : laidMet Tryd.prog laidL W) : TabsN W := by
  have h4 := Lib.laidMet.reads hL (List.Mem.head _)
  have hn := Lib.laidMet.reads hL (List.Mem.tail _ (List.Mem.head _))
  have h3 := Lib.laidMet.reads hL (List.Mem.tail _ (List.Mem.tail _ (List.Mem.head _)))
  rw [first_eq] at h3
  rw [accept_eq] at h4
  rw [names_eq] at hn
  have U := utf8Tabs_of_reads Tryd.lays260 ⟨by kernel_rfl, by kernel_rfl, by kernel_rfl, by kernel_rfl, by kernel_rfl, by kernel_rfl, by kernel_rfl⟩ h3 h4
  have hN : ∀ j, j < 13 → W.cell? ⟨0, j, none⟩ = some (.string (nm j)) := by
    obtain ⟨g', t', cs, fuel, p, hg', ht', hvar, hd⟩ := hn
    obtain rfl := Option.some.inj ((show Tryd.prog.globalNamed "cameo/cameoref08.Names" = some 0 by kernel_rfl).symm.trans hg')
    obtain rfl := Option.some.inj ((show (Tryd.prog.globals[0]?).map (·.type) = some 56 by kernel_rfl).symm.trans ht')
    have hcs := cells_of_strs (n := 13) (e := 9) (by kernel_rfl) (by kernel_rfl) (by kernel_rfl) (by kernel_rfl) hd
    intro j hj
    have h := World.var?_cell hg' hvar j
    rw [h, ← Array.getElem?_toList, hcs]
    match j, hj with
    | 0, _ | 1, _ | 2, _ | 3, _ | 4, _ | 5, _ | 6, _ | 7, _ | 8, _ | 9, _ | 10, _ | 11, _ | 12, _ => rfl
    | _ + 13, h => omega
  refine ⟨⟨U, World.block_lt_of_cell? W ⟨2, 0, none⟩ (U.1 0 (by decide)), ?_⟩, hN, World.block_lt_of_cell? W _ (hN 0 (by decide))⟩
  exact World.block_lt_of_cell? W ⟨3, 0, none⟩ (U.2 0 (by decide)).1

theorem walkN (n : Int) (W : World) (H : TabsN W) : Calls Tryd.prog 3 #[.int .i64 n] W fun e w' => e = .returned (.bool true) ∧ Below W.heap.size W w' := law_names n W H.1 H.2

theorem small {H : Type} {l : List (DataW H)} (hk : Rows.uptoSmall H l = true) : Rows.uptoBulkAll l ≤ 1048576 := of_decide_eq_true hk
theorem bulk_str {H : Type} (b : List UInt8) (r : List (DataW H)) : Rows.uptoBulkAll (DataW.lit (.string b) :: r) = b.length + 1 + Rows.uptoBulkAll r := by
  simp only [Rows.uptoBulkAll, Rows.uptoBulk]
theorem bulk_int {H : Type} (k : IntKind) (z : Int) (r : List (DataW H)) : Rows.uptoBulkAll (DataW.lit (.int k z) :: r) = 1 + Rows.uptoBulkAll r := by
  simp only [Rows.uptoBulkAll, Rows.uptoBulk]
end Go.Proofs.YtgnifckehopjhaaDoor.CC
