/- What the card of NumberRadix needs: the world of the witness, the three tables out of the row's list. -/
import Derived.Test.YtinaibebdacnmaaDoorCards
import Derived.Test.YtinaibebdacnmaaDoorTie
import Derived.Test.YtinaibebdacnmaaDoorRadL
import Derived.Lib.LaidIn
import Derived.Lib.LaidTab
import Derived.Lib.LaidU8
import Derived.Deep.DeepHandedRow
import Derived.Deep.DeepWitnessRowRef
import Derived.ProofKit
import Derived.SizedLaws
namespace Go.Proofs.YtinaibebdacnmaaDoor.CC
open Go.ChangeShapes Go.WideShapes Go.ChangeAt Go.RowKit Go.Lib

theorem own : ownKnob Tryd.prog.godebug = none := by kernel_rfl
def laidL : List (String × DataW Unit) := [("math/bits.deBruijn32tab", Rows.laid_math_bits_deBruijn32tab), ("math/bits.deBruijn64tab", Rows.laid_math_bits_deBruijn64tab), ("internal/strconv.uint64pow10", Rows.laid_internal_strconv_uint64pow10)]
def numsOf : DataW Unit → List Int
  | .agg l => l.map fun | .lit (.int _ z) => z | _ => 0
  | _ => []
/-- The world of the witness: settled, the variables holding what their initialisers lay. -/
noncomputable def laidWorld (os : Os) : World :=
  let w0 := World.holding Tryd.prog os ⟨#[], #[], []⟩
  let put (h : Array Obj) (g : Nat) (cs : Array Value) : Array Obj := h.modify g fun
    | .cells _ t frozen => .cells cs t frozen
    | o => o
  let h1 := put w0.heap 3 ((numsOf Rows.laid_math_bits_deBruijn32tab).map (Value.int .u8)).toArray
  let h2 := put h1 4 ((numsOf Rows.laid_math_bits_deBruijn64tab).map (Value.int .u8)).toArray
  let h3 := put h2 2 ((numsOf Rows.laid_internal_strconv_uint64pow10).map (Value.int .u64)).toArray
  { w0 with heap := h3 }
theorem laid_met (os : Os) (args : Array Value) : laidMet Tryd.prog laidL ((laidWorld os).forCall (fun _ _ => 0) ⟨#[], args, []⟩).memory :=
  (LaidIn.of_run (l := laidL) [3, 4, 2] 8 (by kernel_rfl) (by kernel_rfl) (by kernel_rfl) (by kernel_rfl)).met

theorem d64_eq : (Rows.laid_math_bits_deBruijn64tab : DataW Unit) = tabData .u8 (numsOf Rows.laid_math_bits_deBruijn64tab) := by kernel_rfl
theorem pow_eq : (Rows.laid_internal_strconv_uint64pow10 : DataW Unit) = tabData .u64 Lib.pow10Tab := by kernel_rfl
theorem tab_of {P : Program} {W : World} {name : String} {k : IntKind} {zs : List Int} {g : Nat} {t e : TypeId} {n : Nat}
    (hg : P.globalNamed name = some g) (hty : (P.globals[g]?).map (·.type) = some t) (ht : P.underlying t = some (.array n e)) (he : P.underlying e = some (.int k)) (hce : P.cellsOf e = 1) (hct : P.cellsOf t = n)
    (h : VarReads P W name (tabData k zs)) : TabIs P W name k zs := by
  obtain ⟨g', t', cs, fuel, p, hg', ht', hvar, hd⟩ := h
  obtain rfl := Option.some.inj (hg.symm.trans hg')
  obtain rfl := Option.some.inj (hty.symm.trans ht')
  unfold TabIs
  rw [hvar, ← cells_of_tab ht he hce hct hd]
theorem tabs_of {W : World} (hL : laidMet Tryd.prog laidL W) : Rad.TabR W := by
  have h2 := Lib.laidMet.reads hL (List.Mem.tail _ (List.Mem.head _))
  have h3 := Lib.laidMet.reads hL (List.Mem.tail _ (List.Mem.tail _ (List.Mem.head _)))
  rw [d64_eq] at h2
  rw [pow_eq] at h3
  have t64 := tab_of (g := 4) (t := 188) (e := 5) (n := 64) (by kernel_rfl) (by kernel_rfl) (by kernel_rfl) (by kernel_rfl) (by kernel_rfl) (by kernel_rfl) h2
  have tpow := tab_of (g := 2) (t := 167) (e := 50) (n := 20) (by kernel_rfl) (by kernel_rfl) (by kernel_rfl) (by kernel_rfl) (by kernel_rfl) (by kernel_rfl) h3
  have c := fun i hi => TabIs.cell t64 (g := 4) (by kernel_rfl) i hi
  exact ⟨tpow, (c 1 (by decide +kernel)).trans (by kernel_rfl), (c 3 (by decide +kernel)).trans (by kernel_rfl), (c 7 (by decide +kernel)).trans (by kernel_rfl), (c 15 (by decide +kernel)).trans (by kernel_rfl), (c 31 (by decide +kernel)).trans (by kernel_rfl)⟩
theorem small {H : Type} {l : List (DataW H)} (hk : Rows.uptoSmall H l = true) : Rows.uptoBulkAll l ≤ 1048576 := of_decide_eq_true hk
theorem bulk_int {H : Type} (k : IntKind) (z : Int) (r : List (DataW H)) : Rows.uptoBulkAll (DataW.lit (.int k z) :: r) = 1 + Rows.uptoBulkAll r := by
  simp only [Rows.uptoBulkAll, Rows.uptoBulk]
theorem walkI (a0 a1 : Int) (y0 : (Lit.int .u64 a0).wf = true) (W : World) (T : Rad.TabR W) : Calls Tryd.prog 5 #[.int .u64 a0, .int .i64 a1] W fun e w' => e = .returned (.bool true) ∧ Below W.heap.size W w' := by
  have hmin : IntKind.u64.min = 0 := rfl
  have hmax : IntKind.u64.max = 18446744073709551615 := rfl
  simp only [Lit.wf, Bool.and_eq_true, decide_eq_true_eq, hmin, hmax] at y0
  obtain ⟨n, rfl⟩ : ∃ n : Nat, a0 = n := ⟨a0.toNat, by omega⟩
  exact law_radix n (by omega) a1 W T
end Go.Proofs.YtinaibebdacnmaaDoor.CC
