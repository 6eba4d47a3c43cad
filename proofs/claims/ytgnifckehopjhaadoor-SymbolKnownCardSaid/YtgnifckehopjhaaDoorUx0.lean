-- Out of the translation, by the kit's print with some functions given (wip/myprint.py)
import Derived.Test.YtgnifckehopjhaaDoorProg
import Derived.Below
import Derived.Deep.Draws
import Derived.Deep.AppendLies
import Derived.Maps.AppendAt
import Derived.OwnWalk
import Derived.Laws.BytesArg
import Derived.Laws.MakeOwn
import Derived.Laws.OwnMore
import Derived.Deep.OwnRows
import Derived.Tactics
import Derived.Lib.ConvBytes
import Derived.Laws.Slices
import Derived.WalkKit
import Derived.KernelRfl
import Derived.RowKit3
import Derived.Deep.LoopGhost
import Derived.Deep.QuietTactic
import Derived.BigQuiet
import Derived.WideLaws
import Derived.Deep.DeepCutAuto
import Derived.Deep.CutBlock
import Derived.Deep.RegionHeld3
import Derived.Laws.Rows
import Derived.Lib.AppendStr
import Derived.ArgAppend
import Derived.Laws.IdiomCopy
import Derived.OrdersHeld
import Derived.Laws.BitsLemmas
import Derived.RowKit
import Derived.Test.YtgnifckehopjhaaDoorUnitsC
import Derived.Test.YtgnifckehopjhaaDoorWWords
import Derived.Test.YtgnifckehopjhaaDoorWLast
import Derived.Test.YtgnifckehopjhaaDoorWTab
import Derived.Test.YtgnifckehopjhaaDoorWFour
import Derived.Test.YtgnifckehopjhaaDoorWQPut
import Derived.Test.YtgnifckehopjhaaDoorWApart
import Derived.Test.YtgnifckehopjhaaDoorWArr
import Derived.Test.YtgnifckehopjhaaDoorWZeros
import Derived.Test.YtgnifckehopjhaaDoorWFoot
import Derived.Test.YtgnifckehopjhaaDoorWKept
import Derived.Test.YtgnifckehopjhaaDoorWShare
import Derived.Test.YtgnifckehopjhaaDoorWN
import Derived.Test.YtgnifckehopjhaaDoorWFootNe
import Derived.Test.YtgnifckehopjhaaDoorWAt
import Derived.Test.YtgnifckehopjhaaDoorWEqStruct
import Derived.Test.YtgnifckehopjhaaDoorWRepsOne
import Derived.Test.YtgnifckehopjhaaDoorWInv
import Derived.Test.YtgnifckehopjhaaDoorWInvWords
import Derived.Test.YtgnifckehopjhaaDoorWGuard
import Derived.Test.YtgnifckehopjhaaDoorWNEv
import Derived.Test.YtgnifckehopjhaaDoorWMore
namespace Go.Proofs.YtgnifckehopjhaaDoor.U
open Go.RowKit Go.Proofs.YtgnifckehopjhaaDoorW.PrintWords Go.Proofs.YtgnifckehopjhaaDoorW.PrintLast Go.Proofs.YtgnifckehopjhaaDoorW.PrintMore
attribute [local go_sem] max2_int min2_int max_two min_two max_three min_three max_four min_four   -- for this text's walks alone
set_option linter.unusedVariables false
set_option linter.unusedSimpArgs false



def errW : Option Int → Value
  | none => .nilIface
  | some c => .iface 0 (.int .i64 c)
theorem errW_none : errW none = .nilIface := rfl
theorem errW_some (c : Int) : errW (some c) = .iface 0 (.int .i64 c) := rfl

theorem info5 : (Tryd.prog.info? 5).map (fun i => (i.zero, i.size, i.bytes)) = some (some (.int .u8 0), 1, 1) := by kernel_rfl
theorem info108 : (Tryd.prog.info? 108).map (fun i => (i.zero, i.size, i.bytes)) = some (some (.int .u16 0), 1, 2) := by kernel_rfl
theorem info157 : (Tryd.prog.info? 157).map (fun i => (i.zero, i.size, i.bytes)) = some (some (.agg #[(.int .i64 0), (.int .i64 0)]), 2, 16) := by kernel_rfl
-- the values' own types
/-! #### struct type 157 -/
structure S157 where
  f0 : Int
  f1 : Int
def z157 : S157 := ⟨(0 : Int), (0 : Int)⟩
def k157 : Kd S157 := Kd.iso (Kd.pair (Kd.int .i64) (Kd.int .i64)) (fun x : S157 => (x.f0, x.f1))
theorem k157_open {w : World} {x : S157} {cs : List Value} (h : k157.K w x cs) : cs = [.int .i64 x.f0, .int .i64 x.f1] := by
  obtain ⟨_, _, rfl, rfl, rfl⟩ := h
  exact rfl
theorem k157_openM {w : World} {base : Nat} {ok : Nat → Prop} {x : S157} {cs : List Value} (h : k157.M w base ok x cs) : cs = [.int .i64 x.f0, .int .i64 x.f1] := by
  obtain ⟨_, _, rfl, rfl, rfl⟩ := h
  exact rfl
theorem k157_mk (w : World) (x : S157)  : k157.K w x [.int .i64 x.f0, .int .i64 x.f1] := ⟨[.int .i64 x.f0], [.int .i64 x.f1], rfl, rfl, rfl⟩
theorem k157_mkM (w : World) (base : Nat) (ok : Nat → Prop) (x : S157)  : k157.M w base ok x [.int .i64 x.f0, .int .i64 x.f1] := ⟨[.int .i64 x.f0], [.int .i64 x.f1], rfl, rfl, rfl⟩
def rd_T157 (xs : List S157) (i : Int) : S157 := xs.getD i.toNat z157
theorem at_T157 {w : World} {A : Option Addr} {n : Nat} {xs : List S157} (h : Kd.C k157 w A n xs) (i : Int) (h0 : 0 ≤ i) (h1 : i < n) : ∃ ad , A = some ad ∧ w.cell? (ad.add (i.toNat * 2)) = some (.int .i64 (rd_T157 xs i).f0) ∧ w.cell? ⟨(ad.add (i.toNat * 2)).block, (ad.add (i.toNat * 2)).off + 1, none⟩ = some (.int .i64 (rd_T157 xs i).f1) := by
  obtain ⟨ad, c, e, _, hK, hc0⟩ := Kd.C_get h z157 i h0 h1
  have hc : ∀ j u, c[j]? = some u → w.cell? (ad.add (i.toNat * 2 + j)) = some u := hc0
  obtain rfl := k157_open hK
  exact ⟨ad, e, hc 0 _ rfl, by rw [← add_field _ _ 1 (by omega)]; exact hc 1 _ rfl⟩

end Go.Proofs.YtgnifckehopjhaaDoor.U
