-- Out of the translation, by the kit's print with some functions given (wip/myprint.py)
import Derived.Test.YtnhlmgeopkdiaaaDoorProg
import Derived.Below
import Derived.Deep.Draws
import Derived.Deep.AppendLies
import Derived.Maps.AppendAt
import Derived.OwnWalk
import Derived.Laws.BytesArg
import Derived.Laws.MakeOwn
import Derived.Laws.OwnMore
import Derived.Deep.OwnRows
import Derived.Tactics
import Derived.Lib.ConvBytes
import Derived.Laws.Slices
import Derived.WalkKit
import Derived.KernelRfl
import Derived.RowKit3
import Derived.Deep.LoopGhost
import Derived.Deep.QuietTactic
import Derived.BigQuiet
import Derived.WideLaws
import Derived.Deep.DeepCutAuto
import Derived.Deep.CutBlock
import Derived.Deep.RegionHeld3
import Derived.Laws.Rows
import Derived.Lib.AppendStr
import Derived.ArgAppend
import Derived.Laws.IdiomCopy
import Derived.OrdersHeld
import Derived.Laws.BitsLemmas
import Derived.RowKit
import Derived.Test.YtnhlmgeopkdiaaaDoorTabs
import Derived.Test.YtnhlmgeopkdiaaaDoorWWords
import Derived.Test.YtnhlmgeopkdiaaaDoorWLast
import Derived.Test.YtnhlmgeopkdiaaaDoorWTab
import Derived.Test.YtnhlmgeopkdiaaaDoorWFour
import Derived.Test.YtnhlmgeopkdiaaaDoorWQPut
import Derived.Test.YtnhlmgeopkdiaaaDoorWApart
import Derived.Test.YtnhlmgeopkdiaaaDoorWArr
import Derived.Test.YtnhlmgeopkdiaaaDoorWZeros
import Derived.Test.YtnhlmgeopkdiaaaDoorWFoot
import Derived.Test.YtnhlmgeopkdiaaaDoorWKept
import Derived.Test.YtnhlmgeopkdiaaaDoorWShare
import Derived.Test.YtnhlmgeopkdiaaaDoorWN
import Derived.Test.YtnhlmgeopkdiaaaDoorWFootNe
import Derived.Test.YtnhlmgeopkdiaaaDoorWAt
import Derived.Test.YtnhlmgeopkdiaaaDoorWEqStruct
import Derived.Test.YtnhlmgeopkdiaaaDoorWRepsOne
import Derived.Test.YtnhlmgeopkdiaaaDoorWInv
import Derived.Test.YtnhlmgeopkdiaaaDoorWInvWords
import Derived.Test.YtnhlmgeopkdiaaaDoorWGuard
import Derived.Test.YtnhlmgeopkdiaaaDoorWNEv
import Derived.Test.YtnhlmgeopkdiaaaDoorWMore
namespace Go.Proofs.YtnhlmgeopkdiaaaDoor.U
open Go.RowKit Go.Proofs.YtnhlmgeopkdiaaaDoorW.PrintWords Go.Proofs.YtnhlmgeopkdiaaaDoorW.PrintLast Go.Proofs.YtnhlmgeopkdiaaaDoorW.PrintMore
attribute [local go_sem] max2_int min2_int max_two min_two max_three min_three max_four min_four   -- for this text's walks alone
set_option linter.unusedVariables false
set_option linter.unusedSimpArgs false



def errW : Option Int → Value
  | none => .nilIface
  | some c => .iface 0 (.int .i64 c)
theorem errW_none : errW none = .nilIface := rfl
theorem errW_some (c : Int) : errW (some c) = .iface 0 (.int .i64 c) := rfl

theorem info5 : (Tryd.prog.info? 5).map (fun i => (i.zero, i.size, i.bytes)) = some (some (.int .u8 0), 1, 1) := by kernel_rfl
theorem info31 : (Tryd.prog.info? 31).map (fun i => (i.zero, i.size, i.bytes)) = some (some (.agg #[(.int .i64 0), (.int .i64 0)]), 2, 16) := by kernel_rfl
theorem info37 : (Tryd.prog.info? 37).map (fun i => (i.zero, i.size, i.bytes)) = some (some (.int .u16 0), 1, 2) := by kernel_rfl
-- the values' own types
/-! #### struct type 31 -/
structure S31 where
  f0 : Int
  f1 : Int
def z31 : S31 := ⟨(0 : Int), (0 : Int)⟩
def k31 : Kd S31 := Kd.iso (Kd.pair (Kd.int .i64) (Kd.int .i64)) (fun x : S31 => (x.f0, x.f1))
theorem k31_open {w : World} {x : S31} {cs : List Value} (h : k31.K w x cs) : cs = [.int .i64 x.f0, .int .i64 x.f1] := by
  obtain ⟨_, _, rfl, rfl, rfl⟩ := h
  exact rfl
theorem k31_openM {w : World} {base : Nat} {ok : Nat → Prop} {x : S31} {cs : List Value} (h : k31.M w base ok x cs) : cs = [.int .i64 x.f0, .int .i64 x.f1] := by
  obtain ⟨_, _, rfl, rfl, rfl⟩ := h
  exact rfl
theorem k31_mk (w : World) (x : S31)  : k31.K w x [.int .i64 x.f0, .int .i64 x.f1] := ⟨[.int .i64 x.f0], [.int .i64 x.f1], rfl, rfl, rfl⟩
theorem k31_mkM (w : World) (base : Nat) (ok : Nat → Prop) (x : S31)  : k31.M w base ok x [.int .i64 x.f0, .int .i64 x.f1] := ⟨[.int .i64 x.f0], [.int .i64 x.f1], rfl, rfl, rfl⟩
def rd_T31 (xs : List S31) (i : Int) : S31 := xs.getD i.toNat z31
theorem at_T31 {w : World} {A : Option Addr} {n : Nat} {xs : List S31} (h : Kd.C k31 w A n xs) (i : Int) (h0 : 0 ≤ i) (h1 : i < n) : ∃ ad , A = some ad ∧ w.cell? (ad.add (i.toNat * 2)) = some (.int .i64 (rd_T31 xs i).f0) ∧ w.cell? ⟨(ad.add (i.toNat * 2)).block, (ad.add (i.toNat * 2)).off + 1, none⟩ = some (.int .i64 (rd_T31 xs i).f1) := by
  obtain ⟨ad, c, e, _, hK, hc0⟩ := Kd.C_get h z31 i h0 h1
  have hc : ∀ j u, c[j]? = some u → w.cell? (ad.add (i.toNat * 2 + j)) = some u := hc0
  obtain rfl := k31_open hK
  exact ⟨ad, e, hc 0 _ rfl, by rw [← add_field _ _ 1 (by omega)]; exact hc 1 _ rfl⟩

end Go.Proofs.YtnhlmgeopkdiaaaDoor.U
