import Derived.Test.YtnknfffldgkgcaaGreatDoorProg
import Derived.Below
import Derived.Deep.Draws
import Derived.Deep.AppendLies
import Derived.Maps.AppendAt
import Derived.OwnWalk
import Derived.Laws.BytesArg
import Derived.Laws.MakeOwn
import Derived.Laws.OwnMore
import Derived.Deep.OwnRows
import Derived.Tactics
import Derived.Lib.ConvBytes
import Derived.Laws.Slices
import Derived.WalkKit
import Derived.KernelRfl
import Derived.RowKit3
import Derived.Deep.LoopGhost
import Derived.Deep.QuietTactic
import Derived.BigQuiet
import Derived.WideLaws
import Derived.Deep.DeepCutAuto
import Derived.Deep.CutBlock
import Derived.Deep.RegionHeld3
import Derived.Laws.Rows
import Derived.Lib.AppendStr
import Derived.ArgAppend
import Derived.Laws.IdiomCopy
import Derived.OrdersHeld
import Derived.Laws.BitsLemmas
import Derived.RowKit
import Derived.Test.YtnknfffldgkgcaaGreatDoorUp
import Derived.Test.YtnknfffldgkgcaaGreatDoorWWords
import Derived.Test.YtnknfffldgkgcaaGreatDoorWLast
import Derived.Test.YtnknfffldgkgcaaGreatDoorWTab
import Derived.Test.YtnknfffldgkgcaaGreatDoorWFour
import Derived.Test.YtnknfffldgkgcaaGreatDoorWQPut
import Derived.Test.YtnknfffldgkgcaaGreatDoorWApart
import Derived.Test.YtnknfffldgkgcaaGreatDoorWArr
import Derived.Test.YtnknfffldgkgcaaGreatDoorWZeros
import Derived.Test.YtnknfffldgkgcaaGreatDoorWFoot
import Derived.Test.YtnknfffldgkgcaaGreatDoorWKept
import Derived.Test.YtnknfffldgkgcaaGreatDoorWShare
import Derived.Test.YtnknfffldgkgcaaGreatDoorWN
import Derived.Test.YtnknfffldgkgcaaGreatDoorWFootNe
import Derived.Test.YtnknfffldgkgcaaGreatDoorWAt
import Derived.Test.YtnknfffldgkgcaaGreatDoorWEqStruct
import Derived.Test.YtnknfffldgkgcaaGreatDoorWRepsOne
import Derived.Test.YtnknfffldgkgcaaGreatDoorWInv
import Derived.Test.YtnknfffldgkgcaaGreatDoorWInvWords
import Derived.Test.YtnknfffldgkgcaaGreatDoorWGuard
import Derived.Test.YtnknfffldgkgcaaGreatDoorWNEv
import Derived.Test.YtnknfffldgkgcaaGreatDoorWMore
set_option linter.all false
-- Out of the translation, by the kit's print with some functions given (wip/myprint.py)
namespace Go.Proofs.YtnknfffldgkgcaaGreatDoor.U
open Go.RowKit Go.Proofs.YtnknfffldgkgcaaGreatDoorW.PrintWords Go.Proofs.YtnknfffldgkgcaaGreatDoorW.PrintLast Go.Proofs.YtnknfffldgkgcaaGreatDoorW.PrintMore
attribute [local go_sem] max2_int min2_int max_two min_two max_three min_three max_four min_four   -- for this text's walks alone
set_option linter.unusedVariables false
set_option linter.unusedSimpArgs false



def errW : Option Int → Value
  | none => .nilIface
  | some c => .iface 0 (.int .i64 c)
theorem errW_none : errW none = .nilIface := rfl
theorem errW_some (c : Int) : errW (some c) = .iface 0 (.int .i64 c) := rfl

theorem info5 : (Tryz.prog.info? 5).map (fun i => (i.zero, i.size, i.bytes)) = some (some (.int .u8 0), 1, 1) := by kernel_rfl
theorem info119 : (Tryz.prog.info? 119).map (fun i => (i.zero, i.size, i.bytes)) = some (some (.int .u16 0), 1, 2) := by kernel_rfl
theorem info155 : (Tryz.prog.info? 155).map (fun i => (i.zero, i.size, i.bytes)) = some (some (.agg #[(.int .i64 0), (.int .i64 0)]), 2, 16) := by kernel_rfl
-- the values' own types
/-! #### struct type 155 -/
structure S155 where
  f0 : Int
  f1 : Int
def z155 : S155 := ⟨(0 : Int), (0 : Int)⟩
def k155 : Kd S155 := Kd.iso (Kd.pair (Kd.int .i64) (Kd.int .i64)) (fun x : S155 => (x.f0, x.f1))
theorem k155_open {w : World} {x : S155} {cs : List Value} (h : k155.K w x cs) : cs = [.int .i64 x.f0, .int .i64 x.f1] := by
  obtain ⟨_, _, rfl, rfl, rfl⟩ := h
  exact rfl
theorem k155_openM {w : World} {base : Nat} {ok : Nat → Prop} {x : S155} {cs : List Value} (h : k155.M w base ok x cs) : cs = [.int .i64 x.f0, .int .i64 x.f1] := by
  obtain ⟨_, _, rfl, rfl, rfl⟩ := h
  exact rfl
theorem k155_mk (w : World) (x : S155)  : k155.K w x [.int .i64 x.f0, .int .i64 x.f1] := ⟨[.int .i64 x.f0], [.int .i64 x.f1], rfl, rfl, rfl⟩
theorem k155_mkM (w : World) (base : Nat) (ok : Nat → Prop) (x : S155)  : k155.M w base ok x [.int .i64 x.f0, .int .i64 x.f1] := ⟨[.int .i64 x.f0], [.int .i64 x.f1], rfl, rfl, rfl⟩
def rd_T155 (xs : List S155) (i : Int) : S155 := xs.getD i.toNat z155
theorem at_T155 {w : World} {A : Option Addr} {n : Nat} {xs : List S155} (h : Kd.C k155 w A n xs) (i : Int) (h0 : 0 ≤ i) (h1 : i < n) : ∃ ad , A = some ad ∧ w.cell? (ad.add (i.toNat * 2)) = some (.int .i64 (rd_T155 xs i).f0) ∧ w.cell? ⟨(ad.add (i.toNat * 2)).block, (ad.add (i.toNat * 2)).off + 1, none⟩ = some (.int .i64 (rd_T155 xs i).f1) := by
  obtain ⟨ad, c, e, _, hK, hc0⟩ := Kd.C_get h z155 i h0 h1
  have hc : ∀ j u, c[j]? = some u → w.cell? (ad.add (i.toNat * 2 + j)) = some u := hc0
  obtain rfl := k155_open hK
  exact ⟨ad, e, hc 0 _ rfl, by rw [← add_field _ _ 1 (by omega)]; exact hc 1 _ rfl⟩

end Go.Proofs.YtnknfffldgkgcaaGreatDoor.U
