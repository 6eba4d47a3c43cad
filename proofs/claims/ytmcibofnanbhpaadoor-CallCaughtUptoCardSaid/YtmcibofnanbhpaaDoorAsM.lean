/- errors.As at the target *api.Thrown, of an error that is a number. -/
import Derived.Test.YtmcibofnanbhpaaDoorAsC
import Derived.Below
import Derived.Outline
namespace Go.Proofs.YtmcibofnanbhpaaDoor.AsT
open Go.RowKit Go.Extern.Stop Go.Stop Go.Extern
theorem typeOfE (c : Int) (w : World) : (ReflectliteType.typeOf #[.iface 38 (.int .i64 c)]).run Tryd.prog w = .ok (.iface 264 (.agg #[.pointer (some ⟨8, 38, none⟩)])) w := by kernel_rfl
theorem assignableE (w : World) : (ReflectliteType.relation "AssignableTo" ReflectliteType.assignableTo #[.agg #[.pointer (some ⟨8, 38, none⟩)], .iface 264 (.agg #[.pointer (some ⟨8, 77, none⟩)])]).run Tryd.prog w = .ok (.bool false) w := by kernel_rfl
theorem taAs (c : Int) (w : World) : (Instr.typeAssert (.iface 38 (.int .i64 c)) 144 269 true).run Tryd.prog w = .ok (.tuple #[.nilIface, .bool false]) w := run_typeAssert_lacksB Tryd.underlying269 (by kernel_rfl) (by kernel_rfl) _ _ _
theorem taU1 (c : Int) (w : World) : (Instr.typeAssert (.iface 38 (.int .i64 c)) 144 272 true).run Tryd.prog w = .ok (.tuple #[.nilIface, .bool false]) w := run_typeAssert_lacksB Tryd.underlying272 (by kernel_rfl) (by kernel_rfl) _ _ _
theorem taU2 (c : Int) (w : World) : (Instr.typeAssert (.iface 38 (.int .i64 c)) 144 274 true).run Tryd.prog w = .ok (.tuple #[.nilIface, .bool false]) w := run_typeAssert_lacksB Tryd.underlying274 (by kernel_rfl) (by kernel_rfl) _ _ _
set_option maxRecDepth 100000 in
set_option maxHeartbeats 4000000 in
theorem as_miss (c : Int) (t : Addr) (w : World) (hg : w.cell? ⟨2, 0, none⟩ = some (.iface 264 (.agg #[.pointer (some ⟨8, 144, none⟩)]))) :
    Calls Tryd.prog 82 #[.iface 38 (.int .i64 c), .iface 146 (.pointer (some t))] w fun ev w' => ev = .returned (.bool false) ∧ Below w.heap.size w w' := by
  have h6 := @run_callFunc_extern Tryd.prog 146 _ (fun args => ReflectliteValue.unpack (args.getD 0 (.tuple #[]))) Tryd.func146 (by kernel_rfl) (by kernel_rfl) (by kernel_rfl) (by kernel_rfl)
  have h7 := @run_callFunc_extern Tryd.prog 147 _ (ReflectliteValue.methodAny (ReflectliteValue.valueError "reflectlite.Value.Type" 0) (fun t _ _ _ => ReflectliteType.toType t)) Tryd.func147 (by kernel_rfl) (by kernel_rfl) (by kernel_rfl) (by kernel_rfl)
  have h8 := @run_callFunc_extern Tryd.prog 148 _ (ReflectliteValue.method (ReflectliteValue.valueError "reflectlite.Value.IsNil" 0) ReflectliteValue.isNil) Tryd.func148 (by kernel_rfl) (by kernel_rfl) (by kernel_rfl) (by kernel_rfl)
  have h27 := @run_callFunc_extern Tryd.prog 250 _ (ReflectliteType.abiMethod fun t => do pure (.int .u8 (← Rtype.kind t))) Tryd.func250 (by kernel_rfl) (by kernel_rfl) (by kernel_rfl) (by kernel_rfl)
  have h37 := @run_callFunc_extern Tryd.prog 262 _ (ReflectliteType.method ReflectliteType.elem) Tryd.func262 (by kernel_rfl) (by kernel_rfl) (by kernel_rfl) (by kernel_rfl)
  have h38 := @run_callFunc_extern Tryd.prog 263 _ (ReflectliteType.relation "Implements" ReflectliteType.implements_) Tryd.func263 (by kernel_rfl) (by kernel_rfl) (by kernel_rfl) (by kernel_rfl)
  have h10 := @run_callFunc_extern Tryd.prog 183 _ ReflectliteType.typeOf Tryd.func183 (by kernel_rfl) (by kernel_rfl) (by kernel_rfl) (by kernel_rfl)
  have h35 := @run_callFunc_extern Tryd.prog 260 _ (ReflectliteType.relation "AssignableTo" ReflectliteType.assignableTo) Tryd.func260 (by kernel_rfl) (by kernel_rfl) (by kernel_rfl) (by kernel_rfl)
  have h11 := @run_callFunc_extern Tryd.prog 184 _ (ReflectliteValue.method (ReflectliteValue.valueError "reflectlite.Value.Elem" 0) ReflectliteValue.elem) Tryd.func184 (by kernel_rfl) (by kernel_rfl) (by kernel_rfl) (by kernel_rfl)
  have h12 := @run_callFunc_extern Tryd.prog 185 _ ReflectliteValue.set Tryd.func185 (by kernel_rfl) (by kernel_rfl) (by kernel_rfl) (by kernel_rfl)
  have tO := Tryd.typeOf25
  have mA := Tryd.methodAssignableTo
  have a25 := Tryd.assignable25
  have v25 := Tryd.valueOf25
  have f6 := Tryd.valueOf27
  have f7 := Tryd.type27
  have mK := Tryd.methodKind
  have mE := Tryd.methodElem
  have mI := Tryd.methodImplements
  have k27 := Tryd.kind27
  have k25 := Tryd.kind25
  have e27 := Tryd.elem27
  have i25 := Tryd.implements25
  have n8 := Tryd.isNil27 ⟨w.heap.size, 0, none⟩ t ((w.alloc (.cells #[.pointer (some t)] 146)).alloc (.cells #[.pointer (some ⟨8, 146, none⟩), .pointer (some ⟨w.heap.size, 0, none⟩), .int .u64 150] 221)) (by simp)
  have hlt : 2 < w.heap.size := World.block_lt_of_cell? w _ hg
  have hg2 : ((w.alloc (.cells #[.pointer (some t)] 146)).alloc (.cells #[.pointer (some ⟨8, 146, none⟩), .pointer (some ⟨w.heap.size, 0, none⟩), .int .u64 150] 221)).cell? ⟨2, 0, none⟩ = some (.iface 264 (.agg #[.pointer (some ⟨8, 144, none⟩)])) := by
    rw [World.cell?_alloc_lt _ _ ⟨2, 0, none⟩ (by simp; omega), World.cell?_alloc_lt _ _ ⟨2, 0, none⟩ hlt]; exact hg
  have tE := typeOfE c
  have aE := assignableE
  have q1 := taAs c
  have q2 := taU1 c
  have q3 := taU2 c
  go_enter Tryd.func82, Tryd.ntmps82
  go_wp2
  refine wp_loop_rounds 1 ?_
  rw [rounds_succ]
  go_wp2
  go_ret
  refine ⟨rfl, ?_⟩
  repeat' first | exact Below.refl _ _ | (refine Below.alloc ?_ (by simp; first | done | omega) _)
end Go.Proofs.YtmcibofnanbhpaaDoor.AsT
