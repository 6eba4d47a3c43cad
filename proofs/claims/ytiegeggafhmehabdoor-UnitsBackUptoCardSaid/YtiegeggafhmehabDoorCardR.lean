/- An argument that is a row of integers: what the reading and the bound give. -/
import Derived.Test.YtiegeggafhmehabDoorCardC
import Derived.Test.YtiegeggafhmehabDoorWMore
import Derived.OpenShut
namespace Go.Proofs.YtiegeggafhmehabDoor.CC
open Go.ChangeShapes Go.WideShapes Go.ChangeAt Go.RowKit Go.Proofs.YtiegeggafhmehabDoorW.PrintWords

theorem laidOut : laidOutB Tryd.prog = true := by kernel_rfl
theorem bulk_any {H : Type} (d : DataW H) (r : List (DataW H)) : Rows.uptoBulkAll (d :: r) = Rows.uptoBulk d + Rows.uptoBulkAll r := by
  simp only [Rows.uptoBulkAll]
theorem bulk_lits {H : Type} (k : IntKind) : ∀ (l : List Int) (r : List (DataW H)), l.length ≤ Rows.uptoBulkAll (lits (H := H) k l) + Rows.uptoBulkAll r
  | [], _ => by simp
  | a :: l, r => by
    have := bulk_lits k l r
    have e : Rows.uptoBulkAll (lits (H := H) k (a :: l)) = 1 + Rows.uptoBulkAll (lits (H := H) k l) := by
      show Rows.uptoBulkAll (DataW.lit (.int k a) :: lits k l) = _
      rw [bulk_int]
    rw [e, List.length_cons]; omega

theorem open_row {H : Type} {enc : TypeId × Value → H} {W : World} {t e : TypeId} {k : IntKind} {a : Option Addr} {len cap : Nat} {d : DataW H} {p : List MemPlace} (ht : Tryd.prog.underlying t = some (.slice e)) (he : Tryd.prog.underlying e = some (.int k)) (hc : Tryd.prog.cellsOf e = 1)
    (h : DataW.Trod enc Tryd.prog W 0 (fun _ => true) true t (.slice a len cap) d p) :
    ∃ l : List Int, len = l.length ∧ Kd.C (Kd.int k) W a l.length l ∧ l.length ≤ cap ∧ (∀ x ∈ l, (Lit.int k x).wf = true) ∧ l.length ≤ Rows.uptoBulk d := by
  obtain ⟨fuel, hf⟩ := h
  rcases open_ints ht he hc hf with ⟨hcs, hx⟩ | ⟨x, l, c, zs, hcs, _, hl, hm, hz, hx, hcell, hwz⟩
  · simp [Value.cells] at hcs
    obtain ⟨rfl, rfl, rfl⟩ := hcs
    obtain ⟨l0, e0, hr0, hm0, hw0, hc0⟩ := ReadsInt.ofRowC (k := k) (w := W) (zs := []) (a := none) (len := 0) (cap := 0) (.inl ⟨rfl, rfl, rfl, rfl⟩)
    exact ⟨l0, e0, Kd.C_of_reads (d := (0 : Int)) (h1 := fun _ => rfl) hr0, hc0, hw0, by omega⟩
  · simp [Value.cells] at hcs
    obtain ⟨rfl, rfl, rfl⟩ := hcs
    obtain ⟨l0, e0, hr0, hm0, hw0, hc0⟩ := ReadsInt.ofRowC (k := k) (w := W) (zs := zs) (.inr ⟨_, rfl, hl, hm, by simpa using hz, hcell, hwz⟩)
    have hd : d = .slice (lits k (zs.take len)) (lits k (zs.drop len)) := congrArg Prod.fst hx
    refine ⟨l0, e0, Kd.C_of_reads (d := (0 : Int)) (h1 := fun _ => rfl) hr0, hc0, hw0, ?_⟩
    have hb := bulk_lits (H := H) k (zs.take len) (lits k (zs.drop len))
    rw [List.length_take] at hb
    simp only [if_true] at hz
    rw [hd]
    simp only [Rows.uptoBulk]
    omega
end Go.Proofs.YtiegeggafhmehabDoor.CC
