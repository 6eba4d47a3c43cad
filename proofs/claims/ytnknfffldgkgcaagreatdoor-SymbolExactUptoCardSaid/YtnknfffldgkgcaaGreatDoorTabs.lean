/- The two tables of unicode/utf8 in a world, and the decoder's contract out of the shelf. -/
import Derived.Test.YtnknfffldgkgcaaGreatDoorShelf
import Derived.Test.YtnknfffldgkgcaaGreatDoorWMore
namespace Go.Proofs.YtnknfffldgkgcaaGreatDoor
open Go.RowKit Go.Proofs.YtnknfffldgkgcaaGreatDoorW.PrintWords

/-- The decoder's two tables lie in the world as their initialisers lay them. -/
def Tabs (w : World) : Prop := Lib.Utf8Tabs 2 3 w ∧ 2 < w.heap.size ∧ 3 < w.heap.size

theorem Tabs.below {w w' : World} (h : Tabs w) (hb : Below w.heap.size w w') : Tabs w' := by
  obtain ⟨⟨h1, h2⟩, h3, h4⟩ := h
  have hs := hb.size
  refine ⟨⟨fun c hc => ?_, fun i hi => ⟨?_, ?_⟩⟩, by omega, by omega⟩
  · rw [hb.cell (p := ⟨2, c, none⟩) (show 2 < w.heap.size by omega)]; exact h1 c hc
  · rw [hb.cell (p := ⟨3, 2 * i, none⟩) (show 3 < w.heap.size by omega)]; exact (h2 i hi).1
  · rw [hb.cell (p := ⟨3, 2 * i + 1, none⟩) (show 3 < w.heap.size by omega)]; exact (h2 i hi).2

def utf8_DecodeRuneInString.f (a0 : ByteArray) : Option (Int × Int) := some ((Lib.decodeGo a0).1, (Lib.decodeGo a0).2)
theorem utf8_DecodeRuneInString.calls (a0 : ByteArray) (r1 r2 : Int) (w : World) (HT : Aside0 (Tabs w)) (h : utf8_DecodeRuneInString.f a0 = some (r1, r2)) :
    Calls Tryz.prog 89 #[.string a0] w fun e w' => e = .returned (.tuple #[.int .i32 r1, .int .i64 r2]) ∧ Below w.heap.size w w' := by
  simp only [utf8_DecodeRuneInString.f, Option.some.injEq, Prod.mk.injEq] at h
  obtain ⟨rfl, rfl⟩ := h
  exact Tryz.utf8_DecodeRuneInString a0 w HT.out.1

end Go.Proofs.YtnknfffldgkgcaaGreatDoor
