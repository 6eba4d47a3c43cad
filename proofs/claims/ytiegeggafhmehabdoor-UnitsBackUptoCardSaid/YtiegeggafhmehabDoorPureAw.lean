/- Plain: rows there and back; awake. -/
import Derived.Test.YtiegeggafhmehabDoorPureQ
namespace Go.Proofs.YtiegeggafhmehabDoor.PR
open Go.RowKit Go.Proofs.YtiegeggafhmehabDoorW.PrintWords Go.Proofs.YtiegeggafhmehabDoor.V Go.Proofs.YtiegeggafhmehabDoor.Utf

theorem round (l : List Nat) (hx : ∀ x ∈ l, x < 65536) : val (by_ (ofS l)) = true ∧ us (pts (by_ (ofS l))) = l := by
  have h := val_of (ofS l) (row l) (row_good0 l hx) (by_ofS l hx)
  exact ⟨h.1, by rw [h.2]; exact us_row l hx⟩
theorem ofS_us (s : ByteArray) (h : val (by_ s) = true) : ofS (us (pts (by_ s))) = s := by
  apply by_inj
  rw [by_ofS _ (units_lt s h), of, row_us _ 0 (val_true s h).2, ← (val_true s h).1]
theorem ofS_size (l : List Nat) (hx : ∀ x ∈ l, x < 65536) : (ofS l).size ≤ 4 * l.length := by
  rw [← by_length, by_ofS l hx]
  have h1 := enc_all (row l)
  have h2 := row_len l
  show ((row l).flatMap enc).length ≤ _
  omega
theorem Len_eq (a : ByteArray) (ha : a.size ≤ 1099511627776) (h : val (by_ a) = true) : units_Len.f a = some (((us (pts (by_ a))).length : Int), 0) := by
  unfold units_Len.f
  rw [pUnits_eq a ha, if_pos h, Option.bind_some]
  show some (((cI (us (pts (by_ a)))).length : Int), (0 : Int)) = _
  rw [cI_length]

/-! ### awake -/
theorem bytesT : ofS [97, 55357, 56832] = ⟨#[97, 240, 159, 152, 128]⟩ := by decide +kernel
theorem bytesU : ofS [97, 55357] = ⟨#[97, 237, 160, 189]⟩ := by decide +kernel
theorem valL : val (by_ ⟨#[237, 184, 128]⟩) = true := by decide +kernel
theorem usL : us (pts (by_ ⟨#[237, 184, 128]⟩)) = [56832] := by decide +kernel
theorem valB : val (by_ ⟨#[237, 160, 189, 237, 184, 128]⟩) = false := by decide +kernel
theorem awake (k : Nat) (hk : 300 ≤ k) : cameolaw01_awake.f k = some true := by
  obtain ⟨r1, r2⟩ := round [97, 55357, 56832] (by decide)
  obtain ⟨r3, r4⟩ := round [97, 55357] (by decide)
  have e0 : units_Of.f k [97, 55357, 56832] = some (ofS [97, 55357, 56832]) := pOf_eq [97, 55357, 56832] k (by simp; omega) (by decide) (by decide)
  have e1 : units_Len.f (ofS [97, 55357, 56832]) = some (3, 0) := by
    rw [Len_eq _ (by rw [bytesT]; decide) r1, r2]; rfl
  have e2 : units_Slice.f k (ofS [97, 55357, 56832]) 0 2 = some (ofS [97, 55357], 0) := by
    have hz : (ofS [97, 55357, 56832]).size = 5 := by rw [bytesT]; rfl
    have := (slice_val (ofS [97, 55357, 56832]) 0 2 (by omega) r1 (by decide) (by decide) (by rw [r2]; decide) k (by omega))
    rw [r2] at this
    exact this
  have e3 : units_Concat.f k (ofS [97, 55357]) ⟨#[237, 184, 128]⟩ = some (ofS [97, 55357, 56832], 0) := by
    have hz : (ofS [97, 55357]).size = 4 := by rw [bytesU]; rfl
    have hz2 : (⟨#[237, 184, 128]⟩ : ByteArray).size = 3 := rfl
    have := (concat_val (ofS [97, 55357]) ⟨#[237, 184, 128]⟩ (by omega) (by omega) r3 valL k (by omega))
    rw [r4, usL] at this
    have e : ([97, 55357] ++ [56832] : List Nat) = [97, 55357, 56832] := rfl
    rw [e, if_neg (by rw [bytesT]; decide)] at this
    exact this
  unfold cameolaw01_awake.f
  rw [e0, Option.bind_some, e1, Option.bind_some, e2, Option.bind_some]
  dsimp only
  rw [e3, Option.bind_some]
  dsimp only
  rw [if_pos (show (ofS [97, 55357, 56832]).toList = [97, 240, 159, 152, 128] by rw [bytesT, Lib.toList_data]), if_pos rfl, if_pos rfl, if_pos rfl,
    if_pos (show (ofS [97, 55357]).toList = [97, 237, 160, 189] by rw [bytesU, Lib.toList_data]), if_pos rfl, if_pos rfl, pValid_eq _ (by decide), valB]
  rfl

end Go.Proofs.YtiegeggafhmehabDoor.PR
