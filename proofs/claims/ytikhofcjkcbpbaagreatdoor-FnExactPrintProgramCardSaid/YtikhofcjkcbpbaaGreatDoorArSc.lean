/- Scalars among a law's arguments. No condition. -/
import Derived.Test.YtikhofcjkcbpbaaGreatDoorSc
import Derived.Test.YtikhofcjkcbpbaaGreatDoorTrod
namespace Go.Proofs.YtikhofcjkcbpbaaGreatDoor
open Go.ChangeShapes Go.WideShapes Go.ChangeAt Go.RowKit
set_option linter.unusedVariables false

set_option maxRecDepth 100000 in
theorem typed_In : ∀ (n : Nat) (d : D), Typed Tryz.prog n 2 d → ∃ t : Int, d = In.d t
  | 0, _, h => by simp [Typed] at h
  | n + 1, d, h => by
    unfold Typed at h
    rw [Tryz.underlying2] at h
    exact h
set_option maxRecDepth 100000 in
theorem typed_Sr : ∀ (n : Nat) (d : D), Typed Tryz.prog n 9 d → ∃ t : ByteArray, d = Sr.d t
  | 0, _, h => by simp [Typed] at h
  | n + 1, d, h => by
    unfold Typed at h
    rw [Tryz.underlying9] at h
    exact h
set_option maxRecDepth 100000 in
theorem typed_Srs : ∀ (n : Nat) (d : D), Typed Tryz.prog n 25 d → ∃ ts : List ByteArray, d = .list (Sr.ds ts)
  | 0, _, h => by simp [Typed] at h
  | n + 1, d, h => by
    unfold Typed at h
    rw [Tryz.underlying25] at h
    obtain ⟨ds, rfl, h⟩ := h
    have key : ∀ ds : List D, (∀ x ∈ ds, Typed Tryz.prog n 9 x) → ∃ ts, ds = Sr.ds ts := by
      intro ds
      induction ds with
      | nil => exact fun _ => ⟨[], rfl⟩
      | cons x xs ih =>
        intro hx
        obtain ⟨t, ht⟩ := typed_Sr n x (hx x (by simp))
        obtain ⟨ts, hts⟩ := ih fun y hy => hx y (by simp [hy])
        exact ⟨t :: ts, by rw [ht, hts]; rfl⟩
    obtain ⟨ts, rfl⟩ := key ds h
    exact ⟨ts, rfl⟩
set_option maxRecDepth 100000 in
theorem typed_Bo : ∀ (n : Nat) (d : D), Typed Tryz.prog n 4 d → ∃ t : Bool, d = Bo.d t
  | 0, _, h => by simp [Typed] at h
  | n + 1, d, h => by
    unfold Typed at h
    rw [Tryz.underlying4] at h
    exact h
end Go.Proofs.YtikhofcjkcbpbaaGreatDoor
