/- Scalars among a law's arguments. No condition. -/
import Derived.Test.YtikhofcjkcbpbaaDoorSc
import Derived.Test.YtikhofcjkcbpbaaDoorTrod
namespace Go.Proofs.YtikhofcjkcbpbaaDoor
open Go.ChangeShapes Go.WideShapes Go.ChangeAt Go.RowKit
set_option linter.unusedVariables false

set_option maxRecDepth 100000 in
theorem typed_In : ∀ (n : Nat) (d : D), Typed Tryd.prog n 2 d → ∃ t : Int, d = In.d t
  | 0, _, h => by simp [Typed] at h
  | n + 1, d, h => by
    unfold Typed at h
    rw [Tryd.underlying2] at h
    exact h
set_option maxRecDepth 100000 in
theorem typed_Ins : ∀ (n : Nat) (d : D), Typed Tryd.prog n 27 d → ∃ ts : List Int, d = .list (In.ds ts)
  | 0, _, h => by simp [Typed] at h
  | n + 1, d, h => by
    unfold Typed at h
    rw [Tryd.underlying27] at h
    obtain ⟨ds, rfl, h⟩ := h
    have key : ∀ ds : List D, (∀ x ∈ ds, Typed Tryd.prog n 2 x) → ∃ ts, ds = In.ds ts := by
      intro ds
      induction ds with
      | nil => exact fun _ => ⟨[], rfl⟩
      | cons x xs ih =>
        intro hx
        obtain ⟨t, ht⟩ := typed_In n x (hx x (by simp))
        obtain ⟨ts, hts⟩ := ih fun y hy => hx y (by simp [hy])
        exact ⟨t :: ts, by rw [ht, hts]; rfl⟩
    obtain ⟨ts, rfl⟩ := key ds h
    exact ⟨ts, rfl⟩
set_option maxRecDepth 100000 in
theorem typed_Sr : ∀ (n : Nat) (d : D), Typed Tryd.prog n 9 d → ∃ t : ByteArray, d = Sr.d t
  | 0, _, h => by simp [Typed] at h
  | n + 1, d, h => by
    unfold Typed at h
    rw [Tryd.underlying9] at h
    exact h
set_option maxRecDepth 100000 in
theorem typed_Srs : ∀ (n : Nat) (d : D), Typed Tryd.prog n 76 d → ∃ ts : List ByteArray, d = .list (Sr.ds ts)
  | 0, _, h => by simp [Typed] at h
  | n + 1, d, h => by
    unfold Typed at h
    rw [Tryd.underlying76] at h
    obtain ⟨ds, rfl, h⟩ := h
    have key : ∀ ds : List D, (∀ x ∈ ds, Typed Tryd.prog n 9 x) → ∃ ts, ds = Sr.ds ts := by
      intro ds
      induction ds with
      | nil => exact fun _ => ⟨[], rfl⟩
      | cons x xs ih =>
        intro hx
        obtain ⟨t, ht⟩ := typed_Sr n x (hx x (by simp))
        obtain ⟨ts, hts⟩ := ih fun y hy => hx y (by simp [hy])
        exact ⟨t :: ts, by rw [ht, hts]; rfl⟩
    obtain ⟨ts, rfl⟩ := key ds h
    exact ⟨ts, rfl⟩
set_option maxRecDepth 100000 in
theorem typed_Bo : ∀ (n : Nat) (d : D), Typed Tryd.prog n 4 d → ∃ t : Bool, d = Bo.d t
  | 0, _, h => by simp [Typed] at h
  | n + 1, d, h => by
    unfold Typed at h
    rw [Tryd.underlying4] at h
    exact h
end Go.Proofs.YtikhofcjkcbpbaaDoor
