/- Scalars among a law's arguments. No condition. -/
import Derived.Test.YtejdbmeoaekhcaaSc
import Derived.Test.YtejdbmeoaekhcaaTrod
namespace Go.Proofs.Ytejdbmeoaekhcaa
open Go.ChangeShapes Go.WideShapes Go.ChangeAt Go.RowKit
set_option linter.unusedVariables false

set_option maxRecDepth 100000 in
theorem typed_In : ∀ (n : Nat) (d : D), Typed Try.prog n 2 d → ∃ t : Int, d = In.d t
  | 0, _, h => by simp [Typed] at h
  | n + 1, d, h => by
    unfold Typed at h
    rw [Try.underlying2] at h
    exact h
set_option maxRecDepth 100000 in
theorem typed_Ins : ∀ (n : Nat) (d : D), Typed Try.prog n 25 d → ∃ ts : List Int, d = .list (In.ds ts)
  | 0, _, h => by simp [Typed] at h
  | n + 1, d, h => by
    unfold Typed at h
    rw [Try.underlying25] at h
    obtain ⟨ds, rfl, h⟩ := h
    have key : ∀ ds : List D, (∀ x ∈ ds, Typed Try.prog n 2 x) → ∃ ts, ds = In.ds ts := by
      intro ds
      induction ds with
      | nil => exact fun _ => ⟨[], rfl⟩
      | cons x xs ih =>
        intro hx
        obtain ⟨t, ht⟩ := typed_In n x (hx x (by simp))
        obtain ⟨ts, hts⟩ := ih fun y hy => hx y (by simp [hy])
        exact ⟨t :: ts, by rw [ht, hts]; rfl⟩
    obtain ⟨ts, rfl⟩ := key ds h
    exact ⟨ts, rfl⟩
set_option maxRecDepth 100000 in
theorem typed_Sr : ∀ (n : Nat) (d : D), Typed Try.prog n 9 d → ∃ t : ByteArray, d = Sr.d t
  | 0, _, h => by simp [Typed] at h
  | n + 1, d, h => by
    unfold Typed at h
    rw [Try.underlying9] at h
    exact h
set_option maxRecDepth 100000 in
theorem typed_Bo : ∀ (n : Nat) (d : D), Typed Try.prog n 4 d → ∃ t : Bool, d = Bo.d t
  | 0, _, h => by simp [Typed] at h
  | n + 1, d, h => by
    unfold Typed at h
    rw [Try.underlying4] at h
    exact h
end Go.Proofs.Ytejdbmeoaekhcaa
