/- Lists: the first place where a test holds. Over whatever program. No condition. -/
import Derived.Test.YtgpefnlpbjnjbaaGreatFrame
namespace Go.Proofs.YtgpefnlpbjnjbaaGreat
open Go.RowKit

/-- The first place, or -1. -/
def fstAt {α : Type} (p : α → Bool) : List α → Int
  | [] => -1
  | t :: ts => if p t then 0 else (if fstAt p ts < 0 then -1 else fstAt p ts + 1)
theorem fstAt_ge {α : Type} (p : α → Bool) : ∀ ts : List α, -1 ≤ fstAt p ts
  | [] => by simp [fstAt]
  | t :: ts => by have := fstAt_ge p ts; unfold fstAt; split <;> (try split) <;> omega
theorem fstAt_lt {α : Type} (p : α → Bool) : ∀ ts : List α, fstAt p ts < ts.length
  | [] => by simp [fstAt]
  | t :: ts => by have := fstAt_lt p ts; simp only [fstAt, List.length_cons]; split <;> (try split) <;> omega
theorem fstAt_no {α : Type} (p : α → Bool) : ∀ ts : List α, (∀ (j : Nat) t, ts[j]? = some t → p t = false) → fstAt p ts = -1
  | [], _ => rfl
  | t :: ts, h => by rw [fstAt, h 0 t rfl, fstAt_no p ts fun j u hj => h (j + 1) u (by simpa using hj)]; simp
theorem fstAt_yes {α : Type} (p : α → Bool) : ∀ (ts : List α) (j : Nat) (t : α), ts[j]? = some t → p t = true → (∀ (i : Nat) u, i < j → ts[i]? = some u → p u = false) → fstAt p ts = j
  | [], j, t, h, _, _ => by simp at h
  | u :: ts, 0, t, h, e, _ => by simp at h; subst h; rw [fstAt, e]; simp
  | u :: ts, j + 1, t, h, e, hb => by
    rw [fstAt, hb 0 u (by omega) rfl, fstAt_yes p ts j t (by simpa using h) e fun i v hi hv => hb (i + 1) v (by omega) (by simpa using hv)]
    have : ¬ ((j : Int) < 0) := by omega
    simp [this]
theorem fstAt_any {α : Type} (p : α → Bool) : ∀ ts : List α, decide (0 ≤ fstAt p ts) = ts.any p
  | [] => by simp [fstAt]
  | t :: ts => by
    have h := fstAt_any p ts
    rw [List.any_cons, ← h, fstAt]
    cases p t
    · by_cases h0 : fstAt p ts < 0
      · simp [h0] <;> omega
      · simp [h0] <;> omega
    · simp
end Go.Proofs.YtgpefnlpbjnjbaaGreat
