/- Lists: the same, element by element, by a test. Over whatever program. No condition. -/
import Derived.Test.YtdcifcfkjhpokaaFrame
namespace Go.Proofs.Ytdcifcfkjhpokaa
open Go.RowKit

def eqBy {α : Type} (p : α → α → Bool) : List α → List α → Bool
  | [], [] => true
  | t :: ts, u :: us => p t u && eqBy p ts us
  | _, _ => false
theorem eqBy_len {α : Type} (p : α → α → Bool) : ∀ (ts us : List α), ts.length ≠ us.length → eqBy p ts us = false
  | [], [], h => absurd rfl h
  | [], _ :: _, _ => rfl
  | _ :: _, [], _ => rfl
  | t :: ts, u :: us, h => by rw [eqBy, eqBy_len p ts us (by simpa using h)]; simp
theorem eqBy_no {α : Type} (p : α → α → Bool) : ∀ (ts us : List α) (j : Nat) (t u : α), ts[j]? = some t → us[j]? = some u → p t u = false → eqBy p ts us = false
  | [], _, j, t, u, h, _, _ => by simp at h
  | _ :: _, [], j, t, u, _, h, _ => by simp at h
  | t' :: ts, u' :: us, 0, t, u, h, h', e => by simp at h h'; subst h h'; simp [eqBy, e]
  | t' :: ts, u' :: us, j + 1, t, u, h, h', e => by rw [eqBy, eqBy_no p ts us j t u (by simpa using h) (by simpa using h') e]; simp
theorem eqBy_yes {α : Type} (p : α → α → Bool) : ∀ (ts us : List α), ts.length = us.length → (∀ (j : Nat) t u, ts[j]? = some t → us[j]? = some u → p t u = true) → eqBy p ts us = true
  | [], [], _, _ => rfl
  | [], _ :: _, h, _ => by simp at h
  | _ :: _, [], h, _ => by simp at h
  | t :: ts, u :: us, h, e => by
    rw [eqBy, e 0 t u rfl rfl, eqBy_yes p ts us (by simpa using h) (fun j t u h1 h2 => e (j + 1) t u (by simpa using h1) (by simpa using h2))]
    rfl
end Go.Proofs.Ytdcifcfkjhpokaa
