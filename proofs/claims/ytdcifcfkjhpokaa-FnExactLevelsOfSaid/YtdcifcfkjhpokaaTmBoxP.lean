/- The greatest level of a node of a term: plain facts. No condition. -/
import Derived.Test.YtdcifcfkjhpokaaTmPlain
namespace Go.Proofs.Ytdcifcfkjhpokaa
open Go.RowKit

def isBox (k : Int) : Nat := if k = 6 then 1 else 0
mutual
/-- The greatest level of a node, from 0 on. -/
def Tm.boxd : Tm → Nat
  | .mk k _ _ _ _ ks => Tm.boxds (isBox k) ks
def Tm.boxds (b : Nat) : List Tm → Nat
  | [] => 0
  | t :: ts => max (Tm.boxd t + b) (Tm.boxds b ts)
end
theorem Tm.boxds_take (b : Nat) : ∀ (ts : List Tm) (i : Nat) (t : Tm), ts[i]? = some t → Tm.boxds b (ts.take (i + 1)) = max (Tm.boxds b (ts.take i)) (Tm.boxd t + b)
  | [], i, t, h => by simp at h
  | u :: ts, 0, t, h => by simp at h; subst h; simp [Tm.boxds]
  | u :: ts, i + 1, t, h => by have := Tm.boxds_take b ts i t (by simpa using h); simp [Tm.boxds] at *; omega
mutual
theorem Tm.boxd_le : ∀ t : Tm, Tm.boxd t + 1 ≤ Tm.cnt t
  | .mk k u n t ns ks => by
    have hb : isBox k ≤ 1 := by unfold isBox; split <;> omega
    have h := Tm.boxds_le (isBox k) ks hb
    simp [Tm.boxd, Tm.cnt]; omega
theorem Tm.boxds_le (b : Nat) : ∀ ts : List Tm, b ≤ 1 → Tm.boxds b ts ≤ Tm.cnts ts
  | [], _ => by simp [Tm.boxds]
  | t :: ts, hb => by have := Tm.boxd_le t; have := Tm.boxds_le b ts hb; simp [Tm.boxds, Tm.cnts]; omega
end
theorem Tm.boxds_get (b : Nat) : ∀ (ts : List Tm) (i : Nat) (t : Tm), ts[i]? = some t → Tm.boxd t + b ≤ Tm.boxds b ts
  | [], i, t, h => by simp at h
  | u :: ts, 0, t, h => by simp at h; subst h; simp [Tm.boxds]; omega
  | u :: ts, i + 1, t, h => by have := Tm.boxds_get b ts i t (by simpa using h); simp [Tm.boxds]; omega
def boxDep (t : Tm) : Int := if Tm.ok t then (Tm.boxd t : Int) else 0
theorem boxDep_yes {t : Tm} (h : Tm.ok t = true) : boxDep t = (Tm.boxd t : Int) := if_pos h
theorem boxDep_no {t : Tm} (h : Tm.ok t = false) : boxDep t = 0 := by rw [boxDep, h]; rfl
end Go.Proofs.Ytdcifcfkjhpokaa
