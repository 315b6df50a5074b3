/- Types: their form, depth and number of nodes: plain facts. No condition. -/
import Derived.Test.YtikhofcjkcbpbaaGreatDoorDTy
import Derived.Test.YtikhofcjkcbpbaaGreatDoorFour
namespace Go.Proofs.YtikhofcjkcbpbaaGreatDoor
open Go.RowKit

def okNode (k : Int) (n : ByteArray) (m : Nat) : Bool :=
  if k = 1 then n.toList.isEmpty && decide (m = 0)
  else if k = 2 then isUpperB n && (!(n.toList == [73, 110, 116]) && decide (m = 0))
  else if k = 3 then n.toList.isEmpty && decide (m = 2)
  else if k = 4 then n.toList.isEmpty && decide (m = 1)
  else false
mutual
def Ty.good : Ty → Bool
  | .mk k n ks => Ty.goods ks && okNode k n ks.length
def Ty.goods : List Ty → Bool
  | [] => true
  | t :: ts => Ty.good t && Ty.goods ts
end
mutual
def Ty.cnt : Ty → Nat
  | .mk _ _ ks => 1 + Ty.cnts ks
def Ty.cnts : List Ty → Nat
  | [] => 0
  | t :: ts => Ty.cnt t + Ty.cnts ts
end
mutual
def Ty.dep : Ty → Nat
  | .mk _ _ ks => 1 + Ty.deps ks
def Ty.deps : List Ty → Nat
  | [] => 0
  | t :: ts => max (Ty.dep t) (Ty.deps ts)
end
def shD : Ty → Int | .mk k n ks => if Ty.goods ks then (Ty.dep (.mk k n ks) : Int) else 0
def shS : Ty → Int | .mk k n ks => if Ty.goods ks then (Ty.cnt (.mk k n ks) : Int) else 0
theorem shD_good {t : Ty} (h : t.good = true) : shD t = t.dep := by
  obtain ⟨k, n, ks⟩ := t
  simp only [Ty.good, Bool.and_eq_true] at h
  simp [shD, h.1]
theorem shS_good {t : Ty} (h : t.good = true) : shS t = t.cnt := by
  obtain ⟨k, n, ks⟩ := t
  simp only [Ty.good, Bool.and_eq_true] at h
  simp [shS, h.1]
theorem Ty.goods_no : ∀ (ts : List Ty) (j : Nat) (t : Ty), ts[j]? = some t → Ty.good t = false → Ty.goods ts = false
  | [], j, t, h, _ => by simp at h
  | u :: ts, 0, t, h, e => by simp at h; subst h; simp [Ty.goods, e]
  | u :: ts, j + 1, t, h, e => by rw [Ty.goods, Ty.goods_no ts j t (by simpa using h) e]; simp
theorem Ty.goods_yes : ∀ (ts : List Ty), (∀ (j : Nat) t, ts[j]? = some t → Ty.good t = true) → Ty.goods ts = true
  | [], _ => rfl
  | t :: ts, h => by rw [Ty.goods, h 0 t rfl, Ty.goods_yes ts fun j u hj => h (j + 1) u (by simpa using hj)]; rfl
theorem Ty.goods_get : ∀ (ts : List Ty) (j : Nat) (t : Ty), Ty.goods ts = true → ts[j]? = some t → Ty.good t = true
  | [], j, t, _, h => by simp at h
  | u :: ts, 0, t, g, h => by simp at h; subst h; simp only [Ty.goods, Bool.and_eq_true] at g; exact g.1
  | u :: ts, j + 1, t, g, h => by simp only [Ty.goods, Bool.and_eq_true] at g; exact Ty.goods_get ts j t g.2 (by simpa using h)
theorem Ty.cnts_take : ∀ (ts : List Ty) (i : Nat) (t : Ty), ts[i]? = some t → Ty.cnts (ts.take (i + 1)) = Ty.cnts (ts.take i) + Ty.cnt t
  | [], i, t, h => by simp at h
  | u :: ts, 0, t, h => by simp at h; subst h; simp [Ty.cnts]
  | u :: ts, i + 1, t, h => by have := Ty.cnts_take ts i t (by simpa using h); simp [Ty.cnts] at *; omega
theorem Ty.deps_take : ∀ (ts : List Ty) (i : Nat) (t : Ty), ts[i]? = some t → Ty.deps (ts.take (i + 1)) = max (Ty.deps (ts.take i)) (Ty.dep t)
  | [], i, t, h => by simp at h
  | u :: ts, 0, t, h => by simp at h; subst h; simp [Ty.deps]
  | u :: ts, i + 1, t, h => by have := Ty.deps_take ts i t (by simpa using h); simp [Ty.deps] at *; omega
mutual
theorem Ty.cnt_le : ∀ t : Ty, Ty.cnt t ≤ 1 + Ty.bulk t
  | .mk k n ks => by have := Ty.cnts_le ks; simp [Ty.cnt, Ty.bulk]; omega
theorem Ty.cnts_le : ∀ ts : List Ty, Ty.cnts ts ≤ Ty.bulks ts
  | [] => by simp [Ty.cnts]
  | t :: ts => by have := Ty.cnt_le t; have := Ty.cnts_le ts; simp [Ty.cnts, Ty.bulks]; omega
end
theorem Ty.cnts_take_le : ∀ (ts : List Ty) (i : Nat), Ty.cnts (ts.take i) ≤ Ty.cnts ts
  | [], i => by simp
  | u :: ts, 0 => by simp [Ty.cnts]
  | u :: ts, i + 1 => by have := Ty.cnts_take_le ts i; simp [Ty.cnts]; omega
mutual
theorem Ty.dep_le : ∀ t : Ty, Ty.dep t ≤ Ty.cnt t
  | .mk k n ks => by have := Ty.deps_le ks; simp [Ty.cnt, Ty.dep]; omega
theorem Ty.deps_le : ∀ ts : List Ty, Ty.deps ts ≤ Ty.cnts ts
  | [] => by simp [Ty.deps]
  | t :: ts => by have := Ty.dep_le t; have := Ty.deps_le ts; simp [Ty.deps, Ty.cnts]; omega
end
theorem Ty.dep_pos (t : Ty) : 1 ≤ t.dep := by cases t; simp [Ty.dep]
theorem Ty.cnt_pos (t : Ty) : 1 ≤ t.cnt := by cases t; simp [Ty.cnt]
theorem Ty.deps_get : ∀ (ts : List Ty) (j : Nat) (t : Ty), ts[j]? = some t → Ty.dep t ≤ Ty.deps ts
  | [], j, t, h => by simp at h
  | u :: ts, 0, t, h => by simp at h; subst h; simp [Ty.deps]; omega
  | u :: ts, j + 1, t, h => by have := Ty.deps_get ts j t (by simpa using h); simp [Ty.deps]; omega
theorem Ty.deps_all : ∀ (ts : List Ty) (m : Nat), (∀ (j : Nat) t, ts[j]? = some t → Ty.dep t ≤ m) → Ty.deps ts ≤ m
  | [], m, _ => by simp [Ty.deps]
  | t :: ts, m, h => by
    have h0 := h 0 t rfl
    have := Ty.deps_all ts m fun j u hj => h (j + 1) u (by simpa using hj)
    simp [Ty.deps]; omega
/-- Valid: of the right form, not too deep, not too great. -/
def Ty.ok (t : Ty) : Bool := Ty.good t && (decide (Ty.dep t ≤ 6) && decide (Ty.cnt t ≤ 16))
/-- What the reference counts. -/
def Ty.nodes (t : Ty) (d : Int) : Int := if Ty.good t = true ∧ (Ty.dep t : Int) ≤ d then Ty.cnt t else -1
end Go.Proofs.YtikhofcjkcbpbaaGreatDoor
