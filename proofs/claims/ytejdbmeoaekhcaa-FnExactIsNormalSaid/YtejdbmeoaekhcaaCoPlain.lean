/- Cores: their form, depth and number of nodes: plain facts. No condition. -/
import Derived.Test.YtejdbmeoaekhcaaDCo
import Derived.Test.YtejdbmeoaekhcaaIn
namespace Go.Proofs.Ytejdbmeoaekhcaa
open Go.RowKit

def coN (k : Int) : Int × Int × Int × Int :=
  if k = 1 ∨ k = 2 ∨ k = 11 then (0, 0, 0, 0) else if k = 3 ∨ k = 5 ∨ k = 7 then (2, 2, 0, 0) else if k = 4 ∨ k = 6 then (1, 1, 0, 0)
  else if k = 8 then (0, 3, 0, 0) else if k = 9 then (1, 1, 1, 4) else if k = 10 then (1, 1, 2, 2) else (0, -1, 0, 0)
def coVal (k v : Int) : Bool :=
  if k = 1 then inR v 0 255 else if k = 2 then inR v (-2147483648) 2147483647 else if k = 3 then inR v 1 6 else if k = 8 then inR v 0 3 else if k = 11 then inR v 0 23 else decide (v = 0)
def coData : List Int → Bool
  | [] => true
  | x :: l => inR x 0 23 && coData l
def okCo (k v : Int) (ds : List Int) (n : Nat) : Bool := inR n (coN k).1 (coN k).2.1 && (inR ds.length (coN k).2.2.1 (coN k).2.2.2 && (coVal k v && coData ds))
theorem coData_no : ∀ (l : List Int) (j : Nat) (x : Int), l[j]? = some x → inR x 0 23 = false → coData l = false
  | [], j, x, h, _ => by simp at h
  | y :: l, 0, x, h, e => by simp at h; subst h; simp [coData, e]
  | y :: l, j + 1, x, h, e => by rw [coData, coData_no l j x (by simpa using h) e]; simp
theorem coData_yes : ∀ (l : List Int), (∀ (j : Nat) x, l[j]? = some x → inR x 0 23 = true) → coData l = true
  | [], _ => rfl
  | y :: l, h => by rw [coData, h 0 y rfl, coData_yes l fun j x hj => h (j + 1) x (by simpa using hj)]; rfl
mutual
def Co.good : Co → Bool
  | .mk k v ds ks => okCo k v ds ks.length && Co.goods ks
def Co.goods : List Co → Bool
  | [] => true
  | t :: ts => Co.good t && Co.goods ts
end
mutual
def Co.cnt : Co → Nat
  | .mk _ _ _ ks => 1 + Co.cnts ks
def Co.cnts : List Co → Nat
  | [] => 0
  | t :: ts => Co.cnt t + Co.cnts ts
end
mutual
def Co.dep : Co → Nat
  | .mk _ _ _ ks => 1 + Co.deps ks
def Co.deps : List Co → Nat
  | [] => 0
  | t :: ts => max (Co.dep t) (Co.deps ts)
end
theorem Co.goods_no : ∀ (ts : List Co) (j : Nat) (t : Co), ts[j]? = some t → Co.good t = false → Co.goods ts = false
  | [], j, t, h, _ => by simp at h
  | u :: ts, 0, t, h, e => by simp at h; subst h; simp [Co.goods, e]
  | u :: ts, j + 1, t, h, e => by rw [Co.goods, Co.goods_no ts j t (by simpa using h) e]; simp
theorem Co.goods_yes : ∀ (ts : List Co), (∀ (j : Nat) t, ts[j]? = some t → Co.good t = true) → Co.goods ts = true
  | [], _ => rfl
  | t :: ts, h => by rw [Co.goods, h 0 t rfl, Co.goods_yes ts fun j u hj => h (j + 1) u (by simpa using hj)]; rfl
theorem Co.goods_get : ∀ (ts : List Co) (j : Nat) (t : Co), Co.goods ts = true → ts[j]? = some t → Co.good t = true
  | [], j, t, _, h => by simp at h
  | u :: ts, 0, t, g, h => by simp at h; subst h; simp only [Co.goods, Bool.and_eq_true] at g; exact g.1
  | u :: ts, j + 1, t, g, h => by simp only [Co.goods, Bool.and_eq_true] at g; exact Co.goods_get ts j t g.2 (by simpa using h)
theorem Co.cnts_take : ∀ (ts : List Co) (i : Nat) (t : Co), ts[i]? = some t → Co.cnts (ts.take (i + 1)) = Co.cnts (ts.take i) + Co.cnt t
  | [], i, t, h => by simp at h
  | u :: ts, 0, t, h => by simp at h; subst h; simp [Co.cnts]
  | u :: ts, i + 1, t, h => by have := Co.cnts_take ts i t (by simpa using h); simp [Co.cnts] at *; omega
theorem Co.deps_take : ∀ (ts : List Co) (i : Nat) (t : Co), ts[i]? = some t → Co.deps (ts.take (i + 1)) = max (Co.deps (ts.take i)) (Co.dep t)
  | [], i, t, h => by simp at h
  | u :: ts, 0, t, h => by simp at h; subst h; simp [Co.deps]
  | u :: ts, i + 1, t, h => by have := Co.deps_take ts i t (by simpa using h); simp [Co.deps] at *; omega
mutual
theorem Co.cnt_le : ∀ t : Co, Co.cnt t ≤ 1 + Co.bulk t
  | .mk k v ds ks => by have := Co.cnts_le ks; simp [Co.cnt, Co.bulk]; omega
theorem Co.cnts_le : ∀ ts : List Co, Co.cnts ts ≤ Co.bulks ts
  | [] => by simp [Co.cnts]
  | t :: ts => by have := Co.cnt_le t; have := Co.cnts_le ts; simp [Co.cnts, Co.bulks]; omega
end
theorem Co.cnts_take_le : ∀ (ts : List Co) (i : Nat), Co.cnts (ts.take i) ≤ Co.cnts ts
  | [], i => by simp
  | u :: ts, 0 => by simp [Co.cnts]
  | u :: ts, i + 1 => by have := Co.cnts_take_le ts i; simp [Co.cnts]; omega
mutual
theorem Co.dep_le : ∀ t : Co, Co.dep t ≤ Co.cnt t
  | .mk k v ds ks => by have := Co.deps_le ks; simp [Co.cnt, Co.dep]; omega
theorem Co.deps_le : ∀ ts : List Co, Co.deps ts ≤ Co.cnts ts
  | [] => by simp [Co.deps]
  | t :: ts => by have := Co.dep_le t; have := Co.deps_le ts; simp [Co.deps, Co.cnts]; omega
end
theorem Co.dep_pos (t : Co) : 1 ≤ t.dep := by cases t; simp [Co.dep]
theorem Co.cnt_pos (t : Co) : 1 ≤ t.cnt := by cases t; simp [Co.cnt]
theorem Co.deps_get : ∀ (ts : List Co) (j : Nat) (t : Co), ts[j]? = some t → Co.dep t ≤ Co.deps ts
  | [], j, t, h => by simp at h
  | u :: ts, 0, t, h => by simp at h; subst h; simp [Co.deps]; omega
  | u :: ts, j + 1, t, h => by have := Co.deps_get ts j t (by simpa using h); simp [Co.deps]; omega
theorem Co.deps_all : ∀ (ts : List Co) (m : Nat), (∀ (j : Nat) t, ts[j]? = some t → Co.dep t ≤ m) → Co.deps ts ≤ m
  | [], m, _ => by simp [Co.deps]
  | t :: ts, m, h => by
    have h0 := h 0 t rfl
    have := Co.deps_all ts m fun j u hj => h (j + 1) u (by simpa using hj)
    simp [Co.deps]; omega
theorem Co.cnts_get : ∀ (ts : List Co) (j : Nat) (t : Co), ts[j]? = some t → Co.cnts (ts.take j) + Co.cnt t ≤ Co.cnts ts
  | [], j, t, h => by simp at h
  | u :: ts, 0, t, h => by simp at h; subst h; simp [Co.cnts]
  | u :: ts, j + 1, t, h => by have := Co.cnts_get ts j t (by simpa using h); simp [Co.cnts] at *; omega
/-- What the reference counts. -/
def Co.nodes (t : Co) (d l : Int) : Int := if Co.good t = true ∧ (Co.dep t : Int) ≤ d ∧ (Co.cnt t : Int) ≤ l then Co.cnt t else -1
theorem Co.nodes_no {t : Co} {d l : Int} (h : ¬ (Co.good t = true ∧ (Co.dep t : Int) ≤ d ∧ (Co.cnt t : Int) ≤ l)) : Co.nodes t d l = -1 := by unfold Co.nodes; rw [if_neg h]
theorem Co.nodes_yes {t : Co} {d l : Int} (h : Co.good t = true ∧ (Co.dep t : Int) ≤ d ∧ (Co.cnt t : Int) ≤ l) : Co.nodes t d l = Co.cnt t := by unfold Co.nodes; rw [if_pos h]
/-- Valid. -/
def Co.ok (t : Co) : Bool := Co.good t && (decide (Co.dep t ≤ 80) && decide (Co.cnt t ≤ 400))
theorem Co.nodes_ok (t : Co) : decide (0 < Co.nodes t 80 400) = Co.ok t := by
  have := Co.cnt_pos t
  unfold Co.nodes Co.ok
  by_cases h1 : Co.good t = true <;> by_cases h2 : Co.dep t ≤ 80 <;> by_cases h3 : Co.cnt t ≤ 400 <;> simp [h1, h2, h3] <;> omega
end Go.Proofs.Ytejdbmeoaekhcaa
