/- Names in lists, terms: plain facts. No condition. -/
import Derived.Test.YtikhofcjkcbpbaaGreatDoorDTm
import Derived.Test.YtikhofcjkcbpbaaGreatDoorTyPlain
import Derived.Test.YtikhofcjkcbpbaaGreatDoorFour
import Derived.Test.YtikhofcjkcbpbaaGreatDoorIn
namespace Go.Proofs.YtikhofcjkcbpbaaGreatDoor
open Go.RowKit

/-- The last place of a name, or -1. -/
def lastAt (s : ByteArray) : List ByteArray → Int
  | [] => -1
  | t :: ts => if 0 ≤ lastAt s ts then lastAt s ts + 1 else if t = s then 0 else -1
theorem lastAt_ge (s : ByteArray) : ∀ ts, -1 ≤ lastAt s ts
  | [] => by simp [lastAt]
  | t :: ts => by have := lastAt_ge s ts; unfold lastAt; split <;> (try split) <;> omega
theorem lastAt_lt (s : ByteArray) : ∀ ts, lastAt s ts < ts.length
  | [] => by simp [lastAt]
  | t :: ts => by have := lastAt_lt s ts; unfold lastAt; split <;> (try split) <;> simp <;> omega
theorem lastAt_no (s : ByteArray) : ∀ ts : List ByteArray, (∀ (j : Nat) t, ts[j]? = some t → t ≠ s) → lastAt s ts = -1
  | [], _ => rfl
  | t :: ts, h => by rw [lastAt, lastAt_no s ts fun j u hj => h (j + 1) u (by simpa using hj), if_neg (by omega), if_neg (h 0 t rfl)]
theorem lastAt_yes (s : ByteArray) : ∀ (ts : List ByteArray) (j : Nat), ts[j]? = some s → (∀ (i : Nat) t, j < i → ts[i]? = some t → t ≠ s) → lastAt s ts = j
  | [], j, h, _ => by simp at h
  | t :: ts, 0, h, hn => by
    simp at h
    rw [lastAt, lastAt_no s ts fun j u hj => hn (j + 1) u (by omega) (by simpa using hj), if_neg (by omega), if_pos h]; rfl
  | t :: ts, j + 1, h, hn => by
    rw [lastAt, lastAt_yes s ts j (by simpa using h) fun i u hi hu => hn (i + 1) u (by omega) (by simpa using hu), if_pos (by omega)]; simp
theorem hasStr_cons (t : ByteArray) (ts : List ByteArray) (s : ByteArray) : hasStr (t :: ts) s = (decide (t = s) || hasStr ts s) := by
  unfold hasStr
  have h1 := idxFrom_ge s 0 (t :: ts)
  have h2 := idxFrom_ge s 0 ts
  by_cases h : t = s
  · subst h
    rw [decide_eq_true (h1.2 (by simp))]; simp
  · by_cases h3 : s ∈ ts
    · rw [decide_eq_true (h1.2 (by simp [h3])), decide_eq_true (h2.2 h3)]; simp
    · rw [decide_eq_false (fun e => by have := h1.1 e; simp [h3] at this; exact h this.symm), decide_eq_false (fun e => h3 (h2.1 e))]; simp [h]
theorem lastAt_has (s : ByteArray) : ∀ ts, decide (0 ≤ lastAt s ts) = hasStr ts s
  | [] => by simp [lastAt, hasStr, idxFrom]
  | t :: ts => by
    have ih := lastAt_has s ts
    have := lastAt_ge s ts
    rw [hasStr_cons, ← ih, lastAt]
    by_cases h : 0 ≤ lastAt s ts
    · rw [if_pos h, decide_eq_true h, decide_eq_true (by omega)]; simp
    · rw [if_neg h, decide_eq_false h]
      by_cases h2 : t = s
      · rw [if_pos h2]; simp [h2]
      · rw [if_neg h2]; simp [h2]
/-- Distinct lower names, from the place j on. -/
def lowFrom (ns : List ByteArray) : List ByteArray → Nat → Bool
  | [], _ => true
  | n :: rest, j => (isLowerB n && !hasStr (ns.take j) n) && lowFrom ns rest (j + 1)
def tmN (k : Int) : Int × Int :=
  if k = 1 ∨ k = 2 then (0, 0) else if k = 4 ∨ k = 6 ∨ k = 10 then (1, 1) else if k = 3 ∨ k = 5 ∨ k = 7 then (2, 2)
  else if k = 8 then (0, 3) else if k = 9 then (2, 5) else if k = 11 then (3, 3) else (0, -1)
def tyNone : Ty → Bool
  | .mk k n ks => decide (k = 0) && (n.toList.isEmpty && decide (ks.length = 0))
def tmName (k : Int) (n : ByteArray) : Bool := if k = 1 ∨ k = 4 ∨ k = 7 then isLowerB n else if k = 8 ∨ k = 10 then isUpperB n else n.toList.isEmpty
def tmType (k : Int) (t : Ty) : Bool := if k = 4 then Ty.ok t else tyNone t
def tmNames (k : Int) (ns : List ByteArray) : Bool := if k = 10 then decide (ns.length ≤ 3) && lowFrom ns ns 0 else decide (ns.length = 0)
def tmNum (k u : Int) : Bool := if k = 2 then inR u (-2147483648) 2147483647 else if k = 3 then inR u 1 6 else decide (u = 0)
def tmFields (k u : Int) (n : ByteArray) (t : Ty) (ns : List ByteArray) : Bool := tmName k n && (tmType k t && (tmNames k ns && tmNum k u))
def okTm (k u : Int) (n : ByteArray) (t : Ty) (ns : List ByteArray) (m : Nat) : Bool := inR m (tmN k).1 (tmN k).2 && tmFields k u n t ns
def Tm.isCase : Tm → Bool
  | .mk k _ _ _ _ _ => decide (k = 10)
/-- The kids of a node of kind k, from the place i on: a case stands behind a match's first kid alone. -/
def casesOk (k : Int) : Nat → List Tm → Bool
  | _, [] => true
  | i, t :: ts => (Tm.isCase t == (decide (k = 9) && decide (0 < i))) && casesOk k (i + 1) ts
mutual
def Tm.good : Tm → Bool
  | .mk k u n t ns ks => okTm k u n t ns ks.length && (casesOk k 0 ks && Tm.goods ks)
def Tm.goods : List Tm → Bool
  | [] => true
  | t :: ts => Tm.good t && Tm.goods ts
end
theorem casesOk_no (k : Int) : ∀ (i : Nat) (ts : List Tm) (j : Nat) (t : Tm), ts[j]? = some t → (Tm.isCase t == (decide (k = 9) && decide (0 < i + j))) = false → casesOk k i ts = false
  | i, [], j, t, h, _ => by simp at h
  | i, u :: ts, 0, t, h, e => by simp at h; subst h; rw [Nat.add_zero] at e; simp only [casesOk, e, Bool.false_and]
  | i, u :: ts, j + 1, t, h, e => by rw [casesOk, casesOk_no k (i + 1) ts j t (by simpa using h) (by rw [show i + 1 + j = i + (j + 1) by omega]; exact e)]; simp
theorem casesOk_yes (k : Int) : ∀ (i : Nat) (ts : List Tm), (∀ (j : Nat) t, ts[j]? = some t → (Tm.isCase t == (decide (k = 9) && decide (0 < i + j))) = true) → casesOk k i ts = true
  | i, [], _ => rfl
  | i, u :: ts, h => by
    have h0 := h 0 u rfl
    rw [Nat.add_zero] at h0
    rw [casesOk, h0, casesOk_yes k (i + 1) ts fun j t hj => by rw [show i + 1 + j = i + (j + 1) by omega]; exact h (j + 1) t (by simpa using hj)]; rfl
mutual
def Tm.cnt : Tm → Nat
  | .mk _ _ _ _ _ ks => 1 + Tm.cnts ks
def Tm.cnts : List Tm → Nat
  | [] => 0
  | t :: ts => Tm.cnt t + Tm.cnts ts
end
mutual
def Tm.dep : Tm → Nat
  | .mk _ _ _ _ _ ks => 1 + Tm.deps ks
def Tm.deps : List Tm → Nat
  | [] => 0
  | t :: ts => max (Tm.dep t) (Tm.deps ts)
end
theorem Tm.goods_no : ∀ (ts : List Tm) (j : Nat) (t : Tm), ts[j]? = some t → Tm.good t = false → Tm.goods ts = false
  | [], j, t, h, _ => by simp at h
  | u :: ts, 0, t, h, e => by simp at h; subst h; simp [Tm.goods, e]
  | u :: ts, j + 1, t, h, e => by rw [Tm.goods, Tm.goods_no ts j t (by simpa using h) e]; simp
theorem Tm.goods_yes : ∀ (ts : List Tm), (∀ (j : Nat) t, ts[j]? = some t → Tm.good t = true) → Tm.goods ts = true
  | [], _ => rfl
  | t :: ts, h => by rw [Tm.goods, h 0 t rfl, Tm.goods_yes ts fun j u hj => h (j + 1) u (by simpa using hj)]; rfl
theorem Tm.goods_get : ∀ (ts : List Tm) (j : Nat) (t : Tm), Tm.goods ts = true → ts[j]? = some t → Tm.good t = true
  | [], j, t, _, h => by simp at h
  | u :: ts, 0, t, g, h => by simp at h; subst h; simp only [Tm.goods, Bool.and_eq_true] at g; exact g.1
  | u :: ts, j + 1, t, g, h => by simp only [Tm.goods, Bool.and_eq_true] at g; exact Tm.goods_get ts j t g.2 (by simpa using h)
theorem Tm.cnts_take : ∀ (ts : List Tm) (i : Nat) (t : Tm), ts[i]? = some t → Tm.cnts (ts.take (i + 1)) = Tm.cnts (ts.take i) + Tm.cnt t
  | [], i, t, h => by simp at h
  | u :: ts, 0, t, h => by simp at h; subst h; simp [Tm.cnts]
  | u :: ts, i + 1, t, h => by have := Tm.cnts_take ts i t (by simpa using h); simp [Tm.cnts] at *; omega
theorem Tm.deps_take : ∀ (ts : List Tm) (i : Nat) (t : Tm), ts[i]? = some t → Tm.deps (ts.take (i + 1)) = max (Tm.deps (ts.take i)) (Tm.dep t)
  | [], i, t, h => by simp at h
  | u :: ts, 0, t, h => by simp at h; subst h; simp [Tm.deps]
  | u :: ts, i + 1, t, h => by have := Tm.deps_take ts i t (by simpa using h); simp [Tm.deps] at *; omega
mutual
theorem Tm.cnt_le : ∀ t : Tm, Tm.cnt t ≤ 1 + Tm.bulk t
  | .mk k u n t ns ks => by have := Tm.cnts_le ks; simp [Tm.cnt, Tm.bulk]; omega
theorem Tm.cnts_le : ∀ ts : List Tm, Tm.cnts ts ≤ Tm.bulks ts
  | [] => by simp [Tm.cnts]
  | t :: ts => by have := Tm.cnt_le t; have := Tm.cnts_le ts; simp [Tm.cnts, Tm.bulks]; omega
end
theorem Tm.cnts_take_le : ∀ (ts : List Tm) (i : Nat), Tm.cnts (ts.take i) ≤ Tm.cnts ts
  | [], i => by simp
  | u :: ts, 0 => by simp [Tm.cnts]
  | u :: ts, i + 1 => by have := Tm.cnts_take_le ts i; simp [Tm.cnts]; omega
mutual
theorem Tm.dep_le : ∀ t : Tm, Tm.dep t ≤ Tm.cnt t
  | .mk k u n t ns ks => by have := Tm.deps_le ks; simp [Tm.cnt, Tm.dep]; omega
theorem Tm.deps_le : ∀ ts : List Tm, Tm.deps ts ≤ Tm.cnts ts
  | [] => by simp [Tm.deps]
  | t :: ts => by have := Tm.dep_le t; have := Tm.deps_le ts; simp [Tm.deps, Tm.cnts]; omega
end
theorem Tm.dep_pos (t : Tm) : 1 ≤ t.dep := by cases t; simp [Tm.dep]
theorem Tm.cnt_pos (t : Tm) : 1 ≤ t.cnt := by cases t; simp [Tm.cnt]
theorem Tm.deps_get : ∀ (ts : List Tm) (j : Nat) (t : Tm), ts[j]? = some t → Tm.dep t ≤ Tm.deps ts
  | [], j, t, h => by simp at h
  | u :: ts, 0, t, h => by simp at h; subst h; simp [Tm.deps]; omega
  | u :: ts, j + 1, t, h => by have := Tm.deps_get ts j t (by simpa using h); simp [Tm.deps]; omega
theorem Tm.deps_all : ∀ (ts : List Tm) (m : Nat), (∀ (j : Nat) t, ts[j]? = some t → Tm.dep t ≤ m) → Tm.deps ts ≤ m
  | [], m, _ => by simp [Tm.deps]
  | t :: ts, m, h => by
    have h0 := h 0 t rfl
    have := Tm.deps_all ts m fun j u hj => h (j + 1) u (by simpa using hj)
    simp [Tm.deps]; omega
theorem Tm.cnts_get : ∀ (ts : List Tm) (j : Nat) (t : Tm), ts[j]? = some t → Tm.cnts (ts.take j) + Tm.cnt t ≤ Tm.cnts ts
  | [], j, t, h => by simp at h
  | u :: ts, 0, t, h => by simp at h; subst h; simp [Tm.cnts]
  | u :: ts, j + 1, t, h => by have := Tm.cnts_get ts j t (by simpa using h); simp [Tm.cnts] at *; omega
/-- What the reference counts. -/
def Tm.nodes (c : Bool) (t : Tm) (d l : Int) : Int := if (Tm.isCase t == c) = true ∧ Tm.good t = true ∧ (Tm.dep t : Int) ≤ d ∧ (Tm.cnt t : Int) ≤ l then Tm.cnt t else -1
theorem Tm.nodes_no {c : Bool} {t : Tm} {d l : Int} (h : ¬ ((Tm.isCase t == c) = true ∧ Tm.good t = true ∧ (Tm.dep t : Int) ≤ d ∧ (Tm.cnt t : Int) ≤ l)) : Tm.nodes c t d l = -1 := by unfold Tm.nodes; rw [if_neg h]
theorem Tm.nodes_yes {c : Bool} {t : Tm} {d l : Int} (h : (Tm.isCase t == c) = true ∧ Tm.good t = true ∧ (Tm.dep t : Int) ≤ d ∧ (Tm.cnt t : Int) ≤ l) : Tm.nodes c t d l = Tm.cnt t := by unfold Tm.nodes; rw [if_pos h]
/-- Valid. -/
def Tm.ok (t : Tm) : Bool := Tm.good t && (!Tm.isCase t && (decide (Tm.dep t ≤ 24) && decide (Tm.cnt t ≤ 160)))
theorem Tm.nodes_ok (t : Tm) : decide (0 < Tm.nodes false t 24 160) = Tm.ok t := by
  have := Tm.cnt_pos t
  unfold Tm.nodes Tm.ok
  by_cases h1 : Tm.good t = true <;> by_cases h2 : Tm.dep t ≤ 24 <;> by_cases h3 : Tm.cnt t ≤ 160 <;> cases h4 : Tm.isCase t <;> simp [h1, h2, h3] <;> omega
end Go.Proofs.YtikhofcjkcbpbaaGreatDoor
