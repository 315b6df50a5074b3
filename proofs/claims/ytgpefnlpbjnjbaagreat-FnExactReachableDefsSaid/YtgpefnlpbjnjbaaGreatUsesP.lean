/- The uses of a name in a term: plain facts. No condition. -/
import Derived.Test.YtgpefnlpbjnjbaaGreatTmPlain
import Derived.Test.YtgpefnlpbjnjbaaGreatThree
namespace Go.Proofs.YtgpefnlpbjnjbaaGreat
open Go.RowKit

/-- The names that a node binds in its kid i. -/
def boundOf (k : Int) (n : ByteArray) (ns : List ByteArray) (i : Nat) : List ByteArray := if k = 4 then [n] else if k = 7 then (if i = 1 then [n] else []) else if k = 10 then ns else []
/-- Whether a kid is one of several branches. -/
def isBr (k : Int) (i : Nat) : Bool := decide (0 < i) && (decide (k = 9) || decide (k = 11))
def sumU (k : Int) : Nat → List Int → Int
  | _, [] => 0
  | i, x :: xs => (if isBr k i = true then 0 else x) + sumU k (i + 1) xs
def maxU (k : Int) : Nat → List Int → Int
  | _, [] => 0
  | i, x :: xs => max (if isBr k i = true then x else 0) (maxU k (i + 1) xs)
def useOf (bs : List ByteArray) (s : ByteArray) (x : Int) : Int := if hasStr bs s = true then 0 else x
mutual
def Tm.uses (s : ByteArray) : Tm → Int
  | .mk k _ n _ ns ks => if k = 1 then (if n = s then 1 else 0) else sumU k 0 (Tm.ulist s k n ns 0 ks) + maxU k 0 (Tm.ulist s k n ns 0 ks)
def Tm.ulist (s : ByteArray) (k : Int) (n : ByteArray) (ns : List ByteArray) : Nat → List Tm → List Int
  | _, [] => []
  | i, t :: ts => useOf (boundOf k n ns i) s (Tm.uses s t) :: Tm.ulist s k n ns (i + 1) ts
end
theorem Tm.ulist_get (s : ByteArray) (k : Int) (n : ByteArray) (ns : List ByteArray) : ∀ (ts : List Tm) (i j : Nat) (t : Tm), ts[j]? = some t → (Tm.ulist s k n ns i ts)[j]? = some (useOf (boundOf k n ns (i + j)) s (Tm.uses s t))
  | [], i, j, t, h => by simp at h
  | u :: ts, i, 0, t, h => by simp at h; subst h; simp [Tm.ulist]
  | u :: ts, i, j + 1, t, h => by rw [Tm.ulist, List.getElem?_cons_succ, Tm.ulist_get s k n ns ts (i + 1) j t (by simpa using h), show i + 1 + j = i + (j + 1) by omega]
theorem Tm.ulist_length (s : ByteArray) (k : Int) (n : ByteArray) (ns : List ByteArray) : ∀ (ts : List Tm) (i : Nat), (Tm.ulist s k n ns i ts).length = ts.length
  | [], i => by simp [Tm.ulist]
  | u :: ts, i => by simp [Tm.ulist, Tm.ulist_length s k n ns ts (i + 1)]
theorem sumU_take (k : Int) : ∀ (xs : List Int) (i j : Nat) (x : Int), xs[j]? = some x → sumU k i (xs.take (j + 1)) = sumU k i (xs.take j) + (if isBr k (i + j) = true then 0 else x)
  | [], i, j, x, h => by simp at h
  | y :: xs, i, 0, x, h => by simp at h; subst h; simp [sumU]
  | y :: xs, i, j + 1, x, h => by
    have := sumU_take k xs (i + 1) j x (by simpa using h)
    rw [show i + 1 + j = i + (j + 1) by omega] at this
    simp only [List.take_succ_cons, sumU, this]; omega
theorem maxU_take (k : Int) : ∀ (xs : List Int) (i j : Nat) (x : Int), (∀ y ∈ xs, 0 ≤ y) → xs[j]? = some x → maxU k i (xs.take (j + 1)) = max (maxU k i (xs.take j)) (if isBr k (i + j) = true then x else 0)
  | [], i, j, x, _, h => by simp at h
  | y :: xs, i, 0, x, hp, h => by
    simp at h; subst h
    have := hp y (by simp)
    simp only [List.take_succ_cons, List.take_zero, maxU, Nat.add_zero]
    split <;> omega
  | y :: xs, i, j + 1, x, hp, h => by
    have := maxU_take k xs (i + 1) j x (fun z hz => hp z (by simp [hz])) (by simpa using h)
    rw [show i + 1 + j = i + (j + 1) by omega] at this
    simp only [List.take_succ_cons, maxU, this]; omega
theorem sm_le (k : Int) : ∀ (xs : List Int) (i j : Nat), (∀ y ∈ xs, 0 ≤ y) → 0 ≤ sumU k i (xs.take j) ∧ 0 ≤ maxU k i (xs.take j) ∧ sumU k i (xs.take j) + maxU k i (xs.take j) ≤ xs.sum
  | [], i, j, _ => by simp [sumU, maxU]
  | y :: xs, i, 0, hp => by
    have h := sm_le k xs (i + 1) 0 fun z hz => hp z (by simp [hz])
    have := hp y (by simp)
    simp [sumU, maxU] at *; omega
  | y :: xs, i, j + 1, hp => by
    have h := sm_le k xs (i + 1) j fun z hz => hp z (by simp [hz])
    have := hp y (by simp)
    simp only [List.take_succ_cons, sumU, maxU, List.sum_cons]
    split <;> omega
mutual
theorem Tm.uses_le (s : ByteArray) : ∀ t : Tm, 0 ≤ Tm.uses s t ∧ Tm.uses s t ≤ Tm.cnt t
  | .mk k u n t ns ks => by
    have h := Tm.ulist_le s k n ns 0 ks
    have h2 := sm_le k (Tm.ulist s k n ns 0 ks) 0 (Tm.ulist s k n ns 0 ks).length h.1
    rw [List.take_length] at h2
    rw [Tm.uses, Tm.cnt]
    split
    · split <;> omega
    · omega
theorem Tm.ulist_le (s : ByteArray) (k : Int) (n : ByteArray) (ns : List ByteArray) : ∀ (i : Nat) (ts : List Tm), (∀ y ∈ Tm.ulist s k n ns i ts, 0 ≤ y) ∧ (Tm.ulist s k n ns i ts).sum ≤ Tm.cnts ts
  | i, [] => by simp [Tm.ulist, Tm.cnts]
  | i, t :: ts => by
    have h := Tm.uses_le s t
    have h2 := Tm.ulist_le s k n ns (i + 1) ts
    rw [Tm.ulist, Tm.cnts, List.sum_cons]
    have h3 : 0 ≤ useOf (boundOf k n ns i) s (Tm.uses s t) ∧ useOf (boundOf k n ns i) s (Tm.uses s t) ≤ Tm.cnt t := by unfold useOf; split <;> omega
    refine ⟨fun y hy => ?_, by omega⟩
    rcases List.mem_cons.1 hy with rfl | hy
    · exact h3.1
    · exact h2.1 y hy
end
def usesN (t : Tm) (s : ByteArray) : Int := if Tm.ok t then Tm.uses s t else 0
theorem usesN_yes {t : Tm} (s : ByteArray) (h : Tm.ok t = true) : usesN t s = Tm.uses s t := if_pos h
theorem usesN_no {t : Tm} (s : ByteArray) (h : Tm.ok t = false) : usesN t s = 0 := by rw [usesN, h]; rfl
theorem Tm.uses_var (s : ByteArray) (u : Int) (n : ByteArray) (t : Ty) (ns : List ByteArray) (ks : List Tm) : Tm.uses s (.mk 1 u n t ns ks) = if n = s then 1 else 0 := by rw [Tm.uses]; rfl
theorem Tm.uses_mk (s : ByteArray) {k : Int} (hk : k ≠ 1) (u : Int) (n : ByteArray) (t : Ty) (ns : List ByteArray) (ks : List Tm) : Tm.uses s (.mk k u n t ns ks) = sumU k 0 (Tm.ulist s k n ns 0 ks) + maxU k 0 (Tm.ulist s k n ns 0 ks) := by rw [Tm.uses, if_neg hk]
end Go.Proofs.YtgpefnlpbjnjbaaGreat
