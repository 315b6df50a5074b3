/- Terms that differ in the names of bound variables alone: plain facts. No condition. -/
import Derived.Test.YtgpefnlpbjnjbaaUsesP
import Derived.Test.YtgpefnlpbjnjbaaTySame
namespace Go.Proofs.Ytgpefnlpbjnjbaa
open Go.RowKit

/-- Two variables. -/
def varsB (n1 n2 : ByteArray) (x y : List ByteArray) : Bool := decide (lastAt n1 x = lastAt n2 y) && (decide (0 ≤ lastAt n1 x) || decide (n1 = n2))
mutual
def Tm.alpha : Tm → Tm → List ByteArray → List ByteArray → Bool
  | .mk k1 u1 n1 t1 ns1 ks1, .mk k2 u2 n2 t2 ns2 ks2, x, y =>
    decide (k1 = k2) && (decide (u1 = u2) && (Ty.eqb t1 t2 && (decide (ns1.length = ns2.length) && (decide (ks1.length = ks2.length) &&
      (if k1 = 1 then varsB n1 n2 x y else if (k1 = 8 ∨ k1 = 10) ∧ n1 ≠ n2 then false else Tm.alphas k1 n1 ns1 k2 n2 ns2 0 ks1 ks2 x y)))))
def Tm.alphas (k1 : Int) (n1 : ByteArray) (ns1 : List ByteArray) (k2 : Int) (n2 : ByteArray) (ns2 : List ByteArray) : Nat → List Tm → List Tm → List ByteArray → List ByteArray → Bool
  | i, t :: ts, u :: us, x, y => Tm.alpha t u (x ++ boundOf k1 n1 ns1 i) (y ++ boundOf k2 n2 ns2 i) && Tm.alphas k1 n1 ns1 k2 n2 ns2 (i + 1) ts us x y
  | _, [], _, _, _ => true
  | _, _ :: _, [], _, _ => true
end
theorem Tm.alphas_no (k1 : Int) (n1 : ByteArray) (ns1 : List ByteArray) (k2 : Int) (n2 : ByteArray) (ns2 : List ByteArray) (x y : List ByteArray) : ∀ (ts us : List Tm) (i j : Nat) (t u : Tm), ts[j]? = some t → us[j]? = some u → Tm.alpha t u (x ++ boundOf k1 n1 ns1 (i + j)) (y ++ boundOf k2 n2 ns2 (i + j)) = false → Tm.alphas k1 n1 ns1 k2 n2 ns2 i ts us x y = false
  | [], _, i, j, t, u, h, _, _ => by simp at h
  | _ :: _, [], i, j, t, u, _, h, _ => by simp at h
  | t' :: ts, u' :: us, i, 0, t, u, h, h', e => by simp at h h'; subst h h'; rw [Tm.alphas]; rw [Nat.add_zero] at e; rw [e]; rfl
  | t' :: ts, u' :: us, i, j + 1, t, u, h, h', e => by
    rw [Tm.alphas, Tm.alphas_no k1 n1 ns1 k2 n2 ns2 x y ts us (i + 1) j t u (by simpa using h) (by simpa using h') (by rw [show i + 1 + j = i + (j + 1) by omega]; exact e), Bool.and_false]
theorem Tm.alphas_yes (k1 : Int) (n1 : ByteArray) (ns1 : List ByteArray) (k2 : Int) (n2 : ByteArray) (ns2 : List ByteArray) (x y : List ByteArray) : ∀ (ts us : List Tm) (i : Nat), (∀ (j : Nat) t u, ts[j]? = some t → us[j]? = some u → Tm.alpha t u (x ++ boundOf k1 n1 ns1 (i + j)) (y ++ boundOf k2 n2 ns2 (i + j)) = true) → Tm.alphas k1 n1 ns1 k2 n2 ns2 i ts us x y = true
  | [], _, _, _ => by rw [Tm.alphas]
  | _ :: _, [], _, _ => by rw [Tm.alphas]
  | t :: ts, u :: us, i, e => by
    have h0 := e 0 t u rfl rfl
    rw [Nat.add_zero] at h0
    rw [Tm.alphas, h0, Tm.alphas_yes k1 n1 ns1 k2 n2 ns2 x y ts us (i + 1) (fun j t u h1 h2 => by rw [show i + 1 + j = i + (j + 1) by omega]; exact e (j + 1) t u (by simpa using h1) (by simpa using h2)), Bool.and_true]
def alphaN (a b : Tm) : Bool := Tm.ok a && (Tm.ok b && Tm.alpha a b [] [])
theorem alphaN_a {a : Tm} (b : Tm) (h : Tm.ok a = false) : alphaN a b = false := by rw [alphaN, h]; rfl
theorem alphaN_b {a b : Tm} (h : Tm.ok a = true) (h2 : Tm.ok b = false) : alphaN a b = false := by rw [alphaN, h, h2]; rfl
theorem alphaN_y {a b : Tm} (h : Tm.ok a = true) (h2 : Tm.ok b = true) : alphaN a b = Tm.alpha a b [] [] := by rw [alphaN, h, h2]; rfl
theorem boundOf_len' (k : Int) (n : ByteArray) (ns : List ByteArray) (i : Nat) : (boundOf k n ns i).length ≤ 1 + ns.length := by
  unfold boundOf
  split
  · simp
  · split
    · split <;> simp
    · split
      · omega
      · simp
theorem varsB_y {n1 n2 : ByteArray} {x y : List ByteArray} {p q : Int} (h1 : lastAt n1 x = p) (h2 : lastAt n2 y = q) : varsB n1 n2 x y = (decide (p = q) && (decide (0 ≤ p) || decide (n1 = n2))) := by rw [varsB, h1, h2]
end Go.Proofs.Ytgpefnlpbjnjbaa
