/- The free names of a term: plain facts. No condition. -/
import Derived.Test.YtdcifcfkjhpokaaUsesP
namespace Go.Proofs.Ytdcifcfkjhpokaa
open Go.RowKit

mutual
def Tm.free : Tm → List ByteArray → List ByteArray → List ByteArray
  | .mk k _ n _ ns ks, sc, out => if k = 1 then (if hasStr sc n = true then out else if hasStr out n = true then out else out ++ [n]) else Tm.frees k n ns 0 ks sc out
def Tm.frees (k : Int) (n : ByteArray) (ns : List ByteArray) : Nat → List Tm → List ByteArray → List ByteArray → List ByteArray
  | _, [], _, out => out
  | i, t :: ts, sc, out => Tm.frees k n ns (i + 1) ts sc (Tm.free t (sc ++ boundOf k n ns i) out)
end
theorem Tm.frees_take (k : Int) (n : ByteArray) (ns : List ByteArray) : ∀ (ts : List Tm) (i j : Nat) (t : Tm) (sc out : List ByteArray), ts[j]? = some t → Tm.frees k n ns i (ts.take (j + 1)) sc out = Tm.free t (sc ++ boundOf k n ns (i + j)) (Tm.frees k n ns i (ts.take j) sc out)
  | [], i, j, t, sc, out, h => by simp at h
  | u :: ts, i, 0, t, sc, out, h => by simp at h; subst h; simp [Tm.frees]
  | u :: ts, i, j + 1, t, sc, out, h => by
    have := Tm.frees_take k n ns ts (i + 1) j t sc (Tm.free u (sc ++ boundOf k n ns i) out) (by simpa using h)
    rw [show i + 1 + j = i + (j + 1) by omega] at this
    rw [List.take_succ_cons, List.take_succ_cons, Tm.frees, Tm.frees, this]
mutual
theorem Tm.free_len : ∀ (t : Tm) (sc out : List ByteArray), (Tm.free t sc out).length ≤ out.length + 1 + Tm.bulk t
  | .mk k u n t ns ks, sc, out => by
    have h := Tm.frees_len k n ns 0 ks sc out
    rw [Tm.free]
    split
    · split
      · omega
      · split
        · omega
        · simp only [List.length_append, List.length_cons, List.length_nil]; omega
    · simp only [Tm.bulk]; omega
theorem Tm.frees_len (k : Int) (n : ByteArray) (ns : List ByteArray) : ∀ (i : Nat) (ts : List Tm) (sc out : List ByteArray), (Tm.frees k n ns i ts sc out).length ≤ out.length + Tm.bulks ts
  | i, [], sc, out => by simp [Tm.frees]
  | i, t :: ts, sc, out => by
    have h := Tm.free_len t (sc ++ boundOf k n ns i) out
    have h2 := Tm.frees_len k n ns (i + 1) ts sc (Tm.free t (sc ++ boundOf k n ns i) out)
    rw [Tm.frees, Tm.bulks]; omega
end
mutual
theorem Tm.free_in : ∀ (t : Tm) (sc out : List ByteArray), ∀ x ∈ Tm.free t sc out, x ∈ out ∨ x.size ≤ Tm.bulk t
  | .mk k u n t ns ks, sc, out, x, hx => by
    rw [Tm.free] at hx
    split at hx
    · split at hx
      · exact .inl hx
      · split at hx
        · exact .inl hx
        · rcases List.mem_append.1 hx with hx | hx
          · exact .inl hx
          · simp only [List.mem_cons, List.not_mem_nil, or_false] at hx
            subst hx
            exact .inr (by simp only [Tm.bulk]; omega)
    · rcases Tm.frees_in k n ns 0 ks sc out x hx with h | h
      · exact .inl h
      · exact .inr (by simp only [Tm.bulk]; omega)
theorem Tm.frees_in (k : Int) (n : ByteArray) (ns : List ByteArray) : ∀ (i : Nat) (ts : List Tm) (sc out : List ByteArray), ∀ x ∈ Tm.frees k n ns i ts sc out, x ∈ out ∨ x.size ≤ Tm.bulks ts
  | i, [], sc, out, x, hx => by rw [Tm.frees] at hx; exact .inl hx
  | i, t :: ts, sc, out, x, hx => by
    rw [Tm.frees] at hx
    rcases Tm.frees_in k n ns (i + 1) ts sc _ x hx with h | h
    · rcases Tm.free_in t _ out x h with h | h
      · exact .inl h
      · exact .inr (by rw [Tm.bulks]; omega)
    · exact .inr (by rw [Tm.bulks]; omega)
end
def freeN (t : Tm) : List ByteArray := if Tm.ok t then Tm.free t [] [] else []
theorem freeN_yes {t : Tm} (h : Tm.ok t = true) : freeN t = Tm.free t [] [] := if_pos h
theorem freeN_no {t : Tm} (h : Tm.ok t = false) : freeN t = [] := by rw [freeN, h]; rfl
theorem free_sz (t : Tm) (hM : Tm.bulk t ≤ 1048576) : ∀ x ∈ Tm.free t [] [], x.size ≤ 9223372036854775807 := by
  intro x hx
  rcases Tm.free_in t [] [] x hx with h | h
  · simp at h
  · omega
theorem freeN_len (t : Tm) : (freeN t).length ≤ 1 + Tm.bulk t := by
  unfold freeN
  split
  · have := Tm.free_len t [] []; simp at this; omega
  · simp
theorem boundOf_len (k : Int) (n : ByteArray) (ns : List ByteArray) (i : Nat) : (boundOf k n ns i).length ≤ 1 + ns.length := by
  unfold boundOf
  split
  · simp
  · split
    · split <;> simp
    · split
      · omega
      · simp
theorem Tm.free_has {u : Int} {n : ByteArray} {t : Ty} {ns : List ByteArray} {ks : List Tm} {sc out : List ByteArray} (h : hasStr sc n = true) : Tm.free (.mk 1 u n t ns ks) sc out = out := by rw [Tm.free, if_pos rfl, if_pos h]
theorem Tm.free_out {u : Int} {n : ByteArray} {t : Ty} {ns : List ByteArray} {ks : List Tm} {sc out : List ByteArray} (h : hasStr sc n = false) (h2 : hasStr out n = true) : Tm.free (.mk 1 u n t ns ks) sc out = out := by rw [Tm.free, if_pos rfl, h, if_neg (by simp), if_pos h2]
theorem Tm.free_new {u : Int} {n : ByteArray} {t : Ty} {ns : List ByteArray} {ks : List Tm} {sc out : List ByteArray} (h : hasStr sc n = false) (h2 : hasStr out n = false) : Tm.free (.mk 1 u n t ns ks) sc out = out ++ [n] := by rw [Tm.free, if_pos rfl, h, if_neg (by simp), h2, if_neg (by simp)]
theorem Tm.free_mk {k : Int} (hk : k ≠ 1) (u : Int) (n : ByteArray) (t : Ty) (ns : List ByteArray) (ks : List Tm) (sc out : List ByteArray) : Tm.free (.mk k u n t ns ks) sc out = Tm.frees k n ns 0 ks sc out := by rw [Tm.free, if_neg hk]
end Go.Proofs.Ytdcifcfkjhpokaa
