/- Types without their bangs: plain facts. No condition. -/
import Derived.Test.YtgpefnlpbjnjbaaTyPlain
namespace Go.Proofs.Ytgpefnlpbjnjbaa
open Go.RowKit

mutual
def Ty.erase : Ty → Ty
  | .mk k n ks => if k = 4 then (Ty.erases ks).headD (.mk k n []) else .mk k n (Ty.erases ks)
def Ty.erases : List Ty → List Ty
  | [] => []
  | t :: ts => Ty.erase t :: Ty.erases ts
end
theorem Ty.erases_length : ∀ ts : List Ty, (Ty.erases ts).length = ts.length
  | [] => rfl
  | t :: ts => by rw [Ty.erases, List.length_cons, List.length_cons, Ty.erases_length ts]
theorem Ty.erases_snoc : ∀ (ts : List Ty) (j : Nat) (t : Ty), ts[j]? = some t → Ty.ds (Ty.erases (ts.take (j + 1))) = Ty.ds (Ty.erases (ts.take j)) ++ [Ty.d (Ty.erase t)]
  | [], j, t, h => by simp at h
  | u :: ts, 0, t, h => by simp at h; subst h; simp [Ty.erases, Ty.ds]
  | u :: ts, j + 1, t, h => by
    have := Ty.erases_snoc ts j t (by simpa using h)
    rw [List.take_succ_cons, List.take_succ_cons, Ty.erases, Ty.erases, Ty.ds, Ty.ds, this, List.cons_append]
theorem Ty.erase_bang (n : ByteArray) (x : Ty) : Ty.erase (.mk 4 n [x]) = Ty.erase x := by rw [Ty.erase, if_pos rfl, Ty.erases]; rfl
theorem Ty.erase_mk {k : Int} (h : k ≠ 4) (n : ByteArray) (ks : List Ty) : Ty.erase (.mk k n ks) = .mk k n (Ty.erases ks) := by rw [Ty.erase, if_neg h]
mutual
theorem Ty.erase_bulk : ∀ t : Ty, Ty.bulk (Ty.erase t) ≤ Ty.bulk t
  | .mk k n ks => by
    have h := Ty.erases_bulk ks
    rw [Ty.erase]
    split
    · cases he : Ty.erases ks with
      | nil => simp [Ty.bulk, Ty.bulks]
      | cons x xs => rw [he] at h; simp only [List.headD_cons, Ty.bulk, Ty.bulks] at h ⊢; omega
    · simp only [Ty.bulk]; omega
theorem Ty.erases_bulk : ∀ ts : List Ty, Ty.bulks (Ty.erases ts) ≤ Ty.bulks ts
  | [] => by simp [Ty.erases]
  | t :: ts => by have h1 := Ty.erase_bulk t; have h2 := Ty.erases_bulk ts; simp only [Ty.erases, Ty.bulks]; omega
end
def noTy : Ty := .mk 0 ⟨#[]⟩ []
def eraseN (t : Ty) : Ty := if Ty.ok t then Ty.erase t else noTy
theorem eraseN_yes {t : Ty} (h : Ty.ok t = true) : eraseN t = Ty.erase t := if_pos h
theorem eraseN_no {t : Ty} (h : Ty.ok t = false) : eraseN t = noTy := by rw [eraseN, h]; rfl
theorem eraseN_bulk (t : Ty) : Ty.bulk (eraseN t) ≤ Ty.bulk t := by
  unfold eraseN
  split
  · exact Ty.erase_bulk t
  · have : Ty.bulk noTy = 0 := by rw [noTy, Ty.bulk, Ty.bulks]; rfl
    omega
mutual
def Ty.strip : Ty → Nat × Ty
  | .mk k n ks => if k = 4 then (match Ty.strips ks with | [] => (0, .mk k n []) | x :: _ => (x.1 + 1, x.2)) else (0, .mk k n ks)
def Ty.strips : List Ty → List (Nat × Ty)
  | [] => []
  | t :: ts => Ty.strip t :: Ty.strips ts
end
theorem Ty.strip_bang (n : ByteArray) (x : Ty) : Ty.strip (.mk 4 n [x]) = ((Ty.strip x).1 + 1, (Ty.strip x).2) := by rw [Ty.strip, if_pos rfl, Ty.strips]
theorem Ty.strip_mk {k : Int} (h : k ≠ 4) (n : ByteArray) (ks : List Ty) : Ty.strip (.mk k n ks) = (0, .mk k n ks) := by rw [Ty.strip, if_neg h]
theorem Ty.good_bang {n : ByteArray} {ks : List Ty} (h : Ty.good (.mk 4 n ks) = true) : ∃ x, ks = [x] ∧ Ty.good x = true := by
  simp only [Ty.good, Bool.and_eq_true, okNode] at h
  have hl : ks.length = 1 := by have := h.2; simp at this; exact this.2
  match ks, hl with
  | [x], _ => exact ⟨x, rfl, by have := h.1; simpa [Ty.goods] using this⟩
theorem Ty.good_kids {k : Int} {n : ByteArray} {ks : List Ty} (h : Ty.good (.mk k n ks) = true) : Ty.goods ks = true := by
  simp only [Ty.good, Bool.and_eq_true] at h; exact h.1
end Go.Proofs.Ytgpefnlpbjnjbaa
