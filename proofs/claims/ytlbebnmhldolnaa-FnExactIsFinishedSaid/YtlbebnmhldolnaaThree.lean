/- Walks of OperatorOf, CodeName, IsKeyword, of the program and of the reference. -/
import Derived.Test.YtlbebnmhldolnaaFrame
namespace Go.Proofs.Ytlbebnmhldolnaa
open Go.ChangeShapes Go.WideShapes Go.ChangeAt Go.RowKit

/-- A row of strings lies at a place. -/
def StrsAt (w : World) (b o : Nat) (ss : List ByteArray) : Prop := ∀ i t, ss[i]? = some t → w.cell? ⟨b, o + i, none⟩ = some (.string t)

theorem StrsAt.below {B : Nat} {w w' : World} {b o : Nat} {ss : List ByteArray} (h : StrsAt w b o ss) (hb : Below B w w') (hB : b < B) : StrsAt w' b o ss :=
  fun i t hi => (hb.cell (p := ⟨b, o + i, none⟩) hB).trans (h i t hi)

/-- The place of a string in a list, from a place on. -/
def idxFrom (s : ByteArray) : Nat → List ByteArray → Int
  | _, [] => -1
  | k, t :: ts => if t = s then k else idxFrom s (k + 1) ts
theorem idxFrom_none (s : ByteArray) : ∀ (k : Nat) (l : List ByteArray), (∀ (j : Nat) t, l[j]? = some t → t ≠ s) → idxFrom s k l = -1
  | _, [], _ => rfl
  | k, t :: ts, h => by rw [idxFrom, if_neg (h 0 t rfl), idxFrom_none s (k + 1) ts (fun j u hu => h (j + 1) u (by simpa using hu))]
theorem idxFrom_at (s : ByteArray) : ∀ (k i : Nat) (l : List ByteArray), (∀ j t, j < i → l[j]? = some t → t ≠ s) → l[i]? = some s → idxFrom s k l = (k + i : Nat)
  | _, _, [], _, h => by simp at h
  | k, 0, t :: ts, _, h => by simp at h; simp [idxFrom, h]
  | k, i + 1, t :: ts, hj, h => by
    rw [idxFrom, if_neg (hj 0 t (by omega) rfl), idxFrom_at s (k + 1) i ts (fun j u hj' hu => hj (j + 1) u (by omega) (by simpa using hu)) (by simpa using h)]
    congr 1; omega
theorem idxFrom_ge (s : ByteArray) : ∀ (k : Nat) (l : List ByteArray), (0 ≤ idxFrom s k l) ↔ s ∈ l
  | _, [] => by simp [idxFrom]
  | k, t :: ts => by
    rw [idxFrom]
    by_cases h : t = s
    · rw [if_pos h]; simp [h]
    · rw [if_neg h, idxFrom_ge s (k + 1) ts]
      constructor
      · intro m; exact List.mem_cons_of_mem _ m
      · intro m; rcases List.mem_cons.1 m with e | m
        · exact absurd e.symm h
        · exact m

/-- Is a string among these? -/
def hasStr (ss : List ByteArray) (s : ByteArray) : Bool := decide (0 ≤ idxFrom s 0 ss)
theorem hasStr_yes {ss : List ByteArray} {s : ByteArray} {k : Nat} (h : ss[k]? = some s) : hasStr ss s = true := by
  simp only [hasStr, decide_eq_true_eq]
  exact (idxFrom_ge s 0 ss).2 (List.mem_of_getElem? h)
theorem hasStr_no {ss : List ByteArray} {s : ByteArray} (h : ∀ (j : Nat) t, ss[j]? = some t → t ≠ s) : hasStr ss s = false := by
  simp [hasStr, idxFrom_none s 0 ss h]

theorem bytes_yes {s t : ByteArray} (h : (s.toList == t.toList) = true) : s = t := by
  rw [ByteArray.toList_eq, ByteArray.toList_eq] at h
  have := eq_of_beq h
  cases s; cases t
  simp_all
theorem bytes_no {s t : ByteArray} (h : (s.toList == t.toList) = false) : s ≠ t := by
  intro e
  subst e
  simp at h
theorem bytes_eq {s t : ByteArray} (h : s = t) : (s.toList == t.toList) = true := by subst h; simp
theorem bytes_ne {s t : ByteArray} (h : s ≠ t) : (s.toList == t.toList) = false := by
  cases hx : (s.toList == t.toList) with
  | false => rfl
  | true => exact absurd (bytes_yes hx) h

def kws : List ByteArray := [⟨#[100, 97, 116, 97]⟩, ⟨#[100, 101, 102]⟩, ⟨#[108, 101, 116]⟩, ⟨#[105, 110]⟩, ⟨#[109, 97, 116, 99, 104]⟩, ⟨#[105, 102]⟩, ⟨#[116, 104, 101, 110]⟩, ⟨#[101, 108, 115, 101]⟩]
def isKw (s : ByteArray) : Bool := hasStr kws s

end Go.Proofs.Ytlbebnmhldolnaa
