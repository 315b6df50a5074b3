/- Tokens: words, symbols, blanks; plain facts. No condition. -/
import Derived.Test.YtikhofcjkcbpbaaDoorTkP
import Derived.Lib.Bytealg
namespace Go.Proofs.YtikhofcjkcbpbaaDoor
open Go.RowKit

/-- A byte (a number) is one of some bytes. -/
def inL (l : List UInt8) (c : Int) : Bool := (l.map fun b => (b.toNat : Int)).contains c
def symL : List UInt8 := [43, 45, 42, 47, 60, 61, 40, 41, 91, 93, 123, 125, 44, 59, 58, 46, 124, 33, 92]
def blkL : List UInt8 := [32, 10, 9]
theorem inL_cons (b : UInt8) (l : List UInt8) (c : Int) : inL (b :: l) c = (decide (c = (b.toNat : Int)) || inL l c) := by
  unfold inL
  rw [List.map_cons, List.contains_cons]
  by_cases h : c = (b.toNat : Int)
  · simp [h]
  · simp [h]
theorem idx_inL : ∀ (l : List UInt8) (x : UInt8), decide (0 ≤ Lib.indexByte l x) = inL l (x.toNat : Int)
  | [], x => by simp [Lib.indexByte, inL]
  | b :: l, x => by
    rw [inL_cons, ← idx_inL l x, show Lib.indexByte (b :: l) x = if b == x then 0 else if Lib.indexByte l x == -1 then -1 else Lib.indexByte l x + 1 from rfl]
    have h4 := Lib.indexByte_ge l x
    generalize Lib.indexByte l x = n at h4
    by_cases h : b = x
    · subst h; simp
    · have h1 : (b == x) = false := by simpa using h
      have h2 : ¬ ((x.toNat : Int) = (b.toNat : Int)) := fun e => h (UInt8.toNat_inj.1 (by omega))
      rw [h1, decide_eq_false h2, Bool.false_or]
      simp only [Bool.false_eq_true, if_false]
      by_cases h3 : n = -1
      · subst h3; decide
      · have h5 : (n == -1) = false := by simpa using h3
        rw [h5]
        simp only [Bool.false_eq_true, if_false, decide_eq_decide]
        omega
theorem toU8 (x : UInt8) : ((x.toNat : Int)).toNat.toUInt8 = x := by simp
/-- Where the word that begins at i ends. -/
def wGo (t : ByteArray) : Nat → Nat → Nat
  | 0, i => i
  | f + 1, i => if i < t.size ∧ wordB (byteAt t i) = true then wGo t f (i + 1) else i
def wEnd (t : ByteArray) (i : Nat) : Nat := wGo t (t.size - i) i
theorem wGo_is (t : ByteArray) (k : Nat) (hk : k ≤ t.size) (hs : k = t.size ∨ wordB (byteAt t k) = false) : ∀ (f i : Nat), i ≤ k → k - i ≤ f → (∀ j, i ≤ j → j < k → wordB (byteAt t j) = true) → wGo t f i = k
  | 0, i, h1, h2, _ => by unfold wGo; omega
  | f + 1, i, h1, h2, h3 => by
    unfold wGo
    by_cases h : i = k
    · subst h
      rw [if_neg]
      rintro ⟨ha, hb⟩
      rcases hs with hs | hs
      · omega
      · rw [hs] at hb; cases hb
    · rw [if_pos ⟨by omega, h3 i (Nat.le_refl _) (by omega)⟩]
      exact wGo_is t k hk hs f (i + 1) (by omega) (by omega) fun j a b => h3 j (by omega) b
theorem wEnd_is {t : ByteArray} {i k : Nat} (hi : i ≤ k) (hk : k ≤ t.size) (hw : ∀ j, i ≤ j → j < k → wordB (byteAt t j) = true) (hs : k = t.size ∨ wordB (byteAt t k) = false) : wEnd t i = k :=
  wGo_is t k hk hs _ i hi (by omega) hw
theorem wGo_bound (t : ByteArray) : ∀ (f i : Nat), i ≤ t.size → i ≤ wGo t f i ∧ wGo t f i ≤ t.size
  | 0, i, h => by unfold wGo; omega
  | f + 1, i, h => by
    unfold wGo
    split
    · rename_i hc
      have := wGo_bound t f (i + 1) (by omega)
      omega
    · omega
theorem wEnd_bound {t : ByteArray} {i : Nat} (h : i ≤ t.size) : i ≤ wEnd t i ∧ wEnd t i ≤ t.size := wGo_bound t _ i h
theorem wEnd_lt {t : ByteArray} {i : Nat} (h : i < t.size) (hw : wordB (byteAt t i) = true) : i < wEnd t i := by
  unfold wEnd
  obtain ⟨f, hf⟩ : ∃ f, t.size - i = f + 1 := ⟨t.size - i - 1, by omega⟩
  rw [hf]
  unfold wGo
  rw [if_pos ⟨h, hw⟩]
  have := (wGo_bound t f (i + 1) (by omega)).1
  omega
theorem wEnd_no {t : ByteArray} {i : Nat} (hw : wordB (byteAt t i) = false) : wEnd t i = i := by
  unfold wEnd
  cases t.size - i with
  | zero => rfl
  | succ f =>
    unfold wGo
    rw [if_neg]
    rintro ⟨-, h⟩
    rw [hw] at h; cases h
/-- The kind of a word. -/
def tkKind (s : ByteArray) : Int := if isKw s = true then 3 else if isLowerB s = true then 1 else if isUpperB s = true then 2 else if numB s = true then 4 else 0
/-- The kind of the token at an offset, and where it ends. -/
def tkAt (t : ByteArray) (i : Nat) : Int × Nat :=
  if wordB (byteAt t i) = true then (if tkKind (t.extract i (wEnd t i)) = 0 then (0, i) else (tkKind (t.extract i (wEnd t i)), wEnd t i))
  else if byteAt t i = 45 ∧ i + 1 < t.size ∧ byteAt t (i + 1) = 62 then (5, i + 2)
  else if inL symL (byteAt t i) = true then (5, i + 1) else (0, i)
theorem name_num {s : ByteArray} (h : isNameB s = true) : numB s = false := by
  have h1 := isName_head h
  have h2 := isName_size h
  cases hn : numB s with
  | false => rfl
  | true =>
    obtain ⟨-, -, h3, -⟩ := numB_parts hn
    obtain ⟨c, r, e⟩ : ∃ c r, s.data.toList = c :: r := by
      cases hd : s.data.toList with
      | nil =>
        have : s.data.toList.length = s.size := rfl
        rw [hd] at this; simp at this; omega
      | cons a b => exact ⟨a, b, rfl⟩
    rw [e] at h3
    simp only [List.all_cons, Bool.and_eq_true] at h3
    have := isDig_iff h3.1
    rw [byteAt_head e] at h1
    simp only [letB, smallB, capB, Bool.or_eq_true, decide_eq_true_eq] at h1
    omega
end Go.Proofs.YtikhofcjkcbpbaaDoor
