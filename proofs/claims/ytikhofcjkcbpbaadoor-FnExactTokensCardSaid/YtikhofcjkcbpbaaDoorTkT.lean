/- Tokens: the list of tokens; plain facts, rows of tokens. No condition. -/
import Derived.Test.YtikhofcjkcbpbaaDoorTkI
import Derived.Test.YtikhofcjkcbpbaaDoorDTk
import Derived.Test.YtikhofcjkcbpbaaDoorStL
import Derived.Deep.AppendLies
namespace Go.Proofs.YtikhofcjkcbpbaaDoor
open Go.ChangeShapes Go.WideShapes Go.ChangeAt Go.RowKit
set_option linter.unusedVariables false

theorem tkAt_bound {t : ByteArray} {i : Nat} (hi : i < t.size) (h : (tkAt t i).1 ≠ 0) : i < (tkAt t i).2 ∧ (tkAt t i).2 ≤ t.size := by
  unfold tkAt at h ⊢
  split at h
  · rename_i hw
    rw [if_pos hw]
    split at h
    · exact absurd rfl h
    · rename_i hk
      rw [if_neg hk]
      exact ⟨wEnd_lt hi hw, (wEnd_bound (Nat.le_of_lt hi)).2⟩
  · rename_i hw
    rw [if_neg hw]
    split at h
    · rename_i hp
      rw [if_pos hp]
      show i < i + 2 ∧ i + 2 ≤ t.size
      omega
    · rename_i hp
      rw [if_neg hp]
      split at h
      · rename_i hs
        rw [if_pos hs]
        show i < i + 1 ∧ i + 1 ≤ t.size
        omega
      · exact absurd rfl h
theorem tkKind_in (s : ByteArray) : 0 ≤ tkKind s ∧ tkKind s ≤ 5 := by
  unfold tkKind
  repeat' split
  all_goals omega
theorem tkAt_in (t : ByteArray) (i : Nat) : 0 ≤ (tkAt t i).1 ∧ (tkAt t i).1 ≤ 5 := by
  have h := tkKind_in (t.extract i (wEnd t i))
  unfold tkAt
  repeat' split
  all_goals first | exact h | exact ⟨by simp, by simp⟩
/-- The tokens from an offset on, behind some; or the offset of what is none. -/
def tkRun (t : ByteArray) : Nat → Nat → List Tk → List Tk × Option Nat
  | 0, _, acc => (acc, none)
  | f + 1, i, acc => if i < t.size then (if inL blkL (byteAt t i) = true then tkRun t f (i + 1) acc else if (tkAt t i).1 = 0 then (acc, some i) else tkRun t f (tkAt t i).2 (acc ++ [Tk.mk (tkAt t i).1 (t.extract i (tkAt t i).2) i])) else (acc, none)
/-- What the run still gives, with steps enough. -/
def tkRest (t : ByteArray) (i : Nat) (acc : List Tk) (R : List Tk × Option Nat) : Prop := ∃ f, t.size - i ≤ f ∧ tkRun t f i acc = R
theorem tkRest_end {t : ByteArray} {i : Nat} {acc : List Tk} {R : List Tk × Option Nat} (h : tkRest t i acc R) (hi : ¬ i < t.size) : R = (acc, none) := by
  obtain ⟨f, -, h⟩ := h
  rw [← h]
  cases f with
  | zero => rfl
  | succ f => unfold tkRun; rw [if_neg hi]
theorem tkRest_blank {t : ByteArray} {i : Nat} {acc : List Tk} {R : List Tk × Option Nat} (h : tkRest t i acc R) (hi : i < t.size) (hb : inL blkL (byteAt t i) = true) : tkRest t (i + 1) acc R := by
  obtain ⟨f, hf, h⟩ := h
  cases f with
  | zero => omega
  | succ f => unfold tkRun at h; rw [if_pos hi, if_pos hb] at h; exact ⟨f, by omega, h⟩
theorem tkRest_bad {t : ByteArray} {i : Nat} {acc : List Tk} {R : List Tk × Option Nat} (h : tkRest t i acc R) (hi : i < t.size) (hb : inL blkL (byteAt t i) = false) (hk : (tkAt t i).1 = 0) : R = (acc, some i) := by
  obtain ⟨f, hf, h⟩ := h
  cases f with
  | zero => omega
  | succ f => unfold tkRun at h; rw [if_pos hi, if_neg (by rw [hb]; decide), if_pos hk] at h; exact h.symm
theorem tkRest_more {t : ByteArray} {i : Nat} {acc : List Tk} {R : List Tk × Option Nat} (h : tkRest t i acc R) (hi : i < t.size) (hb : inL blkL (byteAt t i) = false) (hk : (tkAt t i).1 ≠ 0) : tkRest t (tkAt t i).2 (acc ++ [Tk.mk (tkAt t i).1 (t.extract i (tkAt t i).2) i]) R := by
  have hbd := tkAt_bound hi hk
  obtain ⟨f, hf, h⟩ := h
  cases f with
  | zero => omega
  | succ f => unfold tkRun at h; rw [if_pos hi, if_neg (by rw [hb]; decide), if_neg hk] at h; exact ⟨f, by omega, h⟩
/-- Tokens' answer. -/
def tkRes (t : ByteArray) : List Tk × Int × Int := if 20000 < t.size then ([], 0, 2) else match tkRun t t.size 0 [] with
  | (l, none) => (l, 0, 0)
  | (_, some i) => ([], (i : Int), 6)
theorem tkRes_long {t : ByteArray} (h : 20000 < t.size) : tkRes t = ([], 0, 2) := if_pos h
theorem tkRes_ok {t : ByteArray} {l : List Tk} (h : ¬ 20000 < t.size) (hr : tkRun t t.size 0 [] = (l, none)) : tkRes t = (l, 0, 0) := by unfold tkRes; rw [if_neg h, hr]
theorem tkRes_bad {t : ByteArray} {l : List Tk} {i : Nat} (h : ¬ 20000 < t.size) (hr : tkRun t t.size 0 [] = (l, some i)) : tkRes t = ([], (i : Int), 6) := by unfold tkRes; rw [if_neg h, hr]
/-- Rows of tokens. -/
def tkCells (L : List Tk) : List Value := L.flatMap fun | .mk k n a => [.int .i64 k, .string n, .int .i64 a]
abbrev OwnTk (w : World) (B : Nat) (v : Value) (L : List Tk) : Prop := w.ownsRow B 68 3 v L.length (tkCells L)
theorem infoTk : (Tryd.prog.info? 68).map (fun i => (i.zero, i.size, i.bytes)) = some (some (.agg #[.int .i64 0, .string ⟨#[]⟩, .int .i64 0]), 3, 32) := by kernel_rfl
theorem wpList_append_tk {w : World} {ops : Array Oper} {rest : List Oper} {o : Oper} {a : Act} {Q : Exit → Act → World → Prop} (hgd : o.guard = none) (s x : Operand)
    (ho : o.op = .call { callee := .builtin .append, args := #[s, x], argTypes := #[39, 39] })
    (base : Nat) (v : Value) (zs : List Tk) (k : Int) (n : ByteArray) (p : Int) (ad : Addr) (hs : a.eval s = v) (hx : a.eval x = .slice (some ad) 1 1) (hown : OwnTk w base v zs) (hc : ∀ j u, [Value.int .i64 k, .string n, .int .i64 p][j]? = some u → w.cell? (ad.add j) = some u)
    (h63 : zs.length + 1 ≤ 4194304) (hbase : base ≤ w.heap.size)
    (hK : ∀ v' w', OwnTk w' base v' (zs ++ [Tk.mk k n p]) → w.grownBy w' v.ownBlock → wpList Tryd.prog ops Q rest (a.put o.dst v') w') : wpList Tryd.prog ops Q (o :: rest) a w := by
  obtain ⟨i0, hi, hz0, hz1, hz2⟩ := info_partsS infoTk
  refine wpList_append_own w hgd s x _ ho base 68 i0 _ 3 32 Tryd.underlying39 hi hz0 hz1 hz2 rfl (by decide) v _ _ hs hown ad 1 1 [.int .i64 k, .string n, .int .i64 p] hx rfl hc (fun u hu => by simp at hu; rcases hu with rfl | rfl | rfl <;> rfl) (by simp only [maxLen]; omega) (by omega) hbase (fun v' w' h5 h6 _ => hK v' w' (by simpa [OwnTk, tkCells] using h5) h6)
theorem OwnTk.next {B : Nat} {w0 w w' : World} {v : Value} {xs : List Tk} (hb : Below B w0 w) (hB : B ≤ w.heap.size) (ho : OwnTk w B v xs) (hg : w.grownBy w' v.ownBlock) : Below B w0 w' := hb.grown hg hB fun k hk => (ho.lt k hk).1
def tkFine : Tk → Prop
  | .mk k n a => (0 ≤ k ∧ k ≤ 5) ∧ n.size ≤ 1048576 ∧ 0 ≤ a ∧ a ≤ 1048576
end Go.Proofs.YtikhofcjkcbpbaaDoor
