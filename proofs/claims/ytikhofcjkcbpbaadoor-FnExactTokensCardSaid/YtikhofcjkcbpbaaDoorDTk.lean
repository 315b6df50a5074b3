/- Data: Token. No condition. -/
import Derived.Test.YtikhofcjkcbpbaaDoorSc
namespace Go.Proofs.YtikhofcjkcbpbaaDoor
open Go.RowKit

inductive Tk where
  | mk (k : Int) (n : ByteArray) (a : Int)
def Tk.d : Tk → D
  | .mk k n a => .struct [.int k, .str n, .int a]
def Tk.ds : List Tk → List D
  | [] => []
  | t :: ts => Tk.d t :: Tk.ds ts

/-- Nodes and letters. -/
def Tk.bulk : Tk → Nat
  | .mk _ n _ => n.size
def Tk.bulks : List Tk → Nat
  | [] => 0
  | t :: ts => 1 + Tk.bulk t + Tk.bulks ts

theorem Tk.d_len (t : Tk) : (Tk.d t).len = 3 := by cases t; simp [Tk.d, D.len, D.lens]
theorem Tk.ds_length : ∀ ts : List Tk, (Tk.ds ts).length = ts.length
  | [] => rfl
  | t :: ts => by simp [Tk.ds, Tk.ds_length ts]
theorem Tk.ds_get : ∀ (ts : List Tk) (i : Nat), (Tk.ds ts)[i]? = (ts[i]?).map Tk.d
  | [], i => by simp [Tk.ds]
  | t :: ts, 0 => by simp [Tk.ds]
  | t :: ts, i + 1 => by simp [Tk.ds, Tk.ds_get ts i]
theorem Tk.ds_snoc : ∀ (ts : List Tk) (i : Nat) (t : Tk), ts[i]? = some t → Tk.ds (ts.take (i + 1)) = Tk.ds (ts.take i) ++ [Tk.d t]
  | [], i, t, h => by simp at h
  | u :: ts, 0, t, h => by simp at h; subst h; simp [Tk.ds]
  | u :: ts, i + 1, t, h => by have := Tk.ds_snoc ts i t (by simpa using h); simp [Tk.ds, this]
theorem Tk.ds_append : ∀ (ts us : List Tk), Tk.ds (ts ++ us) = Tk.ds ts ++ Tk.ds us
  | [], us => rfl
  | t :: ts, us => by simp [Tk.ds, Tk.ds_append ts us]
theorem Tk.ds_len : ∀ (ts : List Tk), ∀ d ∈ Tk.ds ts, d.len = 3
  | [], d, h => by simp [Tk.ds] at h
  | t :: ts, d, h => by
    simp only [Tk.ds, List.mem_cons] at h
    rcases h with rfl | h
    · exact Tk.d_len t
    · exact Tk.ds_len ts d h
theorem Tk.bulks_length : ∀ ts : List Tk, ts.length ≤ Tk.bulks ts
  | [] => by simp
  | t :: ts => by have := Tk.bulks_length ts; simp [Tk.bulks]; omega
theorem Tk.bulk_get : ∀ (ts : List Tk) (i : Nat) (t : Tk), ts[i]? = some t → Tk.bulk t < Tk.bulks ts
  | [], i, t, h => by simp at h
  | u :: ts, 0, t, h => by simp at h; subst h; simp [Tk.bulks]; omega
  | u :: ts, i + 1, t, h => by have := Tk.bulk_get ts i t (by simpa using h); simp [Tk.bulks]; omega
theorem Tk.bulks_take : ∀ (ts : List Tk) (i : Nat) (t : Tk), ts[i]? = some t → Tk.bulks (ts.take (i + 1)) = Tk.bulks (ts.take i) + 1 + Tk.bulk t
  | [], i, t, h => by simp at h
  | u :: ts, 0, t, h => by simp at h; subst h; simp [Tk.bulks]
  | u :: ts, i + 1, t, h => by have := Tk.bulks_take ts i t (by simpa using h); simp [Tk.bulks] at *; omega
theorem Tk.bulks_le : ∀ (ts : List Tk) (i : Nat), Tk.bulks (ts.take i) + (ts.length - i) ≤ Tk.bulks ts
  | [], i => by simp
  | u :: ts, 0 => by have := Tk.bulks_length ts; simp [Tk.bulks]; omega
  | u :: ts, i + 1 => by have := Tk.bulks_le ts i; simp [Tk.bulks]; omega
theorem Rd.Tk_inv {w : World} {k : Int} {n : ByteArray} {a : Int} {cs : List Value} {F : List Nat} (h : Rd w (Tk.d (Tk.mk k n a)) cs F) : cs = [.int .i64 k, .string n, .int .i64 a] ∧ ((-9223372036854775808 ≤ k ∧ k ≤ 9223372036854775807) ∧ n.size ≤ 9223372036854775807 ∧ (-9223372036854775808 ≤ a ∧ a ≤ 9223372036854775807)) := by
  obtain ⟨e1, r1, F1, G1, rfl, rfl, g1, k1⟩ := h.struct_inv.cons_inv
  obtain ⟨rfl, rfl, n1a, n1b⟩ := g1.int_inv
  obtain ⟨e2, r2, F2, G2, rfl, rfl, g2, k2⟩ := k1.cons_inv
  obtain ⟨rfl, rfl, n2⟩ := g2.str_inv
  obtain ⟨e3, r3, F3, G3, rfl, rfl, g3, k3⟩ := k2.cons_inv
  obtain ⟨rfl, rfl, n3a, n3b⟩ := g3.int_inv
  obtain ⟨rfl, rfl⟩ := k3.nil_inv
  refine ⟨by simp, ?_⟩
  exact ⟨⟨n1a, n1b⟩, n2, ⟨n3a, n3b⟩⟩
theorem RdS.fTk {w : World} {k : Int} {n : ByteArray} {a : Int}  (h : RdS w (Tk.d (Tk.mk k n a)) [.int .i64 k, .string n, .int .i64 a]) : (-9223372036854775808 ≤ k ∧ k ≤ 9223372036854775807) ∧ n.size ≤ 9223372036854775807 ∧ (-9223372036854775808 ≤ a ∧ a ≤ 9223372036854775807) := by
  obtain ⟨F, h⟩ := h
  exact h.Tk_inv.2

/-- A slice of these: the value, and what each element's cells hold. -/
theorem RdL.eTk {w : World} {ts : List Tk} {v : Value} (h : RdL w (Tk.ds ts) v) : ∃ (a : Option Addr) (cap : Nat), v = .slice a ts.length cap ∧ ts.length ≤ cap ∧ cap ≤ 9223372036854775807 ∧
    (0 < ts.length → ∃ b o, a = some ⟨b, o, none⟩ ∧ b < w.heap.size ∧ ∀ (i : Nat) (k : Int) (n : ByteArray) (a : Int), ts[i]? = some (Tk.mk k n a) → 
      w.cell? ⟨b, o + i * 3, none⟩ = some (.int .i64 k) ∧ w.cell? ⟨b, o + i * 3 + 1, none⟩ = some (.string n) ∧ w.cell? ⟨b, o + i * 3 + 2, none⟩ = some (.int .i64 a) ∧ RdS w (Tk.d (Tk.mk k n a)) [.int .i64 k, .string n, .int .i64 a]) := by
  obtain ⟨F, h⟩ := h
  obtain ⟨a, cap, h1, h2, h3, h4⟩ := h.list_inv
  rw [Tk.ds_length] at h1 h2
  simp only [List.cons.injEq, and_true] at h1
  refine ⟨a, cap, h1, h2, h3, fun hp => ?_⟩
  rcases h4 with ⟨h4, _⟩ | ⟨b, o, xs, F', _, rfl, rfl, hb, hx, hr⟩
  · have := congrArg List.length h4; rw [Tk.ds_length] at this; simp at this; simp [this] at hp
  · refine ⟨b, o, rfl, hb, fun i k n a hi => ?_⟩
    obtain ⟨cs, Fi, k1, k2, _⟩ := hr.get (Tk.ds_len ts) (i := i) (d := Tk.d (Tk.mk k n a)) (by rw [Tk.ds_get, hi]; rfl)
    obtain ⟨e, -⟩ := k2.Tk_inv
    subst e
    refine ⟨?_, ?_, ?_, ⟨Fi, k2⟩⟩
    · have := hx _ _ (k1 0 (.int .i64 k) rfl); simpa [Nat.add_assoc] using this
    · have := hx _ _ (k1 1 (.string n) rfl); simpa [Nat.add_assoc] using this
    · have := hx _ _ (k1 2 (.int .i64 a) rfl); simpa [Nat.add_assoc] using this

end Go.Proofs.YtikhofcjkcbpbaaDoor
