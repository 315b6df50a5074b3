/- Data: Type. No condition. -/
import Derived.Test.YtikhofcjkcbpbaaGreatDoorSc
namespace Go.Proofs.YtikhofcjkcbpbaaGreatDoor
open Go.RowKit

inductive Ty where
  | mk (k : Int) (n : ByteArray) (ks : List Ty)
mutual
def Ty.d : Ty → D
  | .mk k n ks => .struct [.int k, .str n, .list (Ty.ds ks)]
def Ty.ds : List Ty → List D
  | [] => []
  | t :: ts => Ty.d t :: Ty.ds ts
end

mutual
/-- Nodes and letters. -/
def Ty.bulk : Ty → Nat
  | .mk _ n ks => n.size + Ty.bulks ks
def Ty.bulks : List Ty → Nat
  | [] => 0
  | t :: ts => 1 + Ty.bulk t + Ty.bulks ts
end

theorem Ty.d_len (t : Ty) : (Ty.d t).len = 3 := by cases t; simp [Ty.d, D.len, D.lens]
theorem Ty.ds_length : ∀ ts : List Ty, (Ty.ds ts).length = ts.length
  | [] => rfl
  | t :: ts => by simp [Ty.ds, Ty.ds_length ts]
theorem Ty.ds_get : ∀ (ts : List Ty) (i : Nat), (Ty.ds ts)[i]? = (ts[i]?).map Ty.d
  | [], i => by simp [Ty.ds]
  | t :: ts, 0 => by simp [Ty.ds]
  | t :: ts, i + 1 => by simp [Ty.ds, Ty.ds_get ts i]
theorem Ty.ds_snoc : ∀ (ts : List Ty) (i : Nat) (t : Ty), ts[i]? = some t → Ty.ds (ts.take (i + 1)) = Ty.ds (ts.take i) ++ [Ty.d t]
  | [], i, t, h => by simp at h
  | u :: ts, 0, t, h => by simp at h; subst h; simp [Ty.ds]
  | u :: ts, i + 1, t, h => by have := Ty.ds_snoc ts i t (by simpa using h); simp [Ty.ds, this]
theorem Ty.ds_append : ∀ (ts us : List Ty), Ty.ds (ts ++ us) = Ty.ds ts ++ Ty.ds us
  | [], us => rfl
  | t :: ts, us => by simp [Ty.ds, Ty.ds_append ts us]
theorem Ty.ds_len : ∀ (ts : List Ty), ∀ d ∈ Ty.ds ts, d.len = 3
  | [], d, h => by simp [Ty.ds] at h
  | t :: ts, d, h => by
    simp only [Ty.ds, List.mem_cons] at h
    rcases h with rfl | h
    · exact Ty.d_len t
    · exact Ty.ds_len ts d h
theorem Ty.bulks_length : ∀ ts : List Ty, ts.length ≤ Ty.bulks ts
  | [] => by simp
  | t :: ts => by have := Ty.bulks_length ts; simp [Ty.bulks]; omega
theorem Ty.bulk_get : ∀ (ts : List Ty) (i : Nat) (t : Ty), ts[i]? = some t → Ty.bulk t < Ty.bulks ts
  | [], i, t, h => by simp at h
  | u :: ts, 0, t, h => by simp at h; subst h; simp [Ty.bulks]; omega
  | u :: ts, i + 1, t, h => by have := Ty.bulk_get ts i t (by simpa using h); simp [Ty.bulks]; omega
theorem Ty.bulks_take : ∀ (ts : List Ty) (i : Nat) (t : Ty), ts[i]? = some t → Ty.bulks (ts.take (i + 1)) = Ty.bulks (ts.take i) + 1 + Ty.bulk t
  | [], i, t, h => by simp at h
  | u :: ts, 0, t, h => by simp at h; subst h; simp [Ty.bulks]
  | u :: ts, i + 1, t, h => by have := Ty.bulks_take ts i t (by simpa using h); simp [Ty.bulks] at *; omega
theorem Ty.bulks_le : ∀ (ts : List Ty) (i : Nat), Ty.bulks (ts.take i) + (ts.length - i) ≤ Ty.bulks ts
  | [], i => by simp
  | u :: ts, 0 => by have := Ty.bulks_length ts; simp [Ty.bulks]; omega
  | u :: ts, i + 1 => by have := Ty.bulks_le ts i; simp [Ty.bulks]; omega
theorem Rd.Ty_inv {w : World} {k : Int} {n : ByteArray} {ks : List Ty} {cs : List Value} {F : List Nat} (h : Rd w (Ty.d (Ty.mk k n ks)) cs F) : ∃ (aks : Option Addr) (cks : Nat), cs = [.int .i64 k, .string n, .slice aks ks.length cks] ∧ ((-9223372036854775808 ≤ k ∧ k ≤ 9223372036854775807) ∧ n.size ≤ 9223372036854775807 ∧ RdL w (Ty.ds ks) (.slice aks ks.length cks)) := by
  obtain ⟨e1, r1, F1, G1, rfl, rfl, g1, k1⟩ := h.struct_inv.cons_inv
  obtain ⟨rfl, rfl, n1a, n1b⟩ := g1.int_inv
  obtain ⟨e2, r2, F2, G2, rfl, rfl, g2, k2⟩ := k1.cons_inv
  obtain ⟨rfl, rfl, n2⟩ := g2.str_inv
  obtain ⟨e3, r3, F3, G3, rfl, rfl, g3, k3⟩ := k2.cons_inv
  obtain ⟨a3, c3, rfl, -⟩ := g3.list_inv
  rw [Ty.ds_length] at g3
  obtain ⟨rfl, rfl⟩ := k3.nil_inv
  refine ⟨a3, c3, by simp [Ty.ds_length], ?_⟩
  exact ⟨⟨n1a, n1b⟩, n2, ⟨F3, g3⟩⟩
theorem RdS.fTy {w : World} {k : Int} {n : ByteArray} {ks : List Ty} {aks : Option Addr} {cks : Nat} (h : RdS w (Ty.d (Ty.mk k n ks)) [.int .i64 k, .string n, .slice aks ks.length cks]) : (-9223372036854775808 ≤ k ∧ k ≤ 9223372036854775807) ∧ n.size ≤ 9223372036854775807 ∧ RdL w (Ty.ds ks) (.slice aks ks.length cks) := by
  obtain ⟨F, h⟩ := h
  obtain ⟨aks', cks', e, hf⟩ := h.Ty_inv
  simp only [List.cons.injEq, Value.slice.injEq, true_and, and_true] at e
  obtain ⟨rfl, rfl⟩ := e
  exact hf

/-- A slice of these: the value, and what each element's cells hold. -/
theorem RdL.eTy {w : World} {ts : List Ty} {v : Value} (h : RdL w (Ty.ds ts) v) : ∃ (a : Option Addr) (cap : Nat), v = .slice a ts.length cap ∧ ts.length ≤ cap ∧ cap ≤ 9223372036854775807 ∧
    (0 < ts.length → ∃ b o, a = some ⟨b, o, none⟩ ∧ b < w.heap.size ∧ ∀ (i : Nat) (k : Int) (n : ByteArray) (ks : List Ty), ts[i]? = some (Ty.mk k n ks) → ∃ (aks : Option Addr) (cks : Nat), 
      w.cell? ⟨b, o + i * 3, none⟩ = some (.int .i64 k) ∧ w.cell? ⟨b, o + i * 3 + 1, none⟩ = some (.string n) ∧ w.cell? ⟨b, o + i * 3 + 2, none⟩ = some (.slice aks ks.length cks) ∧ RdS w (Ty.d (Ty.mk k n ks)) [.int .i64 k, .string n, .slice aks ks.length cks]) := by
  obtain ⟨F, h⟩ := h
  obtain ⟨a, cap, h1, h2, h3, h4⟩ := h.list_inv
  rw [Ty.ds_length] at h1 h2
  simp only [List.cons.injEq, and_true] at h1
  refine ⟨a, cap, h1, h2, h3, fun hp => ?_⟩
  rcases h4 with ⟨h4, _⟩ | ⟨b, o, xs, F', _, rfl, rfl, hb, hx, hr⟩
  · have := congrArg List.length h4; rw [Ty.ds_length] at this; simp at this; simp [this] at hp
  · refine ⟨b, o, rfl, hb, fun i k n ks hi => ?_⟩
    obtain ⟨cs, Fi, k1, k2, _⟩ := hr.get (Ty.ds_len ts) (i := i) (d := Ty.d (Ty.mk k n ks)) (by rw [Ty.ds_get, hi]; rfl)
    obtain ⟨aks, cks, e, -⟩ := k2.Ty_inv
    subst e
    refine ⟨aks, cks, ?_, ?_, ?_, ⟨Fi, k2⟩⟩
    · have := hx _ _ (k1 0 (.int .i64 k) rfl); simpa [Nat.add_assoc] using this
    · have := hx _ _ (k1 1 (.string n) rfl); simpa [Nat.add_assoc] using this
    · have := hx _ _ (k1 2 (.slice aks ks.length cks) rfl); simpa [Nat.add_assoc] using this

end Go.Proofs.YtikhofcjkcbpbaaGreatDoor
