/- Data: Term. No condition. -/
import Derived.Test.YtikhofcjkcbpbaaGreatDoorDTy
namespace Go.Proofs.YtikhofcjkcbpbaaGreatDoor
open Go.RowKit

inductive Tm where
  | mk (k : Int) (u : Int) (n : ByteArray) (t : Ty) (ns : List ByteArray) (ks : List Tm)
mutual
def Tm.d : Tm → D
  | .mk k u n t ns ks => .struct [.int k, .int u, .str n, Ty.d t, .list (Sr.ds ns), .list (Tm.ds ks)]
def Tm.ds : List Tm → List D
  | [] => []
  | t :: ts => Tm.d t :: Tm.ds ts
end

mutual
/-- Nodes and letters. -/
def Tm.bulk : Tm → Nat
  | .mk _ _ n t ns ks => n.size + Ty.bulk t + Sr.bulks ns + Tm.bulks ks
def Tm.bulks : List Tm → Nat
  | [] => 0
  | t :: ts => 1 + Tm.bulk t + Tm.bulks ts
end

theorem Tm.d_len (t : Tm) : (Tm.d t).len = 8 := by cases t; simp [Tm.d, D.len, D.lens, Ty.d_len]
theorem Tm.ds_length : ∀ ts : List Tm, (Tm.ds ts).length = ts.length
  | [] => rfl
  | t :: ts => by simp [Tm.ds, Tm.ds_length ts]
theorem Tm.ds_get : ∀ (ts : List Tm) (i : Nat), (Tm.ds ts)[i]? = (ts[i]?).map Tm.d
  | [], i => by simp [Tm.ds]
  | t :: ts, 0 => by simp [Tm.ds]
  | t :: ts, i + 1 => by simp [Tm.ds, Tm.ds_get ts i]
theorem Tm.ds_snoc : ∀ (ts : List Tm) (i : Nat) (t : Tm), ts[i]? = some t → Tm.ds (ts.take (i + 1)) = Tm.ds (ts.take i) ++ [Tm.d t]
  | [], i, t, h => by simp at h
  | u :: ts, 0, t, h => by simp at h; subst h; simp [Tm.ds]
  | u :: ts, i + 1, t, h => by have := Tm.ds_snoc ts i t (by simpa using h); simp [Tm.ds, this]
theorem Tm.ds_append : ∀ (ts us : List Tm), Tm.ds (ts ++ us) = Tm.ds ts ++ Tm.ds us
  | [], us => rfl
  | t :: ts, us => by simp [Tm.ds, Tm.ds_append ts us]
theorem Tm.ds_len : ∀ (ts : List Tm), ∀ d ∈ Tm.ds ts, d.len = 8
  | [], d, h => by simp [Tm.ds] at h
  | t :: ts, d, h => by
    simp only [Tm.ds, List.mem_cons] at h
    rcases h with rfl | h
    · exact Tm.d_len t
    · exact Tm.ds_len ts d h
theorem Tm.bulks_length : ∀ ts : List Tm, ts.length ≤ Tm.bulks ts
  | [] => by simp
  | t :: ts => by have := Tm.bulks_length ts; simp [Tm.bulks]; omega
theorem Tm.bulk_get : ∀ (ts : List Tm) (i : Nat) (t : Tm), ts[i]? = some t → Tm.bulk t < Tm.bulks ts
  | [], i, t, h => by simp at h
  | u :: ts, 0, t, h => by simp at h; subst h; simp [Tm.bulks]; omega
  | u :: ts, i + 1, t, h => by have := Tm.bulk_get ts i t (by simpa using h); simp [Tm.bulks]; omega
theorem Tm.bulks_take : ∀ (ts : List Tm) (i : Nat) (t : Tm), ts[i]? = some t → Tm.bulks (ts.take (i + 1)) = Tm.bulks (ts.take i) + 1 + Tm.bulk t
  | [], i, t, h => by simp at h
  | u :: ts, 0, t, h => by simp at h; subst h; simp [Tm.bulks]
  | u :: ts, i + 1, t, h => by have := Tm.bulks_take ts i t (by simpa using h); simp [Tm.bulks] at *; omega
theorem Tm.bulks_le : ∀ (ts : List Tm) (i : Nat), Tm.bulks (ts.take i) + (ts.length - i) ≤ Tm.bulks ts
  | [], i => by simp
  | u :: ts, 0 => by have := Tm.bulks_length ts; simp [Tm.bulks]; omega
  | u :: ts, i + 1 => by have := Tm.bulks_le ts i; simp [Tm.bulks]; omega
theorem Rd.Tm_inv {w : World} {k : Int} {u : Int} {n : ByteArray} {tk : Int} {tn : ByteArray} {tks : List Ty} {ns : List ByteArray} {ks : List Tm} {cs : List Value} {F : List Nat} (h : Rd w (Tm.d (Tm.mk k u n (Ty.mk tk tn tks) ns ks)) cs F) : ∃ (atks : Option Addr) (ctks : Nat) (ans : Option Addr) (cns : Nat) (aks : Option Addr) (cks : Nat), cs = [.int .i64 k, .int .i64 u, .string n, .int .i64 tk, .string tn, .slice atks tks.length ctks, .slice ans ns.length cns, .slice aks ks.length cks] ∧ ((-9223372036854775808 ≤ k ∧ k ≤ 9223372036854775807) ∧ (-9223372036854775808 ≤ u ∧ u ≤ 9223372036854775807) ∧ n.size ≤ 9223372036854775807 ∧ ((-9223372036854775808 ≤ tk ∧ tk ≤ 9223372036854775807) ∧ tn.size ≤ 9223372036854775807 ∧ RdL w (Ty.ds tks) (.slice atks tks.length ctks)) ∧ RdL w (Sr.ds ns) (.slice ans ns.length cns) ∧ RdL w (Tm.ds ks) (.slice aks ks.length cks)) := by
  obtain ⟨e1, r1, F1, G1, rfl, rfl, g1, k1⟩ := h.struct_inv.cons_inv
  obtain ⟨rfl, rfl, n1a, n1b⟩ := g1.int_inv
  obtain ⟨e2, r2, F2, G2, rfl, rfl, g2, k2⟩ := k1.cons_inv
  obtain ⟨rfl, rfl, n2a, n2b⟩ := g2.int_inv
  obtain ⟨e3, r3, F3, G3, rfl, rfl, g3, k3⟩ := k2.cons_inv
  obtain ⟨rfl, rfl, n3⟩ := g3.str_inv
  obtain ⟨e4, r4, F4, G4, rfl, rfl, g4, k4⟩ := k3.cons_inv
  obtain ⟨a4_ks, c4_ks, rfl, n4⟩ := g4.Ty_inv
  obtain ⟨e5, r5, F5, G5, rfl, rfl, g5, k5⟩ := k4.cons_inv
  obtain ⟨a5, c5, rfl, -⟩ := g5.list_inv
  rw [Sr.ds_length] at g5
  obtain ⟨e6, r6, F6, G6, rfl, rfl, g6, k6⟩ := k5.cons_inv
  obtain ⟨a6, c6, rfl, -⟩ := g6.list_inv
  rw [Tm.ds_length] at g6
  obtain ⟨rfl, rfl⟩ := k6.nil_inv
  refine ⟨a4_ks, c4_ks, a5, c5, a6, c6, by simp [Sr.ds_length, Tm.ds_length], ?_⟩
  exact ⟨⟨n1a, n1b⟩, ⟨n2a, n2b⟩, n3, n4, ⟨F5, g5⟩, ⟨F6, g6⟩⟩
theorem RdS.fTm {w : World} {k : Int} {u : Int} {n : ByteArray} {tk : Int} {tn : ByteArray} {tks : List Ty} {ns : List ByteArray} {ks : List Tm} {atks : Option Addr} {ctks : Nat} {ans : Option Addr} {cns : Nat} {aks : Option Addr} {cks : Nat} (h : RdS w (Tm.d (Tm.mk k u n (Ty.mk tk tn tks) ns ks)) [.int .i64 k, .int .i64 u, .string n, .int .i64 tk, .string tn, .slice atks tks.length ctks, .slice ans ns.length cns, .slice aks ks.length cks]) : (-9223372036854775808 ≤ k ∧ k ≤ 9223372036854775807) ∧ (-9223372036854775808 ≤ u ∧ u ≤ 9223372036854775807) ∧ n.size ≤ 9223372036854775807 ∧ ((-9223372036854775808 ≤ tk ∧ tk ≤ 9223372036854775807) ∧ tn.size ≤ 9223372036854775807 ∧ RdL w (Ty.ds tks) (.slice atks tks.length ctks)) ∧ RdL w (Sr.ds ns) (.slice ans ns.length cns) ∧ RdL w (Tm.ds ks) (.slice aks ks.length cks) := by
  obtain ⟨F, h⟩ := h
  obtain ⟨atks', ctks', ans', cns', aks', cks', e, hf⟩ := h.Tm_inv
  simp only [List.cons.injEq, Value.slice.injEq, true_and, and_true] at e
  obtain ⟨⟨rfl, rfl⟩, ⟨rfl, rfl⟩, ⟨rfl, rfl⟩⟩ := e
  exact hf

/-- A slice of these: the value, and what each element's cells hold. -/
theorem RdL.eTm {w : World} {ts : List Tm} {v : Value} (h : RdL w (Tm.ds ts) v) : ∃ (a : Option Addr) (cap : Nat), v = .slice a ts.length cap ∧ ts.length ≤ cap ∧ cap ≤ 9223372036854775807 ∧
    (0 < ts.length → ∃ b o, a = some ⟨b, o, none⟩ ∧ b < w.heap.size ∧ ∀ (i : Nat) (k : Int) (u : Int) (n : ByteArray) (tk : Int) (tn : ByteArray) (tks : List Ty) (ns : List ByteArray) (ks : List Tm), ts[i]? = some (Tm.mk k u n (Ty.mk tk tn tks) ns ks) → ∃ (atks : Option Addr) (ctks : Nat) (ans : Option Addr) (cns : Nat) (aks : Option Addr) (cks : Nat), 
      w.cell? ⟨b, o + i * 8, none⟩ = some (.int .i64 k) ∧ w.cell? ⟨b, o + i * 8 + 1, none⟩ = some (.int .i64 u) ∧ w.cell? ⟨b, o + i * 8 + 2, none⟩ = some (.string n) ∧ w.cell? ⟨b, o + i * 8 + 3, none⟩ = some (.int .i64 tk) ∧ w.cell? ⟨b, o + i * 8 + 4, none⟩ = some (.string tn) ∧ w.cell? ⟨b, o + i * 8 + 5, none⟩ = some (.slice atks tks.length ctks) ∧ w.cell? ⟨b, o + i * 8 + 6, none⟩ = some (.slice ans ns.length cns) ∧ w.cell? ⟨b, o + i * 8 + 7, none⟩ = some (.slice aks ks.length cks) ∧ RdS w (Tm.d (Tm.mk k u n (Ty.mk tk tn tks) ns ks)) [.int .i64 k, .int .i64 u, .string n, .int .i64 tk, .string tn, .slice atks tks.length ctks, .slice ans ns.length cns, .slice aks ks.length cks]) := by
  obtain ⟨F, h⟩ := h
  obtain ⟨a, cap, h1, h2, h3, h4⟩ := h.list_inv
  rw [Tm.ds_length] at h1 h2
  simp only [List.cons.injEq, and_true] at h1
  refine ⟨a, cap, h1, h2, h3, fun hp => ?_⟩
  rcases h4 with ⟨h4, _⟩ | ⟨b, o, xs, F', _, rfl, rfl, hb, hx, hr⟩
  · have := congrArg List.length h4; rw [Tm.ds_length] at this; simp at this; simp [this] at hp
  · refine ⟨b, o, rfl, hb, fun i k u n tk tn tks ns ks hi => ?_⟩
    obtain ⟨cs, Fi, k1, k2, _⟩ := hr.get (Tm.ds_len ts) (i := i) (d := Tm.d (Tm.mk k u n (Ty.mk tk tn tks) ns ks)) (by rw [Tm.ds_get, hi]; rfl)
    obtain ⟨atks, ctks, ans, cns, aks, cks, e, -⟩ := k2.Tm_inv
    subst e
    refine ⟨atks, ctks, ans, cns, aks, cks, ?_, ?_, ?_, ?_, ?_, ?_, ?_, ?_, ⟨Fi, k2⟩⟩
    · have := hx _ _ (k1 0 (.int .i64 k) rfl); simpa [Nat.add_assoc] using this
    · have := hx _ _ (k1 1 (.int .i64 u) rfl); simpa [Nat.add_assoc] using this
    · have := hx _ _ (k1 2 (.string n) rfl); simpa [Nat.add_assoc] using this
    · have := hx _ _ (k1 3 (.int .i64 tk) rfl); simpa [Nat.add_assoc] using this
    · have := hx _ _ (k1 4 (.string tn) rfl); simpa [Nat.add_assoc] using this
    · have := hx _ _ (k1 5 (.slice atks tks.length ctks) rfl); simpa [Nat.add_assoc] using this
    · have := hx _ _ (k1 6 (.slice ans ns.length cns) rfl); simpa [Nat.add_assoc] using this
    · have := hx _ _ (k1 7 (.slice aks ks.length cks) rfl); simpa [Nat.add_assoc] using this

end Go.Proofs.YtikhofcjkcbpbaaGreatDoor
