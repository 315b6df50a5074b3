/- Data: Data. No condition. -/
import Derived.Test.YtgpefnlpbjnjbaaGreatDCon
namespace Go.Proofs.YtgpefnlpbjnjbaaGreat
open Go.RowKit

inductive Dat where
  | mk (n : ByteArray) (qs : List Con)
def Dat.d : Dat → D
  | .mk n qs => .struct [.str n, .list (Con.ds qs)]
def Dat.ds : List Dat → List D
  | [] => []
  | t :: ts => Dat.d t :: Dat.ds ts

/-- Nodes and letters. -/
def Dat.bulk : Dat → Nat
  | .mk n qs => n.size + Con.bulks qs
def Dat.bulks : List Dat → Nat
  | [] => 0
  | t :: ts => 1 + Dat.bulk t + Dat.bulks ts

theorem Dat.d_len (t : Dat) : (Dat.d t).len = 2 := by cases t; simp [Dat.d, D.len, D.lens]
theorem Dat.ds_length : ∀ ts : List Dat, (Dat.ds ts).length = ts.length
  | [] => rfl
  | t :: ts => by simp [Dat.ds, Dat.ds_length ts]
theorem Dat.ds_get : ∀ (ts : List Dat) (i : Nat), (Dat.ds ts)[i]? = (ts[i]?).map Dat.d
  | [], i => by simp [Dat.ds]
  | t :: ts, 0 => by simp [Dat.ds]
  | t :: ts, i + 1 => by simp [Dat.ds, Dat.ds_get ts i]
theorem Dat.ds_snoc : ∀ (ts : List Dat) (i : Nat) (t : Dat), ts[i]? = some t → Dat.ds (ts.take (i + 1)) = Dat.ds (ts.take i) ++ [Dat.d t]
  | [], i, t, h => by simp at h
  | u :: ts, 0, t, h => by simp at h; subst h; simp [Dat.ds]
  | u :: ts, i + 1, t, h => by have := Dat.ds_snoc ts i t (by simpa using h); simp [Dat.ds, this]
theorem Dat.ds_append : ∀ (ts us : List Dat), Dat.ds (ts ++ us) = Dat.ds ts ++ Dat.ds us
  | [], us => rfl
  | t :: ts, us => by simp [Dat.ds, Dat.ds_append ts us]
theorem Dat.ds_len : ∀ (ts : List Dat), ∀ d ∈ Dat.ds ts, d.len = 2
  | [], d, h => by simp [Dat.ds] at h
  | t :: ts, d, h => by
    simp only [Dat.ds, List.mem_cons] at h
    rcases h with rfl | h
    · exact Dat.d_len t
    · exact Dat.ds_len ts d h
theorem Dat.bulks_length : ∀ ts : List Dat, ts.length ≤ Dat.bulks ts
  | [] => by simp
  | t :: ts => by have := Dat.bulks_length ts; simp [Dat.bulks]; omega
theorem Dat.bulk_get : ∀ (ts : List Dat) (i : Nat) (t : Dat), ts[i]? = some t → Dat.bulk t < Dat.bulks ts
  | [], i, t, h => by simp at h
  | u :: ts, 0, t, h => by simp at h; subst h; simp [Dat.bulks]; omega
  | u :: ts, i + 1, t, h => by have := Dat.bulk_get ts i t (by simpa using h); simp [Dat.bulks]; omega
theorem Dat.bulks_take : ∀ (ts : List Dat) (i : Nat) (t : Dat), ts[i]? = some t → Dat.bulks (ts.take (i + 1)) = Dat.bulks (ts.take i) + 1 + Dat.bulk t
  | [], i, t, h => by simp at h
  | u :: ts, 0, t, h => by simp at h; subst h; simp [Dat.bulks]
  | u :: ts, i + 1, t, h => by have := Dat.bulks_take ts i t (by simpa using h); simp [Dat.bulks] at *; omega
theorem Dat.bulks_le : ∀ (ts : List Dat) (i : Nat), Dat.bulks (ts.take i) + (ts.length - i) ≤ Dat.bulks ts
  | [], i => by simp
  | u :: ts, 0 => by have := Dat.bulks_length ts; simp [Dat.bulks]; omega
  | u :: ts, i + 1 => by have := Dat.bulks_le ts i; simp [Dat.bulks]; omega
theorem Rd.Dat_inv {w : World} {n : ByteArray} {qs : List Con} {cs : List Value} {F : List Nat} (h : Rd w (Dat.d (Dat.mk n qs)) cs F) : ∃ (aqs : Option Addr) (cqs : Nat), cs = [.string n, .slice aqs qs.length cqs] ∧ (n.size ≤ 9223372036854775807 ∧ RdL w (Con.ds qs) (.slice aqs qs.length cqs)) := by
  obtain ⟨e1, r1, F1, G1, rfl, rfl, g1, k1⟩ := h.struct_inv.cons_inv
  obtain ⟨rfl, rfl, n1⟩ := g1.str_inv
  obtain ⟨e2, r2, F2, G2, rfl, rfl, g2, k2⟩ := k1.cons_inv
  obtain ⟨a2, c2, rfl, -⟩ := g2.list_inv
  rw [Con.ds_length] at g2
  obtain ⟨rfl, rfl⟩ := k2.nil_inv
  refine ⟨a2, c2, by simp [Con.ds_length], ?_⟩
  exact ⟨n1, ⟨F2, g2⟩⟩
theorem RdS.fDat {w : World} {n : ByteArray} {qs : List Con} {aqs : Option Addr} {cqs : Nat} (h : RdS w (Dat.d (Dat.mk n qs)) [.string n, .slice aqs qs.length cqs]) : n.size ≤ 9223372036854775807 ∧ RdL w (Con.ds qs) (.slice aqs qs.length cqs) := by
  obtain ⟨F, h⟩ := h
  obtain ⟨aqs', cqs', e, hf⟩ := h.Dat_inv
  simp only [List.cons.injEq, Value.slice.injEq, true_and, and_true] at e
  obtain ⟨rfl, rfl⟩ := e
  exact hf

/-- A slice of these: the value, and what each element's cells hold. -/
theorem RdL.eDat {w : World} {ts : List Dat} {v : Value} (h : RdL w (Dat.ds ts) v) : ∃ (a : Option Addr) (cap : Nat), v = .slice a ts.length cap ∧ ts.length ≤ cap ∧ cap ≤ 9223372036854775807 ∧
    (0 < ts.length → ∃ b o, a = some ⟨b, o, none⟩ ∧ b < w.heap.size ∧ ∀ (i : Nat) (n : ByteArray) (qs : List Con), ts[i]? = some (Dat.mk n qs) → ∃ (aqs : Option Addr) (cqs : Nat), 
      w.cell? ⟨b, o + i * 2, none⟩ = some (.string n) ∧ w.cell? ⟨b, o + i * 2 + 1, none⟩ = some (.slice aqs qs.length cqs) ∧ RdS w (Dat.d (Dat.mk n qs)) [.string n, .slice aqs qs.length cqs]) := by
  obtain ⟨F, h⟩ := h
  obtain ⟨a, cap, h1, h2, h3, h4⟩ := h.list_inv
  rw [Dat.ds_length] at h1 h2
  simp only [List.cons.injEq, and_true] at h1
  refine ⟨a, cap, h1, h2, h3, fun hp => ?_⟩
  rcases h4 with ⟨h4, _⟩ | ⟨b, o, xs, F', _, rfl, rfl, hb, hx, hr⟩
  · have := congrArg List.length h4; rw [Dat.ds_length] at this; simp at this; simp [this] at hp
  · refine ⟨b, o, rfl, hb, fun i n qs hi => ?_⟩
    obtain ⟨cs, Fi, k1, k2, _⟩ := hr.get (Dat.ds_len ts) (i := i) (d := Dat.d (Dat.mk n qs)) (by rw [Dat.ds_get, hi]; rfl)
    obtain ⟨aqs, cqs, e, -⟩ := k2.Dat_inv
    subst e
    refine ⟨aqs, cqs, ?_, ?_, ⟨Fi, k2⟩⟩
    · have := hx _ _ (k1 0 (.string n) rfl); simpa [Nat.add_assoc] using this
    · have := hx _ _ (k1 1 (.slice aqs qs.length cqs) rfl); simpa [Nat.add_assoc] using this

end Go.Proofs.YtgpefnlpbjnjbaaGreat
