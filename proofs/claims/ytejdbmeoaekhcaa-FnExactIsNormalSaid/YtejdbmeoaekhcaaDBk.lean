/- Data: Book. No condition. -/
import Derived.Test.YtejdbmeoaekhcaaDCo
namespace Go.Proofs.Ytejdbmeoaekhcaa
open Go.RowKit

inductive Bk where
  | mk (fs : List Co)
def Bk.d : Bk → D
  | .mk fs => .struct [.list (Co.ds fs)]
def Bk.ds : List Bk → List D
  | [] => []
  | t :: ts => Bk.d t :: Bk.ds ts

/-- Nodes and letters. -/
def Bk.bulk : Bk → Nat
  | .mk fs => Co.bulks fs
def Bk.bulks : List Bk → Nat
  | [] => 0
  | t :: ts => 1 + Bk.bulk t + Bk.bulks ts

theorem Bk.d_len (t : Bk) : (Bk.d t).len = 1 := by cases t; simp [Bk.d, D.len, D.lens]
theorem Bk.ds_length : ∀ ts : List Bk, (Bk.ds ts).length = ts.length
  | [] => rfl
  | t :: ts => by simp [Bk.ds, Bk.ds_length ts]
theorem Bk.ds_get : ∀ (ts : List Bk) (i : Nat), (Bk.ds ts)[i]? = (ts[i]?).map Bk.d
  | [], i => by simp [Bk.ds]
  | t :: ts, 0 => by simp [Bk.ds]
  | t :: ts, i + 1 => by simp [Bk.ds, Bk.ds_get ts i]
theorem Bk.ds_snoc : ∀ (ts : List Bk) (i : Nat) (t : Bk), ts[i]? = some t → Bk.ds (ts.take (i + 1)) = Bk.ds (ts.take i) ++ [Bk.d t]
  | [], i, t, h => by simp at h
  | u :: ts, 0, t, h => by simp at h; subst h; simp [Bk.ds]
  | u :: ts, i + 1, t, h => by have := Bk.ds_snoc ts i t (by simpa using h); simp [Bk.ds, this]
theorem Bk.ds_append : ∀ (ts us : List Bk), Bk.ds (ts ++ us) = Bk.ds ts ++ Bk.ds us
  | [], us => rfl
  | t :: ts, us => by simp [Bk.ds, Bk.ds_append ts us]
theorem Bk.ds_len : ∀ (ts : List Bk), ∀ d ∈ Bk.ds ts, d.len = 1
  | [], d, h => by simp [Bk.ds] at h
  | t :: ts, d, h => by
    simp only [Bk.ds, List.mem_cons] at h
    rcases h with rfl | h
    · exact Bk.d_len t
    · exact Bk.ds_len ts d h
theorem Bk.bulks_length : ∀ ts : List Bk, ts.length ≤ Bk.bulks ts
  | [] => by simp
  | t :: ts => by have := Bk.bulks_length ts; simp [Bk.bulks]; omega
theorem Bk.bulk_get : ∀ (ts : List Bk) (i : Nat) (t : Bk), ts[i]? = some t → Bk.bulk t < Bk.bulks ts
  | [], i, t, h => by simp at h
  | u :: ts, 0, t, h => by simp at h; subst h; simp [Bk.bulks]; omega
  | u :: ts, i + 1, t, h => by have := Bk.bulk_get ts i t (by simpa using h); simp [Bk.bulks]; omega
theorem Bk.bulks_take : ∀ (ts : List Bk) (i : Nat) (t : Bk), ts[i]? = some t → Bk.bulks (ts.take (i + 1)) = Bk.bulks (ts.take i) + 1 + Bk.bulk t
  | [], i, t, h => by simp at h
  | u :: ts, 0, t, h => by simp at h; subst h; simp [Bk.bulks]
  | u :: ts, i + 1, t, h => by have := Bk.bulks_take ts i t (by simpa using h); simp [Bk.bulks] at *; omega
theorem Bk.bulks_le : ∀ (ts : List Bk) (i : Nat), Bk.bulks (ts.take i) + (ts.length - i) ≤ Bk.bulks ts
  | [], i => by simp
  | u :: ts, 0 => by have := Bk.bulks_length ts; simp [Bk.bulks]; omega
  | u :: ts, i + 1 => by have := Bk.bulks_le ts i; simp [Bk.bulks]; omega
theorem Rd.Bk_inv {w : World} {fs : List Co} {cs : List Value} {F : List Nat} (h : Rd w (Bk.d (Bk.mk fs)) cs F) : ∃ (afs : Option Addr) (cfs : Nat), cs = [.slice afs fs.length cfs] ∧ (RdL w (Co.ds fs) (.slice afs fs.length cfs)) := by
  obtain ⟨e1, r1, F1, G1, rfl, rfl, g1, k1⟩ := h.struct_inv.cons_inv
  obtain ⟨a1, c1, rfl, -⟩ := g1.list_inv
  rw [Co.ds_length] at g1
  obtain ⟨rfl, rfl⟩ := k1.nil_inv
  refine ⟨a1, c1, by simp [Co.ds_length], ?_⟩
  exact ⟨F1, g1⟩
theorem RdS.fBk {w : World} {fs : List Co} {afs : Option Addr} {cfs : Nat} (h : RdS w (Bk.d (Bk.mk fs)) [.slice afs fs.length cfs]) : RdL w (Co.ds fs) (.slice afs fs.length cfs) := by
  obtain ⟨F, h⟩ := h
  obtain ⟨afs', cfs', e, hf⟩ := h.Bk_inv
  simp only [List.cons.injEq, Value.slice.injEq, true_and, and_true] at e
  obtain ⟨rfl, rfl⟩ := e
  exact hf

/-- A slice of these: the value, and what each element's cells hold. -/
theorem RdL.eBk {w : World} {ts : List Bk} {v : Value} (h : RdL w (Bk.ds ts) v) : ∃ (a : Option Addr) (cap : Nat), v = .slice a ts.length cap ∧ ts.length ≤ cap ∧ cap ≤ 9223372036854775807 ∧
    (0 < ts.length → ∃ b o, a = some ⟨b, o, none⟩ ∧ b < w.heap.size ∧ ∀ (i : Nat) (fs : List Co), ts[i]? = some (Bk.mk fs) → ∃ (afs : Option Addr) (cfs : Nat), 
      w.cell? ⟨b, o + i, none⟩ = some (.slice afs fs.length cfs) ∧ RdS w (Bk.d (Bk.mk fs)) [.slice afs fs.length cfs]) := by
  obtain ⟨F, h⟩ := h
  obtain ⟨a, cap, h1, h2, h3, h4⟩ := h.list_inv
  rw [Bk.ds_length] at h1 h2
  simp only [List.cons.injEq, and_true] at h1
  refine ⟨a, cap, h1, h2, h3, fun hp => ?_⟩
  rcases h4 with ⟨h4, _⟩ | ⟨b, o, xs, F', _, rfl, rfl, hb, hx, hr⟩
  · have := congrArg List.length h4; rw [Bk.ds_length] at this; simp at this; simp [this] at hp
  · refine ⟨b, o, rfl, hb, fun i fs hi => ?_⟩
    obtain ⟨cs, Fi, k1, k2, _⟩ := hr.get (Bk.ds_len ts) (i := i) (d := Bk.d (Bk.mk fs)) (by rw [Bk.ds_get, hi]; rfl)
    obtain ⟨afs, cfs, e, -⟩ := k2.Bk_inv
    subst e
    refine ⟨afs, cfs, ?_, ⟨Fi, k2⟩⟩
    · have := hx _ _ (k1 0 (.slice afs fs.length cfs) rfl); simpa [Nat.add_assoc] using this

end Go.Proofs.Ytejdbmeoaekhcaa
