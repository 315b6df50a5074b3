/- Data: Program. No condition. -/
import Derived.Test.YtgpefnlpbjnjbaaGreatDDat
import Derived.Test.YtgpefnlpbjnjbaaGreatDDf
namespace Go.Proofs.YtgpefnlpbjnjbaaGreat
open Go.RowKit

inductive Pg where
  | mk (ds : List Dat) (fs : List Df)
def Pg.d : Pg → D
  | .mk ds fs => .struct [.list (Dat.ds ds), .list (Df.ds fs)]
def Pg.ds : List Pg → List D
  | [] => []
  | t :: ts => Pg.d t :: Pg.ds ts

/-- Nodes and letters. -/
def Pg.bulk : Pg → Nat
  | .mk ds fs => Dat.bulks ds + Df.bulks fs
def Pg.bulks : List Pg → Nat
  | [] => 0
  | t :: ts => 1 + Pg.bulk t + Pg.bulks ts

theorem Pg.d_len (t : Pg) : (Pg.d t).len = 2 := by cases t; simp [Pg.d, D.len, D.lens]
theorem Pg.ds_length : ∀ ts : List Pg, (Pg.ds ts).length = ts.length
  | [] => rfl
  | t :: ts => by simp [Pg.ds, Pg.ds_length ts]
theorem Pg.ds_get : ∀ (ts : List Pg) (i : Nat), (Pg.ds ts)[i]? = (ts[i]?).map Pg.d
  | [], i => by simp [Pg.ds]
  | t :: ts, 0 => by simp [Pg.ds]
  | t :: ts, i + 1 => by simp [Pg.ds, Pg.ds_get ts i]
theorem Pg.ds_snoc : ∀ (ts : List Pg) (i : Nat) (t : Pg), ts[i]? = some t → Pg.ds (ts.take (i + 1)) = Pg.ds (ts.take i) ++ [Pg.d t]
  | [], i, t, h => by simp at h
  | u :: ts, 0, t, h => by simp at h; subst h; simp [Pg.ds]
  | u :: ts, i + 1, t, h => by have := Pg.ds_snoc ts i t (by simpa using h); simp [Pg.ds, this]
theorem Pg.ds_append : ∀ (ts us : List Pg), Pg.ds (ts ++ us) = Pg.ds ts ++ Pg.ds us
  | [], us => rfl
  | t :: ts, us => by simp [Pg.ds, Pg.ds_append ts us]
theorem Pg.ds_len : ∀ (ts : List Pg), ∀ d ∈ Pg.ds ts, d.len = 2
  | [], d, h => by simp [Pg.ds] at h
  | t :: ts, d, h => by
    simp only [Pg.ds, List.mem_cons] at h
    rcases h with rfl | h
    · exact Pg.d_len t
    · exact Pg.ds_len ts d h
theorem Pg.bulks_length : ∀ ts : List Pg, ts.length ≤ Pg.bulks ts
  | [] => by simp
  | t :: ts => by have := Pg.bulks_length ts; simp [Pg.bulks]; omega
theorem Pg.bulk_get : ∀ (ts : List Pg) (i : Nat) (t : Pg), ts[i]? = some t → Pg.bulk t < Pg.bulks ts
  | [], i, t, h => by simp at h
  | u :: ts, 0, t, h => by simp at h; subst h; simp [Pg.bulks]; omega
  | u :: ts, i + 1, t, h => by have := Pg.bulk_get ts i t (by simpa using h); simp [Pg.bulks]; omega
theorem Pg.bulks_take : ∀ (ts : List Pg) (i : Nat) (t : Pg), ts[i]? = some t → Pg.bulks (ts.take (i + 1)) = Pg.bulks (ts.take i) + 1 + Pg.bulk t
  | [], i, t, h => by simp at h
  | u :: ts, 0, t, h => by simp at h; subst h; simp [Pg.bulks]
  | u :: ts, i + 1, t, h => by have := Pg.bulks_take ts i t (by simpa using h); simp [Pg.bulks] at *; omega
theorem Pg.bulks_le : ∀ (ts : List Pg) (i : Nat), Pg.bulks (ts.take i) + (ts.length - i) ≤ Pg.bulks ts
  | [], i => by simp
  | u :: ts, 0 => by have := Pg.bulks_length ts; simp [Pg.bulks]; omega
  | u :: ts, i + 1 => by have := Pg.bulks_le ts i; simp [Pg.bulks]; omega
theorem Rd.Pg_inv {w : World} {ds : List Dat} {fs : List Df} {cs : List Value} {F : List Nat} (h : Rd w (Pg.d (Pg.mk ds fs)) cs F) : ∃ (ads : Option Addr) (cds : Nat) (afs : Option Addr) (cfs : Nat), cs = [.slice ads ds.length cds, .slice afs fs.length cfs] ∧ (RdL w (Dat.ds ds) (.slice ads ds.length cds) ∧ RdL w (Df.ds fs) (.slice afs fs.length cfs)) := by
  obtain ⟨e1, r1, F1, G1, rfl, rfl, g1, k1⟩ := h.struct_inv.cons_inv
  obtain ⟨a1, c1, rfl, -⟩ := g1.list_inv
  rw [Dat.ds_length] at g1
  obtain ⟨e2, r2, F2, G2, rfl, rfl, g2, k2⟩ := k1.cons_inv
  obtain ⟨a2, c2, rfl, -⟩ := g2.list_inv
  rw [Df.ds_length] at g2
  obtain ⟨rfl, rfl⟩ := k2.nil_inv
  refine ⟨a1, c1, a2, c2, by simp [Dat.ds_length, Df.ds_length], ?_⟩
  exact ⟨⟨F1, g1⟩, ⟨F2, g2⟩⟩
theorem RdS.fPg {w : World} {ds : List Dat} {fs : List Df} {ads : Option Addr} {cds : Nat} {afs : Option Addr} {cfs : Nat} (h : RdS w (Pg.d (Pg.mk ds fs)) [.slice ads ds.length cds, .slice afs fs.length cfs]) : RdL w (Dat.ds ds) (.slice ads ds.length cds) ∧ RdL w (Df.ds fs) (.slice afs fs.length cfs) := by
  obtain ⟨F, h⟩ := h
  obtain ⟨ads', cds', afs', cfs', e, hf⟩ := h.Pg_inv
  simp only [List.cons.injEq, Value.slice.injEq, true_and, and_true] at e
  obtain ⟨⟨rfl, rfl⟩, ⟨rfl, rfl⟩⟩ := e
  exact hf

/-- A slice of these: the value, and what each element's cells hold. -/
theorem RdL.ePg {w : World} {ts : List Pg} {v : Value} (h : RdL w (Pg.ds ts) v) : ∃ (a : Option Addr) (cap : Nat), v = .slice a ts.length cap ∧ ts.length ≤ cap ∧ cap ≤ 9223372036854775807 ∧
    (0 < ts.length → ∃ b o, a = some ⟨b, o, none⟩ ∧ b < w.heap.size ∧ ∀ (i : Nat) (ds : List Dat) (fs : List Df), ts[i]? = some (Pg.mk ds fs) → ∃ (ads : Option Addr) (cds : Nat) (afs : Option Addr) (cfs : Nat), 
      w.cell? ⟨b, o + i * 2, none⟩ = some (.slice ads ds.length cds) ∧ w.cell? ⟨b, o + i * 2 + 1, none⟩ = some (.slice afs fs.length cfs) ∧ RdS w (Pg.d (Pg.mk ds fs)) [.slice ads ds.length cds, .slice afs fs.length cfs]) := by
  obtain ⟨F, h⟩ := h
  obtain ⟨a, cap, h1, h2, h3, h4⟩ := h.list_inv
  rw [Pg.ds_length] at h1 h2
  simp only [List.cons.injEq, and_true] at h1
  refine ⟨a, cap, h1, h2, h3, fun hp => ?_⟩
  rcases h4 with ⟨h4, _⟩ | ⟨b, o, xs, F', _, rfl, rfl, hb, hx, hr⟩
  · have := congrArg List.length h4; rw [Pg.ds_length] at this; simp at this; simp [this] at hp
  · refine ⟨b, o, rfl, hb, fun i ds fs hi => ?_⟩
    obtain ⟨cs, Fi, k1, k2, _⟩ := hr.get (Pg.ds_len ts) (i := i) (d := Pg.d (Pg.mk ds fs)) (by rw [Pg.ds_get, hi]; rfl)
    obtain ⟨ads, cds, afs, cfs, e, -⟩ := k2.Pg_inv
    subst e
    refine ⟨ads, cds, afs, cfs, ?_, ?_, ⟨Fi, k2⟩⟩
    · have := hx _ _ (k1 0 (.slice ads ds.length cds) rfl); simpa [Nat.add_assoc] using this
    · have := hx _ _ (k1 1 (.slice afs fs.length cfs) rfl); simpa [Nat.add_assoc] using this

end Go.Proofs.YtgpefnlpbjnjbaaGreat
