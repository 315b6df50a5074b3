/- Data: Frame. No condition. -/
import Derived.Test.YtejdbmeoaekhcaaDCl
namespace Go.Proofs.Ytejdbmeoaekhcaa
open Go.RowKit

inductive Fr where
  | mk (k : Int) (v : Int) (ds : List Int) (c : Cl)
def Fr.d : Fr → D
  | .mk k v ds c => .struct [.int k, .int v, .list (In.ds ds), Cl.d c]
def Fr.ds : List Fr → List D
  | [] => []
  | t :: ts => Fr.d t :: Fr.ds ts

/-- Nodes and letters. -/
def Fr.bulk : Fr → Nat
  | .mk _ _ ds c => In.bulks ds + Cl.bulk c
def Fr.bulks : List Fr → Nat
  | [] => 0
  | t :: ts => 1 + Fr.bulk t + Fr.bulks ts

theorem Fr.d_len (t : Fr) : (Fr.d t).len = 8 := by cases t; simp [Fr.d, D.len, D.lens, Cl.d_len]
theorem Fr.ds_length : ∀ ts : List Fr, (Fr.ds ts).length = ts.length
  | [] => rfl
  | t :: ts => by simp [Fr.ds, Fr.ds_length ts]
theorem Fr.ds_get : ∀ (ts : List Fr) (i : Nat), (Fr.ds ts)[i]? = (ts[i]?).map Fr.d
  | [], i => by simp [Fr.ds]
  | t :: ts, 0 => by simp [Fr.ds]
  | t :: ts, i + 1 => by simp [Fr.ds, Fr.ds_get ts i]
theorem Fr.ds_snoc : ∀ (ts : List Fr) (i : Nat) (t : Fr), ts[i]? = some t → Fr.ds (ts.take (i + 1)) = Fr.ds (ts.take i) ++ [Fr.d t]
  | [], i, t, h => by simp at h
  | u :: ts, 0, t, h => by simp at h; subst h; simp [Fr.ds]
  | u :: ts, i + 1, t, h => by have := Fr.ds_snoc ts i t (by simpa using h); simp [Fr.ds, this]
theorem Fr.ds_append : ∀ (ts us : List Fr), Fr.ds (ts ++ us) = Fr.ds ts ++ Fr.ds us
  | [], us => rfl
  | t :: ts, us => by simp [Fr.ds, Fr.ds_append ts us]
theorem Fr.ds_len : ∀ (ts : List Fr), ∀ d ∈ Fr.ds ts, d.len = 8
  | [], d, h => by simp [Fr.ds] at h
  | t :: ts, d, h => by
    simp only [Fr.ds, List.mem_cons] at h
    rcases h with rfl | h
    · exact Fr.d_len t
    · exact Fr.ds_len ts d h
theorem Fr.bulks_length : ∀ ts : List Fr, ts.length ≤ Fr.bulks ts
  | [] => by simp
  | t :: ts => by have := Fr.bulks_length ts; simp [Fr.bulks]; omega
theorem Fr.bulk_get : ∀ (ts : List Fr) (i : Nat) (t : Fr), ts[i]? = some t → Fr.bulk t < Fr.bulks ts
  | [], i, t, h => by simp at h
  | u :: ts, 0, t, h => by simp at h; subst h; simp [Fr.bulks]; omega
  | u :: ts, i + 1, t, h => by have := Fr.bulk_get ts i t (by simpa using h); simp [Fr.bulks]; omega
theorem Fr.bulks_take : ∀ (ts : List Fr) (i : Nat) (t : Fr), ts[i]? = some t → Fr.bulks (ts.take (i + 1)) = Fr.bulks (ts.take i) + 1 + Fr.bulk t
  | [], i, t, h => by simp at h
  | u :: ts, 0, t, h => by simp at h; subst h; simp [Fr.bulks]
  | u :: ts, i + 1, t, h => by have := Fr.bulks_take ts i t (by simpa using h); simp [Fr.bulks] at *; omega
theorem Fr.bulks_le : ∀ (ts : List Fr) (i : Nat), Fr.bulks (ts.take i) + (ts.length - i) ≤ Fr.bulks ts
  | [], i => by simp
  | u :: ts, 0 => by have := Fr.bulks_length ts; simp [Fr.bulks]; omega
  | u :: ts, i + 1 => by have := Fr.bulks_le ts i; simp [Fr.bulks]; omega
theorem Rd.Fr_inv {w : World} {k : Int} {v : Int} {ds : List Int} {ctk : Int} {ctv : Int} {ctds : List Int} {ctks : List Co} {ces : List Int} {cs : List Value} {F : List Nat} (h : Rd w (Fr.d (Fr.mk k v ds (Cl.mk (Co.mk ctk ctv ctds ctks) ces))) cs F) : ∃ (ads : Option Addr) (cds : Nat) (actds : Option Addr) (cctds : Nat) (actks : Option Addr) (cctks : Nat) (aces : Option Addr) (cces : Nat), cs = [.int .i64 k, .int .i64 v, .slice ads ds.length cds, .int .i64 ctk, .int .i64 ctv, .slice actds ctds.length cctds, .slice actks ctks.length cctks, .slice aces ces.length cces] ∧ ((-9223372036854775808 ≤ k ∧ k ≤ 9223372036854775807) ∧ (-9223372036854775808 ≤ v ∧ v ≤ 9223372036854775807) ∧ RdL w (In.ds ds) (.slice ads ds.length cds) ∧ (((-9223372036854775808 ≤ ctk ∧ ctk ≤ 9223372036854775807) ∧ (-9223372036854775808 ≤ ctv ∧ ctv ≤ 9223372036854775807) ∧ RdL w (In.ds ctds) (.slice actds ctds.length cctds) ∧ RdL w (Co.ds ctks) (.slice actks ctks.length cctks)) ∧ RdL w (In.ds ces) (.slice aces ces.length cces))) := by
  obtain ⟨e1, r1, F1, G1, rfl, rfl, g1, k1⟩ := h.struct_inv.cons_inv
  obtain ⟨rfl, rfl, n1a, n1b⟩ := g1.int_inv
  obtain ⟨e2, r2, F2, G2, rfl, rfl, g2, k2⟩ := k1.cons_inv
  obtain ⟨rfl, rfl, n2a, n2b⟩ := g2.int_inv
  obtain ⟨e3, r3, F3, G3, rfl, rfl, g3, k3⟩ := k2.cons_inv
  obtain ⟨a3, c3, rfl, -⟩ := g3.list_inv
  rw [In.ds_length] at g3
  obtain ⟨e4, r4, F4, G4, rfl, rfl, g4, k4⟩ := k3.cons_inv
  obtain ⟨a4_tds, c4_tds, a4_tks, c4_tks, a4_es, c4_es, rfl, n4⟩ := g4.Cl_inv
  obtain ⟨rfl, rfl⟩ := k4.nil_inv
  refine ⟨a3, c3, a4_tds, c4_tds, a4_tks, c4_tks, a4_es, c4_es, by simp [In.ds_length], ?_⟩
  exact ⟨⟨n1a, n1b⟩, ⟨n2a, n2b⟩, ⟨F3, g3⟩, n4⟩
theorem RdS.fFr {w : World} {k : Int} {v : Int} {ds : List Int} {ctk : Int} {ctv : Int} {ctds : List Int} {ctks : List Co} {ces : List Int} {ads : Option Addr} {cds : Nat} {actds : Option Addr} {cctds : Nat} {actks : Option Addr} {cctks : Nat} {aces : Option Addr} {cces : Nat} (h : RdS w (Fr.d (Fr.mk k v ds (Cl.mk (Co.mk ctk ctv ctds ctks) ces))) [.int .i64 k, .int .i64 v, .slice ads ds.length cds, .int .i64 ctk, .int .i64 ctv, .slice actds ctds.length cctds, .slice actks ctks.length cctks, .slice aces ces.length cces]) : (-9223372036854775808 ≤ k ∧ k ≤ 9223372036854775807) ∧ (-9223372036854775808 ≤ v ∧ v ≤ 9223372036854775807) ∧ RdL w (In.ds ds) (.slice ads ds.length cds) ∧ (((-9223372036854775808 ≤ ctk ∧ ctk ≤ 9223372036854775807) ∧ (-9223372036854775808 ≤ ctv ∧ ctv ≤ 9223372036854775807) ∧ RdL w (In.ds ctds) (.slice actds ctds.length cctds) ∧ RdL w (Co.ds ctks) (.slice actks ctks.length cctks)) ∧ RdL w (In.ds ces) (.slice aces ces.length cces)) := by
  obtain ⟨F, h⟩ := h
  obtain ⟨ads', cds', actds', cctds', actks', cctks', aces', cces', e, hf⟩ := h.Fr_inv
  simp only [List.cons.injEq, Value.slice.injEq, true_and, and_true] at e
  obtain ⟨⟨rfl, rfl⟩, ⟨rfl, rfl⟩, ⟨rfl, rfl⟩, ⟨rfl, rfl⟩⟩ := e
  exact hf

/-- A slice of these: the value, and what each element's cells hold. -/
theorem RdL.eFr {w : World} {ts : List Fr} {v : Value} (h : RdL w (Fr.ds ts) v) : ∃ (a : Option Addr) (cap : Nat), v = .slice a ts.length cap ∧ ts.length ≤ cap ∧ cap ≤ 9223372036854775807 ∧
    (0 < ts.length → ∃ b o, a = some ⟨b, o, none⟩ ∧ b < w.heap.size ∧ ∀ (i : Nat) (k : Int) (v : Int) (ds : List Int) (ctk : Int) (ctv : Int) (ctds : List Int) (ctks : List Co) (ces : List Int), ts[i]? = some (Fr.mk k v ds (Cl.mk (Co.mk ctk ctv ctds ctks) ces)) → ∃ (ads : Option Addr) (cds : Nat) (actds : Option Addr) (cctds : Nat) (actks : Option Addr) (cctks : Nat) (aces : Option Addr) (cces : Nat), 
      w.cell? ⟨b, o + i * 8, none⟩ = some (.int .i64 k) ∧ w.cell? ⟨b, o + i * 8 + 1, none⟩ = some (.int .i64 v) ∧ w.cell? ⟨b, o + i * 8 + 2, none⟩ = some (.slice ads ds.length cds) ∧ w.cell? ⟨b, o + i * 8 + 3, none⟩ = some (.int .i64 ctk) ∧ w.cell? ⟨b, o + i * 8 + 4, none⟩ = some (.int .i64 ctv) ∧ w.cell? ⟨b, o + i * 8 + 5, none⟩ = some (.slice actds ctds.length cctds) ∧ w.cell? ⟨b, o + i * 8 + 6, none⟩ = some (.slice actks ctks.length cctks) ∧ w.cell? ⟨b, o + i * 8 + 7, none⟩ = some (.slice aces ces.length cces) ∧ RdS w (Fr.d (Fr.mk k v ds (Cl.mk (Co.mk ctk ctv ctds ctks) ces))) [.int .i64 k, .int .i64 v, .slice ads ds.length cds, .int .i64 ctk, .int .i64 ctv, .slice actds ctds.length cctds, .slice actks ctks.length cctks, .slice aces ces.length cces]) := by
  obtain ⟨F, h⟩ := h
  obtain ⟨a, cap, h1, h2, h3, h4⟩ := h.list_inv
  rw [Fr.ds_length] at h1 h2
  simp only [List.cons.injEq, and_true] at h1
  refine ⟨a, cap, h1, h2, h3, fun hp => ?_⟩
  rcases h4 with ⟨h4, _⟩ | ⟨b, o, xs, F', _, rfl, rfl, hb, hx, hr⟩
  · have := congrArg List.length h4; rw [Fr.ds_length] at this; simp at this; simp [this] at hp
  · refine ⟨b, o, rfl, hb, fun i k v ds ctk ctv ctds ctks ces hi => ?_⟩
    obtain ⟨cs, Fi, k1, k2, _⟩ := hr.get (Fr.ds_len ts) (i := i) (d := Fr.d (Fr.mk k v ds (Cl.mk (Co.mk ctk ctv ctds ctks) ces))) (by rw [Fr.ds_get, hi]; rfl)
    obtain ⟨ads, cds, actds, cctds, actks, cctks, aces, cces, e, -⟩ := k2.Fr_inv
    subst e
    refine ⟨ads, cds, actds, cctds, actks, cctks, aces, cces, ?_, ?_, ?_, ?_, ?_, ?_, ?_, ?_, ⟨Fi, k2⟩⟩
    · have := hx _ _ (k1 0 (.int .i64 k) rfl); simpa [Nat.add_assoc] using this
    · have := hx _ _ (k1 1 (.int .i64 v) rfl); simpa [Nat.add_assoc] using this
    · have := hx _ _ (k1 2 (.slice ads ds.length cds) rfl); simpa [Nat.add_assoc] using this
    · have := hx _ _ (k1 3 (.int .i64 ctk) rfl); simpa [Nat.add_assoc] using this
    · have := hx _ _ (k1 4 (.int .i64 ctv) rfl); simpa [Nat.add_assoc] using this
    · have := hx _ _ (k1 5 (.slice actds ctds.length cctds) rfl); simpa [Nat.add_assoc] using this
    · have := hx _ _ (k1 6 (.slice actks ctks.length cctks) rfl); simpa [Nat.add_assoc] using this
    · have := hx _ _ (k1 7 (.slice aces ces.length cces) rfl); simpa [Nat.add_assoc] using this

end Go.Proofs.Ytejdbmeoaekhcaa
