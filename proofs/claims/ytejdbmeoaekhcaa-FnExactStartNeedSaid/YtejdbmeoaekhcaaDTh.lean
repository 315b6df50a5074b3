/- Data: Thunk. No condition. -/
import Derived.Test.YtejdbmeoaekhcaaDCl
namespace Go.Proofs.Ytejdbmeoaekhcaa
open Go.RowKit

inductive Th where
  | mk (dn : Bool) (c : Cl)
def Th.d : Th → D
  | .mk dn c => .struct [.bool dn, Cl.d c]
def Th.ds : List Th → List D
  | [] => []
  | t :: ts => Th.d t :: Th.ds ts

/-- Nodes and letters. -/
def Th.bulk : Th → Nat
  | .mk _ c => Cl.bulk c
def Th.bulks : List Th → Nat
  | [] => 0
  | t :: ts => 1 + Th.bulk t + Th.bulks ts

theorem Th.d_len (t : Th) : (Th.d t).len = 6 := by cases t; simp [Th.d, D.len, D.lens, Cl.d_len]
theorem Th.ds_length : ∀ ts : List Th, (Th.ds ts).length = ts.length
  | [] => rfl
  | t :: ts => by simp [Th.ds, Th.ds_length ts]
theorem Th.ds_get : ∀ (ts : List Th) (i : Nat), (Th.ds ts)[i]? = (ts[i]?).map Th.d
  | [], i => by simp [Th.ds]
  | t :: ts, 0 => by simp [Th.ds]
  | t :: ts, i + 1 => by simp [Th.ds, Th.ds_get ts i]
theorem Th.ds_snoc : ∀ (ts : List Th) (i : Nat) (t : Th), ts[i]? = some t → Th.ds (ts.take (i + 1)) = Th.ds (ts.take i) ++ [Th.d t]
  | [], i, t, h => by simp at h
  | u :: ts, 0, t, h => by simp at h; subst h; simp [Th.ds]
  | u :: ts, i + 1, t, h => by have := Th.ds_snoc ts i t (by simpa using h); simp [Th.ds, this]
theorem Th.ds_append : ∀ (ts us : List Th), Th.ds (ts ++ us) = Th.ds ts ++ Th.ds us
  | [], us => rfl
  | t :: ts, us => by simp [Th.ds, Th.ds_append ts us]
theorem Th.ds_len : ∀ (ts : List Th), ∀ d ∈ Th.ds ts, d.len = 6
  | [], d, h => by simp [Th.ds] at h
  | t :: ts, d, h => by
    simp only [Th.ds, List.mem_cons] at h
    rcases h with rfl | h
    · exact Th.d_len t
    · exact Th.ds_len ts d h
theorem Th.bulks_length : ∀ ts : List Th, ts.length ≤ Th.bulks ts
  | [] => by simp
  | t :: ts => by have := Th.bulks_length ts; simp [Th.bulks]; omega
theorem Th.bulk_get : ∀ (ts : List Th) (i : Nat) (t : Th), ts[i]? = some t → Th.bulk t < Th.bulks ts
  | [], i, t, h => by simp at h
  | u :: ts, 0, t, h => by simp at h; subst h; simp [Th.bulks]; omega
  | u :: ts, i + 1, t, h => by have := Th.bulk_get ts i t (by simpa using h); simp [Th.bulks]; omega
theorem Th.bulks_take : ∀ (ts : List Th) (i : Nat) (t : Th), ts[i]? = some t → Th.bulks (ts.take (i + 1)) = Th.bulks (ts.take i) + 1 + Th.bulk t
  | [], i, t, h => by simp at h
  | u :: ts, 0, t, h => by simp at h; subst h; simp [Th.bulks]
  | u :: ts, i + 1, t, h => by have := Th.bulks_take ts i t (by simpa using h); simp [Th.bulks] at *; omega
theorem Th.bulks_le : ∀ (ts : List Th) (i : Nat), Th.bulks (ts.take i) + (ts.length - i) ≤ Th.bulks ts
  | [], i => by simp
  | u :: ts, 0 => by have := Th.bulks_length ts; simp [Th.bulks]; omega
  | u :: ts, i + 1 => by have := Th.bulks_le ts i; simp [Th.bulks]; omega
theorem Rd.Th_inv {w : World} {dn : Bool} {ctk : Int} {ctv : Int} {ctds : List Int} {ctks : List Co} {ces : List Int} {cs : List Value} {F : List Nat} (h : Rd w (Th.d (Th.mk dn (Cl.mk (Co.mk ctk ctv ctds ctks) ces))) cs F) : ∃ (actds : Option Addr) (cctds : Nat) (actks : Option Addr) (cctks : Nat) (aces : Option Addr) (cces : Nat), cs = [.bool dn, .int .i64 ctk, .int .i64 ctv, .slice actds ctds.length cctds, .slice actks ctks.length cctks, .slice aces ces.length cces] ∧ ((((-9223372036854775808 ≤ ctk ∧ ctk ≤ 9223372036854775807) ∧ (-9223372036854775808 ≤ ctv ∧ ctv ≤ 9223372036854775807) ∧ RdL w (In.ds ctds) (.slice actds ctds.length cctds) ∧ RdL w (Co.ds ctks) (.slice actks ctks.length cctks)) ∧ RdL w (In.ds ces) (.slice aces ces.length cces))) := by
  obtain ⟨e1, r1, F1, G1, rfl, rfl, g1, k1⟩ := h.struct_inv.cons_inv
  obtain ⟨rfl, rfl⟩ := g1.bool_inv
  obtain ⟨e2, r2, F2, G2, rfl, rfl, g2, k2⟩ := k1.cons_inv
  obtain ⟨a2_tds, c2_tds, a2_tks, c2_tks, a2_es, c2_es, rfl, n2⟩ := g2.Cl_inv
  obtain ⟨rfl, rfl⟩ := k2.nil_inv
  refine ⟨a2_tds, c2_tds, a2_tks, c2_tks, a2_es, c2_es, by simp, ?_⟩
  exact n2
theorem RdS.fTh {w : World} {dn : Bool} {ctk : Int} {ctv : Int} {ctds : List Int} {ctks : List Co} {ces : List Int} {actds : Option Addr} {cctds : Nat} {actks : Option Addr} {cctks : Nat} {aces : Option Addr} {cces : Nat} (h : RdS w (Th.d (Th.mk dn (Cl.mk (Co.mk ctk ctv ctds ctks) ces))) [.bool dn, .int .i64 ctk, .int .i64 ctv, .slice actds ctds.length cctds, .slice actks ctks.length cctks, .slice aces ces.length cces]) : (((-9223372036854775808 ≤ ctk ∧ ctk ≤ 9223372036854775807) ∧ (-9223372036854775808 ≤ ctv ∧ ctv ≤ 9223372036854775807) ∧ RdL w (In.ds ctds) (.slice actds ctds.length cctds) ∧ RdL w (Co.ds ctks) (.slice actks ctks.length cctks)) ∧ RdL w (In.ds ces) (.slice aces ces.length cces)) := by
  obtain ⟨F, h⟩ := h
  obtain ⟨actds', cctds', actks', cctks', aces', cces', e, hf⟩ := h.Th_inv
  simp only [List.cons.injEq, Value.slice.injEq, true_and, and_true] at e
  obtain ⟨⟨rfl, rfl⟩, ⟨rfl, rfl⟩, ⟨rfl, rfl⟩⟩ := e
  exact hf

/-- A slice of these: the value, and what each element's cells hold. -/
theorem RdL.eTh {w : World} {ts : List Th} {v : Value} (h : RdL w (Th.ds ts) v) : ∃ (a : Option Addr) (cap : Nat), v = .slice a ts.length cap ∧ ts.length ≤ cap ∧ cap ≤ 9223372036854775807 ∧
    (0 < ts.length → ∃ b o, a = some ⟨b, o, none⟩ ∧ b < w.heap.size ∧ ∀ (i : Nat) (dn : Bool) (ctk : Int) (ctv : Int) (ctds : List Int) (ctks : List Co) (ces : List Int), ts[i]? = some (Th.mk dn (Cl.mk (Co.mk ctk ctv ctds ctks) ces)) → ∃ (actds : Option Addr) (cctds : Nat) (actks : Option Addr) (cctks : Nat) (aces : Option Addr) (cces : Nat), 
      w.cell? ⟨b, o + i * 6, none⟩ = some (.bool dn) ∧ w.cell? ⟨b, o + i * 6 + 1, none⟩ = some (.int .i64 ctk) ∧ w.cell? ⟨b, o + i * 6 + 2, none⟩ = some (.int .i64 ctv) ∧ w.cell? ⟨b, o + i * 6 + 3, none⟩ = some (.slice actds ctds.length cctds) ∧ w.cell? ⟨b, o + i * 6 + 4, none⟩ = some (.slice actks ctks.length cctks) ∧ w.cell? ⟨b, o + i * 6 + 5, none⟩ = some (.slice aces ces.length cces) ∧ RdS w (Th.d (Th.mk dn (Cl.mk (Co.mk ctk ctv ctds ctks) ces))) [.bool dn, .int .i64 ctk, .int .i64 ctv, .slice actds ctds.length cctds, .slice actks ctks.length cctks, .slice aces ces.length cces]) := by
  obtain ⟨F, h⟩ := h
  obtain ⟨a, cap, h1, h2, h3, h4⟩ := h.list_inv
  rw [Th.ds_length] at h1 h2
  simp only [List.cons.injEq, and_true] at h1
  refine ⟨a, cap, h1, h2, h3, fun hp => ?_⟩
  rcases h4 with ⟨h4, _⟩ | ⟨b, o, xs, F', _, rfl, rfl, hb, hx, hr⟩
  · have := congrArg List.length h4; rw [Th.ds_length] at this; simp at this; simp [this] at hp
  · refine ⟨b, o, rfl, hb, fun i dn ctk ctv ctds ctks ces hi => ?_⟩
    obtain ⟨cs, Fi, k1, k2, _⟩ := hr.get (Th.ds_len ts) (i := i) (d := Th.d (Th.mk dn (Cl.mk (Co.mk ctk ctv ctds ctks) ces))) (by rw [Th.ds_get, hi]; rfl)
    obtain ⟨actds, cctds, actks, cctks, aces, cces, e, -⟩ := k2.Th_inv
    subst e
    refine ⟨actds, cctds, actks, cctks, aces, cces, ?_, ?_, ?_, ?_, ?_, ?_, ⟨Fi, k2⟩⟩
    · have := hx _ _ (k1 0 (.bool dn) rfl); simpa [Nat.add_assoc] using this
    · have := hx _ _ (k1 1 (.int .i64 ctk) rfl); simpa [Nat.add_assoc] using this
    · have := hx _ _ (k1 2 (.int .i64 ctv) rfl); simpa [Nat.add_assoc] using this
    · have := hx _ _ (k1 3 (.slice actds ctds.length cctds) rfl); simpa [Nat.add_assoc] using this
    · have := hx _ _ (k1 4 (.slice actks ctks.length cctks) rfl); simpa [Nat.add_assoc] using this
    · have := hx _ _ (k1 5 (.slice aces ces.length cces) rfl); simpa [Nat.add_assoc] using this

end Go.Proofs.Ytejdbmeoaekhcaa
