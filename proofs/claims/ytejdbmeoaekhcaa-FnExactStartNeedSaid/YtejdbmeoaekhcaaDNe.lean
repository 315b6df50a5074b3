/- Data: Need. No condition. -/
import Derived.Test.YtejdbmeoaekhcaaDCl
import Derived.Test.YtejdbmeoaekhcaaDFr
import Derived.Test.YtejdbmeoaekhcaaDTh
namespace Go.Proofs.Ytejdbmeoaekhcaa
open Go.RowKit

inductive Ne where
  | mk (c : Cl) (ss : List Fr) (hs : List Th)
def Ne.d : Ne → D
  | .mk c ss hs => .struct [Cl.d c, .list (Fr.ds ss), .list (Th.ds hs)]
def Ne.ds : List Ne → List D
  | [] => []
  | t :: ts => Ne.d t :: Ne.ds ts

/-- Nodes and letters. -/
def Ne.bulk : Ne → Nat
  | .mk c ss hs => Cl.bulk c + Fr.bulks ss + Th.bulks hs
def Ne.bulks : List Ne → Nat
  | [] => 0
  | t :: ts => 1 + Ne.bulk t + Ne.bulks ts

theorem Ne.d_len (t : Ne) : (Ne.d t).len = 7 := by cases t; simp [Ne.d, D.len, D.lens, Cl.d_len]
theorem Ne.ds_length : ∀ ts : List Ne, (Ne.ds ts).length = ts.length
  | [] => rfl
  | t :: ts => by simp [Ne.ds, Ne.ds_length ts]
theorem Ne.ds_get : ∀ (ts : List Ne) (i : Nat), (Ne.ds ts)[i]? = (ts[i]?).map Ne.d
  | [], i => by simp [Ne.ds]
  | t :: ts, 0 => by simp [Ne.ds]
  | t :: ts, i + 1 => by simp [Ne.ds, Ne.ds_get ts i]
theorem Ne.ds_snoc : ∀ (ts : List Ne) (i : Nat) (t : Ne), ts[i]? = some t → Ne.ds (ts.take (i + 1)) = Ne.ds (ts.take i) ++ [Ne.d t]
  | [], i, t, h => by simp at h
  | u :: ts, 0, t, h => by simp at h; subst h; simp [Ne.ds]
  | u :: ts, i + 1, t, h => by have := Ne.ds_snoc ts i t (by simpa using h); simp [Ne.ds, this]
theorem Ne.ds_append : ∀ (ts us : List Ne), Ne.ds (ts ++ us) = Ne.ds ts ++ Ne.ds us
  | [], us => rfl
  | t :: ts, us => by simp [Ne.ds, Ne.ds_append ts us]
theorem Ne.ds_len : ∀ (ts : List Ne), ∀ d ∈ Ne.ds ts, d.len = 7
  | [], d, h => by simp [Ne.ds] at h
  | t :: ts, d, h => by
    simp only [Ne.ds, List.mem_cons] at h
    rcases h with rfl | h
    · exact Ne.d_len t
    · exact Ne.ds_len ts d h
theorem Ne.bulks_length : ∀ ts : List Ne, ts.length ≤ Ne.bulks ts
  | [] => by simp
  | t :: ts => by have := Ne.bulks_length ts; simp [Ne.bulks]; omega
theorem Ne.bulk_get : ∀ (ts : List Ne) (i : Nat) (t : Ne), ts[i]? = some t → Ne.bulk t < Ne.bulks ts
  | [], i, t, h => by simp at h
  | u :: ts, 0, t, h => by simp at h; subst h; simp [Ne.bulks]; omega
  | u :: ts, i + 1, t, h => by have := Ne.bulk_get ts i t (by simpa using h); simp [Ne.bulks]; omega
theorem Ne.bulks_take : ∀ (ts : List Ne) (i : Nat) (t : Ne), ts[i]? = some t → Ne.bulks (ts.take (i + 1)) = Ne.bulks (ts.take i) + 1 + Ne.bulk t
  | [], i, t, h => by simp at h
  | u :: ts, 0, t, h => by simp at h; subst h; simp [Ne.bulks]
  | u :: ts, i + 1, t, h => by have := Ne.bulks_take ts i t (by simpa using h); simp [Ne.bulks] at *; omega
theorem Ne.bulks_le : ∀ (ts : List Ne) (i : Nat), Ne.bulks (ts.take i) + (ts.length - i) ≤ Ne.bulks ts
  | [], i => by simp
  | u :: ts, 0 => by have := Ne.bulks_length ts; simp [Ne.bulks]; omega
  | u :: ts, i + 1 => by have := Ne.bulks_le ts i; simp [Ne.bulks]; omega
theorem Rd.Ne_inv {w : World} {ctk : Int} {ctv : Int} {ctds : List Int} {ctks : List Co} {ces : List Int} {ss : List Fr} {hs : List Th} {cs : List Value} {F : List Nat} (h : Rd w (Ne.d (Ne.mk (Cl.mk (Co.mk ctk ctv ctds ctks) ces) ss hs)) cs F) : ∃ (actds : Option Addr) (cctds : Nat) (actks : Option Addr) (cctks : Nat) (aces : Option Addr) (cces : Nat) (ass : Option Addr) (css : Nat) (ahs : Option Addr) (chs : Nat), cs = [.int .i64 ctk, .int .i64 ctv, .slice actds ctds.length cctds, .slice actks ctks.length cctks, .slice aces ces.length cces, .slice ass ss.length css, .slice ahs hs.length chs] ∧ ((((-9223372036854775808 ≤ ctk ∧ ctk ≤ 9223372036854775807) ∧ (-9223372036854775808 ≤ ctv ∧ ctv ≤ 9223372036854775807) ∧ RdL w (In.ds ctds) (.slice actds ctds.length cctds) ∧ RdL w (Co.ds ctks) (.slice actks ctks.length cctks)) ∧ RdL w (In.ds ces) (.slice aces ces.length cces)) ∧ RdL w (Fr.ds ss) (.slice ass ss.length css) ∧ RdL w (Th.ds hs) (.slice ahs hs.length chs)) := by
  obtain ⟨e1, r1, F1, G1, rfl, rfl, g1, k1⟩ := h.struct_inv.cons_inv
  obtain ⟨a1_tds, c1_tds, a1_tks, c1_tks, a1_es, c1_es, rfl, n1⟩ := g1.Cl_inv
  obtain ⟨e2, r2, F2, G2, rfl, rfl, g2, k2⟩ := k1.cons_inv
  obtain ⟨a2, c2, rfl, -⟩ := g2.list_inv
  rw [Fr.ds_length] at g2
  obtain ⟨e3, r3, F3, G3, rfl, rfl, g3, k3⟩ := k2.cons_inv
  obtain ⟨a3, c3, rfl, -⟩ := g3.list_inv
  rw [Th.ds_length] at g3
  obtain ⟨rfl, rfl⟩ := k3.nil_inv
  refine ⟨a1_tds, c1_tds, a1_tks, c1_tks, a1_es, c1_es, a2, c2, a3, c3, by simp [Fr.ds_length, Th.ds_length], ?_⟩
  exact ⟨n1, ⟨F2, g2⟩, ⟨F3, g3⟩⟩
theorem RdS.fNe {w : World} {ctk : Int} {ctv : Int} {ctds : List Int} {ctks : List Co} {ces : List Int} {ss : List Fr} {hs : List Th} {actds : Option Addr} {cctds : Nat} {actks : Option Addr} {cctks : Nat} {aces : Option Addr} {cces : Nat} {ass : Option Addr} {css : Nat} {ahs : Option Addr} {chs : Nat} (h : RdS w (Ne.d (Ne.mk (Cl.mk (Co.mk ctk ctv ctds ctks) ces) ss hs)) [.int .i64 ctk, .int .i64 ctv, .slice actds ctds.length cctds, .slice actks ctks.length cctks, .slice aces ces.length cces, .slice ass ss.length css, .slice ahs hs.length chs]) : (((-9223372036854775808 ≤ ctk ∧ ctk ≤ 9223372036854775807) ∧ (-9223372036854775808 ≤ ctv ∧ ctv ≤ 9223372036854775807) ∧ RdL w (In.ds ctds) (.slice actds ctds.length cctds) ∧ RdL w (Co.ds ctks) (.slice actks ctks.length cctks)) ∧ RdL w (In.ds ces) (.slice aces ces.length cces)) ∧ RdL w (Fr.ds ss) (.slice ass ss.length css) ∧ RdL w (Th.ds hs) (.slice ahs hs.length chs) := by
  obtain ⟨F, h⟩ := h
  obtain ⟨actds', cctds', actks', cctks', aces', cces', ass', css', ahs', chs', e, hf⟩ := h.Ne_inv
  simp only [List.cons.injEq, Value.slice.injEq, true_and, and_true] at e
  obtain ⟨⟨rfl, rfl⟩, ⟨rfl, rfl⟩, ⟨rfl, rfl⟩, ⟨rfl, rfl⟩, ⟨rfl, rfl⟩⟩ := e
  exact hf

/-- A slice of these: the value, and what each element's cells hold. -/
theorem RdL.eNe {w : World} {ts : List Ne} {v : Value} (h : RdL w (Ne.ds ts) v) : ∃ (a : Option Addr) (cap : Nat), v = .slice a ts.length cap ∧ ts.length ≤ cap ∧ cap ≤ 9223372036854775807 ∧
    (0 < ts.length → ∃ b o, a = some ⟨b, o, none⟩ ∧ b < w.heap.size ∧ ∀ (i : Nat) (ctk : Int) (ctv : Int) (ctds : List Int) (ctks : List Co) (ces : List Int) (ss : List Fr) (hs : List Th), ts[i]? = some (Ne.mk (Cl.mk (Co.mk ctk ctv ctds ctks) ces) ss hs) → ∃ (actds : Option Addr) (cctds : Nat) (actks : Option Addr) (cctks : Nat) (aces : Option Addr) (cces : Nat) (ass : Option Addr) (css : Nat) (ahs : Option Addr) (chs : Nat), 
      w.cell? ⟨b, o + i * 7, none⟩ = some (.int .i64 ctk) ∧ w.cell? ⟨b, o + i * 7 + 1, none⟩ = some (.int .i64 ctv) ∧ w.cell? ⟨b, o + i * 7 + 2, none⟩ = some (.slice actds ctds.length cctds) ∧ w.cell? ⟨b, o + i * 7 + 3, none⟩ = some (.slice actks ctks.length cctks) ∧ w.cell? ⟨b, o + i * 7 + 4, none⟩ = some (.slice aces ces.length cces) ∧ w.cell? ⟨b, o + i * 7 + 5, none⟩ = some (.slice ass ss.length css) ∧ w.cell? ⟨b, o + i * 7 + 6, none⟩ = some (.slice ahs hs.length chs) ∧ RdS w (Ne.d (Ne.mk (Cl.mk (Co.mk ctk ctv ctds ctks) ces) ss hs)) [.int .i64 ctk, .int .i64 ctv, .slice actds ctds.length cctds, .slice actks ctks.length cctks, .slice aces ces.length cces, .slice ass ss.length css, .slice ahs hs.length chs]) := by
  obtain ⟨F, h⟩ := h
  obtain ⟨a, cap, h1, h2, h3, h4⟩ := h.list_inv
  rw [Ne.ds_length] at h1 h2
  simp only [List.cons.injEq, and_true] at h1
  refine ⟨a, cap, h1, h2, h3, fun hp => ?_⟩
  rcases h4 with ⟨h4, _⟩ | ⟨b, o, xs, F', _, rfl, rfl, hb, hx, hr⟩
  · have := congrArg List.length h4; rw [Ne.ds_length] at this; simp at this; simp [this] at hp
  · refine ⟨b, o, rfl, hb, fun i ctk ctv ctds ctks ces ss hs hi => ?_⟩
    obtain ⟨cs, Fi, k1, k2, _⟩ := hr.get (Ne.ds_len ts) (i := i) (d := Ne.d (Ne.mk (Cl.mk (Co.mk ctk ctv ctds ctks) ces) ss hs)) (by rw [Ne.ds_get, hi]; rfl)
    obtain ⟨actds, cctds, actks, cctks, aces, cces, ass, css, ahs, chs, e, -⟩ := k2.Ne_inv
    subst e
    refine ⟨actds, cctds, actks, cctks, aces, cces, ass, css, ahs, chs, ?_, ?_, ?_, ?_, ?_, ?_, ?_, ⟨Fi, k2⟩⟩
    · have := hx _ _ (k1 0 (.int .i64 ctk) rfl); simpa [Nat.add_assoc] using this
    · have := hx _ _ (k1 1 (.int .i64 ctv) rfl); simpa [Nat.add_assoc] using this
    · have := hx _ _ (k1 2 (.slice actds ctds.length cctds) rfl); simpa [Nat.add_assoc] using this
    · have := hx _ _ (k1 3 (.slice actks ctks.length cctks) rfl); simpa [Nat.add_assoc] using this
    · have := hx _ _ (k1 4 (.slice aces ces.length cces) rfl); simpa [Nat.add_assoc] using this
    · have := hx _ _ (k1 5 (.slice ass ss.length css) rfl); simpa [Nat.add_assoc] using this
    · have := hx _ _ (k1 6 (.slice ahs hs.length chs) rfl); simpa [Nat.add_assoc] using this

end Go.Proofs.Ytejdbmeoaekhcaa
