/- Walks of the laws' helpers: the size of Frame. No condition. -/
import Derived.Test.YtejdbmeoaekhcaaDFr
import Derived.Test.YtejdbmeoaekhcaaSzCl
import Derived.Test.YtejdbmeoaekhcaaSzSc
import Derived.Lib.QuietBelow
namespace Go.Proofs.Ytejdbmeoaekhcaa
open Go.ChangeShapes Go.WideShapes Go.ChangeAt Go.RowKit
open Go.Sort (grow)
set_option linter.unusedVariables false

theorem RdS.subFr_c {w : World} {k : Int} {v : Int} {ds : List Int} {ctk : Int} {ctv : Int} {ctds : List Int} {ctks : List Co} {ces : List Int} {ads : Option Addr} {cds : Nat} {actds : Option Addr} {cctds : Nat} {actks : Option Addr} {cctks : Nat} {aces : Option Addr} {cces : Nat} (h : RdS w (Fr.d (Fr.mk k v ds (Cl.mk (Co.mk ctk ctv ctds ctks) ces))) [.int .i64 k, .int .i64 v, .slice ads ds.length cds, .int .i64 ctk, .int .i64 ctv, .slice actds ctds.length cctds, .slice actks ctks.length cctks, .slice aces ces.length cces]) : RdS w (Cl.d (Cl.mk (Co.mk ctk ctv ctds ctks) ces)) [.int .i64 ctk, .int .i64 ctv, .slice actds ctds.length cctds, .slice actks ctks.length cctks, .slice aces ces.length cces] := by
  obtain ⟨F, h⟩ := h
  obtain ⟨e1, r1, F1, G1, x1, rfl, g1, k1⟩ := h.struct_inv.cons_inv
  have l1 := g1.length
  obtain ⟨e2, r2, F2, G2, x2, rfl, g2, k2⟩ := k1.cons_inv
  have l2 := g2.length
  obtain ⟨e3, r3, F3, G3, x3, rfl, g3, k3⟩ := k2.cons_inv
  have l3 := g3.length
  obtain ⟨e4, r4, F4, G4, x4, rfl, g4, k4⟩ := k3.cons_inv
  have l4 := g4.length
  refine ⟨F4, ?_⟩
  simp only [D.len] at l1
  simp only [D.len] at l2
  simp only [D.len] at l3
  rw [Cl.d_len] at l4
  match e1, l1 with
  | [y1_0], _ =>
  simp only [List.cons_append, List.nil_append, List.cons.injEq] at x1
  obtain ⟨rfl, x1'⟩ := x1
  subst x1'
  match e2, l2 with
  | [y2_0], _ =>
  simp only [List.cons_append, List.nil_append, List.cons.injEq] at x2
  obtain ⟨rfl, x2'⟩ := x2
  subst x2'
  match e3, l3 with
  | [y3_0], _ =>
  simp only [List.cons_append, List.nil_append, List.cons.injEq] at x3
  obtain ⟨rfl, x3'⟩ := x3
  subst x3'
  match e4, l4 with
  | [y4_0, y4_1, y4_2, y4_3, y4_4], _ =>
  simp only [List.cons_append, List.nil_append, List.cons.injEq] at x4
  obtain ⟨rfl, rfl, rfl, rfl, rfl, x4'⟩ := x4
  exact g4
end Go.Proofs.Ytejdbmeoaekhcaa
