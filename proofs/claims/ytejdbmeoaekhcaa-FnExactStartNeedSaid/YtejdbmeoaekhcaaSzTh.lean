/- Walks of the laws' helpers: the size of Thunk. No condition. -/
import Derived.Test.YtejdbmeoaekhcaaDTh
import Derived.Test.YtejdbmeoaekhcaaSzCl
import Derived.Test.YtejdbmeoaekhcaaSzSc
import Derived.Lib.QuietBelow
namespace Go.Proofs.Ytejdbmeoaekhcaa
open Go.ChangeShapes Go.WideShapes Go.ChangeAt Go.RowKit
open Go.Sort (grow)
set_option linter.unusedVariables false

theorem RdS.subTh_c {w : World} {dn : Bool} {ctk : Int} {ctv : Int} {ctds : List Int} {ctks : List Co} {ces : List Int} {actds : Option Addr} {cctds : Nat} {actks : Option Addr} {cctks : Nat} {aces : Option Addr} {cces : Nat} (h : RdS w (Th.d (Th.mk dn (Cl.mk (Co.mk ctk ctv ctds ctks) ces))) [.bool dn, .int .i64 ctk, .int .i64 ctv, .slice actds ctds.length cctds, .slice actks ctks.length cctks, .slice aces ces.length cces]) : RdS w (Cl.d (Cl.mk (Co.mk ctk ctv ctds ctks) ces)) [.int .i64 ctk, .int .i64 ctv, .slice actds ctds.length cctds, .slice actks ctks.length cctks, .slice aces ces.length cces] := by
  obtain ⟨F, h⟩ := h
  obtain ⟨e1, r1, F1, G1, x1, rfl, g1, k1⟩ := h.struct_inv.cons_inv
  have l1 := g1.length
  obtain ⟨e2, r2, F2, G2, x2, rfl, g2, k2⟩ := k1.cons_inv
  have l2 := g2.length
  refine ⟨F2, ?_⟩
  simp only [D.len] at l1
  rw [Cl.d_len] at l2
  match e1, l1 with
  | [y1_0], _ =>
  simp only [List.cons_append, List.nil_append, List.cons.injEq] at x1
  obtain ⟨rfl, x1'⟩ := x1
  subst x1'
  match e2, l2 with
  | [y2_0, y2_1, y2_2, y2_3, y2_4], _ =>
  simp only [List.cons_append, List.nil_append, List.cons.injEq] at x2
  obtain ⟨rfl, rfl, rfl, rfl, rfl, x2'⟩ := x2
  exact g2
end Go.Proofs.Ytejdbmeoaekhcaa
