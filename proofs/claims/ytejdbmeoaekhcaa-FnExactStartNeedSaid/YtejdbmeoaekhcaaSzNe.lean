/- Walks of the laws' helpers: the size of Need. No condition. -/
import Derived.Test.YtejdbmeoaekhcaaDNe
import Derived.Test.YtejdbmeoaekhcaaSzCl
import Derived.Test.YtejdbmeoaekhcaaSzFr
import Derived.Test.YtejdbmeoaekhcaaSzTh
import Derived.Test.YtejdbmeoaekhcaaSzSc
import Derived.Lib.QuietBelow
namespace Go.Proofs.Ytejdbmeoaekhcaa
open Go.ChangeShapes Go.WideShapes Go.ChangeAt Go.RowKit
open Go.Sort (grow)
set_option linter.unusedVariables false

theorem RdS.subNe_c {w : World} {ctk : Int} {ctv : Int} {ctds : List Int} {ctks : List Co} {ces : List Int} {ss : List Fr} {hs : List Th} {actds : Option Addr} {cctds : Nat} {actks : Option Addr} {cctks : Nat} {aces : Option Addr} {cces : Nat} {ass : Option Addr} {css : Nat} {ahs : Option Addr} {chs : Nat} (h : RdS w (Ne.d (Ne.mk (Cl.mk (Co.mk ctk ctv ctds ctks) ces) ss hs)) [.int .i64 ctk, .int .i64 ctv, .slice actds ctds.length cctds, .slice actks ctks.length cctks, .slice aces ces.length cces, .slice ass ss.length css, .slice ahs hs.length chs]) : RdS w (Cl.d (Cl.mk (Co.mk ctk ctv ctds ctks) ces)) [.int .i64 ctk, .int .i64 ctv, .slice actds ctds.length cctds, .slice actks ctks.length cctks, .slice aces ces.length cces] := by
  obtain ⟨F, h⟩ := h
  obtain ⟨e1, r1, F1, G1, x1, rfl, g1, k1⟩ := h.struct_inv.cons_inv
  have l1 := g1.length
  refine ⟨F1, ?_⟩
  rw [Cl.d_len] at l1
  match e1, l1 with
  | [y1_0, y1_1, y1_2, y1_3, y1_4], _ =>
  simp only [List.cons_append, List.nil_append, List.cons.injEq] at x1
  obtain ⟨rfl, rfl, rfl, rfl, rfl, x1'⟩ := x1
  exact g1
end Go.Proofs.Ytejdbmeoaekhcaa
