/- Walks of the laws' helpers: the size of Closure. No condition. -/
import Derived.Test.YtejdbmeoaekhcaaDCl
import Derived.Test.YtejdbmeoaekhcaaSzCo
import Derived.Test.YtejdbmeoaekhcaaSzSc
import Derived.Lib.QuietBelow
namespace Go.Proofs.Ytejdbmeoaekhcaa
open Go.ChangeShapes Go.WideShapes Go.ChangeAt Go.RowKit
open Go.Sort (grow)
set_option linter.unusedVariables false

theorem RdS.subCl_t {w : World} {tk : Int} {tv : Int} {tds : List Int} {tks : List Co} {es : List Int} {atds : Option Addr} {ctds : Nat} {atks : Option Addr} {ctks : Nat} {aes : Option Addr} {ces : Nat} (h : RdS w (Cl.d (Cl.mk (Co.mk tk tv tds tks) es)) [.int .i64 tk, .int .i64 tv, .slice atds tds.length ctds, .slice atks tks.length ctks, .slice aes es.length ces]) : RdS w (Co.d (Co.mk tk tv tds tks)) [.int .i64 tk, .int .i64 tv, .slice atds tds.length ctds, .slice atks tks.length ctks] := by
  obtain ⟨F, h⟩ := h
  obtain ⟨e1, r1, F1, G1, x1, rfl, g1, k1⟩ := h.struct_inv.cons_inv
  have l1 := g1.length
  refine ⟨F1, ?_⟩
  rw [Co.d_len] at l1
  match e1, l1 with
  | [y1_0, y1_1, y1_2, y1_3], _ =>
  simp only [List.cons_append, List.nil_append, List.cons.injEq] at x1
  obtain ⟨rfl, rfl, rfl, rfl, x1'⟩ := x1
  exact g1
end Go.Proofs.Ytejdbmeoaekhcaa
