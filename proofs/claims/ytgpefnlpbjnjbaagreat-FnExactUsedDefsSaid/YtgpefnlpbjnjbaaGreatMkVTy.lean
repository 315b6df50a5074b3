/- Walks: marks in types by value. -/
import Derived.Test.YtgpefnlpbjnjbaaGreatMkTy
import Derived.Lib.QuietBelow
namespace Go.Proofs.YtgpefnlpbjnjbaaGreat
open Go.ChangeShapes Go.WideShapes Go.ChangeAt Go.RowKit
set_option linter.unusedVariables false

mutual
theorem Ty.num_le : ∀ t : Ty, D.num (Ty.d t) ≤ 2 + 2 * Ty.bulk t
  | .mk k n ks => by
    have h_ks := Ty.nums_le ks
    simp only [Ty.d, D.num, D.nums, Ty.bulk] at *
    omega
theorem Ty.nums_le : ∀ ts : List Ty, D.nums (Ty.ds ts) ≤ 2 * Ty.bulks ts
  | [] => by simp [Ty.ds, D.nums]
  | t :: ts => by have h1 := Ty.num_le t; have h2 := Ty.nums_le ts; simp only [Ty.ds, D.nums, Ty.bulks]; omega
end
theorem Rd.parts_Ty {w : World} {k : Int} {n : ByteArray} {ks : List Ty} {aks : Option Addr} {cks : Nat} {F : List Nat} (h : Rd w (Ty.d (Ty.mk k n ks)) [.int .i64 k, .string n, .slice aks ks.length cks] F) : ∃ P2, F = P2 ∧ Rd w (.list (Ty.ds ks)) [.slice aks ks.length cks] P2 := by
  obtain ⟨e0, r0, F0, G0, x0, rfl, g0, k0⟩ := h.struct_inv.cons_inv
  have l0 := g0.length
  obtain ⟨e1, r1, F1, G1, x1, rfl, g1, k1⟩ := k0.cons_inv
  have l1 := g1.length
  obtain ⟨e2, r2, F2, G2, x2, rfl, g2, k2⟩ := k1.cons_inv
  have l2 := g2.length
  obtain ⟨xr, xg⟩ := RdAll.nil_inv k2
  simp only [D.len] at l0 l1 l2
  match e0, l0 with
  | [y0_0], _ =>
  simp only [List.cons_append, List.nil_append, List.cons.injEq] at x0
  obtain ⟨rfl, x0'⟩ := x0
  subst x0'
  match e1, l1 with
  | [y1_0], _ =>
  simp only [List.cons_append, List.nil_append, List.cons.injEq] at x1
  obtain ⟨rfl, x1'⟩ := x1
  subst x1'
  match e2, l2 with
  | [y2_0], _ =>
  simp only [List.cons_append, List.nil_append, List.cons.injEq] at x2
  obtain ⟨rfl, x2'⟩ := x2
  subst x2'
  obtain rfl := g0.int_inv.2.1
  obtain rfl := g1.str_inv.2.1
  subst xg
  exact ⟨F2, by simp, g2⟩
end Go.Proofs.YtgpefnlpbjnjbaaGreat
