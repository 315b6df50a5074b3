/- Walks: marks in types by value. -/
import Derived.Test.YtgpefnlpbjnjbaaMkTy
import Derived.Lib.QuietBelow
namespace Go.Proofs.Ytgpefnlpbjnjbaa
open Go.ChangeShapes Go.WideShapes Go.ChangeAt Go.RowKit
set_option linter.unusedVariables false

mutual
theorem Ty.num_le : ∀ t : Ty, D.num (Ty.d t) ≤ 2 + 2 * Ty.bulk t
  | .mk k n ks => by
    have h_ks := Ty.nums_le ks
    simp only [Ty.d, D.num, D.nums, Ty.bulk] at *
    omega
theorem Ty.nums_le : ∀ ts : List Ty, D.nums (Ty.ds ts) ≤ 2 * Ty.bulks ts
  | [] => by simp [Ty.ds, D.nums]
  | t :: ts => by have h1 := Ty.num_le t; have h2 := Ty.nums_le ts; simp only [Ty.ds, D.nums, Ty.bulks]; omega
end
theorem Rd.parts_Ty {w : World} {k : Int} {n : ByteArray} {ks : List Ty} {aks : Option Addr} {cks : Nat} {F : List Nat} (h : Rd w (Ty.d (Ty.mk k n ks)) [.int .i64 k, .string n, .slice aks ks.length cks] F) : ∃ P2, F = P2 ∧ Rd w (.list (Ty.ds ks)) [.slice aks ks.length cks] P2 := by
  obtain ⟨e0, r0, F0, G0, x0, rfl, g0, k0⟩ := h.struct_inv.cons_inv
  have l0 := g0.length
  obtain ⟨e1, r1, F1, G1, x1, rfl, g1, k1⟩ := k0.cons_inv
  have l1 := g1.length
  obtain ⟨e2, r2, F2, G2, x2, rfl, g2, k2⟩ := k1.cons_inv
  have l2 := g2.length
  obtain ⟨xr, xg⟩ := RdAll.nil_inv k2
  simp only [D.len] at l0 l1 l2
  match e0, l0 with
  | [y0_0], _ =>
  simp only [List.cons_append, List.nil_append, List.cons.injEq] at x0
  obtain ⟨rfl, x0'⟩ := x0
  subst x0'
  match e1, l1 with
  | [y1_0], _ =>
  simp only [List.cons_append, List.nil_append, List.cons.injEq] at x1
  obtain ⟨rfl, x1'⟩ := x1
  subst x1'
  match e2, l2 with
  | [y2_0], _ =>
  simp only [List.cons_append, List.nil_append, List.cons.injEq] at x2
  obtain ⟨rfl, x2'⟩ := x2
  subst x2'
  obtain rfl := g0.int_inv.2.1
  obtain rfl := g1.str_inv.2.1
  subst xg
  exact ⟨F2, by simp, g2⟩
set_option maxHeartbeats 1000000 in
theorem markTy_in (k1 : Int) (n1 : ByteArray) (ks1 : List Ty) (aks1 : Option Addr) (cks1 : Nat) (F : List Nat) (k : Nat) (w : World) (hM : Ty.bulk (Ty.mk k1 n1 ks1) ≤ 1048576) (hk : k ≤ 549755813888) (hr : Rd w (Ty.d (Ty.mk k1 n1 ks1)) [.int .i64 k1, .string n1, .slice aks1 ks1.length cks1] F) (ho : Owned w 0 F) :
    Calls Try.prog 14 #[.agg #[.int .i64 k1, .string n1, .slice aks1 ks1.length cks1], .int .i64 k] w fun e w' => ∃ r : Nat, e = .returned (.int .i64 r) ∧ r ≤ k + 2 * Ty.bulk (Ty.mk k1 n1 ks1) ∧ Mk F w w' := by
  have hbk : Ty.bulk (Ty.mk k1 n1 ks1) = n1.size + Ty.bulks ks1 := rfl
  have hlt := hr.lt
  obtain ⟨P2, hPF, p2⟩ := hr.parts_Ty
  obtain rfl := hPF.symm
  have hB := (Below.refl w.heap.size w).alloc (Nat.le_refl _) (.cells #[.int .i64 k1, .string n1, .slice aks1 ks1.length cks1] 28)
  have hx0 := (Boxes.nil w).alloc #[.int .i64 k1, .string n1, .slice aks1 ks1.length cks1] 28 (0, 0)
  generalize hw1 : w.alloc (.cells #[.int .i64 k1, .string n1, .slice aks1 ks1.length cks1] 28) = w1 at hB hx0
  have hnd := ho.1
  have ho1 := ho.keep (w' := w1) fun x hx => hB.block x (hlt x hx)
  have q2 := p2.below hB
  have ow2 : Owned w1 0 P2 := ⟨hnd, fun x hx => ho1.2 x (by simp [hx])⟩
  have HX0 := hid hx0
  have HBx := hid (fun x (hx : x ∈ P2) => hlt x hx)
  have HB := hid hB
  have hn2 := Ty.nums_le ks1
  have hg2 := Ty.bulks_length ks1
  have hc2 := markTys ks1 aks1 cks1 P2 k w1 (by omega) (by omega) q2 ow2
  obtain ⟨r2, hr2⟩ : ∃ r, r = k + D.nums (Ty.ds ks1) := ⟨_, rfl⟩
  unfold MkPost at hc2
  rw [← hr2] at hc2
  have HC2 := hid hc2
  clear hc2
  have hr2b : r2 ≤ k + 2 * Ty.bulks ks1 := by omega
  have HRX2 := hid hr2
  clear hr2
  subst hw1
  go_enter Try.func14, Try.ntmps14
  go_wp2_with fail
  refine HC2.out.mono ?_
  rintro e u2 ⟨rfl, _, hm⟩
  have MM := hid hm
  have HX1 := hid (Boxes.mk HX0.out hm (fun p hp hy => by
    have : p.1 = w.heap.size := by simpa using congrArg Prod.fst (List.mem_singleton.1 hp)
    have := HBx.out p.1 (by simp [hy]); omega))
  have HM1 := hid (hm.mono (F := P2) fun x hx => by simp [hx])
  clear hm
  go_wp2_with fail
  go_ret
  exact ⟨r2, rfl, by omega, (Mk.of_below HB.out).trans HM1.out⟩
end Go.Proofs.Ytgpefnlpbjnjbaa
