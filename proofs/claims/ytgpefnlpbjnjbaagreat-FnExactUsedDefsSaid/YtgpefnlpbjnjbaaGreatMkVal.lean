/- Walks: marks in terms by value; marks read again. -/
import Derived.Test.YtgpefnlpbjnjbaaGreatMkTm
import Derived.Test.YtgpefnlpbjnjbaaGreatMkVTy
import Derived.Lib.QuietBelow
namespace Go.Proofs.YtgpefnlpbjnjbaaGreat
open Go.ChangeShapes Go.WideShapes Go.ChangeAt Go.RowKit
set_option linter.unusedVariables false

mutual
theorem Tm.num_le : ∀ t : Tm, D.num (Tm.d t) ≤ 5 + 5 * Tm.bulk t
  | .mk k u n (Ty.mk tk tn tks) ns ks => by
    have h_tks := Ty.nums_le tks
    have h_ns := nums_Sr ns
    have g_ns := Sr.bulks_length ns
    have h_ks := Tm.nums_le ks
    simp only [Tm.d, D.num, D.nums, Tm.bulk, Ty.d, Ty.bulk] at *
    omega
theorem Tm.nums_le : ∀ ts : List Tm, D.nums (Tm.ds ts) ≤ 5 * Tm.bulks ts
  | [] => by simp [Tm.ds, D.nums]
  | t :: ts => by have h1 := Tm.num_le t; have h2 := Tm.nums_le ts; simp only [Tm.ds, D.nums, Tm.bulks]; omega
end
theorem Rd.parts_Tm {w : World} {k : Int} {u : Int} {n : ByteArray} {tk : Int} {tn : ByteArray} {tks : List Ty} {ns : List ByteArray} {ks : List Tm} {atks : Option Addr} {ctks : Nat} {ans : Option Addr} {cns : Nat} {aks : Option Addr} {cks : Nat} {F : List Nat} (h : Rd w (Tm.d (Tm.mk k u n (Ty.mk tk tn tks) ns ks)) [.int .i64 k, .int .i64 u, .string n, .int .i64 tk, .string tn, .slice atks tks.length ctks, .slice ans ns.length cns, .slice aks ks.length cks] F) : ∃ P3 P4 P5, F = P3 ++ (P4 ++ P5) ∧ Rd w (Ty.d (Ty.mk tk tn tks)) [.int .i64 tk, .string tn, .slice atks tks.length ctks] P3 ∧ Rd w (.list (Sr.ds ns)) [.slice ans ns.length cns] P4 ∧ Rd w (.list (Tm.ds ks)) [.slice aks ks.length cks] P5 := by
  obtain ⟨e0, r0, F0, G0, x0, rfl, g0, k0⟩ := h.struct_inv.cons_inv
  have l0 := g0.length
  obtain ⟨e1, r1, F1, G1, x1, rfl, g1, k1⟩ := k0.cons_inv
  have l1 := g1.length
  obtain ⟨e2, r2, F2, G2, x2, rfl, g2, k2⟩ := k1.cons_inv
  have l2 := g2.length
  obtain ⟨e3, r3, F3, G3, x3, rfl, g3, k3⟩ := k2.cons_inv
  have l3 := g3.length
  obtain ⟨e4, r4, F4, G4, x4, rfl, g4, k4⟩ := k3.cons_inv
  have l4 := g4.length
  obtain ⟨e5, r5, F5, G5, x5, rfl, g5, k5⟩ := k4.cons_inv
  have l5 := g5.length
  obtain ⟨xr, xg⟩ := RdAll.nil_inv k5
  simp only [D.len] at l0 l1 l2 l4 l5
  rw [Ty.d_len] at l3
  match e0, l0 with
  | [y0_0], _ =>
  simp only [List.cons_append, List.nil_append, List.cons.injEq] at x0
  obtain ⟨rfl, x0'⟩ := x0
  subst x0'
  match e1, l1 with
  | [y1_0], _ =>
  simp only [List.cons_append, List.nil_append, List.cons.injEq] at x1
  obtain ⟨rfl, x1'⟩ := x1
  subst x1'
  match e2, l2 with
  | [y2_0], _ =>
  simp only [List.cons_append, List.nil_append, List.cons.injEq] at x2
  obtain ⟨rfl, x2'⟩ := x2
  subst x2'
  match e3, l3 with
  | [y3_0, y3_1, y3_2], _ =>
  simp only [List.cons_append, List.nil_append, List.cons.injEq] at x3
  obtain ⟨rfl, rfl, rfl, x3'⟩ := x3
  subst x3'
  match e4, l4 with
  | [y4_0], _ =>
  simp only [List.cons_append, List.nil_append, List.cons.injEq] at x4
  obtain ⟨rfl, x4'⟩ := x4
  subst x4'
  match e5, l5 with
  | [y5_0], _ =>
  simp only [List.cons_append, List.nil_append, List.cons.injEq] at x5
  obtain ⟨rfl, x5'⟩ := x5
  subst x5'
  obtain rfl := g0.int_inv.2.1
  obtain rfl := g1.int_inv.2.1
  obtain rfl := g2.str_inv.2.1
  subst xg
  exact ⟨F3, F4, F5, by simp, g3, g4, g5⟩
theorem heldIns (L0 : List Int) (a : Option Addr) (c : Nat) (k : Nat) (w : World) (hk : k + L0.length ≤ 1099511627776) (hr : RdL w (D.marks k (In.ds L0)) (.slice a L0.length c)) :
    Calls Tryz.prog 14 #[.slice a L0.length c, .int .i64 k] w fun e w' => e = .returned (.int .i64 (k + L0.length : Nat)) ∧ w = w' := by
  rw [marks_In] at hr
  obtain ⟨a', c', e, h2, h3, h4⟩ := hr.eIn
  rw [iotaI_length] at e h2 h4
  simp only [Value.slice.injEq, true_and] at e
  obtain ⟨rfl, rfl⟩ := e
  have H4 := hid h4
  have HIO := hid (iotaI_get L0.length k)
  clear hr h4
  go_enter Tryz.func14, Tryz.ntmps14
  go_wp2_with fail
  go_loopw [1, 5] (fun q i wr => ∃ (j m : Nat), j ≤ L0.length ∧ i = .int .i64 j ∧ q = .int .i64 m ∧ Hid (m = k + j) ∧ w = wr) (fun _ i _ => L0.length - (intOf i).toNat)
  case atStart => exact ⟨0, k, by omega, rfl, rfl, rfl, rfl⟩
  case round =>
    obtain ⟨j, m, hj, rfl, rfl, HM, rfl⟩ := hrel
    have hm : m ≤ 1099511627776 := by have := HM.out; omega
    by_cases hlt : j < L0.length
    case neg =>
      have HE := hid (show m = k + L0.length by have := HM.out; omega)
      go_wp2_with fail
      go_ret
      exact ⟨by rw [← HE.out]; rfl, rfl⟩
    case pos =>
      obtain ⟨b, o, rfl, hbl, hall⟩ := H4.out (by omega)
      have q0 := (hall j _ (HIO.out j hlt)).1
      rw [← HM.out] at q0
      clear hall H4
      go_wp2_with fail
      go_roundw
      case rel => exact ⟨j + 1, m + 1, by omega, by go_num, by go_num, hid (by have := HM.out; omega), by first | rfl | trivial⟩
      case measure => simp [intOf]; omega
end Go.Proofs.YtgpefnlpbjnjbaaGreat
