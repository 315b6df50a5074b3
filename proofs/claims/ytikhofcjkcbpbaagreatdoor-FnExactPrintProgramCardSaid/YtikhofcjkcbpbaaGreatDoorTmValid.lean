/- Walks: whether a term is valid, and its size, in the reference. -/
import Derived.Test.YtikhofcjkcbpbaaGreatDoorTmNodes
namespace Go.Proofs.YtikhofcjkcbpbaaGreatDoor
open Go.ChangeShapes Go.WideShapes Go.ChangeAt Go.RowKit
set_option linter.unusedVariables false

theorem spec_l03Ok (k1 : Int) (u1 : Int) (n1 : ByteArray) (tk1 : Int) (tn1 : ByteArray) (tks1 : List Ty) (ns1 : List ByteArray) (ks1 : List Tm) (atks1 : Option Addr) (ctks1 : Nat) (ans1 : Option Addr) (cns1 : Nat) (aks1 : Option Addr) (cks1 : Nat) (b1 o1 : Nat) (w : World) (hM : Tm.bulk (Tm.mk k1 u1 n1 (Ty.mk tk1 tn1 tks1) ns1 ks1) ≤ 1048576)
    (x0 : w.cell? ⟨b1, o1, none⟩ = some (.int .i64 k1)) (x1 : w.cell? ⟨b1, o1 + 1, none⟩ = some (.int .i64 u1)) (x2 : w.cell? ⟨b1, o1 + 2, none⟩ = some (.string n1)) (x3 : w.cell? ⟨b1, o1 + 3, none⟩ = some (.int .i64 tk1)) (x4 : w.cell? ⟨b1, o1 + 4, none⟩ = some (.string tn1)) (x5 : w.cell? ⟨b1, o1 + 5, none⟩ = some (.slice atks1 tks1.length ctks1)) (x6 : w.cell? ⟨b1, o1 + 6, none⟩ = some (.slice ans1 ns1.length cns1)) (x7 : w.cell? ⟨b1, o1 + 7, none⟩ = some (.slice aks1 ks1.length cks1))
    (hr : RdS w (Tm.d (Tm.mk k1 u1 n1 (Ty.mk tk1 tn1 tks1) ns1 ks1)) [.int .i64 k1, .int .i64 u1, .string n1, .int .i64 tk1, .string tn1, .slice atks1 tks1.length ctks1, .slice ans1 ns1.length cns1, .slice aks1 ks1.length cks1]) :
    Calls Tryz.prog 45 #[.pointer (some ⟨b1, o1, none⟩)] w fun e w' => e = .returned (.bool (Tm.ok (Tm.mk k1 u1 n1 (Ty.mk tk1 tn1 tks1) ns1 ks1))) ∧ Below w.heap.size w w' := by
  have hc := spec_l03Nodes k1 u1 n1 tk1 tn1 tks1 ns1 ks1 atks1 ctks1 ans1 cns1 aks1 cks1 b1 o1 false 24 160 w hM (by omega) (by omega) (by omega) (by omega) x0 x1 x2 x3 x4 x5 x6 x7 hr
  have HO := hid (Tm.nodes_ok (Tm.mk k1 u1 n1 (Ty.mk tk1 tn1 tks1) ns1 ks1))
  generalize Tm.nodes false (Tm.mk k1 u1 n1 (Ty.mk tk1 tn1 tks1) ns1 ks1) 24 160 = n at hc HO
  have HC := hid hc
  clear hc hr x0 x1 x2 x3 x4 x5 x6 x7
  go_enter Tryz.func45, Tryz.ntmps45
  go_wp2_with fail
  refine HC.out.mono ?_
  rintro e w1 ⟨rfl, hb⟩
  go_wp2_with fail
  go_ret
  exact ⟨ret_bool HO.out, hb⟩

theorem spec_ValidTerm (k1 : Int) (u1 : Int) (n1 : ByteArray) (tk1 : Int) (tn1 : ByteArray) (tks1 : List Ty) (ns1 : List ByteArray) (ks1 : List Tm) (atks1 : Option Addr) (ctks1 : Nat) (ans1 : Option Addr) (cns1 : Nat) (aks1 : Option Addr) (cks1 : Nat) (w : World) (hM : Tm.bulk (Tm.mk k1 u1 n1 (Ty.mk tk1 tn1 tks1) ns1 ks1) ≤ 1048576)
    (hr : RdS w (Tm.d (Tm.mk k1 u1 n1 (Ty.mk tk1 tn1 tks1) ns1 ks1)) [.int .i64 k1, .int .i64 u1, .string n1, .int .i64 tk1, .string tn1, .slice atks1 tks1.length ctks1, .slice ans1 ns1.length cns1, .slice aks1 ks1.length cks1]) :
    Calls Tryz.prog 18 #[.agg #[.int .i64 k1, .int .i64 u1, .string n1, .int .i64 tk1, .string tn1, .slice atks1 tks1.length ctks1, .slice ans1 ns1.length cns1, .slice aks1 ks1.length cks1]] w fun e w' => e = .returned (.bool (Tm.ok (Tm.mk k1 u1 n1 (Ty.mk tk1 tn1 tks1) ns1 ks1))) ∧ Below w.heap.size w w' := by
  have HX0 := hid ((Boxes.nil w).alloc #[.int .i64 k1, .int .i64 u1, .string n1, .int .i64 tk1, .string tn1, .slice atks1 tks1.length ctks1, .slice ans1 ns1.length cns1, .slice aks1 ks1.length cks1] 36 (0, 0))
  have hB := (Below.refl w.heap.size w).alloc (Nat.le_refl _) (.cells #[.int .i64 k1, .int .i64 u1, .string n1, .int .i64 tk1, .string tn1, .slice atks1 tks1.length ctks1, .slice ans1 ns1.length cns1, .slice aks1 ks1.length cks1] 36)
  have HC := hid (spec_l03Ok k1 u1 n1 tk1 tn1 tks1 ns1 ks1 atks1 ctks1 ans1 cns1 aks1 cks1 w.heap.size 0 _ hM (HX0.out.at 0 0 rfl rfl) (HX0.out.at 0 1 rfl rfl) (HX0.out.at 0 2 rfl rfl) (HX0.out.at 0 3 rfl rfl) (HX0.out.at 0 4 rfl rfl) (HX0.out.at 0 5 rfl rfl) (HX0.out.at 0 6 rfl rfl) (HX0.out.at 0 7 rfl rfl) (hr.below hB))
  have HB := hid hB
  clear hr hB HX0
  go_enter Tryz.func18, Tryz.ntmps18
  go_wp2_with fail
  refine HC.out.mono ?_
  rintro e w1 ⟨rfl, hb⟩
  have HB1 := hid (HB.out.trans (hb.mono HB.out.size))
  clear hb
  go_wp2_with fail
  go_ret
  exact ⟨rfl, HB1.out⟩

def tmSize (t : Tm) : Int := if Tm.ok t then (Tm.cnt t : Int) else 0
end Go.Proofs.YtikhofcjkcbpbaaGreatDoor
