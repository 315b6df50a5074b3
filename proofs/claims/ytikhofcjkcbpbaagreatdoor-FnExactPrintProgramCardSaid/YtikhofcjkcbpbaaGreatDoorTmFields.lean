/- Walks: the fields of a term's node, in the reference. -/
import Derived.Test.YtikhofcjkcbpbaaGreatDoorTmNames
import Derived.Test.YtikhofcjkcbpbaaGreatDoorTyOk
import Derived.Test.YtikhofcjkcbpbaaGreatDoorSzTm
namespace Go.Proofs.YtikhofcjkcbpbaaGreatDoor
open Go.ChangeShapes Go.WideShapes Go.ChangeAt Go.RowKit Go.BigFrame
open Go.Sort (grow)
set_option linter.unusedVariables false

set_option maxHeartbeats 2000000 in
theorem spec_fields_1 (u1 : Int) (n1 : ByteArray) (tk1 : Int) (tn1 : ByteArray) (tks1 : List Ty) (ns1 : List ByteArray) (ks1 : List Tm) (atks1 : Option Addr) (ctks1 : Nat) (ans1 : Option Addr) (cns1 : Nat) (aks1 : Option Addr) (cks1 : Nat) (b o : Nat) (w : World) (x0 : w.cell? ⟨b, o, none⟩ = some (.int .i64 1)) (x1 : w.cell? ⟨b, o + 1, none⟩ = some (.int .i64 u1)) (x2 : w.cell? ⟨b, o + 2, none⟩ = some (.string n1)) (x3 : w.cell? ⟨b, o + 3, none⟩ = some (.int .i64 tk1)) (x4 : w.cell? ⟨b, o + 4, none⟩ = some (.string tn1)) (x5 : w.cell? ⟨b, o + 5, none⟩ = some (.slice atks1 tks1.length ctks1)) (x6 : w.cell? ⟨b, o + 6, none⟩ = some (.slice ans1 ns1.length cns1)) (x7 : w.cell? ⟨b, o + 7, none⟩ = some (.slice aks1 ks1.length cks1)) (hM : Tm.bulk (Tm.mk 1 u1 n1 (Ty.mk tk1 tn1 tks1) ns1 ks1) ≤ 1048576) (hr : RdS w (Tm.d (Tm.mk 1 u1 n1 (Ty.mk tk1 tn1 tks1) ns1 ks1)) [.int .i64 1, .int .i64 u1, .string n1, .int .i64 tk1, .string tn1, .slice atks1 tks1.length ctks1, .slice ans1 ns1.length cns1, .slice aks1 ks1.length cks1]) :
    Calls Tryz.prog 100 #[.pointer (some ⟨b, o, none⟩)] w fun e w' => e = .returned (.bool (tmFields 1 u1 n1 (Ty.mk tk1 tn1 tks1) ns1)) ∧ Below w.heap.size w w' := by
  have HE := hid (show tmFields 1 u1 n1 (Ty.mk tk1 tn1 tks1) ns1 = (isLowerB n1 && (tyNone (Ty.mk tk1 tn1 tks1) && (decide (ns1.length = 0) && decide (u1 = 0)))) from rfl)
  have XL := hid (World.block_lt_of_cell? _ _ x0)
  have X0 := hid x0
  have X1 := hid x1
  have X2 := hid x2
  have X3 := hid x3
  have X4 := hid x4
  have X5 := hid x5
  have X6 := hid x6
  have X7 := hid x7
  have hlen : ns1.length ≤ 1048576 := by have := Sr.bulks_length ns1; simp only [Tm.bulk] at hM; omega
  have hbt : Ty.bulk (Ty.mk tk1 tn1 tks1) ≤ 1048576 := by simp only [Tm.bulk] at hM; omega
  have hn := fun W (hW : Below w.heap.size w W) => spec_IsLower n1 W
  have ht := fun W (hW : Below w.heap.size w W) => spec_l03NoType tk1 tn1 tks1 atks1 ctks1 W
  have HB0 := hid (Below.refl w.heap.size w)
  clear hr hM hbt x0 x1 x2 x3 x4 x5 x6 x7
  by_cases t1 : isLowerB n1 = true
  case neg =>
    replace t1 := (Bool.not_eq_true _).mp t1
    rw [t1] at hn
    have HN := hid hn
    clear hn ht
    have HF := hid (show tmFields 1 u1 n1 (Ty.mk tk1 tn1 tks1) ns1 = false by rw [HE.out]; rw [t1]; rfl)
    clear HE t1
    have y0 := (HB0.out.cell (p := ⟨b, o, none⟩) XL.out).trans X0.out
    have y1 := (HB0.out.cell (p := ⟨b, o + 1, none⟩) XL.out).trans X1.out
    have y2 := (HB0.out.cell (p := ⟨b, o + 2, none⟩) XL.out).trans X2.out
    have y3 := (HB0.out.cell (p := ⟨b, o + 3, none⟩) XL.out).trans X3.out
    have y4 := (HB0.out.cell (p := ⟨b, o + 4, none⟩) XL.out).trans X4.out
    have y5 := (HB0.out.cell (p := ⟨b, o + 5, none⟩) XL.out).trans X5.out
    have y6 := (HB0.out.cell (p := ⟨b, o + 6, none⟩) XL.out).trans X6.out
    have y7 := (HB0.out.cell (p := ⟨b, o + 7, none⟩) XL.out).trans X7.out
    go_enter Tryz.func100, Tryz.ntmps100
    go_wp2_with fail
    refine (HN.out _ HB0.out).mono ?_
    rintro e w1 ⟨rfl, hb⟩
    have HB1 := hid (HB0.out.trans (hb.mono HB0.out.size))
    clear hb y0 y1 y2 y3 y4 y5 y6 y7
    have y0 := (HB1.out.cell (p := ⟨b, o, none⟩) XL.out).trans X0.out
    have y1 := (HB1.out.cell (p := ⟨b, o + 1, none⟩) XL.out).trans X1.out
    have y2 := (HB1.out.cell (p := ⟨b, o + 2, none⟩) XL.out).trans X2.out
    have y3 := (HB1.out.cell (p := ⟨b, o + 3, none⟩) XL.out).trans X3.out
    have y4 := (HB1.out.cell (p := ⟨b, o + 4, none⟩) XL.out).trans X4.out
    have y5 := (HB1.out.cell (p := ⟨b, o + 5, none⟩) XL.out).trans X5.out
    have y6 := (HB1.out.cell (p := ⟨b, o + 6, none⟩) XL.out).trans X6.out
    have y7 := (HB1.out.cell (p := ⟨b, o + 7, none⟩) XL.out).trans X7.out
    go_wp2_with fail
    go_ret
    exact ⟨ret_bool HF.out.symm, HB1.out⟩
  case pos =>
  rw [t1] at hn
  have HN := hid hn
  clear hn
  by_cases t2 : tyNone (Ty.mk tk1 tn1 tks1) = true
  case neg =>
    replace t2 := (Bool.not_eq_true _).mp t2
    rw [t2] at ht
    have HT := hid ht
    clear ht
    have HF := hid (show tmFields 1 u1 n1 (Ty.mk tk1 tn1 tks1) ns1 = false by rw [HE.out]; rw [t1, t2]; rfl)
    clear HE t1 t2
    have y0 := (HB0.out.cell (p := ⟨b, o, none⟩) XL.out).trans X0.out
    have y1 := (HB0.out.cell (p := ⟨b, o + 1, none⟩) XL.out).trans X1.out
    have y2 := (HB0.out.cell (p := ⟨b, o + 2, none⟩) XL.out).trans X2.out
    have y3 := (HB0.out.cell (p := ⟨b, o + 3, none⟩) XL.out).trans X3.out
    have y4 := (HB0.out.cell (p := ⟨b, o + 4, none⟩) XL.out).trans X4.out
    have y5 := (HB0.out.cell (p := ⟨b, o + 5, none⟩) XL.out).trans X5.out
    have y6 := (HB0.out.cell (p := ⟨b, o + 6, none⟩) XL.out).trans X6.out
    have y7 := (HB0.out.cell (p := ⟨b, o + 7, none⟩) XL.out).trans X7.out
    go_enter Tryz.func100, Tryz.ntmps100
    go_wp2_with fail
    refine (HN.out _ HB0.out).mono ?_
    rintro e w1 ⟨rfl, hb⟩
    have HB1 := hid (HB0.out.trans (hb.mono HB0.out.size))
    clear hb y0 y1 y2 y3 y4 y5 y6 y7
    have y0 := (HB1.out.cell (p := ⟨b, o, none⟩) XL.out).trans X0.out
    have y1 := (HB1.out.cell (p := ⟨b, o + 1, none⟩) XL.out).trans X1.out
    have y2 := (HB1.out.cell (p := ⟨b, o + 2, none⟩) XL.out).trans X2.out
    have y3 := (HB1.out.cell (p := ⟨b, o + 3, none⟩) XL.out).trans X3.out
    have y4 := (HB1.out.cell (p := ⟨b, o + 4, none⟩) XL.out).trans X4.out
    have y5 := (HB1.out.cell (p := ⟨b, o + 5, none⟩) XL.out).trans X5.out
    have y6 := (HB1.out.cell (p := ⟨b, o + 6, none⟩) XL.out).trans X6.out
    have y7 := (HB1.out.cell (p := ⟨b, o + 7, none⟩) XL.out).trans X7.out
    go_wp2_with fail
    refine (HT.out _ HB1.out).mono ?_
    rintro e w2 ⟨rfl, hb⟩
    have HB2 := hid (HB1.out.trans (hb.mono HB1.out.size))
    clear hb y0 y1 y2 y3 y4 y5 y6 y7
    have y0 := (HB2.out.cell (p := ⟨b, o, none⟩) XL.out).trans X0.out
    have y1 := (HB2.out.cell (p := ⟨b, o + 1, none⟩) XL.out).trans X1.out
    have y2 := (HB2.out.cell (p := ⟨b, o + 2, none⟩) XL.out).trans X2.out
    have y3 := (HB2.out.cell (p := ⟨b, o + 3, none⟩) XL.out).trans X3.out
    have y4 := (HB2.out.cell (p := ⟨b, o + 4, none⟩) XL.out).trans X4.out
    have y5 := (HB2.out.cell (p := ⟨b, o + 5, none⟩) XL.out).trans X5.out
    have y6 := (HB2.out.cell (p := ⟨b, o + 6, none⟩) XL.out).trans X6.out
    have y7 := (HB2.out.cell (p := ⟨b, o + 7, none⟩) XL.out).trans X7.out
    go_wp2_with fail
    go_ret
    exact ⟨ret_bool HF.out.symm, HB2.out⟩
  case pos =>
  rw [t2] at ht
  have HT := hid ht
  clear ht
  by_cases t3 : ns1.length = 0
  case neg =>
    have e3 : decide (0 < ns1.length) = true := decide_eq_true (by omega)
    have HF := hid (show tmFields 1 u1 n1 (Ty.mk tk1 tn1 tks1) ns1 = false by rw [HE.out]; rw [t1, t2, decide_eq_false t3]; rfl)
    clear HE t1 t2 t3
    have y0 := (HB0.out.cell (p := ⟨b, o, none⟩) XL.out).trans X0.out
    have y1 := (HB0.out.cell (p := ⟨b, o + 1, none⟩) XL.out).trans X1.out
    have y2 := (HB0.out.cell (p := ⟨b, o + 2, none⟩) XL.out).trans X2.out
    have y3 := (HB0.out.cell (p := ⟨b, o + 3, none⟩) XL.out).trans X3.out
    have y4 := (HB0.out.cell (p := ⟨b, o + 4, none⟩) XL.out).trans X4.out
    have y5 := (HB0.out.cell (p := ⟨b, o + 5, none⟩) XL.out).trans X5.out
    have y6 := (HB0.out.cell (p := ⟨b, o + 6, none⟩) XL.out).trans X6.out
    have y7 := (HB0.out.cell (p := ⟨b, o + 7, none⟩) XL.out).trans X7.out
    go_enter Tryz.func100, Tryz.ntmps100
    go_wp2_with fail
    refine (HN.out _ HB0.out).mono ?_
    rintro e w1 ⟨rfl, hb⟩
    have HB1 := hid (HB0.out.trans (hb.mono HB0.out.size))
    clear hb y0 y1 y2 y3 y4 y5 y6 y7
    have y0 := (HB1.out.cell (p := ⟨b, o, none⟩) XL.out).trans X0.out
    have y1 := (HB1.out.cell (p := ⟨b, o + 1, none⟩) XL.out).trans X1.out
    have y2 := (HB1.out.cell (p := ⟨b, o + 2, none⟩) XL.out).trans X2.out
    have y3 := (HB1.out.cell (p := ⟨b, o + 3, none⟩) XL.out).trans X3.out
    have y4 := (HB1.out.cell (p := ⟨b, o + 4, none⟩) XL.out).trans X4.out
    have y5 := (HB1.out.cell (p := ⟨b, o + 5, none⟩) XL.out).trans X5.out
    have y6 := (HB1.out.cell (p := ⟨b, o + 6, none⟩) XL.out).trans X6.out
    have y7 := (HB1.out.cell (p := ⟨b, o + 7, none⟩) XL.out).trans X7.out
    go_wp2_with fail
    refine (HT.out _ HB1.out).mono ?_
    rintro e w2 ⟨rfl, hb⟩
    have HB2 := hid (HB1.out.trans (hb.mono HB1.out.size))
    clear hb y0 y1 y2 y3 y4 y5 y6 y7
    have y0 := (HB2.out.cell (p := ⟨b, o, none⟩) XL.out).trans X0.out
    have y1 := (HB2.out.cell (p := ⟨b, o + 1, none⟩) XL.out).trans X1.out
    have y2 := (HB2.out.cell (p := ⟨b, o + 2, none⟩) XL.out).trans X2.out
    have y3 := (HB2.out.cell (p := ⟨b, o + 3, none⟩) XL.out).trans X3.out
    have y4 := (HB2.out.cell (p := ⟨b, o + 4, none⟩) XL.out).trans X4.out
    have y5 := (HB2.out.cell (p := ⟨b, o + 5, none⟩) XL.out).trans X5.out
    have y6 := (HB2.out.cell (p := ⟨b, o + 6, none⟩) XL.out).trans X6.out
    have y7 := (HB2.out.cell (p := ⟨b, o + 7, none⟩) XL.out).trans X7.out
    go_wp2_with fail
    go_ret
    exact ⟨ret_bool HF.out.symm, HB2.out⟩
  case pos =>
  have e3 : decide (0 < ns1.length) = false := decide_eq_false (by omega)
  have HF := hid (show tmFields 1 u1 n1 (Ty.mk tk1 tn1 tks1) ns1 = decide (u1 = 0) by rw [HE.out, t1, t2, decide_eq_true t3]; rfl)
  clear HE t1 t2 t3
  have y0 := (HB0.out.cell (p := ⟨b, o, none⟩) XL.out).trans X0.out
  have y1 := (HB0.out.cell (p := ⟨b, o + 1, none⟩) XL.out).trans X1.out
  have y2 := (HB0.out.cell (p := ⟨b, o + 2, none⟩) XL.out).trans X2.out
  have y3 := (HB0.out.cell (p := ⟨b, o + 3, none⟩) XL.out).trans X3.out
  have y4 := (HB0.out.cell (p := ⟨b, o + 4, none⟩) XL.out).trans X4.out
  have y5 := (HB0.out.cell (p := ⟨b, o + 5, none⟩) XL.out).trans X5.out
  have y6 := (HB0.out.cell (p := ⟨b, o + 6, none⟩) XL.out).trans X6.out
  have y7 := (HB0.out.cell (p := ⟨b, o + 7, none⟩) XL.out).trans X7.out
  go_enter Tryz.func100, Tryz.ntmps100
  go_wp2_with fail
  refine (HN.out _ HB0.out).mono ?_
  rintro e w1 ⟨rfl, hb⟩
  have HB1 := hid (HB0.out.trans (hb.mono HB0.out.size))
  clear hb y0 y1 y2 y3 y4 y5 y6 y7
  have y0 := (HB1.out.cell (p := ⟨b, o, none⟩) XL.out).trans X0.out
  have y1 := (HB1.out.cell (p := ⟨b, o + 1, none⟩) XL.out).trans X1.out
  have y2 := (HB1.out.cell (p := ⟨b, o + 2, none⟩) XL.out).trans X2.out
  have y3 := (HB1.out.cell (p := ⟨b, o + 3, none⟩) XL.out).trans X3.out
  have y4 := (HB1.out.cell (p := ⟨b, o + 4, none⟩) XL.out).trans X4.out
  have y5 := (HB1.out.cell (p := ⟨b, o + 5, none⟩) XL.out).trans X5.out
  have y6 := (HB1.out.cell (p := ⟨b, o + 6, none⟩) XL.out).trans X6.out
  have y7 := (HB1.out.cell (p := ⟨b, o + 7, none⟩) XL.out).trans X7.out
  go_wp2_with fail
  refine (HT.out _ HB1.out).mono ?_
  rintro e w2 ⟨rfl, hb⟩
  have HB2 := hid (HB1.out.trans (hb.mono HB1.out.size))
  clear hb y0 y1 y2 y3 y4 y5 y6 y7
  have y0 := (HB2.out.cell (p := ⟨b, o, none⟩) XL.out).trans X0.out
  have y1 := (HB2.out.cell (p := ⟨b, o + 1, none⟩) XL.out).trans X1.out
  have y2 := (HB2.out.cell (p := ⟨b, o + 2, none⟩) XL.out).trans X2.out
  have y3 := (HB2.out.cell (p := ⟨b, o + 3, none⟩) XL.out).trans X3.out
  have y4 := (HB2.out.cell (p := ⟨b, o + 4, none⟩) XL.out).trans X4.out
  have y5 := (HB2.out.cell (p := ⟨b, o + 5, none⟩) XL.out).trans X5.out
  have y6 := (HB2.out.cell (p := ⟨b, o + 6, none⟩) XL.out).trans X6.out
  have y7 := (HB2.out.cell (p := ⟨b, o + 7, none⟩) XL.out).trans X7.out
  go_wp2_with fail
  go_ret
  exact ⟨ret_bool (by rw [HF.out]; first | rfl | (by_cases hu : u1 = 0 <;> simp [hu])), HB2.out⟩
set_option maxHeartbeats 2000000 in
theorem spec_fields_2 (u1 : Int) (n1 : ByteArray) (tk1 : Int) (tn1 : ByteArray) (tks1 : List Ty) (ns1 : List ByteArray) (ks1 : List Tm) (atks1 : Option Addr) (ctks1 : Nat) (ans1 : Option Addr) (cns1 : Nat) (aks1 : Option Addr) (cks1 : Nat) (b o : Nat) (w : World) (x0 : w.cell? ⟨b, o, none⟩ = some (.int .i64 2)) (x1 : w.cell? ⟨b, o + 1, none⟩ = some (.int .i64 u1)) (x2 : w.cell? ⟨b, o + 2, none⟩ = some (.string n1)) (x3 : w.cell? ⟨b, o + 3, none⟩ = some (.int .i64 tk1)) (x4 : w.cell? ⟨b, o + 4, none⟩ = some (.string tn1)) (x5 : w.cell? ⟨b, o + 5, none⟩ = some (.slice atks1 tks1.length ctks1)) (x6 : w.cell? ⟨b, o + 6, none⟩ = some (.slice ans1 ns1.length cns1)) (x7 : w.cell? ⟨b, o + 7, none⟩ = some (.slice aks1 ks1.length cks1)) (hM : Tm.bulk (Tm.mk 2 u1 n1 (Ty.mk tk1 tn1 tks1) ns1 ks1) ≤ 1048576) (hr : RdS w (Tm.d (Tm.mk 2 u1 n1 (Ty.mk tk1 tn1 tks1) ns1 ks1)) [.int .i64 2, .int .i64 u1, .string n1, .int .i64 tk1, .string tn1, .slice atks1 tks1.length ctks1, .slice ans1 ns1.length cns1, .slice aks1 ks1.length cks1]) :
    Calls Tryz.prog 100 #[.pointer (some ⟨b, o, none⟩)] w fun e w' => e = .returned (.bool (tmFields 2 u1 n1 (Ty.mk tk1 tn1 tks1) ns1)) ∧ Below w.heap.size w w' := by
  have HE := hid (show tmFields 2 u1 n1 (Ty.mk tk1 tn1 tks1) ns1 = (n1.toList.isEmpty && (tyNone (Ty.mk tk1 tn1 tks1) && (decide (ns1.length = 0) && inR u1 (-2147483648) 2147483647))) from rfl)
  have XL := hid (World.block_lt_of_cell? _ _ x0)
  have X0 := hid x0
  have X1 := hid x1
  have X2 := hid x2
  have X3 := hid x3
  have X4 := hid x4
  have X5 := hid x5
  have X6 := hid x6
  have X7 := hid x7
  have hlen : ns1.length ≤ 1048576 := by have := Sr.bulks_length ns1; simp only [Tm.bulk] at hM; omega
  have hbt : Ty.bulk (Ty.mk tk1 tn1 tks1) ≤ 1048576 := by simp only [Tm.bulk] at hM; omega
  have ht := fun W (hW : Below w.heap.size w W) => spec_l03NoType tk1 tn1 tks1 atks1 ctks1 W
  have HB0 := hid (Below.refl w.heap.size w)
  clear hr hM hbt x0 x1 x2 x3 x4 x5 x6 x7
  by_cases t1 : n1.toList.isEmpty = true
  case neg =>
    replace t1 := (Bool.not_eq_true _).mp t1
    have e1 : (n1.toList == []) = false := by simpa [List.isEmpty_eq_false_iff] using t1
    clear ht
    have HF := hid (show tmFields 2 u1 n1 (Ty.mk tk1 tn1 tks1) ns1 = false by rw [HE.out]; rw [t1]; rfl)
    clear HE t1
    have y0 := (HB0.out.cell (p := ⟨b, o, none⟩) XL.out).trans X0.out
    have y1 := (HB0.out.cell (p := ⟨b, o + 1, none⟩) XL.out).trans X1.out
    have y2 := (HB0.out.cell (p := ⟨b, o + 2, none⟩) XL.out).trans X2.out
    have y3 := (HB0.out.cell (p := ⟨b, o + 3, none⟩) XL.out).trans X3.out
    have y4 := (HB0.out.cell (p := ⟨b, o + 4, none⟩) XL.out).trans X4.out
    have y5 := (HB0.out.cell (p := ⟨b, o + 5, none⟩) XL.out).trans X5.out
    have y6 := (HB0.out.cell (p := ⟨b, o + 6, none⟩) XL.out).trans X6.out
    have y7 := (HB0.out.cell (p := ⟨b, o + 7, none⟩) XL.out).trans X7.out
    go_enter Tryz.func100, Tryz.ntmps100
    go_wp2_with fail
    go_ret
    exact ⟨ret_bool HF.out.symm, HB0.out⟩
  case pos =>
  have e1 : (n1.toList == []) = true := by simpa [List.isEmpty_iff] using t1
  by_cases t2 : tyNone (Ty.mk tk1 tn1 tks1) = true
  case neg =>
    replace t2 := (Bool.not_eq_true _).mp t2
    rw [t2] at ht
    have HT := hid ht
    clear ht
    have HF := hid (show tmFields 2 u1 n1 (Ty.mk tk1 tn1 tks1) ns1 = false by rw [HE.out]; rw [t1, t2]; rfl)
    clear HE t1 t2
    have y0 := (HB0.out.cell (p := ⟨b, o, none⟩) XL.out).trans X0.out
    have y1 := (HB0.out.cell (p := ⟨b, o + 1, none⟩) XL.out).trans X1.out
    have y2 := (HB0.out.cell (p := ⟨b, o + 2, none⟩) XL.out).trans X2.out
    have y3 := (HB0.out.cell (p := ⟨b, o + 3, none⟩) XL.out).trans X3.out
    have y4 := (HB0.out.cell (p := ⟨b, o + 4, none⟩) XL.out).trans X4.out
    have y5 := (HB0.out.cell (p := ⟨b, o + 5, none⟩) XL.out).trans X5.out
    have y6 := (HB0.out.cell (p := ⟨b, o + 6, none⟩) XL.out).trans X6.out
    have y7 := (HB0.out.cell (p := ⟨b, o + 7, none⟩) XL.out).trans X7.out
    go_enter Tryz.func100, Tryz.ntmps100
    go_wp2_with fail
    refine (HT.out _ HB0.out).mono ?_
    rintro e w1 ⟨rfl, hb⟩
    have HB1 := hid (HB0.out.trans (hb.mono HB0.out.size))
    clear hb y0 y1 y2 y3 y4 y5 y6 y7
    have y0 := (HB1.out.cell (p := ⟨b, o, none⟩) XL.out).trans X0.out
    have y1 := (HB1.out.cell (p := ⟨b, o + 1, none⟩) XL.out).trans X1.out
    have y2 := (HB1.out.cell (p := ⟨b, o + 2, none⟩) XL.out).trans X2.out
    have y3 := (HB1.out.cell (p := ⟨b, o + 3, none⟩) XL.out).trans X3.out
    have y4 := (HB1.out.cell (p := ⟨b, o + 4, none⟩) XL.out).trans X4.out
    have y5 := (HB1.out.cell (p := ⟨b, o + 5, none⟩) XL.out).trans X5.out
    have y6 := (HB1.out.cell (p := ⟨b, o + 6, none⟩) XL.out).trans X6.out
    have y7 := (HB1.out.cell (p := ⟨b, o + 7, none⟩) XL.out).trans X7.out
    go_wp2_with fail
    go_ret
    exact ⟨ret_bool HF.out.symm, HB1.out⟩
  case pos =>
  rw [t2] at ht
  have HT := hid ht
  clear ht
  by_cases t3 : ns1.length = 0
  case neg =>
    have e3 : decide (0 < ns1.length) = true := decide_eq_true (by omega)
    have HF := hid (show tmFields 2 u1 n1 (Ty.mk tk1 tn1 tks1) ns1 = false by rw [HE.out]; rw [t1, t2, decide_eq_false t3]; rfl)
    clear HE t1 t2 t3
    have y0 := (HB0.out.cell (p := ⟨b, o, none⟩) XL.out).trans X0.out
    have y1 := (HB0.out.cell (p := ⟨b, o + 1, none⟩) XL.out).trans X1.out
    have y2 := (HB0.out.cell (p := ⟨b, o + 2, none⟩) XL.out).trans X2.out
    have y3 := (HB0.out.cell (p := ⟨b, o + 3, none⟩) XL.out).trans X3.out
    have y4 := (HB0.out.cell (p := ⟨b, o + 4, none⟩) XL.out).trans X4.out
    have y5 := (HB0.out.cell (p := ⟨b, o + 5, none⟩) XL.out).trans X5.out
    have y6 := (HB0.out.cell (p := ⟨b, o + 6, none⟩) XL.out).trans X6.out
    have y7 := (HB0.out.cell (p := ⟨b, o + 7, none⟩) XL.out).trans X7.out
    go_enter Tryz.func100, Tryz.ntmps100
    go_wp2_with fail
    refine (HT.out _ HB0.out).mono ?_
    rintro e w1 ⟨rfl, hb⟩
    have HB1 := hid (HB0.out.trans (hb.mono HB0.out.size))
    clear hb y0 y1 y2 y3 y4 y5 y6 y7
    have y0 := (HB1.out.cell (p := ⟨b, o, none⟩) XL.out).trans X0.out
    have y1 := (HB1.out.cell (p := ⟨b, o + 1, none⟩) XL.out).trans X1.out
    have y2 := (HB1.out.cell (p := ⟨b, o + 2, none⟩) XL.out).trans X2.out
    have y3 := (HB1.out.cell (p := ⟨b, o + 3, none⟩) XL.out).trans X3.out
    have y4 := (HB1.out.cell (p := ⟨b, o + 4, none⟩) XL.out).trans X4.out
    have y5 := (HB1.out.cell (p := ⟨b, o + 5, none⟩) XL.out).trans X5.out
    have y6 := (HB1.out.cell (p := ⟨b, o + 6, none⟩) XL.out).trans X6.out
    have y7 := (HB1.out.cell (p := ⟨b, o + 7, none⟩) XL.out).trans X7.out
    go_wp2_with fail
    go_ret
    exact ⟨ret_bool HF.out.symm, HB1.out⟩
  case pos =>
  have e3 : decide (0 < ns1.length) = false := decide_eq_false (by omega)
  have HF := hid (show tmFields 2 u1 n1 (Ty.mk tk1 tn1 tks1) ns1 = inR u1 (-2147483648) 2147483647 by rw [HE.out, t1, t2, decide_eq_true t3]; rfl)
  clear HE t1 t2 t3
  have y0 := (HB0.out.cell (p := ⟨b, o, none⟩) XL.out).trans X0.out
  have y1 := (HB0.out.cell (p := ⟨b, o + 1, none⟩) XL.out).trans X1.out
  have y2 := (HB0.out.cell (p := ⟨b, o + 2, none⟩) XL.out).trans X2.out
  have y3 := (HB0.out.cell (p := ⟨b, o + 3, none⟩) XL.out).trans X3.out
  have y4 := (HB0.out.cell (p := ⟨b, o + 4, none⟩) XL.out).trans X4.out
  have y5 := (HB0.out.cell (p := ⟨b, o + 5, none⟩) XL.out).trans X5.out
  have y6 := (HB0.out.cell (p := ⟨b, o + 6, none⟩) XL.out).trans X6.out
  have y7 := (HB0.out.cell (p := ⟨b, o + 7, none⟩) XL.out).trans X7.out
  go_enter Tryz.func100, Tryz.ntmps100
  go_wp2_with fail
  refine (HT.out _ HB0.out).mono ?_
  rintro e w1 ⟨rfl, hb⟩
  have HB1 := hid (HB0.out.trans (hb.mono HB0.out.size))
  clear hb y0 y1 y2 y3 y4 y5 y6 y7
  have y0 := (HB1.out.cell (p := ⟨b, o, none⟩) XL.out).trans X0.out
  have y1 := (HB1.out.cell (p := ⟨b, o + 1, none⟩) XL.out).trans X1.out
  have y2 := (HB1.out.cell (p := ⟨b, o + 2, none⟩) XL.out).trans X2.out
  have y3 := (HB1.out.cell (p := ⟨b, o + 3, none⟩) XL.out).trans X3.out
  have y4 := (HB1.out.cell (p := ⟨b, o + 4, none⟩) XL.out).trans X4.out
  have y5 := (HB1.out.cell (p := ⟨b, o + 5, none⟩) XL.out).trans X5.out
  have y6 := (HB1.out.cell (p := ⟨b, o + 6, none⟩) XL.out).trans X6.out
  have y7 := (HB1.out.cell (p := ⟨b, o + 7, none⟩) XL.out).trans X7.out
  go_wp2_with fail
  refine (spec_In _ _ _ _).mono ?_
  rintro e w2 ⟨rfl, rfl⟩
  go_wp2_with fail
  go_ret
  exact ⟨ret_bool (by rw [HF.out]), HB1.out⟩
set_option maxHeartbeats 2000000 in
theorem spec_fields_3 (u1 : Int) (n1 : ByteArray) (tk1 : Int) (tn1 : ByteArray) (tks1 : List Ty) (ns1 : List ByteArray) (ks1 : List Tm) (atks1 : Option Addr) (ctks1 : Nat) (ans1 : Option Addr) (cns1 : Nat) (aks1 : Option Addr) (cks1 : Nat) (b o : Nat) (w : World) (x0 : w.cell? ⟨b, o, none⟩ = some (.int .i64 3)) (x1 : w.cell? ⟨b, o + 1, none⟩ = some (.int .i64 u1)) (x2 : w.cell? ⟨b, o + 2, none⟩ = some (.string n1)) (x3 : w.cell? ⟨b, o + 3, none⟩ = some (.int .i64 tk1)) (x4 : w.cell? ⟨b, o + 4, none⟩ = some (.string tn1)) (x5 : w.cell? ⟨b, o + 5, none⟩ = some (.slice atks1 tks1.length ctks1)) (x6 : w.cell? ⟨b, o + 6, none⟩ = some (.slice ans1 ns1.length cns1)) (x7 : w.cell? ⟨b, o + 7, none⟩ = some (.slice aks1 ks1.length cks1)) (hM : Tm.bulk (Tm.mk 3 u1 n1 (Ty.mk tk1 tn1 tks1) ns1 ks1) ≤ 1048576) (hr : RdS w (Tm.d (Tm.mk 3 u1 n1 (Ty.mk tk1 tn1 tks1) ns1 ks1)) [.int .i64 3, .int .i64 u1, .string n1, .int .i64 tk1, .string tn1, .slice atks1 tks1.length ctks1, .slice ans1 ns1.length cns1, .slice aks1 ks1.length cks1]) :
    Calls Tryz.prog 100 #[.pointer (some ⟨b, o, none⟩)] w fun e w' => e = .returned (.bool (tmFields 3 u1 n1 (Ty.mk tk1 tn1 tks1) ns1)) ∧ Below w.heap.size w w' := by
  have HE := hid (show tmFields 3 u1 n1 (Ty.mk tk1 tn1 tks1) ns1 = (n1.toList.isEmpty && (tyNone (Ty.mk tk1 tn1 tks1) && (decide (ns1.length = 0) && inR u1 1 6))) from rfl)
  have XL := hid (World.block_lt_of_cell? _ _ x0)
  have X0 := hid x0
  have X1 := hid x1
  have X2 := hid x2
  have X3 := hid x3
  have X4 := hid x4
  have X5 := hid x5
  have X6 := hid x6
  have X7 := hid x7
  have hlen : ns1.length ≤ 1048576 := by have := Sr.bulks_length ns1; simp only [Tm.bulk] at hM; omega
  have hbt : Ty.bulk (Ty.mk tk1 tn1 tks1) ≤ 1048576 := by simp only [Tm.bulk] at hM; omega
  have ht := fun W (hW : Below w.heap.size w W) => spec_l03NoType tk1 tn1 tks1 atks1 ctks1 W
  have HB0 := hid (Below.refl w.heap.size w)
  clear hr hM hbt x0 x1 x2 x3 x4 x5 x6 x7
  by_cases t1 : n1.toList.isEmpty = true
  case neg =>
    replace t1 := (Bool.not_eq_true _).mp t1
    have e1 : (n1.toList == []) = false := by simpa [List.isEmpty_eq_false_iff] using t1
    clear ht
    have HF := hid (show tmFields 3 u1 n1 (Ty.mk tk1 tn1 tks1) ns1 = false by rw [HE.out]; rw [t1]; rfl)
    clear HE t1
    have y0 := (HB0.out.cell (p := ⟨b, o, none⟩) XL.out).trans X0.out
    have y1 := (HB0.out.cell (p := ⟨b, o + 1, none⟩) XL.out).trans X1.out
    have y2 := (HB0.out.cell (p := ⟨b, o + 2, none⟩) XL.out).trans X2.out
    have y3 := (HB0.out.cell (p := ⟨b, o + 3, none⟩) XL.out).trans X3.out
    have y4 := (HB0.out.cell (p := ⟨b, o + 4, none⟩) XL.out).trans X4.out
    have y5 := (HB0.out.cell (p := ⟨b, o + 5, none⟩) XL.out).trans X5.out
    have y6 := (HB0.out.cell (p := ⟨b, o + 6, none⟩) XL.out).trans X6.out
    have y7 := (HB0.out.cell (p := ⟨b, o + 7, none⟩) XL.out).trans X7.out
    go_enter Tryz.func100, Tryz.ntmps100
    go_wp2_with fail
    go_ret
    exact ⟨ret_bool HF.out.symm, HB0.out⟩
  case pos =>
  have e1 : (n1.toList == []) = true := by simpa [List.isEmpty_iff] using t1
  by_cases t2 : tyNone (Ty.mk tk1 tn1 tks1) = true
  case neg =>
    replace t2 := (Bool.not_eq_true _).mp t2
    rw [t2] at ht
    have HT := hid ht
    clear ht
    have HF := hid (show tmFields 3 u1 n1 (Ty.mk tk1 tn1 tks1) ns1 = false by rw [HE.out]; rw [t1, t2]; rfl)
    clear HE t1 t2
    have y0 := (HB0.out.cell (p := ⟨b, o, none⟩) XL.out).trans X0.out
    have y1 := (HB0.out.cell (p := ⟨b, o + 1, none⟩) XL.out).trans X1.out
    have y2 := (HB0.out.cell (p := ⟨b, o + 2, none⟩) XL.out).trans X2.out
    have y3 := (HB0.out.cell (p := ⟨b, o + 3, none⟩) XL.out).trans X3.out
    have y4 := (HB0.out.cell (p := ⟨b, o + 4, none⟩) XL.out).trans X4.out
    have y5 := (HB0.out.cell (p := ⟨b, o + 5, none⟩) XL.out).trans X5.out
    have y6 := (HB0.out.cell (p := ⟨b, o + 6, none⟩) XL.out).trans X6.out
    have y7 := (HB0.out.cell (p := ⟨b, o + 7, none⟩) XL.out).trans X7.out
    go_enter Tryz.func100, Tryz.ntmps100
    go_wp2_with fail
    refine (HT.out _ HB0.out).mono ?_
    rintro e w1 ⟨rfl, hb⟩
    have HB1 := hid (HB0.out.trans (hb.mono HB0.out.size))
    clear hb y0 y1 y2 y3 y4 y5 y6 y7
    have y0 := (HB1.out.cell (p := ⟨b, o, none⟩) XL.out).trans X0.out
    have y1 := (HB1.out.cell (p := ⟨b, o + 1, none⟩) XL.out).trans X1.out
    have y2 := (HB1.out.cell (p := ⟨b, o + 2, none⟩) XL.out).trans X2.out
    have y3 := (HB1.out.cell (p := ⟨b, o + 3, none⟩) XL.out).trans X3.out
    have y4 := (HB1.out.cell (p := ⟨b, o + 4, none⟩) XL.out).trans X4.out
    have y5 := (HB1.out.cell (p := ⟨b, o + 5, none⟩) XL.out).trans X5.out
    have y6 := (HB1.out.cell (p := ⟨b, o + 6, none⟩) XL.out).trans X6.out
    have y7 := (HB1.out.cell (p := ⟨b, o + 7, none⟩) XL.out).trans X7.out
    go_wp2_with fail
    go_ret
    exact ⟨ret_bool HF.out.symm, HB1.out⟩
  case pos =>
  rw [t2] at ht
  have HT := hid ht
  clear ht
  by_cases t3 : ns1.length = 0
  case neg =>
    have e3 : decide (0 < ns1.length) = true := decide_eq_true (by omega)
    have HF := hid (show tmFields 3 u1 n1 (Ty.mk tk1 tn1 tks1) ns1 = false by rw [HE.out]; rw [t1, t2, decide_eq_false t3]; rfl)
    clear HE t1 t2 t3
    have y0 := (HB0.out.cell (p := ⟨b, o, none⟩) XL.out).trans X0.out
    have y1 := (HB0.out.cell (p := ⟨b, o + 1, none⟩) XL.out).trans X1.out
    have y2 := (HB0.out.cell (p := ⟨b, o + 2, none⟩) XL.out).trans X2.out
    have y3 := (HB0.out.cell (p := ⟨b, o + 3, none⟩) XL.out).trans X3.out
    have y4 := (HB0.out.cell (p := ⟨b, o + 4, none⟩) XL.out).trans X4.out
    have y5 := (HB0.out.cell (p := ⟨b, o + 5, none⟩) XL.out).trans X5.out
    have y6 := (HB0.out.cell (p := ⟨b, o + 6, none⟩) XL.out).trans X6.out
    have y7 := (HB0.out.cell (p := ⟨b, o + 7, none⟩) XL.out).trans X7.out
    go_enter Tryz.func100, Tryz.ntmps100
    go_wp2_with fail
    refine (HT.out _ HB0.out).mono ?_
    rintro e w1 ⟨rfl, hb⟩
    have HB1 := hid (HB0.out.trans (hb.mono HB0.out.size))
    clear hb y0 y1 y2 y3 y4 y5 y6 y7
    have y0 := (HB1.out.cell (p := ⟨b, o, none⟩) XL.out).trans X0.out
    have y1 := (HB1.out.cell (p := ⟨b, o + 1, none⟩) XL.out).trans X1.out
    have y2 := (HB1.out.cell (p := ⟨b, o + 2, none⟩) XL.out).trans X2.out
    have y3 := (HB1.out.cell (p := ⟨b, o + 3, none⟩) XL.out).trans X3.out
    have y4 := (HB1.out.cell (p := ⟨b, o + 4, none⟩) XL.out).trans X4.out
    have y5 := (HB1.out.cell (p := ⟨b, o + 5, none⟩) XL.out).trans X5.out
    have y6 := (HB1.out.cell (p := ⟨b, o + 6, none⟩) XL.out).trans X6.out
    have y7 := (HB1.out.cell (p := ⟨b, o + 7, none⟩) XL.out).trans X7.out
    go_wp2_with fail
    go_ret
    exact ⟨ret_bool HF.out.symm, HB1.out⟩
  case pos =>
  have e3 : decide (0 < ns1.length) = false := decide_eq_false (by omega)
  have HF := hid (show tmFields 3 u1 n1 (Ty.mk tk1 tn1 tks1) ns1 = inR u1 1 6 by rw [HE.out, t1, t2, decide_eq_true t3]; rfl)
  clear HE t1 t2 t3
  have y0 := (HB0.out.cell (p := ⟨b, o, none⟩) XL.out).trans X0.out
  have y1 := (HB0.out.cell (p := ⟨b, o + 1, none⟩) XL.out).trans X1.out
  have y2 := (HB0.out.cell (p := ⟨b, o + 2, none⟩) XL.out).trans X2.out
  have y3 := (HB0.out.cell (p := ⟨b, o + 3, none⟩) XL.out).trans X3.out
  have y4 := (HB0.out.cell (p := ⟨b, o + 4, none⟩) XL.out).trans X4.out
  have y5 := (HB0.out.cell (p := ⟨b, o + 5, none⟩) XL.out).trans X5.out
  have y6 := (HB0.out.cell (p := ⟨b, o + 6, none⟩) XL.out).trans X6.out
  have y7 := (HB0.out.cell (p := ⟨b, o + 7, none⟩) XL.out).trans X7.out
  go_enter Tryz.func100, Tryz.ntmps100
  go_wp2_with fail
  refine (HT.out _ HB0.out).mono ?_
  rintro e w1 ⟨rfl, hb⟩
  have HB1 := hid (HB0.out.trans (hb.mono HB0.out.size))
  clear hb y0 y1 y2 y3 y4 y5 y6 y7
  have y0 := (HB1.out.cell (p := ⟨b, o, none⟩) XL.out).trans X0.out
  have y1 := (HB1.out.cell (p := ⟨b, o + 1, none⟩) XL.out).trans X1.out
  have y2 := (HB1.out.cell (p := ⟨b, o + 2, none⟩) XL.out).trans X2.out
  have y3 := (HB1.out.cell (p := ⟨b, o + 3, none⟩) XL.out).trans X3.out
  have y4 := (HB1.out.cell (p := ⟨b, o + 4, none⟩) XL.out).trans X4.out
  have y5 := (HB1.out.cell (p := ⟨b, o + 5, none⟩) XL.out).trans X5.out
  have y6 := (HB1.out.cell (p := ⟨b, o + 6, none⟩) XL.out).trans X6.out
  have y7 := (HB1.out.cell (p := ⟨b, o + 7, none⟩) XL.out).trans X7.out
  go_wp2_with fail
  refine (spec_In _ _ _ _).mono ?_
  rintro e w2 ⟨rfl, rfl⟩
  go_wp2_with fail
  go_ret
  exact ⟨ret_bool (by rw [HF.out]), HB1.out⟩
set_option maxHeartbeats 2000000 in
theorem spec_fields_4 (u1 : Int) (n1 : ByteArray) (tk1 : Int) (tn1 : ByteArray) (tks1 : List Ty) (ns1 : List ByteArray) (ks1 : List Tm) (atks1 : Option Addr) (ctks1 : Nat) (ans1 : Option Addr) (cns1 : Nat) (aks1 : Option Addr) (cks1 : Nat) (b o : Nat) (w : World) (x0 : w.cell? ⟨b, o, none⟩ = some (.int .i64 4)) (x1 : w.cell? ⟨b, o + 1, none⟩ = some (.int .i64 u1)) (x2 : w.cell? ⟨b, o + 2, none⟩ = some (.string n1)) (x3 : w.cell? ⟨b, o + 3, none⟩ = some (.int .i64 tk1)) (x4 : w.cell? ⟨b, o + 4, none⟩ = some (.string tn1)) (x5 : w.cell? ⟨b, o + 5, none⟩ = some (.slice atks1 tks1.length ctks1)) (x6 : w.cell? ⟨b, o + 6, none⟩ = some (.slice ans1 ns1.length cns1)) (x7 : w.cell? ⟨b, o + 7, none⟩ = some (.slice aks1 ks1.length cks1)) (hM : Tm.bulk (Tm.mk 4 u1 n1 (Ty.mk tk1 tn1 tks1) ns1 ks1) ≤ 1048576) (hr : RdS w (Tm.d (Tm.mk 4 u1 n1 (Ty.mk tk1 tn1 tks1) ns1 ks1)) [.int .i64 4, .int .i64 u1, .string n1, .int .i64 tk1, .string tn1, .slice atks1 tks1.length ctks1, .slice ans1 ns1.length cns1, .slice aks1 ks1.length cks1]) :
    Calls Tryz.prog 100 #[.pointer (some ⟨b, o, none⟩)] w fun e w' => e = .returned (.bool (tmFields 4 u1 n1 (Ty.mk tk1 tn1 tks1) ns1)) ∧ Below w.heap.size w w' := by
  have HE := hid (show tmFields 4 u1 n1 (Ty.mk tk1 tn1 tks1) ns1 = (isLowerB n1 && (Ty.ok (Ty.mk tk1 tn1 tks1) && (decide (ns1.length = 0) && decide (u1 = 0)))) from rfl)
  have XL := hid (World.block_lt_of_cell? _ _ x0)
  have X0 := hid x0
  have X1 := hid x1
  have X2 := hid x2
  have X3 := hid x3
  have X4 := hid x4
  have X5 := hid x5
  have X6 := hid x6
  have X7 := hid x7
  have hlen : ns1.length ≤ 1048576 := by have := Sr.bulks_length ns1; simp only [Tm.bulk] at hM; omega
  have hbt : Ty.bulk (Ty.mk tk1 tn1 tks1) ≤ 1048576 := by simp only [Tm.bulk] at hM; omega
  have hn := fun W (hW : Below w.heap.size w W) => spec_IsLower n1 W
  have ht := fun W (hW : Below w.heap.size w W) => spec_ValidType tk1 tn1 tks1 atks1 ctks1 W hbt (hr.subTm_t.below hW)
  have HB0 := hid (Below.refl w.heap.size w)
  clear hr hM hbt x0 x1 x2 x3 x4 x5 x6 x7
  by_cases t1 : isLowerB n1 = true
  case neg =>
    replace t1 := (Bool.not_eq_true _).mp t1
    rw [t1] at hn
    have HN := hid hn
    clear hn ht
    have HF := hid (show tmFields 4 u1 n1 (Ty.mk tk1 tn1 tks1) ns1 = false by rw [HE.out]; rw [t1]; rfl)
    clear HE t1
    have y0 := (HB0.out.cell (p := ⟨b, o, none⟩) XL.out).trans X0.out
    have y1 := (HB0.out.cell (p := ⟨b, o + 1, none⟩) XL.out).trans X1.out
    have y2 := (HB0.out.cell (p := ⟨b, o + 2, none⟩) XL.out).trans X2.out
    have y3 := (HB0.out.cell (p := ⟨b, o + 3, none⟩) XL.out).trans X3.out
    have y4 := (HB0.out.cell (p := ⟨b, o + 4, none⟩) XL.out).trans X4.out
    have y5 := (HB0.out.cell (p := ⟨b, o + 5, none⟩) XL.out).trans X5.out
    have y6 := (HB0.out.cell (p := ⟨b, o + 6, none⟩) XL.out).trans X6.out
    have y7 := (HB0.out.cell (p := ⟨b, o + 7, none⟩) XL.out).trans X7.out
    go_enter Tryz.func100, Tryz.ntmps100
    go_wp2_with fail
    refine (HN.out _ HB0.out).mono ?_
    rintro e w1 ⟨rfl, hb⟩
    have HB1 := hid (HB0.out.trans (hb.mono HB0.out.size))
    clear hb y0 y1 y2 y3 y4 y5 y6 y7
    have y0 := (HB1.out.cell (p := ⟨b, o, none⟩) XL.out).trans X0.out
    have y1 := (HB1.out.cell (p := ⟨b, o + 1, none⟩) XL.out).trans X1.out
    have y2 := (HB1.out.cell (p := ⟨b, o + 2, none⟩) XL.out).trans X2.out
    have y3 := (HB1.out.cell (p := ⟨b, o + 3, none⟩) XL.out).trans X3.out
    have y4 := (HB1.out.cell (p := ⟨b, o + 4, none⟩) XL.out).trans X4.out
    have y5 := (HB1.out.cell (p := ⟨b, o + 5, none⟩) XL.out).trans X5.out
    have y6 := (HB1.out.cell (p := ⟨b, o + 6, none⟩) XL.out).trans X6.out
    have y7 := (HB1.out.cell (p := ⟨b, o + 7, none⟩) XL.out).trans X7.out
    go_wp2_with fail
    go_ret
    exact ⟨ret_bool HF.out.symm, HB1.out⟩
  case pos =>
  rw [t1] at hn
  have HN := hid hn
  clear hn
  by_cases t2 : Ty.ok (Ty.mk tk1 tn1 tks1) = true
  case neg =>
    replace t2 := (Bool.not_eq_true _).mp t2
    rw [t2] at ht
    have HT := hid ht
    clear ht
    have HF := hid (show tmFields 4 u1 n1 (Ty.mk tk1 tn1 tks1) ns1 = false by rw [HE.out]; rw [t1, t2]; rfl)
    clear HE t1 t2
    have y0 := (HB0.out.cell (p := ⟨b, o, none⟩) XL.out).trans X0.out
    have y1 := (HB0.out.cell (p := ⟨b, o + 1, none⟩) XL.out).trans X1.out
    have y2 := (HB0.out.cell (p := ⟨b, o + 2, none⟩) XL.out).trans X2.out
    have y3 := (HB0.out.cell (p := ⟨b, o + 3, none⟩) XL.out).trans X3.out
    have y4 := (HB0.out.cell (p := ⟨b, o + 4, none⟩) XL.out).trans X4.out
    have y5 := (HB0.out.cell (p := ⟨b, o + 5, none⟩) XL.out).trans X5.out
    have y6 := (HB0.out.cell (p := ⟨b, o + 6, none⟩) XL.out).trans X6.out
    have y7 := (HB0.out.cell (p := ⟨b, o + 7, none⟩) XL.out).trans X7.out
    go_enter Tryz.func100, Tryz.ntmps100
    go_wp2_with fail
    refine (HN.out _ HB0.out).mono ?_
    rintro e w1 ⟨rfl, hb⟩
    have HB1 := hid (HB0.out.trans (hb.mono HB0.out.size))
    clear hb y0 y1 y2 y3 y4 y5 y6 y7
    have y0 := (HB1.out.cell (p := ⟨b, o, none⟩) XL.out).trans X0.out
    have y1 := (HB1.out.cell (p := ⟨b, o + 1, none⟩) XL.out).trans X1.out
    have y2 := (HB1.out.cell (p := ⟨b, o + 2, none⟩) XL.out).trans X2.out
    have y3 := (HB1.out.cell (p := ⟨b, o + 3, none⟩) XL.out).trans X3.out
    have y4 := (HB1.out.cell (p := ⟨b, o + 4, none⟩) XL.out).trans X4.out
    have y5 := (HB1.out.cell (p := ⟨b, o + 5, none⟩) XL.out).trans X5.out
    have y6 := (HB1.out.cell (p := ⟨b, o + 6, none⟩) XL.out).trans X6.out
    have y7 := (HB1.out.cell (p := ⟨b, o + 7, none⟩) XL.out).trans X7.out
    go_wp2_with fail
    refine (HT.out _ HB1.out).mono ?_
    rintro e w2 ⟨rfl, hb⟩
    have HB2 := hid (HB1.out.trans (hb.mono HB1.out.size))
    clear hb y0 y1 y2 y3 y4 y5 y6 y7
    have y0 := (HB2.out.cell (p := ⟨b, o, none⟩) XL.out).trans X0.out
    have y1 := (HB2.out.cell (p := ⟨b, o + 1, none⟩) XL.out).trans X1.out
    have y2 := (HB2.out.cell (p := ⟨b, o + 2, none⟩) XL.out).trans X2.out
    have y3 := (HB2.out.cell (p := ⟨b, o + 3, none⟩) XL.out).trans X3.out
    have y4 := (HB2.out.cell (p := ⟨b, o + 4, none⟩) XL.out).trans X4.out
    have y5 := (HB2.out.cell (p := ⟨b, o + 5, none⟩) XL.out).trans X5.out
    have y6 := (HB2.out.cell (p := ⟨b, o + 6, none⟩) XL.out).trans X6.out
    have y7 := (HB2.out.cell (p := ⟨b, o + 7, none⟩) XL.out).trans X7.out
    go_wp2_with fail
    go_ret
    exact ⟨ret_bool HF.out.symm, HB2.out⟩
  case pos =>
  rw [t2] at ht
  have HT := hid ht
  clear ht
  by_cases t3 : ns1.length = 0
  case neg =>
    have e3 : decide (0 < ns1.length) = true := decide_eq_true (by omega)
    have HF := hid (show tmFields 4 u1 n1 (Ty.mk tk1 tn1 tks1) ns1 = false by rw [HE.out]; rw [t1, t2, decide_eq_false t3]; rfl)
    clear HE t1 t2 t3
    have y0 := (HB0.out.cell (p := ⟨b, o, none⟩) XL.out).trans X0.out
    have y1 := (HB0.out.cell (p := ⟨b, o + 1, none⟩) XL.out).trans X1.out
    have y2 := (HB0.out.cell (p := ⟨b, o + 2, none⟩) XL.out).trans X2.out
    have y3 := (HB0.out.cell (p := ⟨b, o + 3, none⟩) XL.out).trans X3.out
    have y4 := (HB0.out.cell (p := ⟨b, o + 4, none⟩) XL.out).trans X4.out
    have y5 := (HB0.out.cell (p := ⟨b, o + 5, none⟩) XL.out).trans X5.out
    have y6 := (HB0.out.cell (p := ⟨b, o + 6, none⟩) XL.out).trans X6.out
    have y7 := (HB0.out.cell (p := ⟨b, o + 7, none⟩) XL.out).trans X7.out
    go_enter Tryz.func100, Tryz.ntmps100
    go_wp2_with fail
    refine (HN.out _ HB0.out).mono ?_
    rintro e w1 ⟨rfl, hb⟩
    have HB1 := hid (HB0.out.trans (hb.mono HB0.out.size))
    clear hb y0 y1 y2 y3 y4 y5 y6 y7
    have y0 := (HB1.out.cell (p := ⟨b, o, none⟩) XL.out).trans X0.out
    have y1 := (HB1.out.cell (p := ⟨b, o + 1, none⟩) XL.out).trans X1.out
    have y2 := (HB1.out.cell (p := ⟨b, o + 2, none⟩) XL.out).trans X2.out
    have y3 := (HB1.out.cell (p := ⟨b, o + 3, none⟩) XL.out).trans X3.out
    have y4 := (HB1.out.cell (p := ⟨b, o + 4, none⟩) XL.out).trans X4.out
    have y5 := (HB1.out.cell (p := ⟨b, o + 5, none⟩) XL.out).trans X5.out
    have y6 := (HB1.out.cell (p := ⟨b, o + 6, none⟩) XL.out).trans X6.out
    have y7 := (HB1.out.cell (p := ⟨b, o + 7, none⟩) XL.out).trans X7.out
    go_wp2_with fail
    refine (HT.out _ HB1.out).mono ?_
    rintro e w2 ⟨rfl, hb⟩
    have HB2 := hid (HB1.out.trans (hb.mono HB1.out.size))
    clear hb y0 y1 y2 y3 y4 y5 y6 y7
    have y0 := (HB2.out.cell (p := ⟨b, o, none⟩) XL.out).trans X0.out
    have y1 := (HB2.out.cell (p := ⟨b, o + 1, none⟩) XL.out).trans X1.out
    have y2 := (HB2.out.cell (p := ⟨b, o + 2, none⟩) XL.out).trans X2.out
    have y3 := (HB2.out.cell (p := ⟨b, o + 3, none⟩) XL.out).trans X3.out
    have y4 := (HB2.out.cell (p := ⟨b, o + 4, none⟩) XL.out).trans X4.out
    have y5 := (HB2.out.cell (p := ⟨b, o + 5, none⟩) XL.out).trans X5.out
    have y6 := (HB2.out.cell (p := ⟨b, o + 6, none⟩) XL.out).trans X6.out
    have y7 := (HB2.out.cell (p := ⟨b, o + 7, none⟩) XL.out).trans X7.out
    go_wp2_with fail
    go_ret
    exact ⟨ret_bool HF.out.symm, HB2.out⟩
  case pos =>
  have e3 : decide (0 < ns1.length) = false := decide_eq_false (by omega)
  have HF := hid (show tmFields 4 u1 n1 (Ty.mk tk1 tn1 tks1) ns1 = decide (u1 = 0) by rw [HE.out, t1, t2, decide_eq_true t3]; rfl)
  clear HE t1 t2 t3
  have y0 := (HB0.out.cell (p := ⟨b, o, none⟩) XL.out).trans X0.out
  have y1 := (HB0.out.cell (p := ⟨b, o + 1, none⟩) XL.out).trans X1.out
  have y2 := (HB0.out.cell (p := ⟨b, o + 2, none⟩) XL.out).trans X2.out
  have y3 := (HB0.out.cell (p := ⟨b, o + 3, none⟩) XL.out).trans X3.out
  have y4 := (HB0.out.cell (p := ⟨b, o + 4, none⟩) XL.out).trans X4.out
  have y5 := (HB0.out.cell (p := ⟨b, o + 5, none⟩) XL.out).trans X5.out
  have y6 := (HB0.out.cell (p := ⟨b, o + 6, none⟩) XL.out).trans X6.out
  have y7 := (HB0.out.cell (p := ⟨b, o + 7, none⟩) XL.out).trans X7.out
  go_enter Tryz.func100, Tryz.ntmps100
  go_wp2_with fail
  refine (HN.out _ HB0.out).mono ?_
  rintro e w1 ⟨rfl, hb⟩
  have HB1 := hid (HB0.out.trans (hb.mono HB0.out.size))
  clear hb y0 y1 y2 y3 y4 y5 y6 y7
  have y0 := (HB1.out.cell (p := ⟨b, o, none⟩) XL.out).trans X0.out
  have y1 := (HB1.out.cell (p := ⟨b, o + 1, none⟩) XL.out).trans X1.out
  have y2 := (HB1.out.cell (p := ⟨b, o + 2, none⟩) XL.out).trans X2.out
  have y3 := (HB1.out.cell (p := ⟨b, o + 3, none⟩) XL.out).trans X3.out
  have y4 := (HB1.out.cell (p := ⟨b, o + 4, none⟩) XL.out).trans X4.out
  have y5 := (HB1.out.cell (p := ⟨b, o + 5, none⟩) XL.out).trans X5.out
  have y6 := (HB1.out.cell (p := ⟨b, o + 6, none⟩) XL.out).trans X6.out
  have y7 := (HB1.out.cell (p := ⟨b, o + 7, none⟩) XL.out).trans X7.out
  go_wp2_with fail
  refine (HT.out _ HB1.out).mono ?_
  rintro e w2 ⟨rfl, hb⟩
  have HB2 := hid (HB1.out.trans (hb.mono HB1.out.size))
  clear hb y0 y1 y2 y3 y4 y5 y6 y7
  have y0 := (HB2.out.cell (p := ⟨b, o, none⟩) XL.out).trans X0.out
  have y1 := (HB2.out.cell (p := ⟨b, o + 1, none⟩) XL.out).trans X1.out
  have y2 := (HB2.out.cell (p := ⟨b, o + 2, none⟩) XL.out).trans X2.out
  have y3 := (HB2.out.cell (p := ⟨b, o + 3, none⟩) XL.out).trans X3.out
  have y4 := (HB2.out.cell (p := ⟨b, o + 4, none⟩) XL.out).trans X4.out
  have y5 := (HB2.out.cell (p := ⟨b, o + 5, none⟩) XL.out).trans X5.out
  have y6 := (HB2.out.cell (p := ⟨b, o + 6, none⟩) XL.out).trans X6.out
  have y7 := (HB2.out.cell (p := ⟨b, o + 7, none⟩) XL.out).trans X7.out
  go_wp2_with fail
  go_ret
  exact ⟨ret_bool (by rw [HF.out]; first | rfl | (by_cases hu : u1 = 0 <;> simp [hu])), HB2.out⟩
set_option maxHeartbeats 2000000 in
theorem spec_fields_5 (u1 : Int) (n1 : ByteArray) (tk1 : Int) (tn1 : ByteArray) (tks1 : List Ty) (ns1 : List ByteArray) (ks1 : List Tm) (atks1 : Option Addr) (ctks1 : Nat) (ans1 : Option Addr) (cns1 : Nat) (aks1 : Option Addr) (cks1 : Nat) (b o : Nat) (w : World) (x0 : w.cell? ⟨b, o, none⟩ = some (.int .i64 5)) (x1 : w.cell? ⟨b, o + 1, none⟩ = some (.int .i64 u1)) (x2 : w.cell? ⟨b, o + 2, none⟩ = some (.string n1)) (x3 : w.cell? ⟨b, o + 3, none⟩ = some (.int .i64 tk1)) (x4 : w.cell? ⟨b, o + 4, none⟩ = some (.string tn1)) (x5 : w.cell? ⟨b, o + 5, none⟩ = some (.slice atks1 tks1.length ctks1)) (x6 : w.cell? ⟨b, o + 6, none⟩ = some (.slice ans1 ns1.length cns1)) (x7 : w.cell? ⟨b, o + 7, none⟩ = some (.slice aks1 ks1.length cks1)) (hM : Tm.bulk (Tm.mk 5 u1 n1 (Ty.mk tk1 tn1 tks1) ns1 ks1) ≤ 1048576) (hr : RdS w (Tm.d (Tm.mk 5 u1 n1 (Ty.mk tk1 tn1 tks1) ns1 ks1)) [.int .i64 5, .int .i64 u1, .string n1, .int .i64 tk1, .string tn1, .slice atks1 tks1.length ctks1, .slice ans1 ns1.length cns1, .slice aks1 ks1.length cks1]) :
    Calls Tryz.prog 100 #[.pointer (some ⟨b, o, none⟩)] w fun e w' => e = .returned (.bool (tmFields 5 u1 n1 (Ty.mk tk1 tn1 tks1) ns1)) ∧ Below w.heap.size w w' := by
  have HE := hid (show tmFields 5 u1 n1 (Ty.mk tk1 tn1 tks1) ns1 = (n1.toList.isEmpty && (tyNone (Ty.mk tk1 tn1 tks1) && (decide (ns1.length = 0) && decide (u1 = 0)))) from rfl)
  have XL := hid (World.block_lt_of_cell? _ _ x0)
  have X0 := hid x0
  have X1 := hid x1
  have X2 := hid x2
  have X3 := hid x3
  have X4 := hid x4
  have X5 := hid x5
  have X6 := hid x6
  have X7 := hid x7
  have hlen : ns1.length ≤ 1048576 := by have := Sr.bulks_length ns1; simp only [Tm.bulk] at hM; omega
  have hbt : Ty.bulk (Ty.mk tk1 tn1 tks1) ≤ 1048576 := by simp only [Tm.bulk] at hM; omega
  have ht := fun W (hW : Below w.heap.size w W) => spec_l03NoType tk1 tn1 tks1 atks1 ctks1 W
  have HB0 := hid (Below.refl w.heap.size w)
  clear hr hM hbt x0 x1 x2 x3 x4 x5 x6 x7
  by_cases t1 : n1.toList.isEmpty = true
  case neg =>
    replace t1 := (Bool.not_eq_true _).mp t1
    have e1 : (n1.toList == []) = false := by simpa [List.isEmpty_eq_false_iff] using t1
    clear ht
    have HF := hid (show tmFields 5 u1 n1 (Ty.mk tk1 tn1 tks1) ns1 = false by rw [HE.out]; rw [t1]; rfl)
    clear HE t1
    have y0 := (HB0.out.cell (p := ⟨b, o, none⟩) XL.out).trans X0.out
    have y1 := (HB0.out.cell (p := ⟨b, o + 1, none⟩) XL.out).trans X1.out
    have y2 := (HB0.out.cell (p := ⟨b, o + 2, none⟩) XL.out).trans X2.out
    have y3 := (HB0.out.cell (p := ⟨b, o + 3, none⟩) XL.out).trans X3.out
    have y4 := (HB0.out.cell (p := ⟨b, o + 4, none⟩) XL.out).trans X4.out
    have y5 := (HB0.out.cell (p := ⟨b, o + 5, none⟩) XL.out).trans X5.out
    have y6 := (HB0.out.cell (p := ⟨b, o + 6, none⟩) XL.out).trans X6.out
    have y7 := (HB0.out.cell (p := ⟨b, o + 7, none⟩) XL.out).trans X7.out
    go_enter Tryz.func100, Tryz.ntmps100
    go_wp2_with fail
    go_ret
    exact ⟨ret_bool HF.out.symm, HB0.out⟩
  case pos =>
  have e1 : (n1.toList == []) = true := by simpa [List.isEmpty_iff] using t1
  by_cases t2 : tyNone (Ty.mk tk1 tn1 tks1) = true
  case neg =>
    replace t2 := (Bool.not_eq_true _).mp t2
    rw [t2] at ht
    have HT := hid ht
    clear ht
    have HF := hid (show tmFields 5 u1 n1 (Ty.mk tk1 tn1 tks1) ns1 = false by rw [HE.out]; rw [t1, t2]; rfl)
    clear HE t1 t2
    have y0 := (HB0.out.cell (p := ⟨b, o, none⟩) XL.out).trans X0.out
    have y1 := (HB0.out.cell (p := ⟨b, o + 1, none⟩) XL.out).trans X1.out
    have y2 := (HB0.out.cell (p := ⟨b, o + 2, none⟩) XL.out).trans X2.out
    have y3 := (HB0.out.cell (p := ⟨b, o + 3, none⟩) XL.out).trans X3.out
    have y4 := (HB0.out.cell (p := ⟨b, o + 4, none⟩) XL.out).trans X4.out
    have y5 := (HB0.out.cell (p := ⟨b, o + 5, none⟩) XL.out).trans X5.out
    have y6 := (HB0.out.cell (p := ⟨b, o + 6, none⟩) XL.out).trans X6.out
    have y7 := (HB0.out.cell (p := ⟨b, o + 7, none⟩) XL.out).trans X7.out
    go_enter Tryz.func100, Tryz.ntmps100
    go_wp2_with fail
    refine (HT.out _ HB0.out).mono ?_
    rintro e w1 ⟨rfl, hb⟩
    have HB1 := hid (HB0.out.trans (hb.mono HB0.out.size))
    clear hb y0 y1 y2 y3 y4 y5 y6 y7
    have y0 := (HB1.out.cell (p := ⟨b, o, none⟩) XL.out).trans X0.out
    have y1 := (HB1.out.cell (p := ⟨b, o + 1, none⟩) XL.out).trans X1.out
    have y2 := (HB1.out.cell (p := ⟨b, o + 2, none⟩) XL.out).trans X2.out
    have y3 := (HB1.out.cell (p := ⟨b, o + 3, none⟩) XL.out).trans X3.out
    have y4 := (HB1.out.cell (p := ⟨b, o + 4, none⟩) XL.out).trans X4.out
    have y5 := (HB1.out.cell (p := ⟨b, o + 5, none⟩) XL.out).trans X5.out
    have y6 := (HB1.out.cell (p := ⟨b, o + 6, none⟩) XL.out).trans X6.out
    have y7 := (HB1.out.cell (p := ⟨b, o + 7, none⟩) XL.out).trans X7.out
    go_wp2_with fail
    go_ret
    exact ⟨ret_bool HF.out.symm, HB1.out⟩
  case pos =>
  rw [t2] at ht
  have HT := hid ht
  clear ht
  by_cases t3 : ns1.length = 0
  case neg =>
    have e3 : decide (0 < ns1.length) = true := decide_eq_true (by omega)
    have HF := hid (show tmFields 5 u1 n1 (Ty.mk tk1 tn1 tks1) ns1 = false by rw [HE.out]; rw [t1, t2, decide_eq_false t3]; rfl)
    clear HE t1 t2 t3
    have y0 := (HB0.out.cell (p := ⟨b, o, none⟩) XL.out).trans X0.out
    have y1 := (HB0.out.cell (p := ⟨b, o + 1, none⟩) XL.out).trans X1.out
    have y2 := (HB0.out.cell (p := ⟨b, o + 2, none⟩) XL.out).trans X2.out
    have y3 := (HB0.out.cell (p := ⟨b, o + 3, none⟩) XL.out).trans X3.out
    have y4 := (HB0.out.cell (p := ⟨b, o + 4, none⟩) XL.out).trans X4.out
    have y5 := (HB0.out.cell (p := ⟨b, o + 5, none⟩) XL.out).trans X5.out
    have y6 := (HB0.out.cell (p := ⟨b, o + 6, none⟩) XL.out).trans X6.out
    have y7 := (HB0.out.cell (p := ⟨b, o + 7, none⟩) XL.out).trans X7.out
    go_enter Tryz.func100, Tryz.ntmps100
    go_wp2_with fail
    refine (HT.out _ HB0.out).mono ?_
    rintro e w1 ⟨rfl, hb⟩
    have HB1 := hid (HB0.out.trans (hb.mono HB0.out.size))
    clear hb y0 y1 y2 y3 y4 y5 y6 y7
    have y0 := (HB1.out.cell (p := ⟨b, o, none⟩) XL.out).trans X0.out
    have y1 := (HB1.out.cell (p := ⟨b, o + 1, none⟩) XL.out).trans X1.out
    have y2 := (HB1.out.cell (p := ⟨b, o + 2, none⟩) XL.out).trans X2.out
    have y3 := (HB1.out.cell (p := ⟨b, o + 3, none⟩) XL.out).trans X3.out
    have y4 := (HB1.out.cell (p := ⟨b, o + 4, none⟩) XL.out).trans X4.out
    have y5 := (HB1.out.cell (p := ⟨b, o + 5, none⟩) XL.out).trans X5.out
    have y6 := (HB1.out.cell (p := ⟨b, o + 6, none⟩) XL.out).trans X6.out
    have y7 := (HB1.out.cell (p := ⟨b, o + 7, none⟩) XL.out).trans X7.out
    go_wp2_with fail
    go_ret
    exact ⟨ret_bool HF.out.symm, HB1.out⟩
  case pos =>
  have e3 : decide (0 < ns1.length) = false := decide_eq_false (by omega)
  have HF := hid (show tmFields 5 u1 n1 (Ty.mk tk1 tn1 tks1) ns1 = decide (u1 = 0) by rw [HE.out, t1, t2, decide_eq_true t3]; rfl)
  clear HE t1 t2 t3
  have y0 := (HB0.out.cell (p := ⟨b, o, none⟩) XL.out).trans X0.out
  have y1 := (HB0.out.cell (p := ⟨b, o + 1, none⟩) XL.out).trans X1.out
  have y2 := (HB0.out.cell (p := ⟨b, o + 2, none⟩) XL.out).trans X2.out
  have y3 := (HB0.out.cell (p := ⟨b, o + 3, none⟩) XL.out).trans X3.out
  have y4 := (HB0.out.cell (p := ⟨b, o + 4, none⟩) XL.out).trans X4.out
  have y5 := (HB0.out.cell (p := ⟨b, o + 5, none⟩) XL.out).trans X5.out
  have y6 := (HB0.out.cell (p := ⟨b, o + 6, none⟩) XL.out).trans X6.out
  have y7 := (HB0.out.cell (p := ⟨b, o + 7, none⟩) XL.out).trans X7.out
  go_enter Tryz.func100, Tryz.ntmps100
  go_wp2_with fail
  refine (HT.out _ HB0.out).mono ?_
  rintro e w1 ⟨rfl, hb⟩
  have HB1 := hid (HB0.out.trans (hb.mono HB0.out.size))
  clear hb y0 y1 y2 y3 y4 y5 y6 y7
  have y0 := (HB1.out.cell (p := ⟨b, o, none⟩) XL.out).trans X0.out
  have y1 := (HB1.out.cell (p := ⟨b, o + 1, none⟩) XL.out).trans X1.out
  have y2 := (HB1.out.cell (p := ⟨b, o + 2, none⟩) XL.out).trans X2.out
  have y3 := (HB1.out.cell (p := ⟨b, o + 3, none⟩) XL.out).trans X3.out
  have y4 := (HB1.out.cell (p := ⟨b, o + 4, none⟩) XL.out).trans X4.out
  have y5 := (HB1.out.cell (p := ⟨b, o + 5, none⟩) XL.out).trans X5.out
  have y6 := (HB1.out.cell (p := ⟨b, o + 6, none⟩) XL.out).trans X6.out
  have y7 := (HB1.out.cell (p := ⟨b, o + 7, none⟩) XL.out).trans X7.out
  go_wp2_with fail
  go_ret
  exact ⟨ret_bool (by rw [HF.out]; first | rfl | (by_cases hu : u1 = 0 <;> simp [hu])), HB1.out⟩
set_option maxHeartbeats 2000000 in
theorem spec_fields_6 (u1 : Int) (n1 : ByteArray) (tk1 : Int) (tn1 : ByteArray) (tks1 : List Ty) (ns1 : List ByteArray) (ks1 : List Tm) (atks1 : Option Addr) (ctks1 : Nat) (ans1 : Option Addr) (cns1 : Nat) (aks1 : Option Addr) (cks1 : Nat) (b o : Nat) (w : World) (x0 : w.cell? ⟨b, o, none⟩ = some (.int .i64 6)) (x1 : w.cell? ⟨b, o + 1, none⟩ = some (.int .i64 u1)) (x2 : w.cell? ⟨b, o + 2, none⟩ = some (.string n1)) (x3 : w.cell? ⟨b, o + 3, none⟩ = some (.int .i64 tk1)) (x4 : w.cell? ⟨b, o + 4, none⟩ = some (.string tn1)) (x5 : w.cell? ⟨b, o + 5, none⟩ = some (.slice atks1 tks1.length ctks1)) (x6 : w.cell? ⟨b, o + 6, none⟩ = some (.slice ans1 ns1.length cns1)) (x7 : w.cell? ⟨b, o + 7, none⟩ = some (.slice aks1 ks1.length cks1)) (hM : Tm.bulk (Tm.mk 6 u1 n1 (Ty.mk tk1 tn1 tks1) ns1 ks1) ≤ 1048576) (hr : RdS w (Tm.d (Tm.mk 6 u1 n1 (Ty.mk tk1 tn1 tks1) ns1 ks1)) [.int .i64 6, .int .i64 u1, .string n1, .int .i64 tk1, .string tn1, .slice atks1 tks1.length ctks1, .slice ans1 ns1.length cns1, .slice aks1 ks1.length cks1]) :
    Calls Tryz.prog 100 #[.pointer (some ⟨b, o, none⟩)] w fun e w' => e = .returned (.bool (tmFields 6 u1 n1 (Ty.mk tk1 tn1 tks1) ns1)) ∧ Below w.heap.size w w' := by
  have HE := hid (show tmFields 6 u1 n1 (Ty.mk tk1 tn1 tks1) ns1 = (n1.toList.isEmpty && (tyNone (Ty.mk tk1 tn1 tks1) && (decide (ns1.length = 0) && decide (u1 = 0)))) from rfl)
  have XL := hid (World.block_lt_of_cell? _ _ x0)
  have X0 := hid x0
  have X1 := hid x1
  have X2 := hid x2
  have X3 := hid x3
  have X4 := hid x4
  have X5 := hid x5
  have X6 := hid x6
  have X7 := hid x7
  have hlen : ns1.length ≤ 1048576 := by have := Sr.bulks_length ns1; simp only [Tm.bulk] at hM; omega
  have hbt : Ty.bulk (Ty.mk tk1 tn1 tks1) ≤ 1048576 := by simp only [Tm.bulk] at hM; omega
  have ht := fun W (hW : Below w.heap.size w W) => spec_l03NoType tk1 tn1 tks1 atks1 ctks1 W
  have HB0 := hid (Below.refl w.heap.size w)
  clear hr hM hbt x0 x1 x2 x3 x4 x5 x6 x7
  by_cases t1 : n1.toList.isEmpty = true
  case neg =>
    replace t1 := (Bool.not_eq_true _).mp t1
    have e1 : (n1.toList == []) = false := by simpa [List.isEmpty_eq_false_iff] using t1
    clear ht
    have HF := hid (show tmFields 6 u1 n1 (Ty.mk tk1 tn1 tks1) ns1 = false by rw [HE.out]; rw [t1]; rfl)
    clear HE t1
    have y0 := (HB0.out.cell (p := ⟨b, o, none⟩) XL.out).trans X0.out
    have y1 := (HB0.out.cell (p := ⟨b, o + 1, none⟩) XL.out).trans X1.out
    have y2 := (HB0.out.cell (p := ⟨b, o + 2, none⟩) XL.out).trans X2.out
    have y3 := (HB0.out.cell (p := ⟨b, o + 3, none⟩) XL.out).trans X3.out
    have y4 := (HB0.out.cell (p := ⟨b, o + 4, none⟩) XL.out).trans X4.out
    have y5 := (HB0.out.cell (p := ⟨b, o + 5, none⟩) XL.out).trans X5.out
    have y6 := (HB0.out.cell (p := ⟨b, o + 6, none⟩) XL.out).trans X6.out
    have y7 := (HB0.out.cell (p := ⟨b, o + 7, none⟩) XL.out).trans X7.out
    go_enter Tryz.func100, Tryz.ntmps100
    go_wp2_with fail
    go_ret
    exact ⟨ret_bool HF.out.symm, HB0.out⟩
  case pos =>
  have e1 : (n1.toList == []) = true := by simpa [List.isEmpty_iff] using t1
  by_cases t2 : tyNone (Ty.mk tk1 tn1 tks1) = true
  case neg =>
    replace t2 := (Bool.not_eq_true _).mp t2
    rw [t2] at ht
    have HT := hid ht
    clear ht
    have HF := hid (show tmFields 6 u1 n1 (Ty.mk tk1 tn1 tks1) ns1 = false by rw [HE.out]; rw [t1, t2]; rfl)
    clear HE t1 t2
    have y0 := (HB0.out.cell (p := ⟨b, o, none⟩) XL.out).trans X0.out
    have y1 := (HB0.out.cell (p := ⟨b, o + 1, none⟩) XL.out).trans X1.out
    have y2 := (HB0.out.cell (p := ⟨b, o + 2, none⟩) XL.out).trans X2.out
    have y3 := (HB0.out.cell (p := ⟨b, o + 3, none⟩) XL.out).trans X3.out
    have y4 := (HB0.out.cell (p := ⟨b, o + 4, none⟩) XL.out).trans X4.out
    have y5 := (HB0.out.cell (p := ⟨b, o + 5, none⟩) XL.out).trans X5.out
    have y6 := (HB0.out.cell (p := ⟨b, o + 6, none⟩) XL.out).trans X6.out
    have y7 := (HB0.out.cell (p := ⟨b, o + 7, none⟩) XL.out).trans X7.out
    go_enter Tryz.func100, Tryz.ntmps100
    go_wp2_with fail
    refine (HT.out _ HB0.out).mono ?_
    rintro e w1 ⟨rfl, hb⟩
    have HB1 := hid (HB0.out.trans (hb.mono HB0.out.size))
    clear hb y0 y1 y2 y3 y4 y5 y6 y7
    have y0 := (HB1.out.cell (p := ⟨b, o, none⟩) XL.out).trans X0.out
    have y1 := (HB1.out.cell (p := ⟨b, o + 1, none⟩) XL.out).trans X1.out
    have y2 := (HB1.out.cell (p := ⟨b, o + 2, none⟩) XL.out).trans X2.out
    have y3 := (HB1.out.cell (p := ⟨b, o + 3, none⟩) XL.out).trans X3.out
    have y4 := (HB1.out.cell (p := ⟨b, o + 4, none⟩) XL.out).trans X4.out
    have y5 := (HB1.out.cell (p := ⟨b, o + 5, none⟩) XL.out).trans X5.out
    have y6 := (HB1.out.cell (p := ⟨b, o + 6, none⟩) XL.out).trans X6.out
    have y7 := (HB1.out.cell (p := ⟨b, o + 7, none⟩) XL.out).trans X7.out
    go_wp2_with fail
    go_ret
    exact ⟨ret_bool HF.out.symm, HB1.out⟩
  case pos =>
  rw [t2] at ht
  have HT := hid ht
  clear ht
  by_cases t3 : ns1.length = 0
  case neg =>
    have e3 : decide (0 < ns1.length) = true := decide_eq_true (by omega)
    have HF := hid (show tmFields 6 u1 n1 (Ty.mk tk1 tn1 tks1) ns1 = false by rw [HE.out]; rw [t1, t2, decide_eq_false t3]; rfl)
    clear HE t1 t2 t3
    have y0 := (HB0.out.cell (p := ⟨b, o, none⟩) XL.out).trans X0.out
    have y1 := (HB0.out.cell (p := ⟨b, o + 1, none⟩) XL.out).trans X1.out
    have y2 := (HB0.out.cell (p := ⟨b, o + 2, none⟩) XL.out).trans X2.out
    have y3 := (HB0.out.cell (p := ⟨b, o + 3, none⟩) XL.out).trans X3.out
    have y4 := (HB0.out.cell (p := ⟨b, o + 4, none⟩) XL.out).trans X4.out
    have y5 := (HB0.out.cell (p := ⟨b, o + 5, none⟩) XL.out).trans X5.out
    have y6 := (HB0.out.cell (p := ⟨b, o + 6, none⟩) XL.out).trans X6.out
    have y7 := (HB0.out.cell (p := ⟨b, o + 7, none⟩) XL.out).trans X7.out
    go_enter Tryz.func100, Tryz.ntmps100
    go_wp2_with fail
    refine (HT.out _ HB0.out).mono ?_
    rintro e w1 ⟨rfl, hb⟩
    have HB1 := hid (HB0.out.trans (hb.mono HB0.out.size))
    clear hb y0 y1 y2 y3 y4 y5 y6 y7
    have y0 := (HB1.out.cell (p := ⟨b, o, none⟩) XL.out).trans X0.out
    have y1 := (HB1.out.cell (p := ⟨b, o + 1, none⟩) XL.out).trans X1.out
    have y2 := (HB1.out.cell (p := ⟨b, o + 2, none⟩) XL.out).trans X2.out
    have y3 := (HB1.out.cell (p := ⟨b, o + 3, none⟩) XL.out).trans X3.out
    have y4 := (HB1.out.cell (p := ⟨b, o + 4, none⟩) XL.out).trans X4.out
    have y5 := (HB1.out.cell (p := ⟨b, o + 5, none⟩) XL.out).trans X5.out
    have y6 := (HB1.out.cell (p := ⟨b, o + 6, none⟩) XL.out).trans X6.out
    have y7 := (HB1.out.cell (p := ⟨b, o + 7, none⟩) XL.out).trans X7.out
    go_wp2_with fail
    go_ret
    exact ⟨ret_bool HF.out.symm, HB1.out⟩
  case pos =>
  have e3 : decide (0 < ns1.length) = false := decide_eq_false (by omega)
  have HF := hid (show tmFields 6 u1 n1 (Ty.mk tk1 tn1 tks1) ns1 = decide (u1 = 0) by rw [HE.out, t1, t2, decide_eq_true t3]; rfl)
  clear HE t1 t2 t3
  have y0 := (HB0.out.cell (p := ⟨b, o, none⟩) XL.out).trans X0.out
  have y1 := (HB0.out.cell (p := ⟨b, o + 1, none⟩) XL.out).trans X1.out
  have y2 := (HB0.out.cell (p := ⟨b, o + 2, none⟩) XL.out).trans X2.out
  have y3 := (HB0.out.cell (p := ⟨b, o + 3, none⟩) XL.out).trans X3.out
  have y4 := (HB0.out.cell (p := ⟨b, o + 4, none⟩) XL.out).trans X4.out
  have y5 := (HB0.out.cell (p := ⟨b, o + 5, none⟩) XL.out).trans X5.out
  have y6 := (HB0.out.cell (p := ⟨b, o + 6, none⟩) XL.out).trans X6.out
  have y7 := (HB0.out.cell (p := ⟨b, o + 7, none⟩) XL.out).trans X7.out
  go_enter Tryz.func100, Tryz.ntmps100
  go_wp2_with fail
  refine (HT.out _ HB0.out).mono ?_
  rintro e w1 ⟨rfl, hb⟩
  have HB1 := hid (HB0.out.trans (hb.mono HB0.out.size))
  clear hb y0 y1 y2 y3 y4 y5 y6 y7
  have y0 := (HB1.out.cell (p := ⟨b, o, none⟩) XL.out).trans X0.out
  have y1 := (HB1.out.cell (p := ⟨b, o + 1, none⟩) XL.out).trans X1.out
  have y2 := (HB1.out.cell (p := ⟨b, o + 2, none⟩) XL.out).trans X2.out
  have y3 := (HB1.out.cell (p := ⟨b, o + 3, none⟩) XL.out).trans X3.out
  have y4 := (HB1.out.cell (p := ⟨b, o + 4, none⟩) XL.out).trans X4.out
  have y5 := (HB1.out.cell (p := ⟨b, o + 5, none⟩) XL.out).trans X5.out
  have y6 := (HB1.out.cell (p := ⟨b, o + 6, none⟩) XL.out).trans X6.out
  have y7 := (HB1.out.cell (p := ⟨b, o + 7, none⟩) XL.out).trans X7.out
  go_wp2_with fail
  go_ret
  exact ⟨ret_bool (by rw [HF.out]; first | rfl | (by_cases hu : u1 = 0 <;> simp [hu])), HB1.out⟩
set_option maxHeartbeats 2000000 in
theorem spec_fields_7 (u1 : Int) (n1 : ByteArray) (tk1 : Int) (tn1 : ByteArray) (tks1 : List Ty) (ns1 : List ByteArray) (ks1 : List Tm) (atks1 : Option Addr) (ctks1 : Nat) (ans1 : Option Addr) (cns1 : Nat) (aks1 : Option Addr) (cks1 : Nat) (b o : Nat) (w : World) (x0 : w.cell? ⟨b, o, none⟩ = some (.int .i64 7)) (x1 : w.cell? ⟨b, o + 1, none⟩ = some (.int .i64 u1)) (x2 : w.cell? ⟨b, o + 2, none⟩ = some (.string n1)) (x3 : w.cell? ⟨b, o + 3, none⟩ = some (.int .i64 tk1)) (x4 : w.cell? ⟨b, o + 4, none⟩ = some (.string tn1)) (x5 : w.cell? ⟨b, o + 5, none⟩ = some (.slice atks1 tks1.length ctks1)) (x6 : w.cell? ⟨b, o + 6, none⟩ = some (.slice ans1 ns1.length cns1)) (x7 : w.cell? ⟨b, o + 7, none⟩ = some (.slice aks1 ks1.length cks1)) (hM : Tm.bulk (Tm.mk 7 u1 n1 (Ty.mk tk1 tn1 tks1) ns1 ks1) ≤ 1048576) (hr : RdS w (Tm.d (Tm.mk 7 u1 n1 (Ty.mk tk1 tn1 tks1) ns1 ks1)) [.int .i64 7, .int .i64 u1, .string n1, .int .i64 tk1, .string tn1, .slice atks1 tks1.length ctks1, .slice ans1 ns1.length cns1, .slice aks1 ks1.length cks1]) :
    Calls Tryz.prog 100 #[.pointer (some ⟨b, o, none⟩)] w fun e w' => e = .returned (.bool (tmFields 7 u1 n1 (Ty.mk tk1 tn1 tks1) ns1)) ∧ Below w.heap.size w w' := by
  have HE := hid (show tmFields 7 u1 n1 (Ty.mk tk1 tn1 tks1) ns1 = (isLowerB n1 && (tyNone (Ty.mk tk1 tn1 tks1) && (decide (ns1.length = 0) && decide (u1 = 0)))) from rfl)
  have XL := hid (World.block_lt_of_cell? _ _ x0)
  have X0 := hid x0
  have X1 := hid x1
  have X2 := hid x2
  have X3 := hid x3
  have X4 := hid x4
  have X5 := hid x5
  have X6 := hid x6
  have X7 := hid x7
  have hlen : ns1.length ≤ 1048576 := by have := Sr.bulks_length ns1; simp only [Tm.bulk] at hM; omega
  have hbt : Ty.bulk (Ty.mk tk1 tn1 tks1) ≤ 1048576 := by simp only [Tm.bulk] at hM; omega
  have hn := fun W (hW : Below w.heap.size w W) => spec_IsLower n1 W
  have ht := fun W (hW : Below w.heap.size w W) => spec_l03NoType tk1 tn1 tks1 atks1 ctks1 W
  have HB0 := hid (Below.refl w.heap.size w)
  clear hr hM hbt x0 x1 x2 x3 x4 x5 x6 x7
  by_cases t1 : isLowerB n1 = true
  case neg =>
    replace t1 := (Bool.not_eq_true _).mp t1
    rw [t1] at hn
    have HN := hid hn
    clear hn ht
    have HF := hid (show tmFields 7 u1 n1 (Ty.mk tk1 tn1 tks1) ns1 = false by rw [HE.out]; rw [t1]; rfl)
    clear HE t1
    have y0 := (HB0.out.cell (p := ⟨b, o, none⟩) XL.out).trans X0.out
    have y1 := (HB0.out.cell (p := ⟨b, o + 1, none⟩) XL.out).trans X1.out
    have y2 := (HB0.out.cell (p := ⟨b, o + 2, none⟩) XL.out).trans X2.out
    have y3 := (HB0.out.cell (p := ⟨b, o + 3, none⟩) XL.out).trans X3.out
    have y4 := (HB0.out.cell (p := ⟨b, o + 4, none⟩) XL.out).trans X4.out
    have y5 := (HB0.out.cell (p := ⟨b, o + 5, none⟩) XL.out).trans X5.out
    have y6 := (HB0.out.cell (p := ⟨b, o + 6, none⟩) XL.out).trans X6.out
    have y7 := (HB0.out.cell (p := ⟨b, o + 7, none⟩) XL.out).trans X7.out
    go_enter Tryz.func100, Tryz.ntmps100
    go_wp2_with fail
    refine (HN.out _ HB0.out).mono ?_
    rintro e w1 ⟨rfl, hb⟩
    have HB1 := hid (HB0.out.trans (hb.mono HB0.out.size))
    clear hb y0 y1 y2 y3 y4 y5 y6 y7
    have y0 := (HB1.out.cell (p := ⟨b, o, none⟩) XL.out).trans X0.out
    have y1 := (HB1.out.cell (p := ⟨b, o + 1, none⟩) XL.out).trans X1.out
    have y2 := (HB1.out.cell (p := ⟨b, o + 2, none⟩) XL.out).trans X2.out
    have y3 := (HB1.out.cell (p := ⟨b, o + 3, none⟩) XL.out).trans X3.out
    have y4 := (HB1.out.cell (p := ⟨b, o + 4, none⟩) XL.out).trans X4.out
    have y5 := (HB1.out.cell (p := ⟨b, o + 5, none⟩) XL.out).trans X5.out
    have y6 := (HB1.out.cell (p := ⟨b, o + 6, none⟩) XL.out).trans X6.out
    have y7 := (HB1.out.cell (p := ⟨b, o + 7, none⟩) XL.out).trans X7.out
    go_wp2_with fail
    go_ret
    exact ⟨ret_bool HF.out.symm, HB1.out⟩
  case pos =>
  rw [t1] at hn
  have HN := hid hn
  clear hn
  by_cases t2 : tyNone (Ty.mk tk1 tn1 tks1) = true
  case neg =>
    replace t2 := (Bool.not_eq_true _).mp t2
    rw [t2] at ht
    have HT := hid ht
    clear ht
    have HF := hid (show tmFields 7 u1 n1 (Ty.mk tk1 tn1 tks1) ns1 = false by rw [HE.out]; rw [t1, t2]; rfl)
    clear HE t1 t2
    have y0 := (HB0.out.cell (p := ⟨b, o, none⟩) XL.out).trans X0.out
    have y1 := (HB0.out.cell (p := ⟨b, o + 1, none⟩) XL.out).trans X1.out
    have y2 := (HB0.out.cell (p := ⟨b, o + 2, none⟩) XL.out).trans X2.out
    have y3 := (HB0.out.cell (p := ⟨b, o + 3, none⟩) XL.out).trans X3.out
    have y4 := (HB0.out.cell (p := ⟨b, o + 4, none⟩) XL.out).trans X4.out
    have y5 := (HB0.out.cell (p := ⟨b, o + 5, none⟩) XL.out).trans X5.out
    have y6 := (HB0.out.cell (p := ⟨b, o + 6, none⟩) XL.out).trans X6.out
    have y7 := (HB0.out.cell (p := ⟨b, o + 7, none⟩) XL.out).trans X7.out
    go_enter Tryz.func100, Tryz.ntmps100
    go_wp2_with fail
    refine (HN.out _ HB0.out).mono ?_
    rintro e w1 ⟨rfl, hb⟩
    have HB1 := hid (HB0.out.trans (hb.mono HB0.out.size))
    clear hb y0 y1 y2 y3 y4 y5 y6 y7
    have y0 := (HB1.out.cell (p := ⟨b, o, none⟩) XL.out).trans X0.out
    have y1 := (HB1.out.cell (p := ⟨b, o + 1, none⟩) XL.out).trans X1.out
    have y2 := (HB1.out.cell (p := ⟨b, o + 2, none⟩) XL.out).trans X2.out
    have y3 := (HB1.out.cell (p := ⟨b, o + 3, none⟩) XL.out).trans X3.out
    have y4 := (HB1.out.cell (p := ⟨b, o + 4, none⟩) XL.out).trans X4.out
    have y5 := (HB1.out.cell (p := ⟨b, o + 5, none⟩) XL.out).trans X5.out
    have y6 := (HB1.out.cell (p := ⟨b, o + 6, none⟩) XL.out).trans X6.out
    have y7 := (HB1.out.cell (p := ⟨b, o + 7, none⟩) XL.out).trans X7.out
    go_wp2_with fail
    refine (HT.out _ HB1.out).mono ?_
    rintro e w2 ⟨rfl, hb⟩
    have HB2 := hid (HB1.out.trans (hb.mono HB1.out.size))
    clear hb y0 y1 y2 y3 y4 y5 y6 y7
    have y0 := (HB2.out.cell (p := ⟨b, o, none⟩) XL.out).trans X0.out
    have y1 := (HB2.out.cell (p := ⟨b, o + 1, none⟩) XL.out).trans X1.out
    have y2 := (HB2.out.cell (p := ⟨b, o + 2, none⟩) XL.out).trans X2.out
    have y3 := (HB2.out.cell (p := ⟨b, o + 3, none⟩) XL.out).trans X3.out
    have y4 := (HB2.out.cell (p := ⟨b, o + 4, none⟩) XL.out).trans X4.out
    have y5 := (HB2.out.cell (p := ⟨b, o + 5, none⟩) XL.out).trans X5.out
    have y6 := (HB2.out.cell (p := ⟨b, o + 6, none⟩) XL.out).trans X6.out
    have y7 := (HB2.out.cell (p := ⟨b, o + 7, none⟩) XL.out).trans X7.out
    go_wp2_with fail
    go_ret
    exact ⟨ret_bool HF.out.symm, HB2.out⟩
  case pos =>
  rw [t2] at ht
  have HT := hid ht
  clear ht
  by_cases t3 : ns1.length = 0
  case neg =>
    have e3 : decide (0 < ns1.length) = true := decide_eq_true (by omega)
    have HF := hid (show tmFields 7 u1 n1 (Ty.mk tk1 tn1 tks1) ns1 = false by rw [HE.out]; rw [t1, t2, decide_eq_false t3]; rfl)
    clear HE t1 t2 t3
    have y0 := (HB0.out.cell (p := ⟨b, o, none⟩) XL.out).trans X0.out
    have y1 := (HB0.out.cell (p := ⟨b, o + 1, none⟩) XL.out).trans X1.out
    have y2 := (HB0.out.cell (p := ⟨b, o + 2, none⟩) XL.out).trans X2.out
    have y3 := (HB0.out.cell (p := ⟨b, o + 3, none⟩) XL.out).trans X3.out
    have y4 := (HB0.out.cell (p := ⟨b, o + 4, none⟩) XL.out).trans X4.out
    have y5 := (HB0.out.cell (p := ⟨b, o + 5, none⟩) XL.out).trans X5.out
    have y6 := (HB0.out.cell (p := ⟨b, o + 6, none⟩) XL.out).trans X6.out
    have y7 := (HB0.out.cell (p := ⟨b, o + 7, none⟩) XL.out).trans X7.out
    go_enter Tryz.func100, Tryz.ntmps100
    go_wp2_with fail
    refine (HN.out _ HB0.out).mono ?_
    rintro e w1 ⟨rfl, hb⟩
    have HB1 := hid (HB0.out.trans (hb.mono HB0.out.size))
    clear hb y0 y1 y2 y3 y4 y5 y6 y7
    have y0 := (HB1.out.cell (p := ⟨b, o, none⟩) XL.out).trans X0.out
    have y1 := (HB1.out.cell (p := ⟨b, o + 1, none⟩) XL.out).trans X1.out
    have y2 := (HB1.out.cell (p := ⟨b, o + 2, none⟩) XL.out).trans X2.out
    have y3 := (HB1.out.cell (p := ⟨b, o + 3, none⟩) XL.out).trans X3.out
    have y4 := (HB1.out.cell (p := ⟨b, o + 4, none⟩) XL.out).trans X4.out
    have y5 := (HB1.out.cell (p := ⟨b, o + 5, none⟩) XL.out).trans X5.out
    have y6 := (HB1.out.cell (p := ⟨b, o + 6, none⟩) XL.out).trans X6.out
    have y7 := (HB1.out.cell (p := ⟨b, o + 7, none⟩) XL.out).trans X7.out
    go_wp2_with fail
    refine (HT.out _ HB1.out).mono ?_
    rintro e w2 ⟨rfl, hb⟩
    have HB2 := hid (HB1.out.trans (hb.mono HB1.out.size))
    clear hb y0 y1 y2 y3 y4 y5 y6 y7
    have y0 := (HB2.out.cell (p := ⟨b, o, none⟩) XL.out).trans X0.out
    have y1 := (HB2.out.cell (p := ⟨b, o + 1, none⟩) XL.out).trans X1.out
    have y2 := (HB2.out.cell (p := ⟨b, o + 2, none⟩) XL.out).trans X2.out
    have y3 := (HB2.out.cell (p := ⟨b, o + 3, none⟩) XL.out).trans X3.out
    have y4 := (HB2.out.cell (p := ⟨b, o + 4, none⟩) XL.out).trans X4.out
    have y5 := (HB2.out.cell (p := ⟨b, o + 5, none⟩) XL.out).trans X5.out
    have y6 := (HB2.out.cell (p := ⟨b, o + 6, none⟩) XL.out).trans X6.out
    have y7 := (HB2.out.cell (p := ⟨b, o + 7, none⟩) XL.out).trans X7.out
    go_wp2_with fail
    go_ret
    exact ⟨ret_bool HF.out.symm, HB2.out⟩
  case pos =>
  have e3 : decide (0 < ns1.length) = false := decide_eq_false (by omega)
  have HF := hid (show tmFields 7 u1 n1 (Ty.mk tk1 tn1 tks1) ns1 = decide (u1 = 0) by rw [HE.out, t1, t2, decide_eq_true t3]; rfl)
  clear HE t1 t2 t3
  have y0 := (HB0.out.cell (p := ⟨b, o, none⟩) XL.out).trans X0.out
  have y1 := (HB0.out.cell (p := ⟨b, o + 1, none⟩) XL.out).trans X1.out
  have y2 := (HB0.out.cell (p := ⟨b, o + 2, none⟩) XL.out).trans X2.out
  have y3 := (HB0.out.cell (p := ⟨b, o + 3, none⟩) XL.out).trans X3.out
  have y4 := (HB0.out.cell (p := ⟨b, o + 4, none⟩) XL.out).trans X4.out
  have y5 := (HB0.out.cell (p := ⟨b, o + 5, none⟩) XL.out).trans X5.out
  have y6 := (HB0.out.cell (p := ⟨b, o + 6, none⟩) XL.out).trans X6.out
  have y7 := (HB0.out.cell (p := ⟨b, o + 7, none⟩) XL.out).trans X7.out
  go_enter Tryz.func100, Tryz.ntmps100
  go_wp2_with fail
  refine (HN.out _ HB0.out).mono ?_
  rintro e w1 ⟨rfl, hb⟩
  have HB1 := hid (HB0.out.trans (hb.mono HB0.out.size))
  clear hb y0 y1 y2 y3 y4 y5 y6 y7
  have y0 := (HB1.out.cell (p := ⟨b, o, none⟩) XL.out).trans X0.out
  have y1 := (HB1.out.cell (p := ⟨b, o + 1, none⟩) XL.out).trans X1.out
  have y2 := (HB1.out.cell (p := ⟨b, o + 2, none⟩) XL.out).trans X2.out
  have y3 := (HB1.out.cell (p := ⟨b, o + 3, none⟩) XL.out).trans X3.out
  have y4 := (HB1.out.cell (p := ⟨b, o + 4, none⟩) XL.out).trans X4.out
  have y5 := (HB1.out.cell (p := ⟨b, o + 5, none⟩) XL.out).trans X5.out
  have y6 := (HB1.out.cell (p := ⟨b, o + 6, none⟩) XL.out).trans X6.out
  have y7 := (HB1.out.cell (p := ⟨b, o + 7, none⟩) XL.out).trans X7.out
  go_wp2_with fail
  refine (HT.out _ HB1.out).mono ?_
  rintro e w2 ⟨rfl, hb⟩
  have HB2 := hid (HB1.out.trans (hb.mono HB1.out.size))
  clear hb y0 y1 y2 y3 y4 y5 y6 y7
  have y0 := (HB2.out.cell (p := ⟨b, o, none⟩) XL.out).trans X0.out
  have y1 := (HB2.out.cell (p := ⟨b, o + 1, none⟩) XL.out).trans X1.out
  have y2 := (HB2.out.cell (p := ⟨b, o + 2, none⟩) XL.out).trans X2.out
  have y3 := (HB2.out.cell (p := ⟨b, o + 3, none⟩) XL.out).trans X3.out
  have y4 := (HB2.out.cell (p := ⟨b, o + 4, none⟩) XL.out).trans X4.out
  have y5 := (HB2.out.cell (p := ⟨b, o + 5, none⟩) XL.out).trans X5.out
  have y6 := (HB2.out.cell (p := ⟨b, o + 6, none⟩) XL.out).trans X6.out
  have y7 := (HB2.out.cell (p := ⟨b, o + 7, none⟩) XL.out).trans X7.out
  go_wp2_with fail
  go_ret
  exact ⟨ret_bool (by rw [HF.out]; first | rfl | (by_cases hu : u1 = 0 <;> simp [hu])), HB2.out⟩
set_option maxHeartbeats 2000000 in
theorem spec_fields_8 (u1 : Int) (n1 : ByteArray) (tk1 : Int) (tn1 : ByteArray) (tks1 : List Ty) (ns1 : List ByteArray) (ks1 : List Tm) (atks1 : Option Addr) (ctks1 : Nat) (ans1 : Option Addr) (cns1 : Nat) (aks1 : Option Addr) (cks1 : Nat) (b o : Nat) (w : World) (x0 : w.cell? ⟨b, o, none⟩ = some (.int .i64 8)) (x1 : w.cell? ⟨b, o + 1, none⟩ = some (.int .i64 u1)) (x2 : w.cell? ⟨b, o + 2, none⟩ = some (.string n1)) (x3 : w.cell? ⟨b, o + 3, none⟩ = some (.int .i64 tk1)) (x4 : w.cell? ⟨b, o + 4, none⟩ = some (.string tn1)) (x5 : w.cell? ⟨b, o + 5, none⟩ = some (.slice atks1 tks1.length ctks1)) (x6 : w.cell? ⟨b, o + 6, none⟩ = some (.slice ans1 ns1.length cns1)) (x7 : w.cell? ⟨b, o + 7, none⟩ = some (.slice aks1 ks1.length cks1)) (hM : Tm.bulk (Tm.mk 8 u1 n1 (Ty.mk tk1 tn1 tks1) ns1 ks1) ≤ 1048576) (hr : RdS w (Tm.d (Tm.mk 8 u1 n1 (Ty.mk tk1 tn1 tks1) ns1 ks1)) [.int .i64 8, .int .i64 u1, .string n1, .int .i64 tk1, .string tn1, .slice atks1 tks1.length ctks1, .slice ans1 ns1.length cns1, .slice aks1 ks1.length cks1]) :
    Calls Tryz.prog 100 #[.pointer (some ⟨b, o, none⟩)] w fun e w' => e = .returned (.bool (tmFields 8 u1 n1 (Ty.mk tk1 tn1 tks1) ns1)) ∧ Below w.heap.size w w' := by
  have HE := hid (show tmFields 8 u1 n1 (Ty.mk tk1 tn1 tks1) ns1 = (isUpperB n1 && (tyNone (Ty.mk tk1 tn1 tks1) && (decide (ns1.length = 0) && decide (u1 = 0)))) from rfl)
  have XL := hid (World.block_lt_of_cell? _ _ x0)
  have X0 := hid x0
  have X1 := hid x1
  have X2 := hid x2
  have X3 := hid x3
  have X4 := hid x4
  have X5 := hid x5
  have X6 := hid x6
  have X7 := hid x7
  have hlen : ns1.length ≤ 1048576 := by have := Sr.bulks_length ns1; simp only [Tm.bulk] at hM; omega
  have hbt : Ty.bulk (Ty.mk tk1 tn1 tks1) ≤ 1048576 := by simp only [Tm.bulk] at hM; omega
  have hn := fun W (hW : Below w.heap.size w W) => spec_IsUpper n1 W
  have ht := fun W (hW : Below w.heap.size w W) => spec_l03NoType tk1 tn1 tks1 atks1 ctks1 W
  have HB0 := hid (Below.refl w.heap.size w)
  clear hr hM hbt x0 x1 x2 x3 x4 x5 x6 x7
  by_cases t1 : isUpperB n1 = true
  case neg =>
    replace t1 := (Bool.not_eq_true _).mp t1
    rw [t1] at hn
    have HN := hid hn
    clear hn ht
    have HF := hid (show tmFields 8 u1 n1 (Ty.mk tk1 tn1 tks1) ns1 = false by rw [HE.out]; rw [t1]; rfl)
    clear HE t1
    have y0 := (HB0.out.cell (p := ⟨b, o, none⟩) XL.out).trans X0.out
    have y1 := (HB0.out.cell (p := ⟨b, o + 1, none⟩) XL.out).trans X1.out
    have y2 := (HB0.out.cell (p := ⟨b, o + 2, none⟩) XL.out).trans X2.out
    have y3 := (HB0.out.cell (p := ⟨b, o + 3, none⟩) XL.out).trans X3.out
    have y4 := (HB0.out.cell (p := ⟨b, o + 4, none⟩) XL.out).trans X4.out
    have y5 := (HB0.out.cell (p := ⟨b, o + 5, none⟩) XL.out).trans X5.out
    have y6 := (HB0.out.cell (p := ⟨b, o + 6, none⟩) XL.out).trans X6.out
    have y7 := (HB0.out.cell (p := ⟨b, o + 7, none⟩) XL.out).trans X7.out
    go_enter Tryz.func100, Tryz.ntmps100
    go_wp2_with fail
    refine (HN.out _ HB0.out).mono ?_
    rintro e w1 ⟨rfl, hb⟩
    have HB1 := hid (HB0.out.trans (hb.mono HB0.out.size))
    clear hb y0 y1 y2 y3 y4 y5 y6 y7
    have y0 := (HB1.out.cell (p := ⟨b, o, none⟩) XL.out).trans X0.out
    have y1 := (HB1.out.cell (p := ⟨b, o + 1, none⟩) XL.out).trans X1.out
    have y2 := (HB1.out.cell (p := ⟨b, o + 2, none⟩) XL.out).trans X2.out
    have y3 := (HB1.out.cell (p := ⟨b, o + 3, none⟩) XL.out).trans X3.out
    have y4 := (HB1.out.cell (p := ⟨b, o + 4, none⟩) XL.out).trans X4.out
    have y5 := (HB1.out.cell (p := ⟨b, o + 5, none⟩) XL.out).trans X5.out
    have y6 := (HB1.out.cell (p := ⟨b, o + 6, none⟩) XL.out).trans X6.out
    have y7 := (HB1.out.cell (p := ⟨b, o + 7, none⟩) XL.out).trans X7.out
    go_wp2_with fail
    go_ret
    exact ⟨ret_bool HF.out.symm, HB1.out⟩
  case pos =>
  rw [t1] at hn
  have HN := hid hn
  clear hn
  by_cases t2 : tyNone (Ty.mk tk1 tn1 tks1) = true
  case neg =>
    replace t2 := (Bool.not_eq_true _).mp t2
    rw [t2] at ht
    have HT := hid ht
    clear ht
    have HF := hid (show tmFields 8 u1 n1 (Ty.mk tk1 tn1 tks1) ns1 = false by rw [HE.out]; rw [t1, t2]; rfl)
    clear HE t1 t2
    have y0 := (HB0.out.cell (p := ⟨b, o, none⟩) XL.out).trans X0.out
    have y1 := (HB0.out.cell (p := ⟨b, o + 1, none⟩) XL.out).trans X1.out
    have y2 := (HB0.out.cell (p := ⟨b, o + 2, none⟩) XL.out).trans X2.out
    have y3 := (HB0.out.cell (p := ⟨b, o + 3, none⟩) XL.out).trans X3.out
    have y4 := (HB0.out.cell (p := ⟨b, o + 4, none⟩) XL.out).trans X4.out
    have y5 := (HB0.out.cell (p := ⟨b, o + 5, none⟩) XL.out).trans X5.out
    have y6 := (HB0.out.cell (p := ⟨b, o + 6, none⟩) XL.out).trans X6.out
    have y7 := (HB0.out.cell (p := ⟨b, o + 7, none⟩) XL.out).trans X7.out
    go_enter Tryz.func100, Tryz.ntmps100
    go_wp2_with fail
    refine (HN.out _ HB0.out).mono ?_
    rintro e w1 ⟨rfl, hb⟩
    have HB1 := hid (HB0.out.trans (hb.mono HB0.out.size))
    clear hb y0 y1 y2 y3 y4 y5 y6 y7
    have y0 := (HB1.out.cell (p := ⟨b, o, none⟩) XL.out).trans X0.out
    have y1 := (HB1.out.cell (p := ⟨b, o + 1, none⟩) XL.out).trans X1.out
    have y2 := (HB1.out.cell (p := ⟨b, o + 2, none⟩) XL.out).trans X2.out
    have y3 := (HB1.out.cell (p := ⟨b, o + 3, none⟩) XL.out).trans X3.out
    have y4 := (HB1.out.cell (p := ⟨b, o + 4, none⟩) XL.out).trans X4.out
    have y5 := (HB1.out.cell (p := ⟨b, o + 5, none⟩) XL.out).trans X5.out
    have y6 := (HB1.out.cell (p := ⟨b, o + 6, none⟩) XL.out).trans X6.out
    have y7 := (HB1.out.cell (p := ⟨b, o + 7, none⟩) XL.out).trans X7.out
    go_wp2_with fail
    refine (HT.out _ HB1.out).mono ?_
    rintro e w2 ⟨rfl, hb⟩
    have HB2 := hid (HB1.out.trans (hb.mono HB1.out.size))
    clear hb y0 y1 y2 y3 y4 y5 y6 y7
    have y0 := (HB2.out.cell (p := ⟨b, o, none⟩) XL.out).trans X0.out
    have y1 := (HB2.out.cell (p := ⟨b, o + 1, none⟩) XL.out).trans X1.out
    have y2 := (HB2.out.cell (p := ⟨b, o + 2, none⟩) XL.out).trans X2.out
    have y3 := (HB2.out.cell (p := ⟨b, o + 3, none⟩) XL.out).trans X3.out
    have y4 := (HB2.out.cell (p := ⟨b, o + 4, none⟩) XL.out).trans X4.out
    have y5 := (HB2.out.cell (p := ⟨b, o + 5, none⟩) XL.out).trans X5.out
    have y6 := (HB2.out.cell (p := ⟨b, o + 6, none⟩) XL.out).trans X6.out
    have y7 := (HB2.out.cell (p := ⟨b, o + 7, none⟩) XL.out).trans X7.out
    go_wp2_with fail
    go_ret
    exact ⟨ret_bool HF.out.symm, HB2.out⟩
  case pos =>
  rw [t2] at ht
  have HT := hid ht
  clear ht
  by_cases t3 : ns1.length = 0
  case neg =>
    have e3 : decide (0 < ns1.length) = true := decide_eq_true (by omega)
    have HF := hid (show tmFields 8 u1 n1 (Ty.mk tk1 tn1 tks1) ns1 = false by rw [HE.out]; rw [t1, t2, decide_eq_false t3]; rfl)
    clear HE t1 t2 t3
    have y0 := (HB0.out.cell (p := ⟨b, o, none⟩) XL.out).trans X0.out
    have y1 := (HB0.out.cell (p := ⟨b, o + 1, none⟩) XL.out).trans X1.out
    have y2 := (HB0.out.cell (p := ⟨b, o + 2, none⟩) XL.out).trans X2.out
    have y3 := (HB0.out.cell (p := ⟨b, o + 3, none⟩) XL.out).trans X3.out
    have y4 := (HB0.out.cell (p := ⟨b, o + 4, none⟩) XL.out).trans X4.out
    have y5 := (HB0.out.cell (p := ⟨b, o + 5, none⟩) XL.out).trans X5.out
    have y6 := (HB0.out.cell (p := ⟨b, o + 6, none⟩) XL.out).trans X6.out
    have y7 := (HB0.out.cell (p := ⟨b, o + 7, none⟩) XL.out).trans X7.out
    go_enter Tryz.func100, Tryz.ntmps100
    go_wp2_with fail
    refine (HN.out _ HB0.out).mono ?_
    rintro e w1 ⟨rfl, hb⟩
    have HB1 := hid (HB0.out.trans (hb.mono HB0.out.size))
    clear hb y0 y1 y2 y3 y4 y5 y6 y7
    have y0 := (HB1.out.cell (p := ⟨b, o, none⟩) XL.out).trans X0.out
    have y1 := (HB1.out.cell (p := ⟨b, o + 1, none⟩) XL.out).trans X1.out
    have y2 := (HB1.out.cell (p := ⟨b, o + 2, none⟩) XL.out).trans X2.out
    have y3 := (HB1.out.cell (p := ⟨b, o + 3, none⟩) XL.out).trans X3.out
    have y4 := (HB1.out.cell (p := ⟨b, o + 4, none⟩) XL.out).trans X4.out
    have y5 := (HB1.out.cell (p := ⟨b, o + 5, none⟩) XL.out).trans X5.out
    have y6 := (HB1.out.cell (p := ⟨b, o + 6, none⟩) XL.out).trans X6.out
    have y7 := (HB1.out.cell (p := ⟨b, o + 7, none⟩) XL.out).trans X7.out
    go_wp2_with fail
    refine (HT.out _ HB1.out).mono ?_
    rintro e w2 ⟨rfl, hb⟩
    have HB2 := hid (HB1.out.trans (hb.mono HB1.out.size))
    clear hb y0 y1 y2 y3 y4 y5 y6 y7
    have y0 := (HB2.out.cell (p := ⟨b, o, none⟩) XL.out).trans X0.out
    have y1 := (HB2.out.cell (p := ⟨b, o + 1, none⟩) XL.out).trans X1.out
    have y2 := (HB2.out.cell (p := ⟨b, o + 2, none⟩) XL.out).trans X2.out
    have y3 := (HB2.out.cell (p := ⟨b, o + 3, none⟩) XL.out).trans X3.out
    have y4 := (HB2.out.cell (p := ⟨b, o + 4, none⟩) XL.out).trans X4.out
    have y5 := (HB2.out.cell (p := ⟨b, o + 5, none⟩) XL.out).trans X5.out
    have y6 := (HB2.out.cell (p := ⟨b, o + 6, none⟩) XL.out).trans X6.out
    have y7 := (HB2.out.cell (p := ⟨b, o + 7, none⟩) XL.out).trans X7.out
    go_wp2_with fail
    go_ret
    exact ⟨ret_bool HF.out.symm, HB2.out⟩
  case pos =>
  have e3 : decide (0 < ns1.length) = false := decide_eq_false (by omega)
  have HF := hid (show tmFields 8 u1 n1 (Ty.mk tk1 tn1 tks1) ns1 = decide (u1 = 0) by rw [HE.out, t1, t2, decide_eq_true t3]; rfl)
  clear HE t1 t2 t3
  have y0 := (HB0.out.cell (p := ⟨b, o, none⟩) XL.out).trans X0.out
  have y1 := (HB0.out.cell (p := ⟨b, o + 1, none⟩) XL.out).trans X1.out
  have y2 := (HB0.out.cell (p := ⟨b, o + 2, none⟩) XL.out).trans X2.out
  have y3 := (HB0.out.cell (p := ⟨b, o + 3, none⟩) XL.out).trans X3.out
  have y4 := (HB0.out.cell (p := ⟨b, o + 4, none⟩) XL.out).trans X4.out
  have y5 := (HB0.out.cell (p := ⟨b, o + 5, none⟩) XL.out).trans X5.out
  have y6 := (HB0.out.cell (p := ⟨b, o + 6, none⟩) XL.out).trans X6.out
  have y7 := (HB0.out.cell (p := ⟨b, o + 7, none⟩) XL.out).trans X7.out
  go_enter Tryz.func100, Tryz.ntmps100
  go_wp2_with fail
  refine (HN.out _ HB0.out).mono ?_
  rintro e w1 ⟨rfl, hb⟩
  have HB1 := hid (HB0.out.trans (hb.mono HB0.out.size))
  clear hb y0 y1 y2 y3 y4 y5 y6 y7
  have y0 := (HB1.out.cell (p := ⟨b, o, none⟩) XL.out).trans X0.out
  have y1 := (HB1.out.cell (p := ⟨b, o + 1, none⟩) XL.out).trans X1.out
  have y2 := (HB1.out.cell (p := ⟨b, o + 2, none⟩) XL.out).trans X2.out
  have y3 := (HB1.out.cell (p := ⟨b, o + 3, none⟩) XL.out).trans X3.out
  have y4 := (HB1.out.cell (p := ⟨b, o + 4, none⟩) XL.out).trans X4.out
  have y5 := (HB1.out.cell (p := ⟨b, o + 5, none⟩) XL.out).trans X5.out
  have y6 := (HB1.out.cell (p := ⟨b, o + 6, none⟩) XL.out).trans X6.out
  have y7 := (HB1.out.cell (p := ⟨b, o + 7, none⟩) XL.out).trans X7.out
  go_wp2_with fail
  refine (HT.out _ HB1.out).mono ?_
  rintro e w2 ⟨rfl, hb⟩
  have HB2 := hid (HB1.out.trans (hb.mono HB1.out.size))
  clear hb y0 y1 y2 y3 y4 y5 y6 y7
  have y0 := (HB2.out.cell (p := ⟨b, o, none⟩) XL.out).trans X0.out
  have y1 := (HB2.out.cell (p := ⟨b, o + 1, none⟩) XL.out).trans X1.out
  have y2 := (HB2.out.cell (p := ⟨b, o + 2, none⟩) XL.out).trans X2.out
  have y3 := (HB2.out.cell (p := ⟨b, o + 3, none⟩) XL.out).trans X3.out
  have y4 := (HB2.out.cell (p := ⟨b, o + 4, none⟩) XL.out).trans X4.out
  have y5 := (HB2.out.cell (p := ⟨b, o + 5, none⟩) XL.out).trans X5.out
  have y6 := (HB2.out.cell (p := ⟨b, o + 6, none⟩) XL.out).trans X6.out
  have y7 := (HB2.out.cell (p := ⟨b, o + 7, none⟩) XL.out).trans X7.out
  go_wp2_with fail
  go_ret
  exact ⟨ret_bool (by rw [HF.out]; first | rfl | (by_cases hu : u1 = 0 <;> simp [hu])), HB2.out⟩
set_option maxHeartbeats 2000000 in
theorem spec_fields_9 (u1 : Int) (n1 : ByteArray) (tk1 : Int) (tn1 : ByteArray) (tks1 : List Ty) (ns1 : List ByteArray) (ks1 : List Tm) (atks1 : Option Addr) (ctks1 : Nat) (ans1 : Option Addr) (cns1 : Nat) (aks1 : Option Addr) (cks1 : Nat) (b o : Nat) (w : World) (x0 : w.cell? ⟨b, o, none⟩ = some (.int .i64 9)) (x1 : w.cell? ⟨b, o + 1, none⟩ = some (.int .i64 u1)) (x2 : w.cell? ⟨b, o + 2, none⟩ = some (.string n1)) (x3 : w.cell? ⟨b, o + 3, none⟩ = some (.int .i64 tk1)) (x4 : w.cell? ⟨b, o + 4, none⟩ = some (.string tn1)) (x5 : w.cell? ⟨b, o + 5, none⟩ = some (.slice atks1 tks1.length ctks1)) (x6 : w.cell? ⟨b, o + 6, none⟩ = some (.slice ans1 ns1.length cns1)) (x7 : w.cell? ⟨b, o + 7, none⟩ = some (.slice aks1 ks1.length cks1)) (hM : Tm.bulk (Tm.mk 9 u1 n1 (Ty.mk tk1 tn1 tks1) ns1 ks1) ≤ 1048576) (hr : RdS w (Tm.d (Tm.mk 9 u1 n1 (Ty.mk tk1 tn1 tks1) ns1 ks1)) [.int .i64 9, .int .i64 u1, .string n1, .int .i64 tk1, .string tn1, .slice atks1 tks1.length ctks1, .slice ans1 ns1.length cns1, .slice aks1 ks1.length cks1]) :
    Calls Tryz.prog 100 #[.pointer (some ⟨b, o, none⟩)] w fun e w' => e = .returned (.bool (tmFields 9 u1 n1 (Ty.mk tk1 tn1 tks1) ns1)) ∧ Below w.heap.size w w' := by
  have HE := hid (show tmFields 9 u1 n1 (Ty.mk tk1 tn1 tks1) ns1 = (n1.toList.isEmpty && (tyNone (Ty.mk tk1 tn1 tks1) && (decide (ns1.length = 0) && decide (u1 = 0)))) from rfl)
  have XL := hid (World.block_lt_of_cell? _ _ x0)
  have X0 := hid x0
  have X1 := hid x1
  have X2 := hid x2
  have X3 := hid x3
  have X4 := hid x4
  have X5 := hid x5
  have X6 := hid x6
  have X7 := hid x7
  have hlen : ns1.length ≤ 1048576 := by have := Sr.bulks_length ns1; simp only [Tm.bulk] at hM; omega
  have hbt : Ty.bulk (Ty.mk tk1 tn1 tks1) ≤ 1048576 := by simp only [Tm.bulk] at hM; omega
  have ht := fun W (hW : Below w.heap.size w W) => spec_l03NoType tk1 tn1 tks1 atks1 ctks1 W
  have HB0 := hid (Below.refl w.heap.size w)
  clear hr hM hbt x0 x1 x2 x3 x4 x5 x6 x7
  by_cases t1 : n1.toList.isEmpty = true
  case neg =>
    replace t1 := (Bool.not_eq_true _).mp t1
    have e1 : (n1.toList == []) = false := by simpa [List.isEmpty_eq_false_iff] using t1
    clear ht
    have HF := hid (show tmFields 9 u1 n1 (Ty.mk tk1 tn1 tks1) ns1 = false by rw [HE.out]; rw [t1]; rfl)
    clear HE t1
    have y0 := (HB0.out.cell (p := ⟨b, o, none⟩) XL.out).trans X0.out
    have y1 := (HB0.out.cell (p := ⟨b, o + 1, none⟩) XL.out).trans X1.out
    have y2 := (HB0.out.cell (p := ⟨b, o + 2, none⟩) XL.out).trans X2.out
    have y3 := (HB0.out.cell (p := ⟨b, o + 3, none⟩) XL.out).trans X3.out
    have y4 := (HB0.out.cell (p := ⟨b, o + 4, none⟩) XL.out).trans X4.out
    have y5 := (HB0.out.cell (p := ⟨b, o + 5, none⟩) XL.out).trans X5.out
    have y6 := (HB0.out.cell (p := ⟨b, o + 6, none⟩) XL.out).trans X6.out
    have y7 := (HB0.out.cell (p := ⟨b, o + 7, none⟩) XL.out).trans X7.out
    go_enter Tryz.func100, Tryz.ntmps100
    go_wp2_with fail
    go_ret
    exact ⟨ret_bool HF.out.symm, HB0.out⟩
  case pos =>
  have e1 : (n1.toList == []) = true := by simpa [List.isEmpty_iff] using t1
  by_cases t2 : tyNone (Ty.mk tk1 tn1 tks1) = true
  case neg =>
    replace t2 := (Bool.not_eq_true _).mp t2
    rw [t2] at ht
    have HT := hid ht
    clear ht
    have HF := hid (show tmFields 9 u1 n1 (Ty.mk tk1 tn1 tks1) ns1 = false by rw [HE.out]; rw [t1, t2]; rfl)
    clear HE t1 t2
    have y0 := (HB0.out.cell (p := ⟨b, o, none⟩) XL.out).trans X0.out
    have y1 := (HB0.out.cell (p := ⟨b, o + 1, none⟩) XL.out).trans X1.out
    have y2 := (HB0.out.cell (p := ⟨b, o + 2, none⟩) XL.out).trans X2.out
    have y3 := (HB0.out.cell (p := ⟨b, o + 3, none⟩) XL.out).trans X3.out
    have y4 := (HB0.out.cell (p := ⟨b, o + 4, none⟩) XL.out).trans X4.out
    have y5 := (HB0.out.cell (p := ⟨b, o + 5, none⟩) XL.out).trans X5.out
    have y6 := (HB0.out.cell (p := ⟨b, o + 6, none⟩) XL.out).trans X6.out
    have y7 := (HB0.out.cell (p := ⟨b, o + 7, none⟩) XL.out).trans X7.out
    go_enter Tryz.func100, Tryz.ntmps100
    go_wp2_with fail
    refine (HT.out _ HB0.out).mono ?_
    rintro e w1 ⟨rfl, hb⟩
    have HB1 := hid (HB0.out.trans (hb.mono HB0.out.size))
    clear hb y0 y1 y2 y3 y4 y5 y6 y7
    have y0 := (HB1.out.cell (p := ⟨b, o, none⟩) XL.out).trans X0.out
    have y1 := (HB1.out.cell (p := ⟨b, o + 1, none⟩) XL.out).trans X1.out
    have y2 := (HB1.out.cell (p := ⟨b, o + 2, none⟩) XL.out).trans X2.out
    have y3 := (HB1.out.cell (p := ⟨b, o + 3, none⟩) XL.out).trans X3.out
    have y4 := (HB1.out.cell (p := ⟨b, o + 4, none⟩) XL.out).trans X4.out
    have y5 := (HB1.out.cell (p := ⟨b, o + 5, none⟩) XL.out).trans X5.out
    have y6 := (HB1.out.cell (p := ⟨b, o + 6, none⟩) XL.out).trans X6.out
    have y7 := (HB1.out.cell (p := ⟨b, o + 7, none⟩) XL.out).trans X7.out
    go_wp2_with fail
    go_ret
    exact ⟨ret_bool HF.out.symm, HB1.out⟩
  case pos =>
  rw [t2] at ht
  have HT := hid ht
  clear ht
  by_cases t3 : ns1.length = 0
  case neg =>
    have e3 : decide (0 < ns1.length) = true := decide_eq_true (by omega)
    have HF := hid (show tmFields 9 u1 n1 (Ty.mk tk1 tn1 tks1) ns1 = false by rw [HE.out]; rw [t1, t2, decide_eq_false t3]; rfl)
    clear HE t1 t2 t3
    have y0 := (HB0.out.cell (p := ⟨b, o, none⟩) XL.out).trans X0.out
    have y1 := (HB0.out.cell (p := ⟨b, o + 1, none⟩) XL.out).trans X1.out
    have y2 := (HB0.out.cell (p := ⟨b, o + 2, none⟩) XL.out).trans X2.out
    have y3 := (HB0.out.cell (p := ⟨b, o + 3, none⟩) XL.out).trans X3.out
    have y4 := (HB0.out.cell (p := ⟨b, o + 4, none⟩) XL.out).trans X4.out
    have y5 := (HB0.out.cell (p := ⟨b, o + 5, none⟩) XL.out).trans X5.out
    have y6 := (HB0.out.cell (p := ⟨b, o + 6, none⟩) XL.out).trans X6.out
    have y7 := (HB0.out.cell (p := ⟨b, o + 7, none⟩) XL.out).trans X7.out
    go_enter Tryz.func100, Tryz.ntmps100
    go_wp2_with fail
    refine (HT.out _ HB0.out).mono ?_
    rintro e w1 ⟨rfl, hb⟩
    have HB1 := hid (HB0.out.trans (hb.mono HB0.out.size))
    clear hb y0 y1 y2 y3 y4 y5 y6 y7
    have y0 := (HB1.out.cell (p := ⟨b, o, none⟩) XL.out).trans X0.out
    have y1 := (HB1.out.cell (p := ⟨b, o + 1, none⟩) XL.out).trans X1.out
    have y2 := (HB1.out.cell (p := ⟨b, o + 2, none⟩) XL.out).trans X2.out
    have y3 := (HB1.out.cell (p := ⟨b, o + 3, none⟩) XL.out).trans X3.out
    have y4 := (HB1.out.cell (p := ⟨b, o + 4, none⟩) XL.out).trans X4.out
    have y5 := (HB1.out.cell (p := ⟨b, o + 5, none⟩) XL.out).trans X5.out
    have y6 := (HB1.out.cell (p := ⟨b, o + 6, none⟩) XL.out).trans X6.out
    have y7 := (HB1.out.cell (p := ⟨b, o + 7, none⟩) XL.out).trans X7.out
    go_wp2_with fail
    go_ret
    exact ⟨ret_bool HF.out.symm, HB1.out⟩
  case pos =>
  have e3 : decide (0 < ns1.length) = false := decide_eq_false (by omega)
  have HF := hid (show tmFields 9 u1 n1 (Ty.mk tk1 tn1 tks1) ns1 = decide (u1 = 0) by rw [HE.out, t1, t2, decide_eq_true t3]; rfl)
  clear HE t1 t2 t3
  have y0 := (HB0.out.cell (p := ⟨b, o, none⟩) XL.out).trans X0.out
  have y1 := (HB0.out.cell (p := ⟨b, o + 1, none⟩) XL.out).trans X1.out
  have y2 := (HB0.out.cell (p := ⟨b, o + 2, none⟩) XL.out).trans X2.out
  have y3 := (HB0.out.cell (p := ⟨b, o + 3, none⟩) XL.out).trans X3.out
  have y4 := (HB0.out.cell (p := ⟨b, o + 4, none⟩) XL.out).trans X4.out
  have y5 := (HB0.out.cell (p := ⟨b, o + 5, none⟩) XL.out).trans X5.out
  have y6 := (HB0.out.cell (p := ⟨b, o + 6, none⟩) XL.out).trans X6.out
  have y7 := (HB0.out.cell (p := ⟨b, o + 7, none⟩) XL.out).trans X7.out
  go_enter Tryz.func100, Tryz.ntmps100
  go_wp2_with fail
  refine (HT.out _ HB0.out).mono ?_
  rintro e w1 ⟨rfl, hb⟩
  have HB1 := hid (HB0.out.trans (hb.mono HB0.out.size))
  clear hb y0 y1 y2 y3 y4 y5 y6 y7
  have y0 := (HB1.out.cell (p := ⟨b, o, none⟩) XL.out).trans X0.out
  have y1 := (HB1.out.cell (p := ⟨b, o + 1, none⟩) XL.out).trans X1.out
  have y2 := (HB1.out.cell (p := ⟨b, o + 2, none⟩) XL.out).trans X2.out
  have y3 := (HB1.out.cell (p := ⟨b, o + 3, none⟩) XL.out).trans X3.out
  have y4 := (HB1.out.cell (p := ⟨b, o + 4, none⟩) XL.out).trans X4.out
  have y5 := (HB1.out.cell (p := ⟨b, o + 5, none⟩) XL.out).trans X5.out
  have y6 := (HB1.out.cell (p := ⟨b, o + 6, none⟩) XL.out).trans X6.out
  have y7 := (HB1.out.cell (p := ⟨b, o + 7, none⟩) XL.out).trans X7.out
  go_wp2_with fail
  go_ret
  exact ⟨ret_bool (by rw [HF.out]; first | rfl | (by_cases hu : u1 = 0 <;> simp [hu])), HB1.out⟩
set_option maxHeartbeats 2000000 in
theorem spec_fields_10 (u1 : Int) (n1 : ByteArray) (tk1 : Int) (tn1 : ByteArray) (tks1 : List Ty) (ns1 : List ByteArray) (ks1 : List Tm) (atks1 : Option Addr) (ctks1 : Nat) (ans1 : Option Addr) (cns1 : Nat) (aks1 : Option Addr) (cks1 : Nat) (b o : Nat) (w : World) (x0 : w.cell? ⟨b, o, none⟩ = some (.int .i64 10)) (x1 : w.cell? ⟨b, o + 1, none⟩ = some (.int .i64 u1)) (x2 : w.cell? ⟨b, o + 2, none⟩ = some (.string n1)) (x3 : w.cell? ⟨b, o + 3, none⟩ = some (.int .i64 tk1)) (x4 : w.cell? ⟨b, o + 4, none⟩ = some (.string tn1)) (x5 : w.cell? ⟨b, o + 5, none⟩ = some (.slice atks1 tks1.length ctks1)) (x6 : w.cell? ⟨b, o + 6, none⟩ = some (.slice ans1 ns1.length cns1)) (x7 : w.cell? ⟨b, o + 7, none⟩ = some (.slice aks1 ks1.length cks1)) (hM : Tm.bulk (Tm.mk 10 u1 n1 (Ty.mk tk1 tn1 tks1) ns1 ks1) ≤ 1048576) (hr : RdS w (Tm.d (Tm.mk 10 u1 n1 (Ty.mk tk1 tn1 tks1) ns1 ks1)) [.int .i64 10, .int .i64 u1, .string n1, .int .i64 tk1, .string tn1, .slice atks1 tks1.length ctks1, .slice ans1 ns1.length cns1, .slice aks1 ks1.length cks1]) :
    Calls Tryz.prog 100 #[.pointer (some ⟨b, o, none⟩)] w fun e w' => e = .returned (.bool (tmFields 10 u1 n1 (Ty.mk tk1 tn1 tks1) ns1)) ∧ Below w.heap.size w w' := by
  have HE := hid (show tmFields 10 u1 n1 (Ty.mk tk1 tn1 tks1) ns1 = (isUpperB n1 && (tyNone (Ty.mk tk1 tn1 tks1) && ((decide (ns1.length ≤ 3) && lowFrom ns1 ns1 0) && decide (u1 = 0)))) from rfl)
  have XL := hid (World.block_lt_of_cell? _ _ x0)
  have X0 := hid x0
  have X1 := hid x1
  have X2 := hid x2
  have X3 := hid x3
  have X4 := hid x4
  have X5 := hid x5
  have X6 := hid x6
  have X7 := hid x7
  have hlen : ns1.length ≤ 1048576 := by have := Sr.bulks_length ns1; simp only [Tm.bulk] at hM; omega
  have hbt : Ty.bulk (Ty.mk tk1 tn1 tks1) ≤ 1048576 := by simp only [Tm.bulk] at hM; omega
  have hn := fun W (hW : Below w.heap.size w W) => spec_IsUpper n1 W
  have ht := fun W (hW : Below w.heap.size w W) => spec_l03NoType tk1 tn1 tks1 atks1 ctks1 W
  have hd := fun W (hW : Below w.heap.size w W) => spec_l03Distinct ns1 ans1 cns1 W (hr.fTm.2.2.2.2.1.below hW)
  have HB0 := hid (Below.refl w.heap.size w)
  clear hr hM hbt x0 x1 x2 x3 x4 x5 x6 x7
  by_cases t1 : isUpperB n1 = true
  case neg =>
    replace t1 := (Bool.not_eq_true _).mp t1
    rw [t1] at hn
    have HN := hid hn
    clear hn ht hd
    have HF := hid (show tmFields 10 u1 n1 (Ty.mk tk1 tn1 tks1) ns1 = false by rw [HE.out]; rw [t1]; rfl)
    clear HE t1
    have y0 := (HB0.out.cell (p := ⟨b, o, none⟩) XL.out).trans X0.out
    have y1 := (HB0.out.cell (p := ⟨b, o + 1, none⟩) XL.out).trans X1.out
    have y2 := (HB0.out.cell (p := ⟨b, o + 2, none⟩) XL.out).trans X2.out
    have y3 := (HB0.out.cell (p := ⟨b, o + 3, none⟩) XL.out).trans X3.out
    have y4 := (HB0.out.cell (p := ⟨b, o + 4, none⟩) XL.out).trans X4.out
    have y5 := (HB0.out.cell (p := ⟨b, o + 5, none⟩) XL.out).trans X5.out
    have y6 := (HB0.out.cell (p := ⟨b, o + 6, none⟩) XL.out).trans X6.out
    have y7 := (HB0.out.cell (p := ⟨b, o + 7, none⟩) XL.out).trans X7.out
    go_enter Tryz.func100, Tryz.ntmps100
    go_wp2_with fail
    refine (HN.out _ HB0.out).mono ?_
    rintro e w1 ⟨rfl, hb⟩
    have HB1 := hid (HB0.out.trans (hb.mono HB0.out.size))
    clear hb y0 y1 y2 y3 y4 y5 y6 y7
    have y0 := (HB1.out.cell (p := ⟨b, o, none⟩) XL.out).trans X0.out
    have y1 := (HB1.out.cell (p := ⟨b, o + 1, none⟩) XL.out).trans X1.out
    have y2 := (HB1.out.cell (p := ⟨b, o + 2, none⟩) XL.out).trans X2.out
    have y3 := (HB1.out.cell (p := ⟨b, o + 3, none⟩) XL.out).trans X3.out
    have y4 := (HB1.out.cell (p := ⟨b, o + 4, none⟩) XL.out).trans X4.out
    have y5 := (HB1.out.cell (p := ⟨b, o + 5, none⟩) XL.out).trans X5.out
    have y6 := (HB1.out.cell (p := ⟨b, o + 6, none⟩) XL.out).trans X6.out
    have y7 := (HB1.out.cell (p := ⟨b, o + 7, none⟩) XL.out).trans X7.out
    go_wp2_with fail
    go_ret
    exact ⟨ret_bool HF.out.symm, HB1.out⟩
  case pos =>
  rw [t1] at hn
  have HN := hid hn
  clear hn
  by_cases t2 : tyNone (Ty.mk tk1 tn1 tks1) = true
  case neg =>
    replace t2 := (Bool.not_eq_true _).mp t2
    rw [t2] at ht
    have HT := hid ht
    clear ht hd
    have HF := hid (show tmFields 10 u1 n1 (Ty.mk tk1 tn1 tks1) ns1 = false by rw [HE.out]; rw [t1, t2]; rfl)
    clear HE t1 t2
    have y0 := (HB0.out.cell (p := ⟨b, o, none⟩) XL.out).trans X0.out
    have y1 := (HB0.out.cell (p := ⟨b, o + 1, none⟩) XL.out).trans X1.out
    have y2 := (HB0.out.cell (p := ⟨b, o + 2, none⟩) XL.out).trans X2.out
    have y3 := (HB0.out.cell (p := ⟨b, o + 3, none⟩) XL.out).trans X3.out
    have y4 := (HB0.out.cell (p := ⟨b, o + 4, none⟩) XL.out).trans X4.out
    have y5 := (HB0.out.cell (p := ⟨b, o + 5, none⟩) XL.out).trans X5.out
    have y6 := (HB0.out.cell (p := ⟨b, o + 6, none⟩) XL.out).trans X6.out
    have y7 := (HB0.out.cell (p := ⟨b, o + 7, none⟩) XL.out).trans X7.out
    go_enter Tryz.func100, Tryz.ntmps100
    go_wp2_with fail
    refine (HN.out _ HB0.out).mono ?_
    rintro e w1 ⟨rfl, hb⟩
    have HB1 := hid (HB0.out.trans (hb.mono HB0.out.size))
    clear hb y0 y1 y2 y3 y4 y5 y6 y7
    have y0 := (HB1.out.cell (p := ⟨b, o, none⟩) XL.out).trans X0.out
    have y1 := (HB1.out.cell (p := ⟨b, o + 1, none⟩) XL.out).trans X1.out
    have y2 := (HB1.out.cell (p := ⟨b, o + 2, none⟩) XL.out).trans X2.out
    have y3 := (HB1.out.cell (p := ⟨b, o + 3, none⟩) XL.out).trans X3.out
    have y4 := (HB1.out.cell (p := ⟨b, o + 4, none⟩) XL.out).trans X4.out
    have y5 := (HB1.out.cell (p := ⟨b, o + 5, none⟩) XL.out).trans X5.out
    have y6 := (HB1.out.cell (p := ⟨b, o + 6, none⟩) XL.out).trans X6.out
    have y7 := (HB1.out.cell (p := ⟨b, o + 7, none⟩) XL.out).trans X7.out
    go_wp2_with fail
    refine (HT.out _ HB1.out).mono ?_
    rintro e w2 ⟨rfl, hb⟩
    have HB2 := hid (HB1.out.trans (hb.mono HB1.out.size))
    clear hb y0 y1 y2 y3 y4 y5 y6 y7
    have y0 := (HB2.out.cell (p := ⟨b, o, none⟩) XL.out).trans X0.out
    have y1 := (HB2.out.cell (p := ⟨b, o + 1, none⟩) XL.out).trans X1.out
    have y2 := (HB2.out.cell (p := ⟨b, o + 2, none⟩) XL.out).trans X2.out
    have y3 := (HB2.out.cell (p := ⟨b, o + 3, none⟩) XL.out).trans X3.out
    have y4 := (HB2.out.cell (p := ⟨b, o + 4, none⟩) XL.out).trans X4.out
    have y5 := (HB2.out.cell (p := ⟨b, o + 5, none⟩) XL.out).trans X5.out
    have y6 := (HB2.out.cell (p := ⟨b, o + 6, none⟩) XL.out).trans X6.out
    have y7 := (HB2.out.cell (p := ⟨b, o + 7, none⟩) XL.out).trans X7.out
    go_wp2_with fail
    go_ret
    exact ⟨ret_bool HF.out.symm, HB2.out⟩
  case pos =>
  rw [t2] at ht
  have HT := hid ht
  clear ht
  by_cases t3 : 3 < ns1.length
  case neg =>
    have e3 : decide ((3 : Int) < ns1.length) = false := decide_eq_false (by omega)
    have hl3 : decide (ns1.length ≤ 3) = true := decide_eq_true (by omega)
    by_cases t4 : lowFrom ns1 ns1 0 = true
    case neg =>
      replace t4 := (Bool.not_eq_true _).mp t4
      rw [t4] at hd
      have HDD := hid hd
      clear hd
      have HF := hid (show tmFields 10 u1 n1 (Ty.mk tk1 tn1 tks1) ns1 = false by rw [HE.out]; rw [t1, t2, hl3, t4]; rfl)
      clear HE t1 t2 t3 t4 hl3
      have y0 := (HB0.out.cell (p := ⟨b, o, none⟩) XL.out).trans X0.out
      have y1 := (HB0.out.cell (p := ⟨b, o + 1, none⟩) XL.out).trans X1.out
      have y2 := (HB0.out.cell (p := ⟨b, o + 2, none⟩) XL.out).trans X2.out
      have y3 := (HB0.out.cell (p := ⟨b, o + 3, none⟩) XL.out).trans X3.out
      have y4 := (HB0.out.cell (p := ⟨b, o + 4, none⟩) XL.out).trans X4.out
      have y5 := (HB0.out.cell (p := ⟨b, o + 5, none⟩) XL.out).trans X5.out
      have y6 := (HB0.out.cell (p := ⟨b, o + 6, none⟩) XL.out).trans X6.out
      have y7 := (HB0.out.cell (p := ⟨b, o + 7, none⟩) XL.out).trans X7.out
      go_enter Tryz.func100, Tryz.ntmps100
      go_wp2_with fail
      refine (HN.out _ HB0.out).mono ?_
      rintro e w1 ⟨rfl, hb⟩
      have HB1 := hid (HB0.out.trans (hb.mono HB0.out.size))
      clear hb y0 y1 y2 y3 y4 y5 y6 y7
      have y0 := (HB1.out.cell (p := ⟨b, o, none⟩) XL.out).trans X0.out
      have y1 := (HB1.out.cell (p := ⟨b, o + 1, none⟩) XL.out).trans X1.out
      have y2 := (HB1.out.cell (p := ⟨b, o + 2, none⟩) XL.out).trans X2.out
      have y3 := (HB1.out.cell (p := ⟨b, o + 3, none⟩) XL.out).trans X3.out
      have y4 := (HB1.out.cell (p := ⟨b, o + 4, none⟩) XL.out).trans X4.out
      have y5 := (HB1.out.cell (p := ⟨b, o + 5, none⟩) XL.out).trans X5.out
      have y6 := (HB1.out.cell (p := ⟨b, o + 6, none⟩) XL.out).trans X6.out
      have y7 := (HB1.out.cell (p := ⟨b, o + 7, none⟩) XL.out).trans X7.out
      go_wp2_with fail
      refine (HT.out _ HB1.out).mono ?_
      rintro e w2 ⟨rfl, hb⟩
      have HB2 := hid (HB1.out.trans (hb.mono HB1.out.size))
      clear hb y0 y1 y2 y3 y4 y5 y6 y7
      have y0 := (HB2.out.cell (p := ⟨b, o, none⟩) XL.out).trans X0.out
      have y1 := (HB2.out.cell (p := ⟨b, o + 1, none⟩) XL.out).trans X1.out
      have y2 := (HB2.out.cell (p := ⟨b, o + 2, none⟩) XL.out).trans X2.out
      have y3 := (HB2.out.cell (p := ⟨b, o + 3, none⟩) XL.out).trans X3.out
      have y4 := (HB2.out.cell (p := ⟨b, o + 4, none⟩) XL.out).trans X4.out
      have y5 := (HB2.out.cell (p := ⟨b, o + 5, none⟩) XL.out).trans X5.out
      have y6 := (HB2.out.cell (p := ⟨b, o + 6, none⟩) XL.out).trans X6.out
      have y7 := (HB2.out.cell (p := ⟨b, o + 7, none⟩) XL.out).trans X7.out
      go_wp2_with fail
      refine (HDD.out _ HB2.out).mono ?_
      rintro e w3 ⟨rfl, hb⟩
      have HB3 := hid (HB2.out.trans (hb.mono HB2.out.size))
      clear hb y0 y1 y2 y3 y4 y5 y6 y7
      have y0 := (HB3.out.cell (p := ⟨b, o, none⟩) XL.out).trans X0.out
      have y1 := (HB3.out.cell (p := ⟨b, o + 1, none⟩) XL.out).trans X1.out
      have y2 := (HB3.out.cell (p := ⟨b, o + 2, none⟩) XL.out).trans X2.out
      have y3 := (HB3.out.cell (p := ⟨b, o + 3, none⟩) XL.out).trans X3.out
      have y4 := (HB3.out.cell (p := ⟨b, o + 4, none⟩) XL.out).trans X4.out
      have y5 := (HB3.out.cell (p := ⟨b, o + 5, none⟩) XL.out).trans X5.out
      have y6 := (HB3.out.cell (p := ⟨b, o + 6, none⟩) XL.out).trans X6.out
      have y7 := (HB3.out.cell (p := ⟨b, o + 7, none⟩) XL.out).trans X7.out
      go_wp2_with fail
      go_ret
      exact ⟨ret_bool HF.out.symm, HB3.out⟩
    case pos =>
    rw [t4] at hd
    have HDD := hid hd
    clear hd
    have HF := hid (show tmFields 10 u1 n1 (Ty.mk tk1 tn1 tks1) ns1 = decide (u1 = 0) by rw [HE.out, t1, t2, hl3, t4]; rfl)
    clear HE t1 t2 t3 t4 hl3
    have y0 := (HB0.out.cell (p := ⟨b, o, none⟩) XL.out).trans X0.out
    have y1 := (HB0.out.cell (p := ⟨b, o + 1, none⟩) XL.out).trans X1.out
    have y2 := (HB0.out.cell (p := ⟨b, o + 2, none⟩) XL.out).trans X2.out
    have y3 := (HB0.out.cell (p := ⟨b, o + 3, none⟩) XL.out).trans X3.out
    have y4 := (HB0.out.cell (p := ⟨b, o + 4, none⟩) XL.out).trans X4.out
    have y5 := (HB0.out.cell (p := ⟨b, o + 5, none⟩) XL.out).trans X5.out
    have y6 := (HB0.out.cell (p := ⟨b, o + 6, none⟩) XL.out).trans X6.out
    have y7 := (HB0.out.cell (p := ⟨b, o + 7, none⟩) XL.out).trans X7.out
    go_enter Tryz.func100, Tryz.ntmps100
    go_wp2_with fail
    refine (HN.out _ HB0.out).mono ?_
    rintro e w1 ⟨rfl, hb⟩
    have HB1 := hid (HB0.out.trans (hb.mono HB0.out.size))
    clear hb y0 y1 y2 y3 y4 y5 y6 y7
    have y0 := (HB1.out.cell (p := ⟨b, o, none⟩) XL.out).trans X0.out
    have y1 := (HB1.out.cell (p := ⟨b, o + 1, none⟩) XL.out).trans X1.out
    have y2 := (HB1.out.cell (p := ⟨b, o + 2, none⟩) XL.out).trans X2.out
    have y3 := (HB1.out.cell (p := ⟨b, o + 3, none⟩) XL.out).trans X3.out
    have y4 := (HB1.out.cell (p := ⟨b, o + 4, none⟩) XL.out).trans X4.out
    have y5 := (HB1.out.cell (p := ⟨b, o + 5, none⟩) XL.out).trans X5.out
    have y6 := (HB1.out.cell (p := ⟨b, o + 6, none⟩) XL.out).trans X6.out
    have y7 := (HB1.out.cell (p := ⟨b, o + 7, none⟩) XL.out).trans X7.out
    go_wp2_with fail
    refine (HT.out _ HB1.out).mono ?_
    rintro e w2 ⟨rfl, hb⟩
    have HB2 := hid (HB1.out.trans (hb.mono HB1.out.size))
    clear hb y0 y1 y2 y3 y4 y5 y6 y7
    have y0 := (HB2.out.cell (p := ⟨b, o, none⟩) XL.out).trans X0.out
    have y1 := (HB2.out.cell (p := ⟨b, o + 1, none⟩) XL.out).trans X1.out
    have y2 := (HB2.out.cell (p := ⟨b, o + 2, none⟩) XL.out).trans X2.out
    have y3 := (HB2.out.cell (p := ⟨b, o + 3, none⟩) XL.out).trans X3.out
    have y4 := (HB2.out.cell (p := ⟨b, o + 4, none⟩) XL.out).trans X4.out
    have y5 := (HB2.out.cell (p := ⟨b, o + 5, none⟩) XL.out).trans X5.out
    have y6 := (HB2.out.cell (p := ⟨b, o + 6, none⟩) XL.out).trans X6.out
    have y7 := (HB2.out.cell (p := ⟨b, o + 7, none⟩) XL.out).trans X7.out
    go_wp2_with fail
    refine (HDD.out _ HB2.out).mono ?_
    rintro e w3 ⟨rfl, hb⟩
    have HB3 := hid (HB2.out.trans (hb.mono HB2.out.size))
    clear hb y0 y1 y2 y3 y4 y5 y6 y7
    have y0 := (HB3.out.cell (p := ⟨b, o, none⟩) XL.out).trans X0.out
    have y1 := (HB3.out.cell (p := ⟨b, o + 1, none⟩) XL.out).trans X1.out
    have y2 := (HB3.out.cell (p := ⟨b, o + 2, none⟩) XL.out).trans X2.out
    have y3 := (HB3.out.cell (p := ⟨b, o + 3, none⟩) XL.out).trans X3.out
    have y4 := (HB3.out.cell (p := ⟨b, o + 4, none⟩) XL.out).trans X4.out
    have y5 := (HB3.out.cell (p := ⟨b, o + 5, none⟩) XL.out).trans X5.out
    have y6 := (HB3.out.cell (p := ⟨b, o + 6, none⟩) XL.out).trans X6.out
    have y7 := (HB3.out.cell (p := ⟨b, o + 7, none⟩) XL.out).trans X7.out
    go_wp2_with fail
    go_ret
    exact ⟨ret_bool (by rw [HF.out]; first | rfl | (by_cases hu : u1 = 0 <;> simp [hu])), HB3.out⟩
  case pos =>
    have e3 : decide ((3 : Int) < ns1.length) = true := decide_eq_true (by omega)
    have hl3 : decide (ns1.length ≤ 3) = false := decide_eq_false (by omega)
    clear hd
    have HF := hid (show tmFields 10 u1 n1 (Ty.mk tk1 tn1 tks1) ns1 = false by rw [HE.out]; rw [t1, t2, hl3]; rfl)
    clear HE t1 t2 t3 hl3
    have y0 := (HB0.out.cell (p := ⟨b, o, none⟩) XL.out).trans X0.out
    have y1 := (HB0.out.cell (p := ⟨b, o + 1, none⟩) XL.out).trans X1.out
    have y2 := (HB0.out.cell (p := ⟨b, o + 2, none⟩) XL.out).trans X2.out
    have y3 := (HB0.out.cell (p := ⟨b, o + 3, none⟩) XL.out).trans X3.out
    have y4 := (HB0.out.cell (p := ⟨b, o + 4, none⟩) XL.out).trans X4.out
    have y5 := (HB0.out.cell (p := ⟨b, o + 5, none⟩) XL.out).trans X5.out
    have y6 := (HB0.out.cell (p := ⟨b, o + 6, none⟩) XL.out).trans X6.out
    have y7 := (HB0.out.cell (p := ⟨b, o + 7, none⟩) XL.out).trans X7.out
    go_enter Tryz.func100, Tryz.ntmps100
    go_wp2_with fail
    refine (HN.out _ HB0.out).mono ?_
    rintro e w1 ⟨rfl, hb⟩
    have HB1 := hid (HB0.out.trans (hb.mono HB0.out.size))
    clear hb y0 y1 y2 y3 y4 y5 y6 y7
    have y0 := (HB1.out.cell (p := ⟨b, o, none⟩) XL.out).trans X0.out
    have y1 := (HB1.out.cell (p := ⟨b, o + 1, none⟩) XL.out).trans X1.out
    have y2 := (HB1.out.cell (p := ⟨b, o + 2, none⟩) XL.out).trans X2.out
    have y3 := (HB1.out.cell (p := ⟨b, o + 3, none⟩) XL.out).trans X3.out
    have y4 := (HB1.out.cell (p := ⟨b, o + 4, none⟩) XL.out).trans X4.out
    have y5 := (HB1.out.cell (p := ⟨b, o + 5, none⟩) XL.out).trans X5.out
    have y6 := (HB1.out.cell (p := ⟨b, o + 6, none⟩) XL.out).trans X6.out
    have y7 := (HB1.out.cell (p := ⟨b, o + 7, none⟩) XL.out).trans X7.out
    go_wp2_with fail
    refine (HT.out _ HB1.out).mono ?_
    rintro e w2 ⟨rfl, hb⟩
    have HB2 := hid (HB1.out.trans (hb.mono HB1.out.size))
    clear hb y0 y1 y2 y3 y4 y5 y6 y7
    have y0 := (HB2.out.cell (p := ⟨b, o, none⟩) XL.out).trans X0.out
    have y1 := (HB2.out.cell (p := ⟨b, o + 1, none⟩) XL.out).trans X1.out
    have y2 := (HB2.out.cell (p := ⟨b, o + 2, none⟩) XL.out).trans X2.out
    have y3 := (HB2.out.cell (p := ⟨b, o + 3, none⟩) XL.out).trans X3.out
    have y4 := (HB2.out.cell (p := ⟨b, o + 4, none⟩) XL.out).trans X4.out
    have y5 := (HB2.out.cell (p := ⟨b, o + 5, none⟩) XL.out).trans X5.out
    have y6 := (HB2.out.cell (p := ⟨b, o + 6, none⟩) XL.out).trans X6.out
    have y7 := (HB2.out.cell (p := ⟨b, o + 7, none⟩) XL.out).trans X7.out
    go_wp2_with fail
    go_ret
    exact ⟨ret_bool HF.out.symm, HB2.out⟩
set_option maxHeartbeats 2000000 in
theorem spec_fields_11 (u1 : Int) (n1 : ByteArray) (tk1 : Int) (tn1 : ByteArray) (tks1 : List Ty) (ns1 : List ByteArray) (ks1 : List Tm) (atks1 : Option Addr) (ctks1 : Nat) (ans1 : Option Addr) (cns1 : Nat) (aks1 : Option Addr) (cks1 : Nat) (b o : Nat) (w : World) (x0 : w.cell? ⟨b, o, none⟩ = some (.int .i64 11)) (x1 : w.cell? ⟨b, o + 1, none⟩ = some (.int .i64 u1)) (x2 : w.cell? ⟨b, o + 2, none⟩ = some (.string n1)) (x3 : w.cell? ⟨b, o + 3, none⟩ = some (.int .i64 tk1)) (x4 : w.cell? ⟨b, o + 4, none⟩ = some (.string tn1)) (x5 : w.cell? ⟨b, o + 5, none⟩ = some (.slice atks1 tks1.length ctks1)) (x6 : w.cell? ⟨b, o + 6, none⟩ = some (.slice ans1 ns1.length cns1)) (x7 : w.cell? ⟨b, o + 7, none⟩ = some (.slice aks1 ks1.length cks1)) (hM : Tm.bulk (Tm.mk 11 u1 n1 (Ty.mk tk1 tn1 tks1) ns1 ks1) ≤ 1048576) (hr : RdS w (Tm.d (Tm.mk 11 u1 n1 (Ty.mk tk1 tn1 tks1) ns1 ks1)) [.int .i64 11, .int .i64 u1, .string n1, .int .i64 tk1, .string tn1, .slice atks1 tks1.length ctks1, .slice ans1 ns1.length cns1, .slice aks1 ks1.length cks1]) :
    Calls Tryz.prog 100 #[.pointer (some ⟨b, o, none⟩)] w fun e w' => e = .returned (.bool (tmFields 11 u1 n1 (Ty.mk tk1 tn1 tks1) ns1)) ∧ Below w.heap.size w w' := by
  have HE := hid (show tmFields 11 u1 n1 (Ty.mk tk1 tn1 tks1) ns1 = (n1.toList.isEmpty && (tyNone (Ty.mk tk1 tn1 tks1) && (decide (ns1.length = 0) && decide (u1 = 0)))) from rfl)
  have XL := hid (World.block_lt_of_cell? _ _ x0)
  have X0 := hid x0
  have X1 := hid x1
  have X2 := hid x2
  have X3 := hid x3
  have X4 := hid x4
  have X5 := hid x5
  have X6 := hid x6
  have X7 := hid x7
  have hlen : ns1.length ≤ 1048576 := by have := Sr.bulks_length ns1; simp only [Tm.bulk] at hM; omega
  have hbt : Ty.bulk (Ty.mk tk1 tn1 tks1) ≤ 1048576 := by simp only [Tm.bulk] at hM; omega
  have ht := fun W (hW : Below w.heap.size w W) => spec_l03NoType tk1 tn1 tks1 atks1 ctks1 W
  have HB0 := hid (Below.refl w.heap.size w)
  clear hr hM hbt x0 x1 x2 x3 x4 x5 x6 x7
  by_cases t1 : n1.toList.isEmpty = true
  case neg =>
    replace t1 := (Bool.not_eq_true _).mp t1
    have e1 : (n1.toList == []) = false := by simpa [List.isEmpty_eq_false_iff] using t1
    clear ht
    have HF := hid (show tmFields 11 u1 n1 (Ty.mk tk1 tn1 tks1) ns1 = false by rw [HE.out]; rw [t1]; rfl)
    clear HE t1
    have y0 := (HB0.out.cell (p := ⟨b, o, none⟩) XL.out).trans X0.out
    have y1 := (HB0.out.cell (p := ⟨b, o + 1, none⟩) XL.out).trans X1.out
    have y2 := (HB0.out.cell (p := ⟨b, o + 2, none⟩) XL.out).trans X2.out
    have y3 := (HB0.out.cell (p := ⟨b, o + 3, none⟩) XL.out).trans X3.out
    have y4 := (HB0.out.cell (p := ⟨b, o + 4, none⟩) XL.out).trans X4.out
    have y5 := (HB0.out.cell (p := ⟨b, o + 5, none⟩) XL.out).trans X5.out
    have y6 := (HB0.out.cell (p := ⟨b, o + 6, none⟩) XL.out).trans X6.out
    have y7 := (HB0.out.cell (p := ⟨b, o + 7, none⟩) XL.out).trans X7.out
    go_enter Tryz.func100, Tryz.ntmps100
    go_wp2_with fail
    go_ret
    exact ⟨ret_bool HF.out.symm, HB0.out⟩
  case pos =>
  have e1 : (n1.toList == []) = true := by simpa [List.isEmpty_iff] using t1
  by_cases t2 : tyNone (Ty.mk tk1 tn1 tks1) = true
  case neg =>
    replace t2 := (Bool.not_eq_true _).mp t2
    rw [t2] at ht
    have HT := hid ht
    clear ht
    have HF := hid (show tmFields 11 u1 n1 (Ty.mk tk1 tn1 tks1) ns1 = false by rw [HE.out]; rw [t1, t2]; rfl)
    clear HE t1 t2
    have y0 := (HB0.out.cell (p := ⟨b, o, none⟩) XL.out).trans X0.out
    have y1 := (HB0.out.cell (p := ⟨b, o + 1, none⟩) XL.out).trans X1.out
    have y2 := (HB0.out.cell (p := ⟨b, o + 2, none⟩) XL.out).trans X2.out
    have y3 := (HB0.out.cell (p := ⟨b, o + 3, none⟩) XL.out).trans X3.out
    have y4 := (HB0.out.cell (p := ⟨b, o + 4, none⟩) XL.out).trans X4.out
    have y5 := (HB0.out.cell (p := ⟨b, o + 5, none⟩) XL.out).trans X5.out
    have y6 := (HB0.out.cell (p := ⟨b, o + 6, none⟩) XL.out).trans X6.out
    have y7 := (HB0.out.cell (p := ⟨b, o + 7, none⟩) XL.out).trans X7.out
    go_enter Tryz.func100, Tryz.ntmps100
    go_wp2_with fail
    refine (HT.out _ HB0.out).mono ?_
    rintro e w1 ⟨rfl, hb⟩
    have HB1 := hid (HB0.out.trans (hb.mono HB0.out.size))
    clear hb y0 y1 y2 y3 y4 y5 y6 y7
    have y0 := (HB1.out.cell (p := ⟨b, o, none⟩) XL.out).trans X0.out
    have y1 := (HB1.out.cell (p := ⟨b, o + 1, none⟩) XL.out).trans X1.out
    have y2 := (HB1.out.cell (p := ⟨b, o + 2, none⟩) XL.out).trans X2.out
    have y3 := (HB1.out.cell (p := ⟨b, o + 3, none⟩) XL.out).trans X3.out
    have y4 := (HB1.out.cell (p := ⟨b, o + 4, none⟩) XL.out).trans X4.out
    have y5 := (HB1.out.cell (p := ⟨b, o + 5, none⟩) XL.out).trans X5.out
    have y6 := (HB1.out.cell (p := ⟨b, o + 6, none⟩) XL.out).trans X6.out
    have y7 := (HB1.out.cell (p := ⟨b, o + 7, none⟩) XL.out).trans X7.out
    go_wp2_with fail
    go_ret
    exact ⟨ret_bool HF.out.symm, HB1.out⟩
  case pos =>
  rw [t2] at ht
  have HT := hid ht
  clear ht
  by_cases t3 : ns1.length = 0
  case neg =>
    have e3 : decide (0 < ns1.length) = true := decide_eq_true (by omega)
    have HF := hid (show tmFields 11 u1 n1 (Ty.mk tk1 tn1 tks1) ns1 = false by rw [HE.out]; rw [t1, t2, decide_eq_false t3]; rfl)
    clear HE t1 t2 t3
    have y0 := (HB0.out.cell (p := ⟨b, o, none⟩) XL.out).trans X0.out
    have y1 := (HB0.out.cell (p := ⟨b, o + 1, none⟩) XL.out).trans X1.out
    have y2 := (HB0.out.cell (p := ⟨b, o + 2, none⟩) XL.out).trans X2.out
    have y3 := (HB0.out.cell (p := ⟨b, o + 3, none⟩) XL.out).trans X3.out
    have y4 := (HB0.out.cell (p := ⟨b, o + 4, none⟩) XL.out).trans X4.out
    have y5 := (HB0.out.cell (p := ⟨b, o + 5, none⟩) XL.out).trans X5.out
    have y6 := (HB0.out.cell (p := ⟨b, o + 6, none⟩) XL.out).trans X6.out
    have y7 := (HB0.out.cell (p := ⟨b, o + 7, none⟩) XL.out).trans X7.out
    go_enter Tryz.func100, Tryz.ntmps100
    go_wp2_with fail
    refine (HT.out _ HB0.out).mono ?_
    rintro e w1 ⟨rfl, hb⟩
    have HB1 := hid (HB0.out.trans (hb.mono HB0.out.size))
    clear hb y0 y1 y2 y3 y4 y5 y6 y7
    have y0 := (HB1.out.cell (p := ⟨b, o, none⟩) XL.out).trans X0.out
    have y1 := (HB1.out.cell (p := ⟨b, o + 1, none⟩) XL.out).trans X1.out
    have y2 := (HB1.out.cell (p := ⟨b, o + 2, none⟩) XL.out).trans X2.out
    have y3 := (HB1.out.cell (p := ⟨b, o + 3, none⟩) XL.out).trans X3.out
    have y4 := (HB1.out.cell (p := ⟨b, o + 4, none⟩) XL.out).trans X4.out
    have y5 := (HB1.out.cell (p := ⟨b, o + 5, none⟩) XL.out).trans X5.out
    have y6 := (HB1.out.cell (p := ⟨b, o + 6, none⟩) XL.out).trans X6.out
    have y7 := (HB1.out.cell (p := ⟨b, o + 7, none⟩) XL.out).trans X7.out
    go_wp2_with fail
    go_ret
    exact ⟨ret_bool HF.out.symm, HB1.out⟩
  case pos =>
  have e3 : decide (0 < ns1.length) = false := decide_eq_false (by omega)
  have HF := hid (show tmFields 11 u1 n1 (Ty.mk tk1 tn1 tks1) ns1 = decide (u1 = 0) by rw [HE.out, t1, t2, decide_eq_true t3]; rfl)
  clear HE t1 t2 t3
  have y0 := (HB0.out.cell (p := ⟨b, o, none⟩) XL.out).trans X0.out
  have y1 := (HB0.out.cell (p := ⟨b, o + 1, none⟩) XL.out).trans X1.out
  have y2 := (HB0.out.cell (p := ⟨b, o + 2, none⟩) XL.out).trans X2.out
  have y3 := (HB0.out.cell (p := ⟨b, o + 3, none⟩) XL.out).trans X3.out
  have y4 := (HB0.out.cell (p := ⟨b, o + 4, none⟩) XL.out).trans X4.out
  have y5 := (HB0.out.cell (p := ⟨b, o + 5, none⟩) XL.out).trans X5.out
  have y6 := (HB0.out.cell (p := ⟨b, o + 6, none⟩) XL.out).trans X6.out
  have y7 := (HB0.out.cell (p := ⟨b, o + 7, none⟩) XL.out).trans X7.out
  go_enter Tryz.func100, Tryz.ntmps100
  go_wp2_with fail
  refine (HT.out _ HB0.out).mono ?_
  rintro e w1 ⟨rfl, hb⟩
  have HB1 := hid (HB0.out.trans (hb.mono HB0.out.size))
  clear hb y0 y1 y2 y3 y4 y5 y6 y7
  have y0 := (HB1.out.cell (p := ⟨b, o, none⟩) XL.out).trans X0.out
  have y1 := (HB1.out.cell (p := ⟨b, o + 1, none⟩) XL.out).trans X1.out
  have y2 := (HB1.out.cell (p := ⟨b, o + 2, none⟩) XL.out).trans X2.out
  have y3 := (HB1.out.cell (p := ⟨b, o + 3, none⟩) XL.out).trans X3.out
  have y4 := (HB1.out.cell (p := ⟨b, o + 4, none⟩) XL.out).trans X4.out
  have y5 := (HB1.out.cell (p := ⟨b, o + 5, none⟩) XL.out).trans X5.out
  have y6 := (HB1.out.cell (p := ⟨b, o + 6, none⟩) XL.out).trans X6.out
  have y7 := (HB1.out.cell (p := ⟨b, o + 7, none⟩) XL.out).trans X7.out
  go_wp2_with fail
  go_ret
  exact ⟨ret_bool (by rw [HF.out]; first | rfl | (by_cases hu : u1 = 0 <;> simp [hu])), HB1.out⟩
set_option maxHeartbeats 2000000 in
theorem spec_fields_o (k1 : Int) (u1 : Int) (n1 : ByteArray) (tk1 : Int) (tn1 : ByteArray) (tks1 : List Ty) (ns1 : List ByteArray) (ks1 : List Tm) (atks1 : Option Addr) (ctks1 : Nat) (ans1 : Option Addr) (cns1 : Nat) (aks1 : Option Addr) (cks1 : Nat) (g1 : (k1 == 1) = false) (f1 : k1 ≠ 1) (g2 : (k1 == 2) = false) (f2 : k1 ≠ 2) (g3 : (k1 == 3) = false) (f3 : k1 ≠ 3) (g4 : (k1 == 4) = false) (f4 : k1 ≠ 4) (g5 : (k1 == 5) = false) (f5 : k1 ≠ 5) (g6 : (k1 == 6) = false) (f6 : k1 ≠ 6) (g7 : (k1 == 7) = false) (f7 : k1 ≠ 7) (g8 : (k1 == 8) = false) (f8 : k1 ≠ 8) (g9 : (k1 == 9) = false) (f9 : k1 ≠ 9) (g10 : (k1 == 10) = false) (f10 : k1 ≠ 10) (g11 : (k1 == 11) = false) (f11 : k1 ≠ 11) (b o : Nat) (w : World) (x0 : w.cell? ⟨b, o, none⟩ = some (.int .i64 k1)) (x1 : w.cell? ⟨b, o + 1, none⟩ = some (.int .i64 u1)) (x2 : w.cell? ⟨b, o + 2, none⟩ = some (.string n1)) (x3 : w.cell? ⟨b, o + 3, none⟩ = some (.int .i64 tk1)) (x4 : w.cell? ⟨b, o + 4, none⟩ = some (.string tn1)) (x5 : w.cell? ⟨b, o + 5, none⟩ = some (.slice atks1 tks1.length ctks1)) (x6 : w.cell? ⟨b, o + 6, none⟩ = some (.slice ans1 ns1.length cns1)) (x7 : w.cell? ⟨b, o + 7, none⟩ = some (.slice aks1 ks1.length cks1)) (hM : Tm.bulk (Tm.mk k1 u1 n1 (Ty.mk tk1 tn1 tks1) ns1 ks1) ≤ 1048576) (hr : RdS w (Tm.d (Tm.mk k1 u1 n1 (Ty.mk tk1 tn1 tks1) ns1 ks1)) [.int .i64 k1, .int .i64 u1, .string n1, .int .i64 tk1, .string tn1, .slice atks1 tks1.length ctks1, .slice ans1 ns1.length cns1, .slice aks1 ks1.length cks1]) :
    Calls Tryz.prog 100 #[.pointer (some ⟨b, o, none⟩)] w fun e w' => e = .returned (.bool (tmFields k1 u1 n1 (Ty.mk tk1 tn1 tks1) ns1)) ∧ Below w.heap.size w w' := by
  have HE := hid (show tmFields k1 u1 n1 (Ty.mk tk1 tn1 tks1) ns1 = (n1.toList.isEmpty && (tyNone (Ty.mk tk1 tn1 tks1) && (decide (ns1.length = 0) && decide (u1 = 0)))) from by simp [tmFields, tmName, tmType, tmNames, tmNum, f1, f2, f3, f4, f7, f8, f10])
  have m4 : (k1 != 4) = true := by simp [f4]
  clear f1 f2 f3 f4 f5 f6 f7 f8 f9 f10 f11
  have XL := hid (World.block_lt_of_cell? _ _ x0)
  have X0 := hid x0
  have X1 := hid x1
  have X2 := hid x2
  have X3 := hid x3
  have X4 := hid x4
  have X5 := hid x5
  have X6 := hid x6
  have X7 := hid x7
  have hlen : ns1.length ≤ 1048576 := by have := Sr.bulks_length ns1; simp only [Tm.bulk] at hM; omega
  have hbt : Ty.bulk (Ty.mk tk1 tn1 tks1) ≤ 1048576 := by simp only [Tm.bulk] at hM; omega
  have ht := fun W (hW : Below w.heap.size w W) => spec_l03NoType tk1 tn1 tks1 atks1 ctks1 W
  have HB0 := hid (Below.refl w.heap.size w)
  clear hr hM hbt x0 x1 x2 x3 x4 x5 x6 x7
  by_cases t1 : n1.toList.isEmpty = true
  case neg =>
    replace t1 := (Bool.not_eq_true _).mp t1
    have e1 : (n1.toList == []) = false := by simpa [List.isEmpty_eq_false_iff] using t1
    clear ht
    have HF := hid (show tmFields k1 u1 n1 (Ty.mk tk1 tn1 tks1) ns1 = false by rw [HE.out]; rw [t1]; rfl)
    clear HE t1
    have y0 := (HB0.out.cell (p := ⟨b, o, none⟩) XL.out).trans X0.out
    have y1 := (HB0.out.cell (p := ⟨b, o + 1, none⟩) XL.out).trans X1.out
    have y2 := (HB0.out.cell (p := ⟨b, o + 2, none⟩) XL.out).trans X2.out
    have y3 := (HB0.out.cell (p := ⟨b, o + 3, none⟩) XL.out).trans X3.out
    have y4 := (HB0.out.cell (p := ⟨b, o + 4, none⟩) XL.out).trans X4.out
    have y5 := (HB0.out.cell (p := ⟨b, o + 5, none⟩) XL.out).trans X5.out
    have y6 := (HB0.out.cell (p := ⟨b, o + 6, none⟩) XL.out).trans X6.out
    have y7 := (HB0.out.cell (p := ⟨b, o + 7, none⟩) XL.out).trans X7.out
    go_enter Tryz.func100, Tryz.ntmps100
    go_wp2_with fail
    go_ret
    exact ⟨ret_bool HF.out.symm, HB0.out⟩
  case pos =>
  have e1 : (n1.toList == []) = true := by simpa [List.isEmpty_iff] using t1
  by_cases t2 : tyNone (Ty.mk tk1 tn1 tks1) = true
  case neg =>
    replace t2 := (Bool.not_eq_true _).mp t2
    rw [t2] at ht
    have HT := hid ht
    clear ht
    have HF := hid (show tmFields k1 u1 n1 (Ty.mk tk1 tn1 tks1) ns1 = false by rw [HE.out]; rw [t1, t2]; rfl)
    clear HE t1 t2
    have y0 := (HB0.out.cell (p := ⟨b, o, none⟩) XL.out).trans X0.out
    have y1 := (HB0.out.cell (p := ⟨b, o + 1, none⟩) XL.out).trans X1.out
    have y2 := (HB0.out.cell (p := ⟨b, o + 2, none⟩) XL.out).trans X2.out
    have y3 := (HB0.out.cell (p := ⟨b, o + 3, none⟩) XL.out).trans X3.out
    have y4 := (HB0.out.cell (p := ⟨b, o + 4, none⟩) XL.out).trans X4.out
    have y5 := (HB0.out.cell (p := ⟨b, o + 5, none⟩) XL.out).trans X5.out
    have y6 := (HB0.out.cell (p := ⟨b, o + 6, none⟩) XL.out).trans X6.out
    have y7 := (HB0.out.cell (p := ⟨b, o + 7, none⟩) XL.out).trans X7.out
    go_enter Tryz.func100, Tryz.ntmps100
    go_wp2_with fail
    refine (HT.out _ HB0.out).mono ?_
    rintro e w1 ⟨rfl, hb⟩
    have HB1 := hid (HB0.out.trans (hb.mono HB0.out.size))
    clear hb y0 y1 y2 y3 y4 y5 y6 y7
    have y0 := (HB1.out.cell (p := ⟨b, o, none⟩) XL.out).trans X0.out
    have y1 := (HB1.out.cell (p := ⟨b, o + 1, none⟩) XL.out).trans X1.out
    have y2 := (HB1.out.cell (p := ⟨b, o + 2, none⟩) XL.out).trans X2.out
    have y3 := (HB1.out.cell (p := ⟨b, o + 3, none⟩) XL.out).trans X3.out
    have y4 := (HB1.out.cell (p := ⟨b, o + 4, none⟩) XL.out).trans X4.out
    have y5 := (HB1.out.cell (p := ⟨b, o + 5, none⟩) XL.out).trans X5.out
    have y6 := (HB1.out.cell (p := ⟨b, o + 6, none⟩) XL.out).trans X6.out
    have y7 := (HB1.out.cell (p := ⟨b, o + 7, none⟩) XL.out).trans X7.out
    go_wp2_with fail
    go_ret
    exact ⟨ret_bool HF.out.symm, HB1.out⟩
  case pos =>
  rw [t2] at ht
  have HT := hid ht
  clear ht
  by_cases t3 : ns1.length = 0
  case neg =>
    have e3 : decide (0 < ns1.length) = true := decide_eq_true (by omega)
    have HF := hid (show tmFields k1 u1 n1 (Ty.mk tk1 tn1 tks1) ns1 = false by rw [HE.out]; rw [t1, t2, decide_eq_false t3]; rfl)
    clear HE t1 t2 t3
    have y0 := (HB0.out.cell (p := ⟨b, o, none⟩) XL.out).trans X0.out
    have y1 := (HB0.out.cell (p := ⟨b, o + 1, none⟩) XL.out).trans X1.out
    have y2 := (HB0.out.cell (p := ⟨b, o + 2, none⟩) XL.out).trans X2.out
    have y3 := (HB0.out.cell (p := ⟨b, o + 3, none⟩) XL.out).trans X3.out
    have y4 := (HB0.out.cell (p := ⟨b, o + 4, none⟩) XL.out).trans X4.out
    have y5 := (HB0.out.cell (p := ⟨b, o + 5, none⟩) XL.out).trans X5.out
    have y6 := (HB0.out.cell (p := ⟨b, o + 6, none⟩) XL.out).trans X6.out
    have y7 := (HB0.out.cell (p := ⟨b, o + 7, none⟩) XL.out).trans X7.out
    go_enter Tryz.func100, Tryz.ntmps100
    go_wp2_with fail
    refine (HT.out _ HB0.out).mono ?_
    rintro e w1 ⟨rfl, hb⟩
    have HB1 := hid (HB0.out.trans (hb.mono HB0.out.size))
    clear hb y0 y1 y2 y3 y4 y5 y6 y7
    have y0 := (HB1.out.cell (p := ⟨b, o, none⟩) XL.out).trans X0.out
    have y1 := (HB1.out.cell (p := ⟨b, o + 1, none⟩) XL.out).trans X1.out
    have y2 := (HB1.out.cell (p := ⟨b, o + 2, none⟩) XL.out).trans X2.out
    have y3 := (HB1.out.cell (p := ⟨b, o + 3, none⟩) XL.out).trans X3.out
    have y4 := (HB1.out.cell (p := ⟨b, o + 4, none⟩) XL.out).trans X4.out
    have y5 := (HB1.out.cell (p := ⟨b, o + 5, none⟩) XL.out).trans X5.out
    have y6 := (HB1.out.cell (p := ⟨b, o + 6, none⟩) XL.out).trans X6.out
    have y7 := (HB1.out.cell (p := ⟨b, o + 7, none⟩) XL.out).trans X7.out
    go_wp2_with fail
    go_ret
    exact ⟨ret_bool HF.out.symm, HB1.out⟩
  case pos =>
  have e3 : decide (0 < ns1.length) = false := decide_eq_false (by omega)
  have HF := hid (show tmFields k1 u1 n1 (Ty.mk tk1 tn1 tks1) ns1 = decide (u1 = 0) by rw [HE.out, t1, t2, decide_eq_true t3]; rfl)
  clear HE t1 t2 t3
  have y0 := (HB0.out.cell (p := ⟨b, o, none⟩) XL.out).trans X0.out
  have y1 := (HB0.out.cell (p := ⟨b, o + 1, none⟩) XL.out).trans X1.out
  have y2 := (HB0.out.cell (p := ⟨b, o + 2, none⟩) XL.out).trans X2.out
  have y3 := (HB0.out.cell (p := ⟨b, o + 3, none⟩) XL.out).trans X3.out
  have y4 := (HB0.out.cell (p := ⟨b, o + 4, none⟩) XL.out).trans X4.out
  have y5 := (HB0.out.cell (p := ⟨b, o + 5, none⟩) XL.out).trans X5.out
  have y6 := (HB0.out.cell (p := ⟨b, o + 6, none⟩) XL.out).trans X6.out
  have y7 := (HB0.out.cell (p := ⟨b, o + 7, none⟩) XL.out).trans X7.out
  go_enter Tryz.func100, Tryz.ntmps100
  go_wp2_with fail
  refine (HT.out _ HB0.out).mono ?_
  rintro e w1 ⟨rfl, hb⟩
  have HB1 := hid (HB0.out.trans (hb.mono HB0.out.size))
  clear hb y0 y1 y2 y3 y4 y5 y6 y7
  have y0 := (HB1.out.cell (p := ⟨b, o, none⟩) XL.out).trans X0.out
  have y1 := (HB1.out.cell (p := ⟨b, o + 1, none⟩) XL.out).trans X1.out
  have y2 := (HB1.out.cell (p := ⟨b, o + 2, none⟩) XL.out).trans X2.out
  have y3 := (HB1.out.cell (p := ⟨b, o + 3, none⟩) XL.out).trans X3.out
  have y4 := (HB1.out.cell (p := ⟨b, o + 4, none⟩) XL.out).trans X4.out
  have y5 := (HB1.out.cell (p := ⟨b, o + 5, none⟩) XL.out).trans X5.out
  have y6 := (HB1.out.cell (p := ⟨b, o + 6, none⟩) XL.out).trans X6.out
  have y7 := (HB1.out.cell (p := ⟨b, o + 7, none⟩) XL.out).trans X7.out
  go_wp2_with fail
  go_ret
  exact ⟨ret_bool (by rw [HF.out]; first | rfl | (by_cases hu : u1 = 0 <;> simp [hu])), HB1.out⟩
theorem spec_l03Fields (k1 : Int) (u1 : Int) (n1 : ByteArray) (tk1 : Int) (tn1 : ByteArray) (tks1 : List Ty) (ns1 : List ByteArray) (ks1 : List Tm) (atks1 : Option Addr) (ctks1 : Nat) (ans1 : Option Addr) (cns1 : Nat) (aks1 : Option Addr) (cks1 : Nat) (b o : Nat) (w : World) (x0 : w.cell? ⟨b, o, none⟩ = some (.int .i64 k1)) (x1 : w.cell? ⟨b, o + 1, none⟩ = some (.int .i64 u1)) (x2 : w.cell? ⟨b, o + 2, none⟩ = some (.string n1)) (x3 : w.cell? ⟨b, o + 3, none⟩ = some (.int .i64 tk1)) (x4 : w.cell? ⟨b, o + 4, none⟩ = some (.string tn1)) (x5 : w.cell? ⟨b, o + 5, none⟩ = some (.slice atks1 tks1.length ctks1)) (x6 : w.cell? ⟨b, o + 6, none⟩ = some (.slice ans1 ns1.length cns1)) (x7 : w.cell? ⟨b, o + 7, none⟩ = some (.slice aks1 ks1.length cks1)) (hM : Tm.bulk (Tm.mk k1 u1 n1 (Ty.mk tk1 tn1 tks1) ns1 ks1) ≤ 1048576) (hr : RdS w (Tm.d (Tm.mk k1 u1 n1 (Ty.mk tk1 tn1 tks1) ns1 ks1)) [.int .i64 k1, .int .i64 u1, .string n1, .int .i64 tk1, .string tn1, .slice atks1 tks1.length ctks1, .slice ans1 ns1.length cns1, .slice aks1 ks1.length cks1]) :
    Calls Tryz.prog 100 #[.pointer (some ⟨b, o, none⟩)] w fun e w' => e = .returned (.bool (tmFields k1 u1 n1 (Ty.mk tk1 tn1 tks1) ns1)) ∧ Below w.heap.size w w' := by
  by_cases h1 : k1 = 1
  · subst h1
    exact spec_fields_1 u1 n1 tk1 tn1 tks1 ns1 ks1 atks1 ctks1 ans1 cns1 aks1 cks1 b o w x0 x1 x2 x3 x4 x5 x6 x7 hM hr
  by_cases h2 : k1 = 2
  · subst h2
    exact spec_fields_2 u1 n1 tk1 tn1 tks1 ns1 ks1 atks1 ctks1 ans1 cns1 aks1 cks1 b o w x0 x1 x2 x3 x4 x5 x6 x7 hM hr
  by_cases h3 : k1 = 3
  · subst h3
    exact spec_fields_3 u1 n1 tk1 tn1 tks1 ns1 ks1 atks1 ctks1 ans1 cns1 aks1 cks1 b o w x0 x1 x2 x3 x4 x5 x6 x7 hM hr
  by_cases h4 : k1 = 4
  · subst h4
    exact spec_fields_4 u1 n1 tk1 tn1 tks1 ns1 ks1 atks1 ctks1 ans1 cns1 aks1 cks1 b o w x0 x1 x2 x3 x4 x5 x6 x7 hM hr
  by_cases h5 : k1 = 5
  · subst h5
    exact spec_fields_5 u1 n1 tk1 tn1 tks1 ns1 ks1 atks1 ctks1 ans1 cns1 aks1 cks1 b o w x0 x1 x2 x3 x4 x5 x6 x7 hM hr
  by_cases h6 : k1 = 6
  · subst h6
    exact spec_fields_6 u1 n1 tk1 tn1 tks1 ns1 ks1 atks1 ctks1 ans1 cns1 aks1 cks1 b o w x0 x1 x2 x3 x4 x5 x6 x7 hM hr
  by_cases h7 : k1 = 7
  · subst h7
    exact spec_fields_7 u1 n1 tk1 tn1 tks1 ns1 ks1 atks1 ctks1 ans1 cns1 aks1 cks1 b o w x0 x1 x2 x3 x4 x5 x6 x7 hM hr
  by_cases h8 : k1 = 8
  · subst h8
    exact spec_fields_8 u1 n1 tk1 tn1 tks1 ns1 ks1 atks1 ctks1 ans1 cns1 aks1 cks1 b o w x0 x1 x2 x3 x4 x5 x6 x7 hM hr
  by_cases h9 : k1 = 9
  · subst h9
    exact spec_fields_9 u1 n1 tk1 tn1 tks1 ns1 ks1 atks1 ctks1 ans1 cns1 aks1 cks1 b o w x0 x1 x2 x3 x4 x5 x6 x7 hM hr
  by_cases h10 : k1 = 10
  · subst h10
    exact spec_fields_10 u1 n1 tk1 tn1 tks1 ns1 ks1 atks1 ctks1 ans1 cns1 aks1 cks1 b o w x0 x1 x2 x3 x4 x5 x6 x7 hM hr
  by_cases h11 : k1 = 11
  · subst h11
    exact spec_fields_11 u1 n1 tk1 tn1 tks1 ns1 ks1 atks1 ctks1 ans1 cns1 aks1 cks1 b o w x0 x1 x2 x3 x4 x5 x6 x7 hM hr
  exact spec_fields_o k1 u1 n1 tk1 tn1 tks1 ns1 ks1 atks1 ctks1 ans1 cns1 aks1 cks1 (by simp [h1]) h1 (by simp [h2]) h2 (by simp [h3]) h3 (by simp [h4]) h4 (by simp [h5]) h5 (by simp [h6]) h6 (by simp [h7]) h7 (by simp [h8]) h8 (by simp [h9]) h9 (by simp [h10]) h10 (by simp [h11]) h11 b o w x0 x1 x2 x3 x4 x5 x6 x7 hM hr
end Go.Proofs.YtikhofcjkcbpbaaGreatDoor
