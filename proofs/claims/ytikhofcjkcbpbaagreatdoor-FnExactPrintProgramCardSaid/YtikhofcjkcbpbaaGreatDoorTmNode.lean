/- Walks: a term's node, in the program. -/
import Derived.Test.YtikhofcjkcbpbaaGreatDoorTmNames
import Derived.Test.YtikhofcjkcbpbaaGreatDoorTyShape
import Derived.Test.YtikhofcjkcbpbaaGreatDoorTwo
import Derived.Test.YtikhofcjkcbpbaaGreatDoorSzTm
namespace Go.Proofs.YtikhofcjkcbpbaaGreatDoor
open Go.ChangeShapes Go.WideShapes Go.ChangeAt Go.RowKit Go.BigFrame
open Go.Sort (grow)
set_option linter.unusedVariables false

theorem impl_isInt (n : Int) (w : World) : Calls Tryz.prog 103 #[.int .i64 n] w fun e w' => e = .returned (.bool (inR n (-2147483648) 2147483647)) ∧ w = w' := by
  by_cases h1 : -2147483648 ≤ n <;> by_cases h2 : n ≤ 2147483647
  all_goals
    go_enter Tryz.func103, Tryz.ntmps103
    go_wp2
    go_ret
    exact ⟨ret_bool (by simp [inR]; try omega), rfl⟩
set_option maxRecDepth 100000 in
set_option maxHeartbeats 2000000 in
theorem impl_node_1 (u1 : Int) (n1 : ByteArray) (tk1 : Int) (tn1 : ByteArray) (tks1 : List Ty) (ns1 : List ByteArray) (ks1 : List Tm) (atks1 : Option Addr) (ctks1 : Nat) (ans1 : Option Addr) (cns1 : Nat) (aks1 : Option Addr) (cks1 : Nat) (w : World) (hM : Tm.bulk (Tm.mk 1 u1 n1 (Ty.mk tk1 tn1 tks1) ns1 ks1) ≤ 1048576) (hr : RdS w (Tm.d (Tm.mk 1 u1 n1 (Ty.mk tk1 tn1 tks1) ns1 ks1)) [.int .i64 1, .int .i64 u1, .string n1, .int .i64 tk1, .string tn1, .slice atks1 tks1.length ctks1, .slice ans1 ns1.length cns1, .slice aks1 ks1.length cks1]) :
    Calls Tryz.prog 77 #[.agg #[.int .i64 1, .int .i64 u1, .string n1, .int .i64 tk1, .string tn1, .slice atks1 tks1.length ctks1, .slice ans1 ns1.length cns1, .slice aks1 ks1.length cks1]] w fun e w' => e = .returned (.bool (okTm 1 u1 n1 (Ty.mk tk1 tn1 tks1) ns1 ks1.length)) ∧ Below w.heap.size w w' := by
  have HE := hid (show okTm 1 u1 n1 (Ty.mk tk1 tn1 tks1) ns1 ks1.length = (inR ks1.length (0) (0) && (isLowerB n1 && (tyNone (Ty.mk tk1 tn1 tks1) && (decide (ns1.length = 0) && decide (u1 = 0))))) from rfl)
  have hlen : ns1.length ≤ 1048576 := by have := Sr.bulks_length ns1; simp only [Tm.bulk] at hM; omega
  have hlk : ks1.length ≤ 1048576 := by have := Tm.bulks_length ks1; simp only [Tm.bulk] at hM; omega
  have hbt : Ty.bulk (Ty.mk tk1 tn1 tks1) ≤ 1048576 := by simp only [Tm.bulk] at hM; omega
  have HX0 := hid ((Boxes.nil w).alloc #[.int .i64 1, .int .i64 u1, .string n1, .int .i64 tk1, .string tn1, .slice atks1 tks1.length ctks1, .slice ans1 ns1.length cns1, .slice aks1 ks1.length cks1] 36 (0, 0))
  have hB : Below w.heap.size w (w.alloc (.cells #[.int .i64 1, .int .i64 u1, .string n1, .int .i64 tk1, .string tn1, .slice atks1 tks1.length ctks1, .slice ans1 ns1.length cns1, .slice aks1 ks1.length cks1] 36)) := (Below.refl w.heap.size w).alloc (Nat.le_refl _) _
  have htl := impl_isTypeless tk1 tn1 tks1 atks1 ctks1 (w.alloc (.cells #[.int .i64 1, .int .i64 u1, .string n1, .int .i64 tk1, .string tn1, .slice atks1 tks1.length ctks1, .slice ans1 ns1.length cns1, .slice aks1 ks1.length cks1] 36)) (hr.subTm_t.below hB)
  have HLO := hid (fun W d os => Calls.regrown_of (impl_IsLower n1 (grow (redrawn W d) os)))
  have HUP := hid (fun W d os => Calls.regrown_of (impl_IsUpper n1 (grow (redrawn W d) os)))
  have HB0 := hid hB
  clear hr hM hbt hB
  by_cases a1 : ns1.length = 0
  case neg =>
    have e1 : decide (0 < ns1.length) = true := decide_eq_true (by omega)
    have HF := hid (show okTm 1 u1 n1 (Ty.mk tk1 tn1 tks1) ns1 ks1.length = false by rw [HE.out]; rw [decide_eq_false a1]; simp)
    generalize tyNone (Ty.mk tk1 tn1 tks1) = pv at htl
    have HTL := hid htl
    clear HE htl a1
    go_enter Tryz.func77, Tryz.ntmps77
    go_wp2_with fail
    refine HTL.out.mono ?_
    rintro e w1 ⟨rfl, hb⟩
    have HB1 := hid (HB0.out.trans (hb.mono HB0.out.size))
    have HX1 := hid (HX0.out.below hb)
    clear hb HTL
    have y0 := HX1.out.at 0 0 rfl rfl
    have y1 := HX1.out.at 0 1 rfl rfl
    have y2 := HX1.out.at 0 2 rfl rfl
    have y3 := HX1.out.at 0 3 rfl rfl
    have y4 := HX1.out.at 0 4 rfl rfl
    have y5 := HX1.out.at 0 5 rfl rfl
    have y6 := HX1.out.at 0 6 rfl rfl
    have y7 := HX1.out.at 0 7 rfl rfl
    go_wp2_with fail
    go_ret
    exact ⟨ret_bool HF.out.symm, HB1.out⟩
  case pos =>
  have e1 : decide (0 < ns1.length) = false := decide_eq_false (by omega)
  by_cases a2 : tyNone (Ty.mk tk1 tn1 tks1) = true
  case neg =>
    replace a2 := (Bool.not_eq_true _).mp a2
    have HF := hid (show okTm 1 u1 n1 (Ty.mk tk1 tn1 tks1) ns1 ks1.length = false by rw [HE.out]; rw [a2]; simp)
    rw [a2] at htl
    have HTL := hid htl
    clear HE htl a1 a2
    go_enter Tryz.func77, Tryz.ntmps77
    go_wp2_with fail
    refine HTL.out.mono ?_
    rintro e w1 ⟨rfl, hb⟩
    have HB1 := hid (HB0.out.trans (hb.mono HB0.out.size))
    have HX1 := hid (HX0.out.below hb)
    clear hb HTL
    have y0 := HX1.out.at 0 0 rfl rfl
    have y1 := HX1.out.at 0 1 rfl rfl
    have y2 := HX1.out.at 0 2 rfl rfl
    have y3 := HX1.out.at 0 3 rfl rfl
    have y4 := HX1.out.at 0 4 rfl rfl
    have y5 := HX1.out.at 0 5 rfl rfl
    have y6 := HX1.out.at 0 6 rfl rfl
    have y7 := HX1.out.at 0 7 rfl rfl
    go_wp2_with fail
    go_ret
    exact ⟨ret_bool HF.out.symm, HB1.out⟩
  case pos =>
  rw [a2] at htl
  by_cases a3 : u1 = 0
  case neg =>
    have e3 : (u1 == 0) = false := by simp [a3]
    have HF := hid (show okTm 1 u1 n1 (Ty.mk tk1 tn1 tks1) ns1 ks1.length = false by rw [HE.out]; rw [decide_eq_false a3]; simp)
    have HTL := hid htl
    clear HE htl a1 a2 a3
    go_enter Tryz.func77, Tryz.ntmps77
    go_wp2_with fail
    refine HTL.out.mono ?_
    rintro e w1 ⟨rfl, hb⟩
    have HB1 := hid (HB0.out.trans (hb.mono HB0.out.size))
    have HX1 := hid (HX0.out.below hb)
    clear hb HTL
    have y0 := HX1.out.at 0 0 rfl rfl
    have y1 := HX1.out.at 0 1 rfl rfl
    have y2 := HX1.out.at 0 2 rfl rfl
    have y3 := HX1.out.at 0 3 rfl rfl
    have y4 := HX1.out.at 0 4 rfl rfl
    have y5 := HX1.out.at 0 5 rfl rfl
    have y6 := HX1.out.at 0 6 rfl rfl
    have y7 := HX1.out.at 0 7 rfl rfl
    go_wp2_with fail
    go_ret
    exact ⟨ret_bool HF.out.symm, HB1.out⟩
  case pos =>
  have e3 : (u1 == 0) = true := by simp [a3]
  by_cases a4 : isLowerB n1 = true
  case neg =>
    replace a4 := (Bool.not_eq_true _).mp a4
    have hlo := HLO.out
    rw [a4] at hlo
    have HLO := hid hlo
    clear hlo
    have HF := hid (show okTm 1 u1 n1 (Ty.mk tk1 tn1 tks1) ns1 ks1.length = false by rw [HE.out]; rw [a4]; simp)
    have HTL := hid htl
    clear HE htl a1 a2 a3 a4
    go_enter Tryz.func77, Tryz.ntmps77
    go_wp2_with fail
    refine HTL.out.mono ?_
    rintro e w1 ⟨rfl, hb⟩
    have HB1 := hid (HB0.out.trans (hb.mono HB0.out.size))
    have HX1 := hid (HX0.out.below hb)
    clear hb HTL
    have y0 := HX1.out.at 0 0 rfl rfl
    have y1 := HX1.out.at 0 1 rfl rfl
    have y2 := HX1.out.at 0 2 rfl rfl
    have y3 := HX1.out.at 0 3 rfl rfl
    have y4 := HX1.out.at 0 4 rfl rfl
    have y5 := HX1.out.at 0 5 rfl rfl
    have y6 := HX1.out.at 0 6 rfl rfl
    have y7 := HX1.out.at 0 7 rfl rfl
    go_wp2_with fail
    clear y0 y1 y2 y3 y4 y5 y6 y7
    have y0 := cell_regrown (HX1.out.at 0 0 rfl rfl)
    have y1 := cell_regrown (HX1.out.at 0 1 rfl rfl)
    have y2 := cell_regrown (HX1.out.at 0 2 rfl rfl)
    have y3 := cell_regrown (HX1.out.at 0 3 rfl rfl)
    have y4 := cell_regrown (HX1.out.at 0 4 rfl rfl)
    have y5 := cell_regrown (HX1.out.at 0 5 rfl rfl)
    have y6 := cell_regrown (HX1.out.at 0 6 rfl rfl)
    have y7 := cell_regrown (HX1.out.at 0 7 rfl rfl)
    refine wp_region_quiet_below (by kernel_rfl) (by kernel_rfl) ?_
    repeat (go_big_quiet_step (first | exact HLO.out _ _ _ | exact HUP.out _ _ _))
    refine wpQuiet_nil ?_
    intro _ hw'
    obtain ⟨⟨dq, osq⟩, hw''⟩ := hw'
    subst hw''
    have hbr := below_regrown w1 dq osq
    have HB2 := hid (HB1.out.trans (hbr.mono HB1.out.size))
    have HX2 := hid (HX1.out.below hbr)
    clear hbr y0 y1 y2 y3 y4 y5 y6 y7
    have y0 := HX2.out.at 0 0 rfl rfl
    have y1 := HX2.out.at 0 1 rfl rfl
    have y2 := HX2.out.at 0 2 rfl rfl
    have y3 := HX2.out.at 0 3 rfl rfl
    have y4 := HX2.out.at 0 4 rfl rfl
    have y5 := HX2.out.at 0 5 rfl rfl
    have y6 := HX2.out.at 0 6 rfl rfl
    have y7 := HX2.out.at 0 7 rfl rfl
    go_wp2_with fail
    go_ret
    exact ⟨ret_bool HF.out.symm, HB2.out⟩
  case pos =>
  have hlo := HLO.out
  rw [a4] at hlo
  have HLO := hid hlo
  clear hlo
  by_cases a5 : ks1.length = 0
  case neg =>
    have e5 : ((ks1.length : Int) == 0) = false := beq_eq_false_iff_ne.2 (by omega)
    have HF := hid (show okTm 1 u1 n1 (Ty.mk tk1 tn1 tks1) ns1 ks1.length = false by rw [HE.out]; rw [inR_f (by omega)]; simp)
    have HTL := hid htl
    clear HE htl a1 a2 a3 a4 a5
    go_enter Tryz.func77, Tryz.ntmps77
    go_wp2_with fail
    refine HTL.out.mono ?_
    rintro e w1 ⟨rfl, hb⟩
    have HB1 := hid (HB0.out.trans (hb.mono HB0.out.size))
    have HX1 := hid (HX0.out.below hb)
    clear hb HTL
    have y0 := HX1.out.at 0 0 rfl rfl
    have y1 := HX1.out.at 0 1 rfl rfl
    have y2 := HX1.out.at 0 2 rfl rfl
    have y3 := HX1.out.at 0 3 rfl rfl
    have y4 := HX1.out.at 0 4 rfl rfl
    have y5 := HX1.out.at 0 5 rfl rfl
    have y6 := HX1.out.at 0 6 rfl rfl
    have y7 := HX1.out.at 0 7 rfl rfl
    go_wp2_with fail
    clear y0 y1 y2 y3 y4 y5 y6 y7
    have y0 := cell_regrown (HX1.out.at 0 0 rfl rfl)
    have y1 := cell_regrown (HX1.out.at 0 1 rfl rfl)
    have y2 := cell_regrown (HX1.out.at 0 2 rfl rfl)
    have y3 := cell_regrown (HX1.out.at 0 3 rfl rfl)
    have y4 := cell_regrown (HX1.out.at 0 4 rfl rfl)
    have y5 := cell_regrown (HX1.out.at 0 5 rfl rfl)
    have y6 := cell_regrown (HX1.out.at 0 6 rfl rfl)
    have y7 := cell_regrown (HX1.out.at 0 7 rfl rfl)
    refine wp_region_quiet_below (by kernel_rfl) (by kernel_rfl) ?_
    repeat (go_big_quiet_step (first | exact HLO.out _ _ _ | exact HUP.out _ _ _))
    refine wpQuiet_nil ?_
    intro _ hw'
    obtain ⟨⟨dq, osq⟩, hw''⟩ := hw'
    subst hw''
    have hbr := below_regrown w1 dq osq
    have HB2 := hid (HB1.out.trans (hbr.mono HB1.out.size))
    have HX2 := hid (HX1.out.below hbr)
    clear hbr y0 y1 y2 y3 y4 y5 y6 y7
    have y0 := HX2.out.at 0 0 rfl rfl
    have y1 := HX2.out.at 0 1 rfl rfl
    have y2 := HX2.out.at 0 2 rfl rfl
    have y3 := HX2.out.at 0 3 rfl rfl
    have y4 := HX2.out.at 0 4 rfl rfl
    have y5 := HX2.out.at 0 5 rfl rfl
    have y6 := HX2.out.at 0 6 rfl rfl
    have y7 := HX2.out.at 0 7 rfl rfl
    go_wp2_with fail
    go_ret
    exact ⟨ret_bool HF.out.symm, HB2.out⟩
  case pos =>
  have e5 : ((ks1.length : Int) == 0) = true := beq_iff_eq.2 (by omega)
  have HF := hid (show okTm 1 u1 n1 (Ty.mk tk1 tn1 tks1) ns1 ks1.length = true by rw [HE.out]; rw [inR_t (by omega) (by omega), a4, a2, decide_eq_true a1, decide_eq_true a3]; simp)
  have HTL := hid htl
  clear HE htl a1 a2 a3 a4 a5
  go_enter Tryz.func77, Tryz.ntmps77
  go_wp2_with fail
  refine HTL.out.mono ?_
  rintro e w1 ⟨rfl, hb⟩
  have HB1 := hid (HB0.out.trans (hb.mono HB0.out.size))
  have HX1 := hid (HX0.out.below hb)
  clear hb HTL
  have y0 := HX1.out.at 0 0 rfl rfl
  have y1 := HX1.out.at 0 1 rfl rfl
  have y2 := HX1.out.at 0 2 rfl rfl
  have y3 := HX1.out.at 0 3 rfl rfl
  have y4 := HX1.out.at 0 4 rfl rfl
  have y5 := HX1.out.at 0 5 rfl rfl
  have y6 := HX1.out.at 0 6 rfl rfl
  have y7 := HX1.out.at 0 7 rfl rfl
  go_wp2_with fail
  clear y0 y1 y2 y3 y4 y5 y6 y7
  have y0 := cell_regrown (HX1.out.at 0 0 rfl rfl)
  have y1 := cell_regrown (HX1.out.at 0 1 rfl rfl)
  have y2 := cell_regrown (HX1.out.at 0 2 rfl rfl)
  have y3 := cell_regrown (HX1.out.at 0 3 rfl rfl)
  have y4 := cell_regrown (HX1.out.at 0 4 rfl rfl)
  have y5 := cell_regrown (HX1.out.at 0 5 rfl rfl)
  have y6 := cell_regrown (HX1.out.at 0 6 rfl rfl)
  have y7 := cell_regrown (HX1.out.at 0 7 rfl rfl)
  refine wp_region_quiet_below (by kernel_rfl) (by kernel_rfl) ?_
  repeat (go_big_quiet_step (first | exact HLO.out _ _ _ | exact HUP.out _ _ _))
  refine wpQuiet_nil ?_
  intro _ hw'
  obtain ⟨⟨dq, osq⟩, hw''⟩ := hw'
  subst hw''
  have hbr := below_regrown w1 dq osq
  have HB2 := hid (HB1.out.trans (hbr.mono HB1.out.size))
  have HX2 := hid (HX1.out.below hbr)
  clear hbr y0 y1 y2 y3 y4 y5 y6 y7
  have y0 := HX2.out.at 0 0 rfl rfl
  have y1 := HX2.out.at 0 1 rfl rfl
  have y2 := HX2.out.at 0 2 rfl rfl
  have y3 := HX2.out.at 0 3 rfl rfl
  have y4 := HX2.out.at 0 4 rfl rfl
  have y5 := HX2.out.at 0 5 rfl rfl
  have y6 := HX2.out.at 0 6 rfl rfl
  have y7 := HX2.out.at 0 7 rfl rfl
  go_wp2_with fail
  go_ret
  exact ⟨ret_bool HF.out.symm, HB2.out⟩
set_option maxRecDepth 100000 in
set_option maxHeartbeats 2000000 in
theorem impl_node_2 (u1 : Int) (n1 : ByteArray) (tk1 : Int) (tn1 : ByteArray) (tks1 : List Ty) (ns1 : List ByteArray) (ks1 : List Tm) (atks1 : Option Addr) (ctks1 : Nat) (ans1 : Option Addr) (cns1 : Nat) (aks1 : Option Addr) (cks1 : Nat) (w : World) (hM : Tm.bulk (Tm.mk 2 u1 n1 (Ty.mk tk1 tn1 tks1) ns1 ks1) ≤ 1048576) (hr : RdS w (Tm.d (Tm.mk 2 u1 n1 (Ty.mk tk1 tn1 tks1) ns1 ks1)) [.int .i64 2, .int .i64 u1, .string n1, .int .i64 tk1, .string tn1, .slice atks1 tks1.length ctks1, .slice ans1 ns1.length cns1, .slice aks1 ks1.length cks1]) :
    Calls Tryz.prog 77 #[.agg #[.int .i64 2, .int .i64 u1, .string n1, .int .i64 tk1, .string tn1, .slice atks1 tks1.length ctks1, .slice ans1 ns1.length cns1, .slice aks1 ks1.length cks1]] w fun e w' => e = .returned (.bool (okTm 2 u1 n1 (Ty.mk tk1 tn1 tks1) ns1 ks1.length)) ∧ Below w.heap.size w w' := by
  have HE := hid (show okTm 2 u1 n1 (Ty.mk tk1 tn1 tks1) ns1 ks1.length = (inR ks1.length (0) (0) && (n1.toList.isEmpty && (tyNone (Ty.mk tk1 tn1 tks1) && (decide (ns1.length = 0) && inR u1 (-2147483648) 2147483647)))) from rfl)
  have hlen : ns1.length ≤ 1048576 := by have := Sr.bulks_length ns1; simp only [Tm.bulk] at hM; omega
  have hlk : ks1.length ≤ 1048576 := by have := Tm.bulks_length ks1; simp only [Tm.bulk] at hM; omega
  have hbt : Ty.bulk (Ty.mk tk1 tn1 tks1) ≤ 1048576 := by simp only [Tm.bulk] at hM; omega
  have HX0 := hid ((Boxes.nil w).alloc #[.int .i64 2, .int .i64 u1, .string n1, .int .i64 tk1, .string tn1, .slice atks1 tks1.length ctks1, .slice ans1 ns1.length cns1, .slice aks1 ks1.length cks1] 36 (0, 0))
  have hB : Below w.heap.size w (w.alloc (.cells #[.int .i64 2, .int .i64 u1, .string n1, .int .i64 tk1, .string tn1, .slice atks1 tks1.length ctks1, .slice ans1 ns1.length cns1, .slice aks1 ks1.length cks1] 36)) := (Below.refl w.heap.size w).alloc (Nat.le_refl _) _
  have htl := impl_isTypeless tk1 tn1 tks1 atks1 ctks1 (w.alloc (.cells #[.int .i64 2, .int .i64 u1, .string n1, .int .i64 tk1, .string tn1, .slice atks1 tks1.length ctks1, .slice ans1 ns1.length cns1, .slice aks1 ks1.length cks1] 36)) (hr.subTm_t.below hB)
  have HLO := hid (fun W d os => Calls.regrown_of (impl_IsLower n1 (grow (redrawn W d) os)))
  have HUP := hid (fun W d os => Calls.regrown_of (impl_IsUpper n1 (grow (redrawn W d) os)))
  have HIN := hid (impl_isInt u1)
  have HB0 := hid hB
  clear hr hM hbt hB
  by_cases a1 : ns1.length = 0
  case neg =>
    have e1 : decide (0 < ns1.length) = true := decide_eq_true (by omega)
    have HF := hid (show okTm 2 u1 n1 (Ty.mk tk1 tn1 tks1) ns1 ks1.length = false by rw [HE.out]; rw [decide_eq_false a1]; simp)
    generalize tyNone (Ty.mk tk1 tn1 tks1) = pv at htl
    have HTL := hid htl
    clear HE htl a1
    go_enter Tryz.func77, Tryz.ntmps77
    go_wp2_with fail
    refine HTL.out.mono ?_
    rintro e w1 ⟨rfl, hb⟩
    have HB1 := hid (HB0.out.trans (hb.mono HB0.out.size))
    have HX1 := hid (HX0.out.below hb)
    clear hb HTL
    have y0 := HX1.out.at 0 0 rfl rfl
    have y1 := HX1.out.at 0 1 rfl rfl
    have y2 := HX1.out.at 0 2 rfl rfl
    have y3 := HX1.out.at 0 3 rfl rfl
    have y4 := HX1.out.at 0 4 rfl rfl
    have y5 := HX1.out.at 0 5 rfl rfl
    have y6 := HX1.out.at 0 6 rfl rfl
    have y7 := HX1.out.at 0 7 rfl rfl
    go_wp2_with fail
    go_ret
    exact ⟨ret_bool HF.out.symm, HB1.out⟩
  case pos =>
  have e1 : decide (0 < ns1.length) = false := decide_eq_false (by omega)
  by_cases a2 : tyNone (Ty.mk tk1 tn1 tks1) = true
  case neg =>
    replace a2 := (Bool.not_eq_true _).mp a2
    have HF := hid (show okTm 2 u1 n1 (Ty.mk tk1 tn1 tks1) ns1 ks1.length = false by rw [HE.out]; rw [a2]; simp)
    rw [a2] at htl
    have HTL := hid htl
    clear HE htl a1 a2
    go_enter Tryz.func77, Tryz.ntmps77
    go_wp2_with fail
    refine HTL.out.mono ?_
    rintro e w1 ⟨rfl, hb⟩
    have HB1 := hid (HB0.out.trans (hb.mono HB0.out.size))
    have HX1 := hid (HX0.out.below hb)
    clear hb HTL
    have y0 := HX1.out.at 0 0 rfl rfl
    have y1 := HX1.out.at 0 1 rfl rfl
    have y2 := HX1.out.at 0 2 rfl rfl
    have y3 := HX1.out.at 0 3 rfl rfl
    have y4 := HX1.out.at 0 4 rfl rfl
    have y5 := HX1.out.at 0 5 rfl rfl
    have y6 := HX1.out.at 0 6 rfl rfl
    have y7 := HX1.out.at 0 7 rfl rfl
    go_wp2_with fail
    go_ret
    exact ⟨ret_bool HF.out.symm, HB1.out⟩
  case pos =>
  rw [a2] at htl
  by_cases a4 : n1.toList.isEmpty = true
  case neg =>
    replace a4 := (Bool.not_eq_true _).mp a4
    have e4 : (n1.toList == []) = false := by simpa [List.isEmpty_eq_false_iff] using a4
    have HF := hid (show okTm 2 u1 n1 (Ty.mk tk1 tn1 tks1) ns1 ks1.length = false by rw [HE.out]; rw [a4]; simp)
    have HTL := hid htl
    clear HE htl a1 a2 a4
    go_enter Tryz.func77, Tryz.ntmps77
    go_wp2_with fail
    refine HTL.out.mono ?_
    rintro e w1 ⟨rfl, hb⟩
    have HB1 := hid (HB0.out.trans (hb.mono HB0.out.size))
    have HX1 := hid (HX0.out.below hb)
    clear hb HTL
    have y0 := HX1.out.at 0 0 rfl rfl
    have y1 := HX1.out.at 0 1 rfl rfl
    have y2 := HX1.out.at 0 2 rfl rfl
    have y3 := HX1.out.at 0 3 rfl rfl
    have y4 := HX1.out.at 0 4 rfl rfl
    have y5 := HX1.out.at 0 5 rfl rfl
    have y6 := HX1.out.at 0 6 rfl rfl
    have y7 := HX1.out.at 0 7 rfl rfl
    go_wp2_with fail
    clear y0 y1 y2 y3 y4 y5 y6 y7
    have y0 := cell_regrown (HX1.out.at 0 0 rfl rfl)
    have y1 := cell_regrown (HX1.out.at 0 1 rfl rfl)
    have y2 := cell_regrown (HX1.out.at 0 2 rfl rfl)
    have y3 := cell_regrown (HX1.out.at 0 3 rfl rfl)
    have y4 := cell_regrown (HX1.out.at 0 4 rfl rfl)
    have y5 := cell_regrown (HX1.out.at 0 5 rfl rfl)
    have y6 := cell_regrown (HX1.out.at 0 6 rfl rfl)
    have y7 := cell_regrown (HX1.out.at 0 7 rfl rfl)
    refine wp_region_quiet_below (by kernel_rfl) (by kernel_rfl) ?_
    repeat (go_big_quiet_step (first | exact HLO.out _ _ _ | exact HUP.out _ _ _))
    refine wpQuiet_nil ?_
    intro _ hw'
    obtain ⟨⟨dq, osq⟩, hw''⟩ := hw'
    subst hw''
    have hbr := below_regrown w1 dq osq
    have HB2 := hid (HB1.out.trans (hbr.mono HB1.out.size))
    have HX2 := hid (HX1.out.below hbr)
    clear hbr y0 y1 y2 y3 y4 y5 y6 y7
    have y0 := HX2.out.at 0 0 rfl rfl
    have y1 := HX2.out.at 0 1 rfl rfl
    have y2 := HX2.out.at 0 2 rfl rfl
    have y3 := HX2.out.at 0 3 rfl rfl
    have y4 := HX2.out.at 0 4 rfl rfl
    have y5 := HX2.out.at 0 5 rfl rfl
    have y6 := HX2.out.at 0 6 rfl rfl
    have y7 := HX2.out.at 0 7 rfl rfl
    go_wp2_with fail
    go_ret
    exact ⟨ret_bool HF.out.symm, HB2.out⟩
  case pos =>
  have e4 : (n1.toList == []) = true := by simpa [List.isEmpty_iff] using a4
  by_cases a5 : ks1.length = 0
  case neg =>
    have e5 : ((ks1.length : Int) == 0) = false := beq_eq_false_iff_ne.2 (by omega)
    have HF := hid (show okTm 2 u1 n1 (Ty.mk tk1 tn1 tks1) ns1 ks1.length = false by rw [HE.out]; rw [inR_f (by omega)]; simp)
    have HTL := hid htl
    clear HE htl a1 a2 a4 a5
    go_enter Tryz.func77, Tryz.ntmps77
    go_wp2_with fail
    refine HTL.out.mono ?_
    rintro e w1 ⟨rfl, hb⟩
    have HB1 := hid (HB0.out.trans (hb.mono HB0.out.size))
    have HX1 := hid (HX0.out.below hb)
    clear hb HTL
    have y0 := HX1.out.at 0 0 rfl rfl
    have y1 := HX1.out.at 0 1 rfl rfl
    have y2 := HX1.out.at 0 2 rfl rfl
    have y3 := HX1.out.at 0 3 rfl rfl
    have y4 := HX1.out.at 0 4 rfl rfl
    have y5 := HX1.out.at 0 5 rfl rfl
    have y6 := HX1.out.at 0 6 rfl rfl
    have y7 := HX1.out.at 0 7 rfl rfl
    go_wp2_with fail
    clear y0 y1 y2 y3 y4 y5 y6 y7
    have y0 := cell_regrown (HX1.out.at 0 0 rfl rfl)
    have y1 := cell_regrown (HX1.out.at 0 1 rfl rfl)
    have y2 := cell_regrown (HX1.out.at 0 2 rfl rfl)
    have y3 := cell_regrown (HX1.out.at 0 3 rfl rfl)
    have y4 := cell_regrown (HX1.out.at 0 4 rfl rfl)
    have y5 := cell_regrown (HX1.out.at 0 5 rfl rfl)
    have y6 := cell_regrown (HX1.out.at 0 6 rfl rfl)
    have y7 := cell_regrown (HX1.out.at 0 7 rfl rfl)
    refine wp_region_quiet_below (by kernel_rfl) (by kernel_rfl) ?_
    repeat (go_big_quiet_step (first | exact HLO.out _ _ _ | exact HUP.out _ _ _))
    refine wpQuiet_nil ?_
    intro _ hw'
    obtain ⟨⟨dq, osq⟩, hw''⟩ := hw'
    subst hw''
    have hbr := below_regrown w1 dq osq
    have HB2 := hid (HB1.out.trans (hbr.mono HB1.out.size))
    have HX2 := hid (HX1.out.below hbr)
    clear hbr y0 y1 y2 y3 y4 y5 y6 y7
    have y0 := HX2.out.at 0 0 rfl rfl
    have y1 := HX2.out.at 0 1 rfl rfl
    have y2 := HX2.out.at 0 2 rfl rfl
    have y3 := HX2.out.at 0 3 rfl rfl
    have y4 := HX2.out.at 0 4 rfl rfl
    have y5 := HX2.out.at 0 5 rfl rfl
    have y6 := HX2.out.at 0 6 rfl rfl
    have y7 := HX2.out.at 0 7 rfl rfl
    go_wp2_with fail
    go_ret
    exact ⟨ret_bool HF.out.symm, HB2.out⟩
  case pos =>
  have e5 : ((ks1.length : Int) == 0) = true := beq_iff_eq.2 (by omega)
  have HF := hid (show okTm 2 u1 n1 (Ty.mk tk1 tn1 tks1) ns1 ks1.length = inR u1 (-2147483648) 2147483647 by rw [HE.out]; rw [inR_t (by omega) (by omega), a4, a2, decide_eq_true a1]; simp)
  have HTL := hid htl
  clear HE htl a1 a2 a4 a5
  go_enter Tryz.func77, Tryz.ntmps77
  go_wp2_with fail
  refine HTL.out.mono ?_
  rintro e w1 ⟨rfl, hb⟩
  have HB1 := hid (HB0.out.trans (hb.mono HB0.out.size))
  have HX1 := hid (HX0.out.below hb)
  clear hb HTL
  have y0 := HX1.out.at 0 0 rfl rfl
  have y1 := HX1.out.at 0 1 rfl rfl
  have y2 := HX1.out.at 0 2 rfl rfl
  have y3 := HX1.out.at 0 3 rfl rfl
  have y4 := HX1.out.at 0 4 rfl rfl
  have y5 := HX1.out.at 0 5 rfl rfl
  have y6 := HX1.out.at 0 6 rfl rfl
  have y7 := HX1.out.at 0 7 rfl rfl
  go_wp2_with fail
  clear y0 y1 y2 y3 y4 y5 y6 y7
  have y0 := cell_regrown (HX1.out.at 0 0 rfl rfl)
  have y1 := cell_regrown (HX1.out.at 0 1 rfl rfl)
  have y2 := cell_regrown (HX1.out.at 0 2 rfl rfl)
  have y3 := cell_regrown (HX1.out.at 0 3 rfl rfl)
  have y4 := cell_regrown (HX1.out.at 0 4 rfl rfl)
  have y5 := cell_regrown (HX1.out.at 0 5 rfl rfl)
  have y6 := cell_regrown (HX1.out.at 0 6 rfl rfl)
  have y7 := cell_regrown (HX1.out.at 0 7 rfl rfl)
  refine wp_region_quiet_below (by kernel_rfl) (by kernel_rfl) ?_
  repeat (go_big_quiet_step (first | exact HLO.out _ _ _ | exact HUP.out _ _ _))
  refine wpQuiet_nil ?_
  intro _ hw'
  obtain ⟨⟨dq, osq⟩, hw''⟩ := hw'
  subst hw''
  have hbr := below_regrown w1 dq osq
  have HB2 := hid (HB1.out.trans (hbr.mono HB1.out.size))
  have HX2 := hid (HX1.out.below hbr)
  clear hbr y0 y1 y2 y3 y4 y5 y6 y7
  have y0 := HX2.out.at 0 0 rfl rfl
  have y1 := HX2.out.at 0 1 rfl rfl
  have y2 := HX2.out.at 0 2 rfl rfl
  have y3 := HX2.out.at 0 3 rfl rfl
  have y4 := HX2.out.at 0 4 rfl rfl
  have y5 := HX2.out.at 0 5 rfl rfl
  have y6 := HX2.out.at 0 6 rfl rfl
  have y7 := HX2.out.at 0 7 rfl rfl
  go_wp2_with fail
  refine (HIN.out _).mono ?_
  rintro e w3 ⟨rfl, rfl⟩
  go_wp2_with fail
  go_ret
  exact ⟨ret_bool HF.out.symm, HB2.out⟩
set_option maxRecDepth 100000 in
set_option maxHeartbeats 2000000 in
theorem impl_node_3 (u1 : Int) (n1 : ByteArray) (tk1 : Int) (tn1 : ByteArray) (tks1 : List Ty) (ns1 : List ByteArray) (ks1 : List Tm) (atks1 : Option Addr) (ctks1 : Nat) (ans1 : Option Addr) (cns1 : Nat) (aks1 : Option Addr) (cks1 : Nat) (w : World) (hM : Tm.bulk (Tm.mk 3 u1 n1 (Ty.mk tk1 tn1 tks1) ns1 ks1) ≤ 1048576) (hr : RdS w (Tm.d (Tm.mk 3 u1 n1 (Ty.mk tk1 tn1 tks1) ns1 ks1)) [.int .i64 3, .int .i64 u1, .string n1, .int .i64 tk1, .string tn1, .slice atks1 tks1.length ctks1, .slice ans1 ns1.length cns1, .slice aks1 ks1.length cks1]) :
    Calls Tryz.prog 77 #[.agg #[.int .i64 3, .int .i64 u1, .string n1, .int .i64 tk1, .string tn1, .slice atks1 tks1.length ctks1, .slice ans1 ns1.length cns1, .slice aks1 ks1.length cks1]] w fun e w' => e = .returned (.bool (okTm 3 u1 n1 (Ty.mk tk1 tn1 tks1) ns1 ks1.length)) ∧ Below w.heap.size w w' := by
  have HE := hid (show okTm 3 u1 n1 (Ty.mk tk1 tn1 tks1) ns1 ks1.length = (inR ks1.length (2) (2) && (n1.toList.isEmpty && (tyNone (Ty.mk tk1 tn1 tks1) && (decide (ns1.length = 0) && inR u1 1 6)))) from rfl)
  have hlen : ns1.length ≤ 1048576 := by have := Sr.bulks_length ns1; simp only [Tm.bulk] at hM; omega
  have hlk : ks1.length ≤ 1048576 := by have := Tm.bulks_length ks1; simp only [Tm.bulk] at hM; omega
  have hbt : Ty.bulk (Ty.mk tk1 tn1 tks1) ≤ 1048576 := by simp only [Tm.bulk] at hM; omega
  have HX0 := hid ((Boxes.nil w).alloc #[.int .i64 3, .int .i64 u1, .string n1, .int .i64 tk1, .string tn1, .slice atks1 tks1.length ctks1, .slice ans1 ns1.length cns1, .slice aks1 ks1.length cks1] 36 (0, 0))
  have hB : Below w.heap.size w (w.alloc (.cells #[.int .i64 3, .int .i64 u1, .string n1, .int .i64 tk1, .string tn1, .slice atks1 tks1.length ctks1, .slice ans1 ns1.length cns1, .slice aks1 ks1.length cks1] 36)) := (Below.refl w.heap.size w).alloc (Nat.le_refl _) _
  have htl := impl_isTypeless tk1 tn1 tks1 atks1 ctks1 (w.alloc (.cells #[.int .i64 3, .int .i64 u1, .string n1, .int .i64 tk1, .string tn1, .slice atks1 tks1.length ctks1, .slice ans1 ns1.length cns1, .slice aks1 ks1.length cks1] 36)) (hr.subTm_t.below hB)
  have HLO := hid (fun W d os => Calls.regrown_of (impl_IsLower n1 (grow (redrawn W d) os)))
  have HUP := hid (fun W d os => Calls.regrown_of (impl_IsUpper n1 (grow (redrawn W d) os)))
  have HIN := hid (impl_isOperator u1)
  have HB0 := hid hB
  clear hr hM hbt hB
  by_cases a1 : ns1.length = 0
  case neg =>
    have e1 : decide (0 < ns1.length) = true := decide_eq_true (by omega)
    have HF := hid (show okTm 3 u1 n1 (Ty.mk tk1 tn1 tks1) ns1 ks1.length = false by rw [HE.out]; rw [decide_eq_false a1]; simp)
    generalize tyNone (Ty.mk tk1 tn1 tks1) = pv at htl
    have HTL := hid htl
    clear HE htl a1
    go_enter Tryz.func77, Tryz.ntmps77
    go_wp2_with fail
    refine HTL.out.mono ?_
    rintro e w1 ⟨rfl, hb⟩
    have HB1 := hid (HB0.out.trans (hb.mono HB0.out.size))
    have HX1 := hid (HX0.out.below hb)
    clear hb HTL
    have y0 := HX1.out.at 0 0 rfl rfl
    have y1 := HX1.out.at 0 1 rfl rfl
    have y2 := HX1.out.at 0 2 rfl rfl
    have y3 := HX1.out.at 0 3 rfl rfl
    have y4 := HX1.out.at 0 4 rfl rfl
    have y5 := HX1.out.at 0 5 rfl rfl
    have y6 := HX1.out.at 0 6 rfl rfl
    have y7 := HX1.out.at 0 7 rfl rfl
    go_wp2_with fail
    go_ret
    exact ⟨ret_bool HF.out.symm, HB1.out⟩
  case pos =>
  have e1 : decide (0 < ns1.length) = false := decide_eq_false (by omega)
  by_cases a2 : tyNone (Ty.mk tk1 tn1 tks1) = true
  case neg =>
    replace a2 := (Bool.not_eq_true _).mp a2
    have HF := hid (show okTm 3 u1 n1 (Ty.mk tk1 tn1 tks1) ns1 ks1.length = false by rw [HE.out]; rw [a2]; simp)
    rw [a2] at htl
    have HTL := hid htl
    clear HE htl a1 a2
    go_enter Tryz.func77, Tryz.ntmps77
    go_wp2_with fail
    refine HTL.out.mono ?_
    rintro e w1 ⟨rfl, hb⟩
    have HB1 := hid (HB0.out.trans (hb.mono HB0.out.size))
    have HX1 := hid (HX0.out.below hb)
    clear hb HTL
    have y0 := HX1.out.at 0 0 rfl rfl
    have y1 := HX1.out.at 0 1 rfl rfl
    have y2 := HX1.out.at 0 2 rfl rfl
    have y3 := HX1.out.at 0 3 rfl rfl
    have y4 := HX1.out.at 0 4 rfl rfl
    have y5 := HX1.out.at 0 5 rfl rfl
    have y6 := HX1.out.at 0 6 rfl rfl
    have y7 := HX1.out.at 0 7 rfl rfl
    go_wp2_with fail
    go_ret
    exact ⟨ret_bool HF.out.symm, HB1.out⟩
  case pos =>
  rw [a2] at htl
  by_cases a4 : n1.toList.isEmpty = true
  case neg =>
    replace a4 := (Bool.not_eq_true _).mp a4
    have e4 : (n1.toList == []) = false := by simpa [List.isEmpty_eq_false_iff] using a4
    have HF := hid (show okTm 3 u1 n1 (Ty.mk tk1 tn1 tks1) ns1 ks1.length = false by rw [HE.out]; rw [a4]; simp)
    have HTL := hid htl
    clear HE htl a1 a2 a4
    go_enter Tryz.func77, Tryz.ntmps77
    go_wp2_with fail
    refine HTL.out.mono ?_
    rintro e w1 ⟨rfl, hb⟩
    have HB1 := hid (HB0.out.trans (hb.mono HB0.out.size))
    have HX1 := hid (HX0.out.below hb)
    clear hb HTL
    have y0 := HX1.out.at 0 0 rfl rfl
    have y1 := HX1.out.at 0 1 rfl rfl
    have y2 := HX1.out.at 0 2 rfl rfl
    have y3 := HX1.out.at 0 3 rfl rfl
    have y4 := HX1.out.at 0 4 rfl rfl
    have y5 := HX1.out.at 0 5 rfl rfl
    have y6 := HX1.out.at 0 6 rfl rfl
    have y7 := HX1.out.at 0 7 rfl rfl
    go_wp2_with fail
    clear y0 y1 y2 y3 y4 y5 y6 y7
    have y0 := cell_regrown (HX1.out.at 0 0 rfl rfl)
    have y1 := cell_regrown (HX1.out.at 0 1 rfl rfl)
    have y2 := cell_regrown (HX1.out.at 0 2 rfl rfl)
    have y3 := cell_regrown (HX1.out.at 0 3 rfl rfl)
    have y4 := cell_regrown (HX1.out.at 0 4 rfl rfl)
    have y5 := cell_regrown (HX1.out.at 0 5 rfl rfl)
    have y6 := cell_regrown (HX1.out.at 0 6 rfl rfl)
    have y7 := cell_regrown (HX1.out.at 0 7 rfl rfl)
    refine wp_region_quiet_below (by kernel_rfl) (by kernel_rfl) ?_
    repeat (go_big_quiet_step (first | exact HLO.out _ _ _ | exact HUP.out _ _ _))
    refine wpQuiet_nil ?_
    intro _ hw'
    obtain ⟨⟨dq, osq⟩, hw''⟩ := hw'
    subst hw''
    have hbr := below_regrown w1 dq osq
    have HB2 := hid (HB1.out.trans (hbr.mono HB1.out.size))
    have HX2 := hid (HX1.out.below hbr)
    clear hbr y0 y1 y2 y3 y4 y5 y6 y7
    have y0 := HX2.out.at 0 0 rfl rfl
    have y1 := HX2.out.at 0 1 rfl rfl
    have y2 := HX2.out.at 0 2 rfl rfl
    have y3 := HX2.out.at 0 3 rfl rfl
    have y4 := HX2.out.at 0 4 rfl rfl
    have y5 := HX2.out.at 0 5 rfl rfl
    have y6 := HX2.out.at 0 6 rfl rfl
    have y7 := HX2.out.at 0 7 rfl rfl
    go_wp2_with fail
    go_ret
    exact ⟨ret_bool HF.out.symm, HB2.out⟩
  case pos =>
  have e4 : (n1.toList == []) = true := by simpa [List.isEmpty_iff] using a4
  by_cases a5 : ks1.length = 2
  case neg =>
    have e5 : ((ks1.length : Int) == 2) = false := beq_eq_false_iff_ne.2 (by omega)
    have HF := hid (show okTm 3 u1 n1 (Ty.mk tk1 tn1 tks1) ns1 ks1.length = false by rw [HE.out]; rw [inR_f (by omega)]; simp)
    have HTL := hid htl
    clear HE htl a1 a2 a4 a5
    go_enter Tryz.func77, Tryz.ntmps77
    go_wp2_with fail
    refine HTL.out.mono ?_
    rintro e w1 ⟨rfl, hb⟩
    have HB1 := hid (HB0.out.trans (hb.mono HB0.out.size))
    have HX1 := hid (HX0.out.below hb)
    clear hb HTL
    have y0 := HX1.out.at 0 0 rfl rfl
    have y1 := HX1.out.at 0 1 rfl rfl
    have y2 := HX1.out.at 0 2 rfl rfl
    have y3 := HX1.out.at 0 3 rfl rfl
    have y4 := HX1.out.at 0 4 rfl rfl
    have y5 := HX1.out.at 0 5 rfl rfl
    have y6 := HX1.out.at 0 6 rfl rfl
    have y7 := HX1.out.at 0 7 rfl rfl
    go_wp2_with fail
    clear y0 y1 y2 y3 y4 y5 y6 y7
    have y0 := cell_regrown (HX1.out.at 0 0 rfl rfl)
    have y1 := cell_regrown (HX1.out.at 0 1 rfl rfl)
    have y2 := cell_regrown (HX1.out.at 0 2 rfl rfl)
    have y3 := cell_regrown (HX1.out.at 0 3 rfl rfl)
    have y4 := cell_regrown (HX1.out.at 0 4 rfl rfl)
    have y5 := cell_regrown (HX1.out.at 0 5 rfl rfl)
    have y6 := cell_regrown (HX1.out.at 0 6 rfl rfl)
    have y7 := cell_regrown (HX1.out.at 0 7 rfl rfl)
    refine wp_region_quiet_below (by kernel_rfl) (by kernel_rfl) ?_
    repeat (go_big_quiet_step (first | exact HLO.out _ _ _ | exact HUP.out _ _ _))
    refine wpQuiet_nil ?_
    intro _ hw'
    obtain ⟨⟨dq, osq⟩, hw''⟩ := hw'
    subst hw''
    have hbr := below_regrown w1 dq osq
    have HB2 := hid (HB1.out.trans (hbr.mono HB1.out.size))
    have HX2 := hid (HX1.out.below hbr)
    clear hbr y0 y1 y2 y3 y4 y5 y6 y7
    have y0 := HX2.out.at 0 0 rfl rfl
    have y1 := HX2.out.at 0 1 rfl rfl
    have y2 := HX2.out.at 0 2 rfl rfl
    have y3 := HX2.out.at 0 3 rfl rfl
    have y4 := HX2.out.at 0 4 rfl rfl
    have y5 := HX2.out.at 0 5 rfl rfl
    have y6 := HX2.out.at 0 6 rfl rfl
    have y7 := HX2.out.at 0 7 rfl rfl
    go_wp2_with fail
    go_ret
    exact ⟨ret_bool HF.out.symm, HB2.out⟩
  case pos =>
  have e5 : ((ks1.length : Int) == 2) = true := beq_iff_eq.2 (by omega)
  have HF := hid (show okTm 3 u1 n1 (Ty.mk tk1 tn1 tks1) ns1 ks1.length = inR u1 1 6 by rw [HE.out]; rw [inR_t (by omega) (by omega), a4, a2, decide_eq_true a1]; simp)
  have HTL := hid htl
  clear HE htl a1 a2 a4 a5
  go_enter Tryz.func77, Tryz.ntmps77
  go_wp2_with fail
  refine HTL.out.mono ?_
  rintro e w1 ⟨rfl, hb⟩
  have HB1 := hid (HB0.out.trans (hb.mono HB0.out.size))
  have HX1 := hid (HX0.out.below hb)
  clear hb HTL
  have y0 := HX1.out.at 0 0 rfl rfl
  have y1 := HX1.out.at 0 1 rfl rfl
  have y2 := HX1.out.at 0 2 rfl rfl
  have y3 := HX1.out.at 0 3 rfl rfl
  have y4 := HX1.out.at 0 4 rfl rfl
  have y5 := HX1.out.at 0 5 rfl rfl
  have y6 := HX1.out.at 0 6 rfl rfl
  have y7 := HX1.out.at 0 7 rfl rfl
  go_wp2_with fail
  clear y0 y1 y2 y3 y4 y5 y6 y7
  have y0 := cell_regrown (HX1.out.at 0 0 rfl rfl)
  have y1 := cell_regrown (HX1.out.at 0 1 rfl rfl)
  have y2 := cell_regrown (HX1.out.at 0 2 rfl rfl)
  have y3 := cell_regrown (HX1.out.at 0 3 rfl rfl)
  have y4 := cell_regrown (HX1.out.at 0 4 rfl rfl)
  have y5 := cell_regrown (HX1.out.at 0 5 rfl rfl)
  have y6 := cell_regrown (HX1.out.at 0 6 rfl rfl)
  have y7 := cell_regrown (HX1.out.at 0 7 rfl rfl)
  refine wp_region_quiet_below (by kernel_rfl) (by kernel_rfl) ?_
  repeat (go_big_quiet_step (first | exact HLO.out _ _ _ | exact HUP.out _ _ _))
  refine wpQuiet_nil ?_
  intro _ hw'
  obtain ⟨⟨dq, osq⟩, hw''⟩ := hw'
  subst hw''
  have hbr := below_regrown w1 dq osq
  have HB2 := hid (HB1.out.trans (hbr.mono HB1.out.size))
  have HX2 := hid (HX1.out.below hbr)
  clear hbr y0 y1 y2 y3 y4 y5 y6 y7
  have y0 := HX2.out.at 0 0 rfl rfl
  have y1 := HX2.out.at 0 1 rfl rfl
  have y2 := HX2.out.at 0 2 rfl rfl
  have y3 := HX2.out.at 0 3 rfl rfl
  have y4 := HX2.out.at 0 4 rfl rfl
  have y5 := HX2.out.at 0 5 rfl rfl
  have y6 := HX2.out.at 0 6 rfl rfl
  have y7 := HX2.out.at 0 7 rfl rfl
  go_wp2_with fail
  refine (HIN.out _).mono ?_
  rintro e w3 ⟨rfl, rfl⟩
  go_wp2_with fail
  go_ret
  exact ⟨ret_bool HF.out.symm, HB2.out⟩
set_option maxRecDepth 100000 in
set_option maxHeartbeats 2000000 in
theorem impl_node_4 (u1 : Int) (n1 : ByteArray) (tk1 : Int) (tn1 : ByteArray) (tks1 : List Ty) (ns1 : List ByteArray) (ks1 : List Tm) (atks1 : Option Addr) (ctks1 : Nat) (ans1 : Option Addr) (cns1 : Nat) (aks1 : Option Addr) (cks1 : Nat) (w : World) (hM : Tm.bulk (Tm.mk 4 u1 n1 (Ty.mk tk1 tn1 tks1) ns1 ks1) ≤ 1048576) (hr : RdS w (Tm.d (Tm.mk 4 u1 n1 (Ty.mk tk1 tn1 tks1) ns1 ks1)) [.int .i64 4, .int .i64 u1, .string n1, .int .i64 tk1, .string tn1, .slice atks1 tks1.length ctks1, .slice ans1 ns1.length cns1, .slice aks1 ks1.length cks1]) :
    Calls Tryz.prog 77 #[.agg #[.int .i64 4, .int .i64 u1, .string n1, .int .i64 tk1, .string tn1, .slice atks1 tks1.length ctks1, .slice ans1 ns1.length cns1, .slice aks1 ks1.length cks1]] w fun e w' => e = .returned (.bool (okTm 4 u1 n1 (Ty.mk tk1 tn1 tks1) ns1 ks1.length)) ∧ Below w.heap.size w w' := by
  have HE := hid (show okTm 4 u1 n1 (Ty.mk tk1 tn1 tks1) ns1 ks1.length = (inR ks1.length (1) (1) && (isLowerB n1 && (Ty.ok (Ty.mk tk1 tn1 tks1) && (decide (ns1.length = 0) && decide (u1 = 0))))) from rfl)
  have hlen : ns1.length ≤ 1048576 := by have := Sr.bulks_length ns1; simp only [Tm.bulk] at hM; omega
  have hlk : ks1.length ≤ 1048576 := by have := Tm.bulks_length ks1; simp only [Tm.bulk] at hM; omega
  have hbt : Ty.bulk (Ty.mk tk1 tn1 tks1) ≤ 1048576 := by simp only [Tm.bulk] at hM; omega
  have HX0 := hid ((Boxes.nil w).alloc #[.int .i64 4, .int .i64 u1, .string n1, .int .i64 tk1, .string tn1, .slice atks1 tks1.length ctks1, .slice ans1 ns1.length cns1, .slice aks1 ks1.length cks1] 36 (0, 0))
  have hB : Below w.heap.size w (w.alloc (.cells #[.int .i64 4, .int .i64 u1, .string n1, .int .i64 tk1, .string tn1, .slice atks1 tks1.length ctks1, .slice ans1 ns1.length cns1, .slice aks1 ks1.length cks1] 36)) := (Below.refl w.heap.size w).alloc (Nat.le_refl _) _
  have htl := impl_isTypeless tk1 tn1 tks1 atks1 ctks1 (w.alloc (.cells #[.int .i64 4, .int .i64 u1, .string n1, .int .i64 tk1, .string tn1, .slice atks1 tks1.length ctks1, .slice ans1 ns1.length cns1, .slice aks1 ks1.length cks1] 36)) (hr.subTm_t.below hB)
  have HLO := hid (fun W d os => Calls.regrown_of (impl_IsLower n1 (grow (redrawn W d) os)))
  have HUP := hid (fun W d os => Calls.regrown_of (impl_IsUpper n1 (grow (redrawn W d) os)))
  have hvt := fun W (hW : Below w.heap.size w W) => impl_ValidType tk1 tn1 tks1 atks1 ctks1 W hbt (hr.subTm_t.below hW)
  have HB0 := hid hB
  clear hr hM hbt hB
  by_cases a1 : ns1.length = 0
  case neg =>
    have e1 : decide (0 < ns1.length) = true := decide_eq_true (by omega)
    have HF := hid (show okTm 4 u1 n1 (Ty.mk tk1 tn1 tks1) ns1 ks1.length = false by rw [HE.out]; rw [decide_eq_false a1]; simp)
    generalize tyNone (Ty.mk tk1 tn1 tks1) = pv at htl
    have HTL := hid htl
    clear HE htl a1 hvt
    go_enter Tryz.func77, Tryz.ntmps77
    go_wp2_with fail
    refine HTL.out.mono ?_
    rintro e w1 ⟨rfl, hb⟩
    have HB1 := hid (HB0.out.trans (hb.mono HB0.out.size))
    have HX1 := hid (HX0.out.below hb)
    clear hb HTL
    have y0 := HX1.out.at 0 0 rfl rfl
    have y1 := HX1.out.at 0 1 rfl rfl
    have y2 := HX1.out.at 0 2 rfl rfl
    have y3 := HX1.out.at 0 3 rfl rfl
    have y4 := HX1.out.at 0 4 rfl rfl
    have y5 := HX1.out.at 0 5 rfl rfl
    have y6 := HX1.out.at 0 6 rfl rfl
    have y7 := HX1.out.at 0 7 rfl rfl
    go_wp2_with fail
    go_ret
    exact ⟨ret_bool HF.out.symm, HB1.out⟩
  case pos =>
  have e1 : decide (0 < ns1.length) = false := decide_eq_false (by omega)
  generalize tyNone (Ty.mk tk1 tn1 tks1) = pv at htl
  by_cases a3 : u1 = 0
  case neg =>
    have e3 : (u1 == 0) = false := by simp [a3]
    have HF := hid (show okTm 4 u1 n1 (Ty.mk tk1 tn1 tks1) ns1 ks1.length = false by rw [HE.out]; rw [decide_eq_false a3]; simp)
    have HTL := hid htl
    clear HE htl a1 a3 hvt
    go_enter Tryz.func77, Tryz.ntmps77
    go_wp2_with fail
    refine HTL.out.mono ?_
    rintro e w1 ⟨rfl, hb⟩
    have HB1 := hid (HB0.out.trans (hb.mono HB0.out.size))
    have HX1 := hid (HX0.out.below hb)
    clear hb HTL
    have y0 := HX1.out.at 0 0 rfl rfl
    have y1 := HX1.out.at 0 1 rfl rfl
    have y2 := HX1.out.at 0 2 rfl rfl
    have y3 := HX1.out.at 0 3 rfl rfl
    have y4 := HX1.out.at 0 4 rfl rfl
    have y5 := HX1.out.at 0 5 rfl rfl
    have y6 := HX1.out.at 0 6 rfl rfl
    have y7 := HX1.out.at 0 7 rfl rfl
    go_wp2_with fail
    go_ret
    exact ⟨ret_bool HF.out.symm, HB1.out⟩
  case pos =>
  have e3 : (u1 == 0) = true := by simp [a3]
  by_cases a4 : isLowerB n1 = true
  case neg =>
    replace a4 := (Bool.not_eq_true _).mp a4
    have hlo := HLO.out
    rw [a4] at hlo
    have HLO := hid hlo
    clear hlo
    have HF := hid (show okTm 4 u1 n1 (Ty.mk tk1 tn1 tks1) ns1 ks1.length = false by rw [HE.out]; rw [a4]; simp)
    have HTL := hid htl
    clear HE htl a1 a3 a4 hvt
    go_enter Tryz.func77, Tryz.ntmps77
    go_wp2_with fail
    refine HTL.out.mono ?_
    rintro e w1 ⟨rfl, hb⟩
    have HB1 := hid (HB0.out.trans (hb.mono HB0.out.size))
    have HX1 := hid (HX0.out.below hb)
    clear hb HTL
    have y0 := HX1.out.at 0 0 rfl rfl
    have y1 := HX1.out.at 0 1 rfl rfl
    have y2 := HX1.out.at 0 2 rfl rfl
    have y3 := HX1.out.at 0 3 rfl rfl
    have y4 := HX1.out.at 0 4 rfl rfl
    have y5 := HX1.out.at 0 5 rfl rfl
    have y6 := HX1.out.at 0 6 rfl rfl
    have y7 := HX1.out.at 0 7 rfl rfl
    go_wp2_with fail
    clear y0 y1 y2 y3 y4 y5 y6 y7
    have y0 := cell_regrown (HX1.out.at 0 0 rfl rfl)
    have y1 := cell_regrown (HX1.out.at 0 1 rfl rfl)
    have y2 := cell_regrown (HX1.out.at 0 2 rfl rfl)
    have y3 := cell_regrown (HX1.out.at 0 3 rfl rfl)
    have y4 := cell_regrown (HX1.out.at 0 4 rfl rfl)
    have y5 := cell_regrown (HX1.out.at 0 5 rfl rfl)
    have y6 := cell_regrown (HX1.out.at 0 6 rfl rfl)
    have y7 := cell_regrown (HX1.out.at 0 7 rfl rfl)
    refine wp_region_quiet_below (by kernel_rfl) (by kernel_rfl) ?_
    repeat (go_big_quiet_step (first | exact HLO.out _ _ _ | exact HUP.out _ _ _))
    refine wpQuiet_nil ?_
    intro _ hw'
    obtain ⟨⟨dq, osq⟩, hw''⟩ := hw'
    subst hw''
    have hbr := below_regrown w1 dq osq
    have HB2 := hid (HB1.out.trans (hbr.mono HB1.out.size))
    have HX2 := hid (HX1.out.below hbr)
    clear hbr y0 y1 y2 y3 y4 y5 y6 y7
    have y0 := HX2.out.at 0 0 rfl rfl
    have y1 := HX2.out.at 0 1 rfl rfl
    have y2 := HX2.out.at 0 2 rfl rfl
    have y3 := HX2.out.at 0 3 rfl rfl
    have y4 := HX2.out.at 0 4 rfl rfl
    have y5 := HX2.out.at 0 5 rfl rfl
    have y6 := HX2.out.at 0 6 rfl rfl
    have y7 := HX2.out.at 0 7 rfl rfl
    go_wp2_with fail
    go_ret
    exact ⟨ret_bool HF.out.symm, HB2.out⟩
  case pos =>
  have hlo := HLO.out
  rw [a4] at hlo
  have HLO := hid hlo
  clear hlo
  by_cases a5 : ks1.length = 1
  case neg =>
    have e5 : ((ks1.length : Int) == 1) = false := beq_eq_false_iff_ne.2 (by omega)
    have HF := hid (show okTm 4 u1 n1 (Ty.mk tk1 tn1 tks1) ns1 ks1.length = false by rw [HE.out]; rw [inR_f (by omega)]; simp)
    have HTL := hid htl
    clear HE htl a1 a3 a4 a5 hvt
    go_enter Tryz.func77, Tryz.ntmps77
    go_wp2_with fail
    refine HTL.out.mono ?_
    rintro e w1 ⟨rfl, hb⟩
    have HB1 := hid (HB0.out.trans (hb.mono HB0.out.size))
    have HX1 := hid (HX0.out.below hb)
    clear hb HTL
    have y0 := HX1.out.at 0 0 rfl rfl
    have y1 := HX1.out.at 0 1 rfl rfl
    have y2 := HX1.out.at 0 2 rfl rfl
    have y3 := HX1.out.at 0 3 rfl rfl
    have y4 := HX1.out.at 0 4 rfl rfl
    have y5 := HX1.out.at 0 5 rfl rfl
    have y6 := HX1.out.at 0 6 rfl rfl
    have y7 := HX1.out.at 0 7 rfl rfl
    go_wp2_with fail
    clear y0 y1 y2 y3 y4 y5 y6 y7
    have y0 := cell_regrown (HX1.out.at 0 0 rfl rfl)
    have y1 := cell_regrown (HX1.out.at 0 1 rfl rfl)
    have y2 := cell_regrown (HX1.out.at 0 2 rfl rfl)
    have y3 := cell_regrown (HX1.out.at 0 3 rfl rfl)
    have y4 := cell_regrown (HX1.out.at 0 4 rfl rfl)
    have y5 := cell_regrown (HX1.out.at 0 5 rfl rfl)
    have y6 := cell_regrown (HX1.out.at 0 6 rfl rfl)
    have y7 := cell_regrown (HX1.out.at 0 7 rfl rfl)
    refine wp_region_quiet_below (by kernel_rfl) (by kernel_rfl) ?_
    repeat (go_big_quiet_step (first | exact HLO.out _ _ _ | exact HUP.out _ _ _))
    refine wpQuiet_nil ?_
    intro _ hw'
    obtain ⟨⟨dq, osq⟩, hw''⟩ := hw'
    subst hw''
    have hbr := below_regrown w1 dq osq
    have HB2 := hid (HB1.out.trans (hbr.mono HB1.out.size))
    have HX2 := hid (HX1.out.below hbr)
    clear hbr y0 y1 y2 y3 y4 y5 y6 y7
    have y0 := HX2.out.at 0 0 rfl rfl
    have y1 := HX2.out.at 0 1 rfl rfl
    have y2 := HX2.out.at 0 2 rfl rfl
    have y3 := HX2.out.at 0 3 rfl rfl
    have y4 := HX2.out.at 0 4 rfl rfl
    have y5 := HX2.out.at 0 5 rfl rfl
    have y6 := HX2.out.at 0 6 rfl rfl
    have y7 := HX2.out.at 0 7 rfl rfl
    go_wp2_with fail
    go_ret
    exact ⟨ret_bool HF.out.symm, HB2.out⟩
  case pos =>
  have e5 : ((ks1.length : Int) == 1) = true := beq_iff_eq.2 (by omega)
  have HF := hid (show okTm 4 u1 n1 (Ty.mk tk1 tn1 tks1) ns1 ks1.length = Ty.ok (Ty.mk tk1 tn1 tks1) by rw [HE.out]; rw [inR_t (by omega) (by omega), a4, decide_eq_true a1, decide_eq_true a3]; simp)
  have HVT := hid hvt
  have HTL := hid htl
  clear HE htl a1 a3 a4 a5 hvt
  go_enter Tryz.func77, Tryz.ntmps77
  go_wp2_with fail
  refine HTL.out.mono ?_
  rintro e w1 ⟨rfl, hb⟩
  have HB1 := hid (HB0.out.trans (hb.mono HB0.out.size))
  have HX1 := hid (HX0.out.below hb)
  clear hb HTL
  have y0 := HX1.out.at 0 0 rfl rfl
  have y1 := HX1.out.at 0 1 rfl rfl
  have y2 := HX1.out.at 0 2 rfl rfl
  have y3 := HX1.out.at 0 3 rfl rfl
  have y4 := HX1.out.at 0 4 rfl rfl
  have y5 := HX1.out.at 0 5 rfl rfl
  have y6 := HX1.out.at 0 6 rfl rfl
  have y7 := HX1.out.at 0 7 rfl rfl
  go_wp2_with fail
  clear y0 y1 y2 y3 y4 y5 y6 y7
  have y0 := cell_regrown (HX1.out.at 0 0 rfl rfl)
  have y1 := cell_regrown (HX1.out.at 0 1 rfl rfl)
  have y2 := cell_regrown (HX1.out.at 0 2 rfl rfl)
  have y3 := cell_regrown (HX1.out.at 0 3 rfl rfl)
  have y4 := cell_regrown (HX1.out.at 0 4 rfl rfl)
  have y5 := cell_regrown (HX1.out.at 0 5 rfl rfl)
  have y6 := cell_regrown (HX1.out.at 0 6 rfl rfl)
  have y7 := cell_regrown (HX1.out.at 0 7 rfl rfl)
  refine wp_region_quiet_below (by kernel_rfl) (by kernel_rfl) ?_
  repeat (go_big_quiet_step (first | exact HLO.out _ _ _ | exact HUP.out _ _ _))
  refine wpQuiet_nil ?_
  intro _ hw'
  obtain ⟨⟨dq, osq⟩, hw''⟩ := hw'
  subst hw''
  have hbr := below_regrown w1 dq osq
  have HB2 := hid (HB1.out.trans (hbr.mono HB1.out.size))
  have HX2 := hid (HX1.out.below hbr)
  clear hbr y0 y1 y2 y3 y4 y5 y6 y7
  have y0 := HX2.out.at 0 0 rfl rfl
  have y1 := HX2.out.at 0 1 rfl rfl
  have y2 := HX2.out.at 0 2 rfl rfl
  have y3 := HX2.out.at 0 3 rfl rfl
  have y4 := HX2.out.at 0 4 rfl rfl
  have y5 := HX2.out.at 0 5 rfl rfl
  have y6 := HX2.out.at 0 6 rfl rfl
  have y7 := HX2.out.at 0 7 rfl rfl
  go_wp2_with fail
  refine (HVT.out _ HB2.out).mono ?_
  rintro e w3 ⟨rfl, hb⟩
  have HB3 := hid (HB2.out.trans (hb.mono HB2.out.size))
  clear hb y0 y1 y2 y3 y4 y5 y6 y7
  go_wp2_with fail
  go_ret
  exact ⟨ret_bool HF.out.symm, HB3.out⟩
set_option maxRecDepth 100000 in
set_option maxHeartbeats 2000000 in
theorem impl_node_5 (u1 : Int) (n1 : ByteArray) (tk1 : Int) (tn1 : ByteArray) (tks1 : List Ty) (ns1 : List ByteArray) (ks1 : List Tm) (atks1 : Option Addr) (ctks1 : Nat) (ans1 : Option Addr) (cns1 : Nat) (aks1 : Option Addr) (cks1 : Nat) (w : World) (hM : Tm.bulk (Tm.mk 5 u1 n1 (Ty.mk tk1 tn1 tks1) ns1 ks1) ≤ 1048576) (hr : RdS w (Tm.d (Tm.mk 5 u1 n1 (Ty.mk tk1 tn1 tks1) ns1 ks1)) [.int .i64 5, .int .i64 u1, .string n1, .int .i64 tk1, .string tn1, .slice atks1 tks1.length ctks1, .slice ans1 ns1.length cns1, .slice aks1 ks1.length cks1]) :
    Calls Tryz.prog 77 #[.agg #[.int .i64 5, .int .i64 u1, .string n1, .int .i64 tk1, .string tn1, .slice atks1 tks1.length ctks1, .slice ans1 ns1.length cns1, .slice aks1 ks1.length cks1]] w fun e w' => e = .returned (.bool (okTm 5 u1 n1 (Ty.mk tk1 tn1 tks1) ns1 ks1.length)) ∧ Below w.heap.size w w' := by
  have HE := hid (show okTm 5 u1 n1 (Ty.mk tk1 tn1 tks1) ns1 ks1.length = (inR ks1.length (2) (2) && (n1.toList.isEmpty && (tyNone (Ty.mk tk1 tn1 tks1) && (decide (ns1.length = 0) && decide (u1 = 0))))) from rfl)
  have hlen : ns1.length ≤ 1048576 := by have := Sr.bulks_length ns1; simp only [Tm.bulk] at hM; omega
  have hlk : ks1.length ≤ 1048576 := by have := Tm.bulks_length ks1; simp only [Tm.bulk] at hM; omega
  have hbt : Ty.bulk (Ty.mk tk1 tn1 tks1) ≤ 1048576 := by simp only [Tm.bulk] at hM; omega
  have HX0 := hid ((Boxes.nil w).alloc #[.int .i64 5, .int .i64 u1, .string n1, .int .i64 tk1, .string tn1, .slice atks1 tks1.length ctks1, .slice ans1 ns1.length cns1, .slice aks1 ks1.length cks1] 36 (0, 0))
  have hB : Below w.heap.size w (w.alloc (.cells #[.int .i64 5, .int .i64 u1, .string n1, .int .i64 tk1, .string tn1, .slice atks1 tks1.length ctks1, .slice ans1 ns1.length cns1, .slice aks1 ks1.length cks1] 36)) := (Below.refl w.heap.size w).alloc (Nat.le_refl _) _
  have htl := impl_isTypeless tk1 tn1 tks1 atks1 ctks1 (w.alloc (.cells #[.int .i64 5, .int .i64 u1, .string n1, .int .i64 tk1, .string tn1, .slice atks1 tks1.length ctks1, .slice ans1 ns1.length cns1, .slice aks1 ks1.length cks1] 36)) (hr.subTm_t.below hB)
  have HLO := hid (fun W d os => Calls.regrown_of (impl_IsLower n1 (grow (redrawn W d) os)))
  have HUP := hid (fun W d os => Calls.regrown_of (impl_IsUpper n1 (grow (redrawn W d) os)))
  have HB0 := hid hB
  clear hr hM hbt hB
  by_cases a1 : ns1.length = 0
  case neg =>
    have e1 : decide (0 < ns1.length) = true := decide_eq_true (by omega)
    have HF := hid (show okTm 5 u1 n1 (Ty.mk tk1 tn1 tks1) ns1 ks1.length = false by rw [HE.out]; rw [decide_eq_false a1]; simp)
    generalize tyNone (Ty.mk tk1 tn1 tks1) = pv at htl
    have HTL := hid htl
    clear HE htl a1
    go_enter Tryz.func77, Tryz.ntmps77
    go_wp2_with fail
    refine HTL.out.mono ?_
    rintro e w1 ⟨rfl, hb⟩
    have HB1 := hid (HB0.out.trans (hb.mono HB0.out.size))
    have HX1 := hid (HX0.out.below hb)
    clear hb HTL
    have y0 := HX1.out.at 0 0 rfl rfl
    have y1 := HX1.out.at 0 1 rfl rfl
    have y2 := HX1.out.at 0 2 rfl rfl
    have y3 := HX1.out.at 0 3 rfl rfl
    have y4 := HX1.out.at 0 4 rfl rfl
    have y5 := HX1.out.at 0 5 rfl rfl
    have y6 := HX1.out.at 0 6 rfl rfl
    have y7 := HX1.out.at 0 7 rfl rfl
    go_wp2_with fail
    go_ret
    exact ⟨ret_bool HF.out.symm, HB1.out⟩
  case pos =>
  have e1 : decide (0 < ns1.length) = false := decide_eq_false (by omega)
  by_cases a2 : tyNone (Ty.mk tk1 tn1 tks1) = true
  case neg =>
    replace a2 := (Bool.not_eq_true _).mp a2
    have HF := hid (show okTm 5 u1 n1 (Ty.mk tk1 tn1 tks1) ns1 ks1.length = false by rw [HE.out]; rw [a2]; simp)
    rw [a2] at htl
    have HTL := hid htl
    clear HE htl a1 a2
    go_enter Tryz.func77, Tryz.ntmps77
    go_wp2_with fail
    refine HTL.out.mono ?_
    rintro e w1 ⟨rfl, hb⟩
    have HB1 := hid (HB0.out.trans (hb.mono HB0.out.size))
    have HX1 := hid (HX0.out.below hb)
    clear hb HTL
    have y0 := HX1.out.at 0 0 rfl rfl
    have y1 := HX1.out.at 0 1 rfl rfl
    have y2 := HX1.out.at 0 2 rfl rfl
    have y3 := HX1.out.at 0 3 rfl rfl
    have y4 := HX1.out.at 0 4 rfl rfl
    have y5 := HX1.out.at 0 5 rfl rfl
    have y6 := HX1.out.at 0 6 rfl rfl
    have y7 := HX1.out.at 0 7 rfl rfl
    go_wp2_with fail
    go_ret
    exact ⟨ret_bool HF.out.symm, HB1.out⟩
  case pos =>
  rw [a2] at htl
  by_cases a3 : u1 = 0
  case neg =>
    have e3 : (u1 == 0) = false := by simp [a3]
    have HF := hid (show okTm 5 u1 n1 (Ty.mk tk1 tn1 tks1) ns1 ks1.length = false by rw [HE.out]; rw [decide_eq_false a3]; simp)
    have HTL := hid htl
    clear HE htl a1 a2 a3
    go_enter Tryz.func77, Tryz.ntmps77
    go_wp2_with fail
    refine HTL.out.mono ?_
    rintro e w1 ⟨rfl, hb⟩
    have HB1 := hid (HB0.out.trans (hb.mono HB0.out.size))
    have HX1 := hid (HX0.out.below hb)
    clear hb HTL
    have y0 := HX1.out.at 0 0 rfl rfl
    have y1 := HX1.out.at 0 1 rfl rfl
    have y2 := HX1.out.at 0 2 rfl rfl
    have y3 := HX1.out.at 0 3 rfl rfl
    have y4 := HX1.out.at 0 4 rfl rfl
    have y5 := HX1.out.at 0 5 rfl rfl
    have y6 := HX1.out.at 0 6 rfl rfl
    have y7 := HX1.out.at 0 7 rfl rfl
    go_wp2_with fail
    go_ret
    exact ⟨ret_bool HF.out.symm, HB1.out⟩
  case pos =>
  have e3 : (u1 == 0) = true := by simp [a3]
  by_cases a4 : n1.toList.isEmpty = true
  case neg =>
    replace a4 := (Bool.not_eq_true _).mp a4
    have e4 : (n1.toList == []) = false := by simpa [List.isEmpty_eq_false_iff] using a4
    have HF := hid (show okTm 5 u1 n1 (Ty.mk tk1 tn1 tks1) ns1 ks1.length = false by rw [HE.out]; rw [a4]; simp)
    have HTL := hid htl
    clear HE htl a1 a2 a3 a4
    go_enter Tryz.func77, Tryz.ntmps77
    go_wp2_with fail
    refine HTL.out.mono ?_
    rintro e w1 ⟨rfl, hb⟩
    have HB1 := hid (HB0.out.trans (hb.mono HB0.out.size))
    have HX1 := hid (HX0.out.below hb)
    clear hb HTL
    have y0 := HX1.out.at 0 0 rfl rfl
    have y1 := HX1.out.at 0 1 rfl rfl
    have y2 := HX1.out.at 0 2 rfl rfl
    have y3 := HX1.out.at 0 3 rfl rfl
    have y4 := HX1.out.at 0 4 rfl rfl
    have y5 := HX1.out.at 0 5 rfl rfl
    have y6 := HX1.out.at 0 6 rfl rfl
    have y7 := HX1.out.at 0 7 rfl rfl
    go_wp2_with fail
    clear y0 y1 y2 y3 y4 y5 y6 y7
    have y0 := cell_regrown (HX1.out.at 0 0 rfl rfl)
    have y1 := cell_regrown (HX1.out.at 0 1 rfl rfl)
    have y2 := cell_regrown (HX1.out.at 0 2 rfl rfl)
    have y3 := cell_regrown (HX1.out.at 0 3 rfl rfl)
    have y4 := cell_regrown (HX1.out.at 0 4 rfl rfl)
    have y5 := cell_regrown (HX1.out.at 0 5 rfl rfl)
    have y6 := cell_regrown (HX1.out.at 0 6 rfl rfl)
    have y7 := cell_regrown (HX1.out.at 0 7 rfl rfl)
    refine wp_region_quiet_below (by kernel_rfl) (by kernel_rfl) ?_
    repeat (go_big_quiet_step (first | exact HLO.out _ _ _ | exact HUP.out _ _ _))
    refine wpQuiet_nil ?_
    intro _ hw'
    obtain ⟨⟨dq, osq⟩, hw''⟩ := hw'
    subst hw''
    have hbr := below_regrown w1 dq osq
    have HB2 := hid (HB1.out.trans (hbr.mono HB1.out.size))
    have HX2 := hid (HX1.out.below hbr)
    clear hbr y0 y1 y2 y3 y4 y5 y6 y7
    have y0 := HX2.out.at 0 0 rfl rfl
    have y1 := HX2.out.at 0 1 rfl rfl
    have y2 := HX2.out.at 0 2 rfl rfl
    have y3 := HX2.out.at 0 3 rfl rfl
    have y4 := HX2.out.at 0 4 rfl rfl
    have y5 := HX2.out.at 0 5 rfl rfl
    have y6 := HX2.out.at 0 6 rfl rfl
    have y7 := HX2.out.at 0 7 rfl rfl
    go_wp2_with fail
    go_ret
    exact ⟨ret_bool HF.out.symm, HB2.out⟩
  case pos =>
  have e4 : (n1.toList == []) = true := by simpa [List.isEmpty_iff] using a4
  by_cases a5 : ks1.length = 2
  case neg =>
    have e5 : ((ks1.length : Int) == 2) = false := beq_eq_false_iff_ne.2 (by omega)
    have HF := hid (show okTm 5 u1 n1 (Ty.mk tk1 tn1 tks1) ns1 ks1.length = false by rw [HE.out]; rw [inR_f (by omega)]; simp)
    have HTL := hid htl
    clear HE htl a1 a2 a3 a4 a5
    go_enter Tryz.func77, Tryz.ntmps77
    go_wp2_with fail
    refine HTL.out.mono ?_
    rintro e w1 ⟨rfl, hb⟩
    have HB1 := hid (HB0.out.trans (hb.mono HB0.out.size))
    have HX1 := hid (HX0.out.below hb)
    clear hb HTL
    have y0 := HX1.out.at 0 0 rfl rfl
    have y1 := HX1.out.at 0 1 rfl rfl
    have y2 := HX1.out.at 0 2 rfl rfl
    have y3 := HX1.out.at 0 3 rfl rfl
    have y4 := HX1.out.at 0 4 rfl rfl
    have y5 := HX1.out.at 0 5 rfl rfl
    have y6 := HX1.out.at 0 6 rfl rfl
    have y7 := HX1.out.at 0 7 rfl rfl
    go_wp2_with fail
    clear y0 y1 y2 y3 y4 y5 y6 y7
    have y0 := cell_regrown (HX1.out.at 0 0 rfl rfl)
    have y1 := cell_regrown (HX1.out.at 0 1 rfl rfl)
    have y2 := cell_regrown (HX1.out.at 0 2 rfl rfl)
    have y3 := cell_regrown (HX1.out.at 0 3 rfl rfl)
    have y4 := cell_regrown (HX1.out.at 0 4 rfl rfl)
    have y5 := cell_regrown (HX1.out.at 0 5 rfl rfl)
    have y6 := cell_regrown (HX1.out.at 0 6 rfl rfl)
    have y7 := cell_regrown (HX1.out.at 0 7 rfl rfl)
    refine wp_region_quiet_below (by kernel_rfl) (by kernel_rfl) ?_
    repeat (go_big_quiet_step (first | exact HLO.out _ _ _ | exact HUP.out _ _ _))
    refine wpQuiet_nil ?_
    intro _ hw'
    obtain ⟨⟨dq, osq⟩, hw''⟩ := hw'
    subst hw''
    have hbr := below_regrown w1 dq osq
    have HB2 := hid (HB1.out.trans (hbr.mono HB1.out.size))
    have HX2 := hid (HX1.out.below hbr)
    clear hbr y0 y1 y2 y3 y4 y5 y6 y7
    have y0 := HX2.out.at 0 0 rfl rfl
    have y1 := HX2.out.at 0 1 rfl rfl
    have y2 := HX2.out.at 0 2 rfl rfl
    have y3 := HX2.out.at 0 3 rfl rfl
    have y4 := HX2.out.at 0 4 rfl rfl
    have y5 := HX2.out.at 0 5 rfl rfl
    have y6 := HX2.out.at 0 6 rfl rfl
    have y7 := HX2.out.at 0 7 rfl rfl
    go_wp2_with fail
    go_ret
    exact ⟨ret_bool HF.out.symm, HB2.out⟩
  case pos =>
  have e5 : ((ks1.length : Int) == 2) = true := beq_iff_eq.2 (by omega)
  have HF := hid (show okTm 5 u1 n1 (Ty.mk tk1 tn1 tks1) ns1 ks1.length = true by rw [HE.out]; rw [inR_t (by omega) (by omega), a4, a2, decide_eq_true a1, decide_eq_true a3]; simp)
  have HTL := hid htl
  clear HE htl a1 a2 a3 a4 a5
  go_enter Tryz.func77, Tryz.ntmps77
  go_wp2_with fail
  refine HTL.out.mono ?_
  rintro e w1 ⟨rfl, hb⟩
  have HB1 := hid (HB0.out.trans (hb.mono HB0.out.size))
  have HX1 := hid (HX0.out.below hb)
  clear hb HTL
  have y0 := HX1.out.at 0 0 rfl rfl
  have y1 := HX1.out.at 0 1 rfl rfl
  have y2 := HX1.out.at 0 2 rfl rfl
  have y3 := HX1.out.at 0 3 rfl rfl
  have y4 := HX1.out.at 0 4 rfl rfl
  have y5 := HX1.out.at 0 5 rfl rfl
  have y6 := HX1.out.at 0 6 rfl rfl
  have y7 := HX1.out.at 0 7 rfl rfl
  go_wp2_with fail
  clear y0 y1 y2 y3 y4 y5 y6 y7
  have y0 := cell_regrown (HX1.out.at 0 0 rfl rfl)
  have y1 := cell_regrown (HX1.out.at 0 1 rfl rfl)
  have y2 := cell_regrown (HX1.out.at 0 2 rfl rfl)
  have y3 := cell_regrown (HX1.out.at 0 3 rfl rfl)
  have y4 := cell_regrown (HX1.out.at 0 4 rfl rfl)
  have y5 := cell_regrown (HX1.out.at 0 5 rfl rfl)
  have y6 := cell_regrown (HX1.out.at 0 6 rfl rfl)
  have y7 := cell_regrown (HX1.out.at 0 7 rfl rfl)
  refine wp_region_quiet_below (by kernel_rfl) (by kernel_rfl) ?_
  repeat (go_big_quiet_step (first | exact HLO.out _ _ _ | exact HUP.out _ _ _))
  refine wpQuiet_nil ?_
  intro _ hw'
  obtain ⟨⟨dq, osq⟩, hw''⟩ := hw'
  subst hw''
  have hbr := below_regrown w1 dq osq
  have HB2 := hid (HB1.out.trans (hbr.mono HB1.out.size))
  have HX2 := hid (HX1.out.below hbr)
  clear hbr y0 y1 y2 y3 y4 y5 y6 y7
  have y0 := HX2.out.at 0 0 rfl rfl
  have y1 := HX2.out.at 0 1 rfl rfl
  have y2 := HX2.out.at 0 2 rfl rfl
  have y3 := HX2.out.at 0 3 rfl rfl
  have y4 := HX2.out.at 0 4 rfl rfl
  have y5 := HX2.out.at 0 5 rfl rfl
  have y6 := HX2.out.at 0 6 rfl rfl
  have y7 := HX2.out.at 0 7 rfl rfl
  go_wp2_with fail
  go_ret
  exact ⟨ret_bool HF.out.symm, HB2.out⟩
set_option maxRecDepth 100000 in
set_option maxHeartbeats 2000000 in
theorem impl_node_6 (u1 : Int) (n1 : ByteArray) (tk1 : Int) (tn1 : ByteArray) (tks1 : List Ty) (ns1 : List ByteArray) (ks1 : List Tm) (atks1 : Option Addr) (ctks1 : Nat) (ans1 : Option Addr) (cns1 : Nat) (aks1 : Option Addr) (cks1 : Nat) (w : World) (hM : Tm.bulk (Tm.mk 6 u1 n1 (Ty.mk tk1 tn1 tks1) ns1 ks1) ≤ 1048576) (hr : RdS w (Tm.d (Tm.mk 6 u1 n1 (Ty.mk tk1 tn1 tks1) ns1 ks1)) [.int .i64 6, .int .i64 u1, .string n1, .int .i64 tk1, .string tn1, .slice atks1 tks1.length ctks1, .slice ans1 ns1.length cns1, .slice aks1 ks1.length cks1]) :
    Calls Tryz.prog 77 #[.agg #[.int .i64 6, .int .i64 u1, .string n1, .int .i64 tk1, .string tn1, .slice atks1 tks1.length ctks1, .slice ans1 ns1.length cns1, .slice aks1 ks1.length cks1]] w fun e w' => e = .returned (.bool (okTm 6 u1 n1 (Ty.mk tk1 tn1 tks1) ns1 ks1.length)) ∧ Below w.heap.size w w' := by
  have HE := hid (show okTm 6 u1 n1 (Ty.mk tk1 tn1 tks1) ns1 ks1.length = (inR ks1.length (1) (1) && (n1.toList.isEmpty && (tyNone (Ty.mk tk1 tn1 tks1) && (decide (ns1.length = 0) && decide (u1 = 0))))) from rfl)
  have hlen : ns1.length ≤ 1048576 := by have := Sr.bulks_length ns1; simp only [Tm.bulk] at hM; omega
  have hlk : ks1.length ≤ 1048576 := by have := Tm.bulks_length ks1; simp only [Tm.bulk] at hM; omega
  have hbt : Ty.bulk (Ty.mk tk1 tn1 tks1) ≤ 1048576 := by simp only [Tm.bulk] at hM; omega
  have HX0 := hid ((Boxes.nil w).alloc #[.int .i64 6, .int .i64 u1, .string n1, .int .i64 tk1, .string tn1, .slice atks1 tks1.length ctks1, .slice ans1 ns1.length cns1, .slice aks1 ks1.length cks1] 36 (0, 0))
  have hB : Below w.heap.size w (w.alloc (.cells #[.int .i64 6, .int .i64 u1, .string n1, .int .i64 tk1, .string tn1, .slice atks1 tks1.length ctks1, .slice ans1 ns1.length cns1, .slice aks1 ks1.length cks1] 36)) := (Below.refl w.heap.size w).alloc (Nat.le_refl _) _
  have htl := impl_isTypeless tk1 tn1 tks1 atks1 ctks1 (w.alloc (.cells #[.int .i64 6, .int .i64 u1, .string n1, .int .i64 tk1, .string tn1, .slice atks1 tks1.length ctks1, .slice ans1 ns1.length cns1, .slice aks1 ks1.length cks1] 36)) (hr.subTm_t.below hB)
  have HLO := hid (fun W d os => Calls.regrown_of (impl_IsLower n1 (grow (redrawn W d) os)))
  have HUP := hid (fun W d os => Calls.regrown_of (impl_IsUpper n1 (grow (redrawn W d) os)))
  have HB0 := hid hB
  clear hr hM hbt hB
  by_cases a1 : ns1.length = 0
  case neg =>
    have e1 : decide (0 < ns1.length) = true := decide_eq_true (by omega)
    have HF := hid (show okTm 6 u1 n1 (Ty.mk tk1 tn1 tks1) ns1 ks1.length = false by rw [HE.out]; rw [decide_eq_false a1]; simp)
    generalize tyNone (Ty.mk tk1 tn1 tks1) = pv at htl
    have HTL := hid htl
    clear HE htl a1
    go_enter Tryz.func77, Tryz.ntmps77
    go_wp2_with fail
    refine HTL.out.mono ?_
    rintro e w1 ⟨rfl, hb⟩
    have HB1 := hid (HB0.out.trans (hb.mono HB0.out.size))
    have HX1 := hid (HX0.out.below hb)
    clear hb HTL
    have y0 := HX1.out.at 0 0 rfl rfl
    have y1 := HX1.out.at 0 1 rfl rfl
    have y2 := HX1.out.at 0 2 rfl rfl
    have y3 := HX1.out.at 0 3 rfl rfl
    have y4 := HX1.out.at 0 4 rfl rfl
    have y5 := HX1.out.at 0 5 rfl rfl
    have y6 := HX1.out.at 0 6 rfl rfl
    have y7 := HX1.out.at 0 7 rfl rfl
    go_wp2_with fail
    go_ret
    exact ⟨ret_bool HF.out.symm, HB1.out⟩
  case pos =>
  have e1 : decide (0 < ns1.length) = false := decide_eq_false (by omega)
  by_cases a2 : tyNone (Ty.mk tk1 tn1 tks1) = true
  case neg =>
    replace a2 := (Bool.not_eq_true _).mp a2
    have HF := hid (show okTm 6 u1 n1 (Ty.mk tk1 tn1 tks1) ns1 ks1.length = false by rw [HE.out]; rw [a2]; simp)
    rw [a2] at htl
    have HTL := hid htl
    clear HE htl a1 a2
    go_enter Tryz.func77, Tryz.ntmps77
    go_wp2_with fail
    refine HTL.out.mono ?_
    rintro e w1 ⟨rfl, hb⟩
    have HB1 := hid (HB0.out.trans (hb.mono HB0.out.size))
    have HX1 := hid (HX0.out.below hb)
    clear hb HTL
    have y0 := HX1.out.at 0 0 rfl rfl
    have y1 := HX1.out.at 0 1 rfl rfl
    have y2 := HX1.out.at 0 2 rfl rfl
    have y3 := HX1.out.at 0 3 rfl rfl
    have y4 := HX1.out.at 0 4 rfl rfl
    have y5 := HX1.out.at 0 5 rfl rfl
    have y6 := HX1.out.at 0 6 rfl rfl
    have y7 := HX1.out.at 0 7 rfl rfl
    go_wp2_with fail
    go_ret
    exact ⟨ret_bool HF.out.symm, HB1.out⟩
  case pos =>
  rw [a2] at htl
  by_cases a3 : u1 = 0
  case neg =>
    have e3 : (u1 == 0) = false := by simp [a3]
    have HF := hid (show okTm 6 u1 n1 (Ty.mk tk1 tn1 tks1) ns1 ks1.length = false by rw [HE.out]; rw [decide_eq_false a3]; simp)
    have HTL := hid htl
    clear HE htl a1 a2 a3
    go_enter Tryz.func77, Tryz.ntmps77
    go_wp2_with fail
    refine HTL.out.mono ?_
    rintro e w1 ⟨rfl, hb⟩
    have HB1 := hid (HB0.out.trans (hb.mono HB0.out.size))
    have HX1 := hid (HX0.out.below hb)
    clear hb HTL
    have y0 := HX1.out.at 0 0 rfl rfl
    have y1 := HX1.out.at 0 1 rfl rfl
    have y2 := HX1.out.at 0 2 rfl rfl
    have y3 := HX1.out.at 0 3 rfl rfl
    have y4 := HX1.out.at 0 4 rfl rfl
    have y5 := HX1.out.at 0 5 rfl rfl
    have y6 := HX1.out.at 0 6 rfl rfl
    have y7 := HX1.out.at 0 7 rfl rfl
    go_wp2_with fail
    go_ret
    exact ⟨ret_bool HF.out.symm, HB1.out⟩
  case pos =>
  have e3 : (u1 == 0) = true := by simp [a3]
  by_cases a4 : n1.toList.isEmpty = true
  case neg =>
    replace a4 := (Bool.not_eq_true _).mp a4
    have e4 : (n1.toList == []) = false := by simpa [List.isEmpty_eq_false_iff] using a4
    have HF := hid (show okTm 6 u1 n1 (Ty.mk tk1 tn1 tks1) ns1 ks1.length = false by rw [HE.out]; rw [a4]; simp)
    have HTL := hid htl
    clear HE htl a1 a2 a3 a4
    go_enter Tryz.func77, Tryz.ntmps77
    go_wp2_with fail
    refine HTL.out.mono ?_
    rintro e w1 ⟨rfl, hb⟩
    have HB1 := hid (HB0.out.trans (hb.mono HB0.out.size))
    have HX1 := hid (HX0.out.below hb)
    clear hb HTL
    have y0 := HX1.out.at 0 0 rfl rfl
    have y1 := HX1.out.at 0 1 rfl rfl
    have y2 := HX1.out.at 0 2 rfl rfl
    have y3 := HX1.out.at 0 3 rfl rfl
    have y4 := HX1.out.at 0 4 rfl rfl
    have y5 := HX1.out.at 0 5 rfl rfl
    have y6 := HX1.out.at 0 6 rfl rfl
    have y7 := HX1.out.at 0 7 rfl rfl
    go_wp2_with fail
    clear y0 y1 y2 y3 y4 y5 y6 y7
    have y0 := cell_regrown (HX1.out.at 0 0 rfl rfl)
    have y1 := cell_regrown (HX1.out.at 0 1 rfl rfl)
    have y2 := cell_regrown (HX1.out.at 0 2 rfl rfl)
    have y3 := cell_regrown (HX1.out.at 0 3 rfl rfl)
    have y4 := cell_regrown (HX1.out.at 0 4 rfl rfl)
    have y5 := cell_regrown (HX1.out.at 0 5 rfl rfl)
    have y6 := cell_regrown (HX1.out.at 0 6 rfl rfl)
    have y7 := cell_regrown (HX1.out.at 0 7 rfl rfl)
    refine wp_region_quiet_below (by kernel_rfl) (by kernel_rfl) ?_
    repeat (go_big_quiet_step (first | exact HLO.out _ _ _ | exact HUP.out _ _ _))
    refine wpQuiet_nil ?_
    intro _ hw'
    obtain ⟨⟨dq, osq⟩, hw''⟩ := hw'
    subst hw''
    have hbr := below_regrown w1 dq osq
    have HB2 := hid (HB1.out.trans (hbr.mono HB1.out.size))
    have HX2 := hid (HX1.out.below hbr)
    clear hbr y0 y1 y2 y3 y4 y5 y6 y7
    have y0 := HX2.out.at 0 0 rfl rfl
    have y1 := HX2.out.at 0 1 rfl rfl
    have y2 := HX2.out.at 0 2 rfl rfl
    have y3 := HX2.out.at 0 3 rfl rfl
    have y4 := HX2.out.at 0 4 rfl rfl
    have y5 := HX2.out.at 0 5 rfl rfl
    have y6 := HX2.out.at 0 6 rfl rfl
    have y7 := HX2.out.at 0 7 rfl rfl
    go_wp2_with fail
    go_ret
    exact ⟨ret_bool HF.out.symm, HB2.out⟩
  case pos =>
  have e4 : (n1.toList == []) = true := by simpa [List.isEmpty_iff] using a4
  by_cases a5 : ks1.length = 1
  case neg =>
    have e5 : ((ks1.length : Int) == 1) = false := beq_eq_false_iff_ne.2 (by omega)
    have HF := hid (show okTm 6 u1 n1 (Ty.mk tk1 tn1 tks1) ns1 ks1.length = false by rw [HE.out]; rw [inR_f (by omega)]; simp)
    have HTL := hid htl
    clear HE htl a1 a2 a3 a4 a5
    go_enter Tryz.func77, Tryz.ntmps77
    go_wp2_with fail
    refine HTL.out.mono ?_
    rintro e w1 ⟨rfl, hb⟩
    have HB1 := hid (HB0.out.trans (hb.mono HB0.out.size))
    have HX1 := hid (HX0.out.below hb)
    clear hb HTL
    have y0 := HX1.out.at 0 0 rfl rfl
    have y1 := HX1.out.at 0 1 rfl rfl
    have y2 := HX1.out.at 0 2 rfl rfl
    have y3 := HX1.out.at 0 3 rfl rfl
    have y4 := HX1.out.at 0 4 rfl rfl
    have y5 := HX1.out.at 0 5 rfl rfl
    have y6 := HX1.out.at 0 6 rfl rfl
    have y7 := HX1.out.at 0 7 rfl rfl
    go_wp2_with fail
    clear y0 y1 y2 y3 y4 y5 y6 y7
    have y0 := cell_regrown (HX1.out.at 0 0 rfl rfl)
    have y1 := cell_regrown (HX1.out.at 0 1 rfl rfl)
    have y2 := cell_regrown (HX1.out.at 0 2 rfl rfl)
    have y3 := cell_regrown (HX1.out.at 0 3 rfl rfl)
    have y4 := cell_regrown (HX1.out.at 0 4 rfl rfl)
    have y5 := cell_regrown (HX1.out.at 0 5 rfl rfl)
    have y6 := cell_regrown (HX1.out.at 0 6 rfl rfl)
    have y7 := cell_regrown (HX1.out.at 0 7 rfl rfl)
    refine wp_region_quiet_below (by kernel_rfl) (by kernel_rfl) ?_
    repeat (go_big_quiet_step (first | exact HLO.out _ _ _ | exact HUP.out _ _ _))
    refine wpQuiet_nil ?_
    intro _ hw'
    obtain ⟨⟨dq, osq⟩, hw''⟩ := hw'
    subst hw''
    have hbr := below_regrown w1 dq osq
    have HB2 := hid (HB1.out.trans (hbr.mono HB1.out.size))
    have HX2 := hid (HX1.out.below hbr)
    clear hbr y0 y1 y2 y3 y4 y5 y6 y7
    have y0 := HX2.out.at 0 0 rfl rfl
    have y1 := HX2.out.at 0 1 rfl rfl
    have y2 := HX2.out.at 0 2 rfl rfl
    have y3 := HX2.out.at 0 3 rfl rfl
    have y4 := HX2.out.at 0 4 rfl rfl
    have y5 := HX2.out.at 0 5 rfl rfl
    have y6 := HX2.out.at 0 6 rfl rfl
    have y7 := HX2.out.at 0 7 rfl rfl
    go_wp2_with fail
    go_ret
    exact ⟨ret_bool HF.out.symm, HB2.out⟩
  case pos =>
  have e5 : ((ks1.length : Int) == 1) = true := beq_iff_eq.2 (by omega)
  have HF := hid (show okTm 6 u1 n1 (Ty.mk tk1 tn1 tks1) ns1 ks1.length = true by rw [HE.out]; rw [inR_t (by omega) (by omega), a4, a2, decide_eq_true a1, decide_eq_true a3]; simp)
  have HTL := hid htl
  clear HE htl a1 a2 a3 a4 a5
  go_enter Tryz.func77, Tryz.ntmps77
  go_wp2_with fail
  refine HTL.out.mono ?_
  rintro e w1 ⟨rfl, hb⟩
  have HB1 := hid (HB0.out.trans (hb.mono HB0.out.size))
  have HX1 := hid (HX0.out.below hb)
  clear hb HTL
  have y0 := HX1.out.at 0 0 rfl rfl
  have y1 := HX1.out.at 0 1 rfl rfl
  have y2 := HX1.out.at 0 2 rfl rfl
  have y3 := HX1.out.at 0 3 rfl rfl
  have y4 := HX1.out.at 0 4 rfl rfl
  have y5 := HX1.out.at 0 5 rfl rfl
  have y6 := HX1.out.at 0 6 rfl rfl
  have y7 := HX1.out.at 0 7 rfl rfl
  go_wp2_with fail
  clear y0 y1 y2 y3 y4 y5 y6 y7
  have y0 := cell_regrown (HX1.out.at 0 0 rfl rfl)
  have y1 := cell_regrown (HX1.out.at 0 1 rfl rfl)
  have y2 := cell_regrown (HX1.out.at 0 2 rfl rfl)
  have y3 := cell_regrown (HX1.out.at 0 3 rfl rfl)
  have y4 := cell_regrown (HX1.out.at 0 4 rfl rfl)
  have y5 := cell_regrown (HX1.out.at 0 5 rfl rfl)
  have y6 := cell_regrown (HX1.out.at 0 6 rfl rfl)
  have y7 := cell_regrown (HX1.out.at 0 7 rfl rfl)
  refine wp_region_quiet_below (by kernel_rfl) (by kernel_rfl) ?_
  repeat (go_big_quiet_step (first | exact HLO.out _ _ _ | exact HUP.out _ _ _))
  refine wpQuiet_nil ?_
  intro _ hw'
  obtain ⟨⟨dq, osq⟩, hw''⟩ := hw'
  subst hw''
  have hbr := below_regrown w1 dq osq
  have HB2 := hid (HB1.out.trans (hbr.mono HB1.out.size))
  have HX2 := hid (HX1.out.below hbr)
  clear hbr y0 y1 y2 y3 y4 y5 y6 y7
  have y0 := HX2.out.at 0 0 rfl rfl
  have y1 := HX2.out.at 0 1 rfl rfl
  have y2 := HX2.out.at 0 2 rfl rfl
  have y3 := HX2.out.at 0 3 rfl rfl
  have y4 := HX2.out.at 0 4 rfl rfl
  have y5 := HX2.out.at 0 5 rfl rfl
  have y6 := HX2.out.at 0 6 rfl rfl
  have y7 := HX2.out.at 0 7 rfl rfl
  go_wp2_with fail
  go_ret
  exact ⟨ret_bool HF.out.symm, HB2.out⟩
set_option maxRecDepth 100000 in
set_option maxHeartbeats 2000000 in
theorem impl_node_7 (u1 : Int) (n1 : ByteArray) (tk1 : Int) (tn1 : ByteArray) (tks1 : List Ty) (ns1 : List ByteArray) (ks1 : List Tm) (atks1 : Option Addr) (ctks1 : Nat) (ans1 : Option Addr) (cns1 : Nat) (aks1 : Option Addr) (cks1 : Nat) (w : World) (hM : Tm.bulk (Tm.mk 7 u1 n1 (Ty.mk tk1 tn1 tks1) ns1 ks1) ≤ 1048576) (hr : RdS w (Tm.d (Tm.mk 7 u1 n1 (Ty.mk tk1 tn1 tks1) ns1 ks1)) [.int .i64 7, .int .i64 u1, .string n1, .int .i64 tk1, .string tn1, .slice atks1 tks1.length ctks1, .slice ans1 ns1.length cns1, .slice aks1 ks1.length cks1]) :
    Calls Tryz.prog 77 #[.agg #[.int .i64 7, .int .i64 u1, .string n1, .int .i64 tk1, .string tn1, .slice atks1 tks1.length ctks1, .slice ans1 ns1.length cns1, .slice aks1 ks1.length cks1]] w fun e w' => e = .returned (.bool (okTm 7 u1 n1 (Ty.mk tk1 tn1 tks1) ns1 ks1.length)) ∧ Below w.heap.size w w' := by
  have HE := hid (show okTm 7 u1 n1 (Ty.mk tk1 tn1 tks1) ns1 ks1.length = (inR ks1.length (2) (2) && (isLowerB n1 && (tyNone (Ty.mk tk1 tn1 tks1) && (decide (ns1.length = 0) && decide (u1 = 0))))) from rfl)
  have hlen : ns1.length ≤ 1048576 := by have := Sr.bulks_length ns1; simp only [Tm.bulk] at hM; omega
  have hlk : ks1.length ≤ 1048576 := by have := Tm.bulks_length ks1; simp only [Tm.bulk] at hM; omega
  have hbt : Ty.bulk (Ty.mk tk1 tn1 tks1) ≤ 1048576 := by simp only [Tm.bulk] at hM; omega
  have HX0 := hid ((Boxes.nil w).alloc #[.int .i64 7, .int .i64 u1, .string n1, .int .i64 tk1, .string tn1, .slice atks1 tks1.length ctks1, .slice ans1 ns1.length cns1, .slice aks1 ks1.length cks1] 36 (0, 0))
  have hB : Below w.heap.size w (w.alloc (.cells #[.int .i64 7, .int .i64 u1, .string n1, .int .i64 tk1, .string tn1, .slice atks1 tks1.length ctks1, .slice ans1 ns1.length cns1, .slice aks1 ks1.length cks1] 36)) := (Below.refl w.heap.size w).alloc (Nat.le_refl _) _
  have htl := impl_isTypeless tk1 tn1 tks1 atks1 ctks1 (w.alloc (.cells #[.int .i64 7, .int .i64 u1, .string n1, .int .i64 tk1, .string tn1, .slice atks1 tks1.length ctks1, .slice ans1 ns1.length cns1, .slice aks1 ks1.length cks1] 36)) (hr.subTm_t.below hB)
  have HLO := hid (fun W d os => Calls.regrown_of (impl_IsLower n1 (grow (redrawn W d) os)))
  have HUP := hid (fun W d os => Calls.regrown_of (impl_IsUpper n1 (grow (redrawn W d) os)))
  have HB0 := hid hB
  clear hr hM hbt hB
  by_cases a1 : ns1.length = 0
  case neg =>
    have e1 : decide (0 < ns1.length) = true := decide_eq_true (by omega)
    have HF := hid (show okTm 7 u1 n1 (Ty.mk tk1 tn1 tks1) ns1 ks1.length = false by rw [HE.out]; rw [decide_eq_false a1]; simp)
    generalize tyNone (Ty.mk tk1 tn1 tks1) = pv at htl
    have HTL := hid htl
    clear HE htl a1
    go_enter Tryz.func77, Tryz.ntmps77
    go_wp2_with fail
    refine HTL.out.mono ?_
    rintro e w1 ⟨rfl, hb⟩
    have HB1 := hid (HB0.out.trans (hb.mono HB0.out.size))
    have HX1 := hid (HX0.out.below hb)
    clear hb HTL
    have y0 := HX1.out.at 0 0 rfl rfl
    have y1 := HX1.out.at 0 1 rfl rfl
    have y2 := HX1.out.at 0 2 rfl rfl
    have y3 := HX1.out.at 0 3 rfl rfl
    have y4 := HX1.out.at 0 4 rfl rfl
    have y5 := HX1.out.at 0 5 rfl rfl
    have y6 := HX1.out.at 0 6 rfl rfl
    have y7 := HX1.out.at 0 7 rfl rfl
    go_wp2_with fail
    go_ret
    exact ⟨ret_bool HF.out.symm, HB1.out⟩
  case pos =>
  have e1 : decide (0 < ns1.length) = false := decide_eq_false (by omega)
  by_cases a2 : tyNone (Ty.mk tk1 tn1 tks1) = true
  case neg =>
    replace a2 := (Bool.not_eq_true _).mp a2
    have HF := hid (show okTm 7 u1 n1 (Ty.mk tk1 tn1 tks1) ns1 ks1.length = false by rw [HE.out]; rw [a2]; simp)
    rw [a2] at htl
    have HTL := hid htl
    clear HE htl a1 a2
    go_enter Tryz.func77, Tryz.ntmps77
    go_wp2_with fail
    refine HTL.out.mono ?_
    rintro e w1 ⟨rfl, hb⟩
    have HB1 := hid (HB0.out.trans (hb.mono HB0.out.size))
    have HX1 := hid (HX0.out.below hb)
    clear hb HTL
    have y0 := HX1.out.at 0 0 rfl rfl
    have y1 := HX1.out.at 0 1 rfl rfl
    have y2 := HX1.out.at 0 2 rfl rfl
    have y3 := HX1.out.at 0 3 rfl rfl
    have y4 := HX1.out.at 0 4 rfl rfl
    have y5 := HX1.out.at 0 5 rfl rfl
    have y6 := HX1.out.at 0 6 rfl rfl
    have y7 := HX1.out.at 0 7 rfl rfl
    go_wp2_with fail
    go_ret
    exact ⟨ret_bool HF.out.symm, HB1.out⟩
  case pos =>
  rw [a2] at htl
  by_cases a3 : u1 = 0
  case neg =>
    have e3 : (u1 == 0) = false := by simp [a3]
    have HF := hid (show okTm 7 u1 n1 (Ty.mk tk1 tn1 tks1) ns1 ks1.length = false by rw [HE.out]; rw [decide_eq_false a3]; simp)
    have HTL := hid htl
    clear HE htl a1 a2 a3
    go_enter Tryz.func77, Tryz.ntmps77
    go_wp2_with fail
    refine HTL.out.mono ?_
    rintro e w1 ⟨rfl, hb⟩
    have HB1 := hid (HB0.out.trans (hb.mono HB0.out.size))
    have HX1 := hid (HX0.out.below hb)
    clear hb HTL
    have y0 := HX1.out.at 0 0 rfl rfl
    have y1 := HX1.out.at 0 1 rfl rfl
    have y2 := HX1.out.at 0 2 rfl rfl
    have y3 := HX1.out.at 0 3 rfl rfl
    have y4 := HX1.out.at 0 4 rfl rfl
    have y5 := HX1.out.at 0 5 rfl rfl
    have y6 := HX1.out.at 0 6 rfl rfl
    have y7 := HX1.out.at 0 7 rfl rfl
    go_wp2_with fail
    go_ret
    exact ⟨ret_bool HF.out.symm, HB1.out⟩
  case pos =>
  have e3 : (u1 == 0) = true := by simp [a3]
  by_cases a4 : isLowerB n1 = true
  case neg =>
    replace a4 := (Bool.not_eq_true _).mp a4
    have hlo := HLO.out
    rw [a4] at hlo
    have HLO := hid hlo
    clear hlo
    have HF := hid (show okTm 7 u1 n1 (Ty.mk tk1 tn1 tks1) ns1 ks1.length = false by rw [HE.out]; rw [a4]; simp)
    have HTL := hid htl
    clear HE htl a1 a2 a3 a4
    go_enter Tryz.func77, Tryz.ntmps77
    go_wp2_with fail
    refine HTL.out.mono ?_
    rintro e w1 ⟨rfl, hb⟩
    have HB1 := hid (HB0.out.trans (hb.mono HB0.out.size))
    have HX1 := hid (HX0.out.below hb)
    clear hb HTL
    have y0 := HX1.out.at 0 0 rfl rfl
    have y1 := HX1.out.at 0 1 rfl rfl
    have y2 := HX1.out.at 0 2 rfl rfl
    have y3 := HX1.out.at 0 3 rfl rfl
    have y4 := HX1.out.at 0 4 rfl rfl
    have y5 := HX1.out.at 0 5 rfl rfl
    have y6 := HX1.out.at 0 6 rfl rfl
    have y7 := HX1.out.at 0 7 rfl rfl
    go_wp2_with fail
    clear y0 y1 y2 y3 y4 y5 y6 y7
    have y0 := cell_regrown (HX1.out.at 0 0 rfl rfl)
    have y1 := cell_regrown (HX1.out.at 0 1 rfl rfl)
    have y2 := cell_regrown (HX1.out.at 0 2 rfl rfl)
    have y3 := cell_regrown (HX1.out.at 0 3 rfl rfl)
    have y4 := cell_regrown (HX1.out.at 0 4 rfl rfl)
    have y5 := cell_regrown (HX1.out.at 0 5 rfl rfl)
    have y6 := cell_regrown (HX1.out.at 0 6 rfl rfl)
    have y7 := cell_regrown (HX1.out.at 0 7 rfl rfl)
    refine wp_region_quiet_below (by kernel_rfl) (by kernel_rfl) ?_
    repeat (go_big_quiet_step (first | exact HLO.out _ _ _ | exact HUP.out _ _ _))
    refine wpQuiet_nil ?_
    intro _ hw'
    obtain ⟨⟨dq, osq⟩, hw''⟩ := hw'
    subst hw''
    have hbr := below_regrown w1 dq osq
    have HB2 := hid (HB1.out.trans (hbr.mono HB1.out.size))
    have HX2 := hid (HX1.out.below hbr)
    clear hbr y0 y1 y2 y3 y4 y5 y6 y7
    have y0 := HX2.out.at 0 0 rfl rfl
    have y1 := HX2.out.at 0 1 rfl rfl
    have y2 := HX2.out.at 0 2 rfl rfl
    have y3 := HX2.out.at 0 3 rfl rfl
    have y4 := HX2.out.at 0 4 rfl rfl
    have y5 := HX2.out.at 0 5 rfl rfl
    have y6 := HX2.out.at 0 6 rfl rfl
    have y7 := HX2.out.at 0 7 rfl rfl
    go_wp2_with fail
    go_ret
    exact ⟨ret_bool HF.out.symm, HB2.out⟩
  case pos =>
  have hlo := HLO.out
  rw [a4] at hlo
  have HLO := hid hlo
  clear hlo
  by_cases a5 : ks1.length = 2
  case neg =>
    have e5 : ((ks1.length : Int) == 2) = false := beq_eq_false_iff_ne.2 (by omega)
    have HF := hid (show okTm 7 u1 n1 (Ty.mk tk1 tn1 tks1) ns1 ks1.length = false by rw [HE.out]; rw [inR_f (by omega)]; simp)
    have HTL := hid htl
    clear HE htl a1 a2 a3 a4 a5
    go_enter Tryz.func77, Tryz.ntmps77
    go_wp2_with fail
    refine HTL.out.mono ?_
    rintro e w1 ⟨rfl, hb⟩
    have HB1 := hid (HB0.out.trans (hb.mono HB0.out.size))
    have HX1 := hid (HX0.out.below hb)
    clear hb HTL
    have y0 := HX1.out.at 0 0 rfl rfl
    have y1 := HX1.out.at 0 1 rfl rfl
    have y2 := HX1.out.at 0 2 rfl rfl
    have y3 := HX1.out.at 0 3 rfl rfl
    have y4 := HX1.out.at 0 4 rfl rfl
    have y5 := HX1.out.at 0 5 rfl rfl
    have y6 := HX1.out.at 0 6 rfl rfl
    have y7 := HX1.out.at 0 7 rfl rfl
    go_wp2_with fail
    clear y0 y1 y2 y3 y4 y5 y6 y7
    have y0 := cell_regrown (HX1.out.at 0 0 rfl rfl)
    have y1 := cell_regrown (HX1.out.at 0 1 rfl rfl)
    have y2 := cell_regrown (HX1.out.at 0 2 rfl rfl)
    have y3 := cell_regrown (HX1.out.at 0 3 rfl rfl)
    have y4 := cell_regrown (HX1.out.at 0 4 rfl rfl)
    have y5 := cell_regrown (HX1.out.at 0 5 rfl rfl)
    have y6 := cell_regrown (HX1.out.at 0 6 rfl rfl)
    have y7 := cell_regrown (HX1.out.at 0 7 rfl rfl)
    refine wp_region_quiet_below (by kernel_rfl) (by kernel_rfl) ?_
    repeat (go_big_quiet_step (first | exact HLO.out _ _ _ | exact HUP.out _ _ _))
    refine wpQuiet_nil ?_
    intro _ hw'
    obtain ⟨⟨dq, osq⟩, hw''⟩ := hw'
    subst hw''
    have hbr := below_regrown w1 dq osq
    have HB2 := hid (HB1.out.trans (hbr.mono HB1.out.size))
    have HX2 := hid (HX1.out.below hbr)
    clear hbr y0 y1 y2 y3 y4 y5 y6 y7
    have y0 := HX2.out.at 0 0 rfl rfl
    have y1 := HX2.out.at 0 1 rfl rfl
    have y2 := HX2.out.at 0 2 rfl rfl
    have y3 := HX2.out.at 0 3 rfl rfl
    have y4 := HX2.out.at 0 4 rfl rfl
    have y5 := HX2.out.at 0 5 rfl rfl
    have y6 := HX2.out.at 0 6 rfl rfl
    have y7 := HX2.out.at 0 7 rfl rfl
    go_wp2_with fail
    go_ret
    exact ⟨ret_bool HF.out.symm, HB2.out⟩
  case pos =>
  have e5 : ((ks1.length : Int) == 2) = true := beq_iff_eq.2 (by omega)
  have HF := hid (show okTm 7 u1 n1 (Ty.mk tk1 tn1 tks1) ns1 ks1.length = true by rw [HE.out]; rw [inR_t (by omega) (by omega), a4, a2, decide_eq_true a1, decide_eq_true a3]; simp)
  have HTL := hid htl
  clear HE htl a1 a2 a3 a4 a5
  go_enter Tryz.func77, Tryz.ntmps77
  go_wp2_with fail
  refine HTL.out.mono ?_
  rintro e w1 ⟨rfl, hb⟩
  have HB1 := hid (HB0.out.trans (hb.mono HB0.out.size))
  have HX1 := hid (HX0.out.below hb)
  clear hb HTL
  have y0 := HX1.out.at 0 0 rfl rfl
  have y1 := HX1.out.at 0 1 rfl rfl
  have y2 := HX1.out.at 0 2 rfl rfl
  have y3 := HX1.out.at 0 3 rfl rfl
  have y4 := HX1.out.at 0 4 rfl rfl
  have y5 := HX1.out.at 0 5 rfl rfl
  have y6 := HX1.out.at 0 6 rfl rfl
  have y7 := HX1.out.at 0 7 rfl rfl
  go_wp2_with fail
  clear y0 y1 y2 y3 y4 y5 y6 y7
  have y0 := cell_regrown (HX1.out.at 0 0 rfl rfl)
  have y1 := cell_regrown (HX1.out.at 0 1 rfl rfl)
  have y2 := cell_regrown (HX1.out.at 0 2 rfl rfl)
  have y3 := cell_regrown (HX1.out.at 0 3 rfl rfl)
  have y4 := cell_regrown (HX1.out.at 0 4 rfl rfl)
  have y5 := cell_regrown (HX1.out.at 0 5 rfl rfl)
  have y6 := cell_regrown (HX1.out.at 0 6 rfl rfl)
  have y7 := cell_regrown (HX1.out.at 0 7 rfl rfl)
  refine wp_region_quiet_below (by kernel_rfl) (by kernel_rfl) ?_
  repeat (go_big_quiet_step (first | exact HLO.out _ _ _ | exact HUP.out _ _ _))
  refine wpQuiet_nil ?_
  intro _ hw'
  obtain ⟨⟨dq, osq⟩, hw''⟩ := hw'
  subst hw''
  have hbr := below_regrown w1 dq osq
  have HB2 := hid (HB1.out.trans (hbr.mono HB1.out.size))
  have HX2 := hid (HX1.out.below hbr)
  clear hbr y0 y1 y2 y3 y4 y5 y6 y7
  have y0 := HX2.out.at 0 0 rfl rfl
  have y1 := HX2.out.at 0 1 rfl rfl
  have y2 := HX2.out.at 0 2 rfl rfl
  have y3 := HX2.out.at 0 3 rfl rfl
  have y4 := HX2.out.at 0 4 rfl rfl
  have y5 := HX2.out.at 0 5 rfl rfl
  have y6 := HX2.out.at 0 6 rfl rfl
  have y7 := HX2.out.at 0 7 rfl rfl
  go_wp2_with fail
  go_ret
  exact ⟨ret_bool HF.out.symm, HB2.out⟩
set_option maxRecDepth 100000 in
set_option maxHeartbeats 2000000 in
theorem impl_node_8 (u1 : Int) (n1 : ByteArray) (tk1 : Int) (tn1 : ByteArray) (tks1 : List Ty) (ns1 : List ByteArray) (ks1 : List Tm) (atks1 : Option Addr) (ctks1 : Nat) (ans1 : Option Addr) (cns1 : Nat) (aks1 : Option Addr) (cks1 : Nat) (w : World) (hM : Tm.bulk (Tm.mk 8 u1 n1 (Ty.mk tk1 tn1 tks1) ns1 ks1) ≤ 1048576) (hr : RdS w (Tm.d (Tm.mk 8 u1 n1 (Ty.mk tk1 tn1 tks1) ns1 ks1)) [.int .i64 8, .int .i64 u1, .string n1, .int .i64 tk1, .string tn1, .slice atks1 tks1.length ctks1, .slice ans1 ns1.length cns1, .slice aks1 ks1.length cks1]) :
    Calls Tryz.prog 77 #[.agg #[.int .i64 8, .int .i64 u1, .string n1, .int .i64 tk1, .string tn1, .slice atks1 tks1.length ctks1, .slice ans1 ns1.length cns1, .slice aks1 ks1.length cks1]] w fun e w' => e = .returned (.bool (okTm 8 u1 n1 (Ty.mk tk1 tn1 tks1) ns1 ks1.length)) ∧ Below w.heap.size w w' := by
  have HE := hid (show okTm 8 u1 n1 (Ty.mk tk1 tn1 tks1) ns1 ks1.length = (inR ks1.length (0) (3) && (isUpperB n1 && (tyNone (Ty.mk tk1 tn1 tks1) && (decide (ns1.length = 0) && decide (u1 = 0))))) from rfl)
  have hlen : ns1.length ≤ 1048576 := by have := Sr.bulks_length ns1; simp only [Tm.bulk] at hM; omega
  have hlk : ks1.length ≤ 1048576 := by have := Tm.bulks_length ks1; simp only [Tm.bulk] at hM; omega
  have hbt : Ty.bulk (Ty.mk tk1 tn1 tks1) ≤ 1048576 := by simp only [Tm.bulk] at hM; omega
  have HX0 := hid ((Boxes.nil w).alloc #[.int .i64 8, .int .i64 u1, .string n1, .int .i64 tk1, .string tn1, .slice atks1 tks1.length ctks1, .slice ans1 ns1.length cns1, .slice aks1 ks1.length cks1] 36 (0, 0))
  have hB : Below w.heap.size w (w.alloc (.cells #[.int .i64 8, .int .i64 u1, .string n1, .int .i64 tk1, .string tn1, .slice atks1 tks1.length ctks1, .slice ans1 ns1.length cns1, .slice aks1 ks1.length cks1] 36)) := (Below.refl w.heap.size w).alloc (Nat.le_refl _) _
  have htl := impl_isTypeless tk1 tn1 tks1 atks1 ctks1 (w.alloc (.cells #[.int .i64 8, .int .i64 u1, .string n1, .int .i64 tk1, .string tn1, .slice atks1 tks1.length ctks1, .slice ans1 ns1.length cns1, .slice aks1 ks1.length cks1] 36)) (hr.subTm_t.below hB)
  have HLO := hid (fun W d os => Calls.regrown_of (impl_IsLower n1 (grow (redrawn W d) os)))
  have HUP := hid (fun W d os => Calls.regrown_of (impl_IsUpper n1 (grow (redrawn W d) os)))
  have HB0 := hid hB
  clear hr hM hbt hB
  by_cases a1 : ns1.length = 0
  case neg =>
    have e1 : decide (0 < ns1.length) = true := decide_eq_true (by omega)
    have HF := hid (show okTm 8 u1 n1 (Ty.mk tk1 tn1 tks1) ns1 ks1.length = false by rw [HE.out]; rw [decide_eq_false a1]; simp)
    generalize tyNone (Ty.mk tk1 tn1 tks1) = pv at htl
    have HTL := hid htl
    clear HE htl a1
    go_enter Tryz.func77, Tryz.ntmps77
    go_wp2_with fail
    refine HTL.out.mono ?_
    rintro e w1 ⟨rfl, hb⟩
    have HB1 := hid (HB0.out.trans (hb.mono HB0.out.size))
    have HX1 := hid (HX0.out.below hb)
    clear hb HTL
    have y0 := HX1.out.at 0 0 rfl rfl
    have y1 := HX1.out.at 0 1 rfl rfl
    have y2 := HX1.out.at 0 2 rfl rfl
    have y3 := HX1.out.at 0 3 rfl rfl
    have y4 := HX1.out.at 0 4 rfl rfl
    have y5 := HX1.out.at 0 5 rfl rfl
    have y6 := HX1.out.at 0 6 rfl rfl
    have y7 := HX1.out.at 0 7 rfl rfl
    go_wp2_with fail
    go_ret
    exact ⟨ret_bool HF.out.symm, HB1.out⟩
  case pos =>
  have e1 : decide (0 < ns1.length) = false := decide_eq_false (by omega)
  by_cases a2 : tyNone (Ty.mk tk1 tn1 tks1) = true
  case neg =>
    replace a2 := (Bool.not_eq_true _).mp a2
    have HF := hid (show okTm 8 u1 n1 (Ty.mk tk1 tn1 tks1) ns1 ks1.length = false by rw [HE.out]; rw [a2]; simp)
    rw [a2] at htl
    have HTL := hid htl
    clear HE htl a1 a2
    go_enter Tryz.func77, Tryz.ntmps77
    go_wp2_with fail
    refine HTL.out.mono ?_
    rintro e w1 ⟨rfl, hb⟩
    have HB1 := hid (HB0.out.trans (hb.mono HB0.out.size))
    have HX1 := hid (HX0.out.below hb)
    clear hb HTL
    have y0 := HX1.out.at 0 0 rfl rfl
    have y1 := HX1.out.at 0 1 rfl rfl
    have y2 := HX1.out.at 0 2 rfl rfl
    have y3 := HX1.out.at 0 3 rfl rfl
    have y4 := HX1.out.at 0 4 rfl rfl
    have y5 := HX1.out.at 0 5 rfl rfl
    have y6 := HX1.out.at 0 6 rfl rfl
    have y7 := HX1.out.at 0 7 rfl rfl
    go_wp2_with fail
    go_ret
    exact ⟨ret_bool HF.out.symm, HB1.out⟩
  case pos =>
  rw [a2] at htl
  by_cases a3 : u1 = 0
  case neg =>
    have e3 : (u1 == 0) = false := by simp [a3]
    have HF := hid (show okTm 8 u1 n1 (Ty.mk tk1 tn1 tks1) ns1 ks1.length = false by rw [HE.out]; rw [decide_eq_false a3]; simp)
    have HTL := hid htl
    clear HE htl a1 a2 a3
    go_enter Tryz.func77, Tryz.ntmps77
    go_wp2_with fail
    refine HTL.out.mono ?_
    rintro e w1 ⟨rfl, hb⟩
    have HB1 := hid (HB0.out.trans (hb.mono HB0.out.size))
    have HX1 := hid (HX0.out.below hb)
    clear hb HTL
    have y0 := HX1.out.at 0 0 rfl rfl
    have y1 := HX1.out.at 0 1 rfl rfl
    have y2 := HX1.out.at 0 2 rfl rfl
    have y3 := HX1.out.at 0 3 rfl rfl
    have y4 := HX1.out.at 0 4 rfl rfl
    have y5 := HX1.out.at 0 5 rfl rfl
    have y6 := HX1.out.at 0 6 rfl rfl
    have y7 := HX1.out.at 0 7 rfl rfl
    go_wp2_with fail
    go_ret
    exact ⟨ret_bool HF.out.symm, HB1.out⟩
  case pos =>
  have e3 : (u1 == 0) = true := by simp [a3]
  by_cases a4 : isUpperB n1 = true
  case neg =>
    replace a4 := (Bool.not_eq_true _).mp a4
    have hup := HUP.out
    rw [a4] at hup
    have HUP := hid hup
    clear hup
    have HF := hid (show okTm 8 u1 n1 (Ty.mk tk1 tn1 tks1) ns1 ks1.length = false by rw [HE.out]; rw [a4]; simp)
    have HTL := hid htl
    clear HE htl a1 a2 a3 a4
    go_enter Tryz.func77, Tryz.ntmps77
    go_wp2_with fail
    refine HTL.out.mono ?_
    rintro e w1 ⟨rfl, hb⟩
    have HB1 := hid (HB0.out.trans (hb.mono HB0.out.size))
    have HX1 := hid (HX0.out.below hb)
    clear hb HTL
    have y0 := HX1.out.at 0 0 rfl rfl
    have y1 := HX1.out.at 0 1 rfl rfl
    have y2 := HX1.out.at 0 2 rfl rfl
    have y3 := HX1.out.at 0 3 rfl rfl
    have y4 := HX1.out.at 0 4 rfl rfl
    have y5 := HX1.out.at 0 5 rfl rfl
    have y6 := HX1.out.at 0 6 rfl rfl
    have y7 := HX1.out.at 0 7 rfl rfl
    go_wp2_with fail
    clear y0 y1 y2 y3 y4 y5 y6 y7
    have y0 := cell_regrown (HX1.out.at 0 0 rfl rfl)
    have y1 := cell_regrown (HX1.out.at 0 1 rfl rfl)
    have y2 := cell_regrown (HX1.out.at 0 2 rfl rfl)
    have y3 := cell_regrown (HX1.out.at 0 3 rfl rfl)
    have y4 := cell_regrown (HX1.out.at 0 4 rfl rfl)
    have y5 := cell_regrown (HX1.out.at 0 5 rfl rfl)
    have y6 := cell_regrown (HX1.out.at 0 6 rfl rfl)
    have y7 := cell_regrown (HX1.out.at 0 7 rfl rfl)
    refine wp_region_quiet_below (by kernel_rfl) (by kernel_rfl) ?_
    repeat (go_big_quiet_step (first | exact HLO.out _ _ _ | exact HUP.out _ _ _))
    refine wpQuiet_nil ?_
    intro _ hw'
    obtain ⟨⟨dq, osq⟩, hw''⟩ := hw'
    subst hw''
    have hbr := below_regrown w1 dq osq
    have HB2 := hid (HB1.out.trans (hbr.mono HB1.out.size))
    have HX2 := hid (HX1.out.below hbr)
    clear hbr y0 y1 y2 y3 y4 y5 y6 y7
    have y0 := HX2.out.at 0 0 rfl rfl
    have y1 := HX2.out.at 0 1 rfl rfl
    have y2 := HX2.out.at 0 2 rfl rfl
    have y3 := HX2.out.at 0 3 rfl rfl
    have y4 := HX2.out.at 0 4 rfl rfl
    have y5 := HX2.out.at 0 5 rfl rfl
    have y6 := HX2.out.at 0 6 rfl rfl
    have y7 := HX2.out.at 0 7 rfl rfl
    go_wp2_with fail
    go_ret
    exact ⟨ret_bool HF.out.symm, HB2.out⟩
  case pos =>
  have hup := HUP.out
  rw [a4] at hup
  have HUP := hid hup
  clear hup
  by_cases a5 : ks1.length ≤ 3
  case neg =>
    have e5 : decide ((ks1.length : Int) ≤ 3) = false := decide_eq_false (by omega)
    have HF := hid (show okTm 8 u1 n1 (Ty.mk tk1 tn1 tks1) ns1 ks1.length = false by rw [HE.out]; rw [inR_f (by omega)]; simp)
    have HTL := hid htl
    clear HE htl a1 a2 a3 a4 a5
    go_enter Tryz.func77, Tryz.ntmps77
    go_wp2_with fail
    refine HTL.out.mono ?_
    rintro e w1 ⟨rfl, hb⟩
    have HB1 := hid (HB0.out.trans (hb.mono HB0.out.size))
    have HX1 := hid (HX0.out.below hb)
    clear hb HTL
    have y0 := HX1.out.at 0 0 rfl rfl
    have y1 := HX1.out.at 0 1 rfl rfl
    have y2 := HX1.out.at 0 2 rfl rfl
    have y3 := HX1.out.at 0 3 rfl rfl
    have y4 := HX1.out.at 0 4 rfl rfl
    have y5 := HX1.out.at 0 5 rfl rfl
    have y6 := HX1.out.at 0 6 rfl rfl
    have y7 := HX1.out.at 0 7 rfl rfl
    go_wp2_with fail
    clear y0 y1 y2 y3 y4 y5 y6 y7
    have y0 := cell_regrown (HX1.out.at 0 0 rfl rfl)
    have y1 := cell_regrown (HX1.out.at 0 1 rfl rfl)
    have y2 := cell_regrown (HX1.out.at 0 2 rfl rfl)
    have y3 := cell_regrown (HX1.out.at 0 3 rfl rfl)
    have y4 := cell_regrown (HX1.out.at 0 4 rfl rfl)
    have y5 := cell_regrown (HX1.out.at 0 5 rfl rfl)
    have y6 := cell_regrown (HX1.out.at 0 6 rfl rfl)
    have y7 := cell_regrown (HX1.out.at 0 7 rfl rfl)
    refine wp_region_quiet_below (by kernel_rfl) (by kernel_rfl) ?_
    repeat (go_big_quiet_step (first | exact HLO.out _ _ _ | exact HUP.out _ _ _))
    refine wpQuiet_nil ?_
    intro _ hw'
    obtain ⟨⟨dq, osq⟩, hw''⟩ := hw'
    subst hw''
    have hbr := below_regrown w1 dq osq
    have HB2 := hid (HB1.out.trans (hbr.mono HB1.out.size))
    have HX2 := hid (HX1.out.below hbr)
    clear hbr y0 y1 y2 y3 y4 y5 y6 y7
    have y0 := HX2.out.at 0 0 rfl rfl
    have y1 := HX2.out.at 0 1 rfl rfl
    have y2 := HX2.out.at 0 2 rfl rfl
    have y3 := HX2.out.at 0 3 rfl rfl
    have y4 := HX2.out.at 0 4 rfl rfl
    have y5 := HX2.out.at 0 5 rfl rfl
    have y6 := HX2.out.at 0 6 rfl rfl
    have y7 := HX2.out.at 0 7 rfl rfl
    go_wp2_with fail
    go_ret
    exact ⟨ret_bool HF.out.symm, HB2.out⟩
  case pos =>
  have e5 : decide ((ks1.length : Int) ≤ 3) = true := decide_eq_true (by omega)
  have HF := hid (show okTm 8 u1 n1 (Ty.mk tk1 tn1 tks1) ns1 ks1.length = true by rw [HE.out]; rw [inR_t (by omega) (by omega), a4, a2, decide_eq_true a1, decide_eq_true a3]; simp)
  have HTL := hid htl
  clear HE htl a1 a2 a3 a4 a5
  go_enter Tryz.func77, Tryz.ntmps77
  go_wp2_with fail
  refine HTL.out.mono ?_
  rintro e w1 ⟨rfl, hb⟩
  have HB1 := hid (HB0.out.trans (hb.mono HB0.out.size))
  have HX1 := hid (HX0.out.below hb)
  clear hb HTL
  have y0 := HX1.out.at 0 0 rfl rfl
  have y1 := HX1.out.at 0 1 rfl rfl
  have y2 := HX1.out.at 0 2 rfl rfl
  have y3 := HX1.out.at 0 3 rfl rfl
  have y4 := HX1.out.at 0 4 rfl rfl
  have y5 := HX1.out.at 0 5 rfl rfl
  have y6 := HX1.out.at 0 6 rfl rfl
  have y7 := HX1.out.at 0 7 rfl rfl
  go_wp2_with fail
  clear y0 y1 y2 y3 y4 y5 y6 y7
  have y0 := cell_regrown (HX1.out.at 0 0 rfl rfl)
  have y1 := cell_regrown (HX1.out.at 0 1 rfl rfl)
  have y2 := cell_regrown (HX1.out.at 0 2 rfl rfl)
  have y3 := cell_regrown (HX1.out.at 0 3 rfl rfl)
  have y4 := cell_regrown (HX1.out.at 0 4 rfl rfl)
  have y5 := cell_regrown (HX1.out.at 0 5 rfl rfl)
  have y6 := cell_regrown (HX1.out.at 0 6 rfl rfl)
  have y7 := cell_regrown (HX1.out.at 0 7 rfl rfl)
  refine wp_region_quiet_below (by kernel_rfl) (by kernel_rfl) ?_
  repeat (go_big_quiet_step (first | exact HLO.out _ _ _ | exact HUP.out _ _ _))
  refine wpQuiet_nil ?_
  intro _ hw'
  obtain ⟨⟨dq, osq⟩, hw''⟩ := hw'
  subst hw''
  have hbr := below_regrown w1 dq osq
  have HB2 := hid (HB1.out.trans (hbr.mono HB1.out.size))
  have HX2 := hid (HX1.out.below hbr)
  clear hbr y0 y1 y2 y3 y4 y5 y6 y7
  have y0 := HX2.out.at 0 0 rfl rfl
  have y1 := HX2.out.at 0 1 rfl rfl
  have y2 := HX2.out.at 0 2 rfl rfl
  have y3 := HX2.out.at 0 3 rfl rfl
  have y4 := HX2.out.at 0 4 rfl rfl
  have y5 := HX2.out.at 0 5 rfl rfl
  have y6 := HX2.out.at 0 6 rfl rfl
  have y7 := HX2.out.at 0 7 rfl rfl
  go_wp2_with fail
  go_ret
  exact ⟨ret_bool HF.out.symm, HB2.out⟩
set_option maxRecDepth 100000 in
set_option maxHeartbeats 2000000 in
theorem impl_node_9 (u1 : Int) (n1 : ByteArray) (tk1 : Int) (tn1 : ByteArray) (tks1 : List Ty) (ns1 : List ByteArray) (ks1 : List Tm) (atks1 : Option Addr) (ctks1 : Nat) (ans1 : Option Addr) (cns1 : Nat) (aks1 : Option Addr) (cks1 : Nat) (w : World) (hM : Tm.bulk (Tm.mk 9 u1 n1 (Ty.mk tk1 tn1 tks1) ns1 ks1) ≤ 1048576) (hr : RdS w (Tm.d (Tm.mk 9 u1 n1 (Ty.mk tk1 tn1 tks1) ns1 ks1)) [.int .i64 9, .int .i64 u1, .string n1, .int .i64 tk1, .string tn1, .slice atks1 tks1.length ctks1, .slice ans1 ns1.length cns1, .slice aks1 ks1.length cks1]) :
    Calls Tryz.prog 77 #[.agg #[.int .i64 9, .int .i64 u1, .string n1, .int .i64 tk1, .string tn1, .slice atks1 tks1.length ctks1, .slice ans1 ns1.length cns1, .slice aks1 ks1.length cks1]] w fun e w' => e = .returned (.bool (okTm 9 u1 n1 (Ty.mk tk1 tn1 tks1) ns1 ks1.length)) ∧ Below w.heap.size w w' := by
  have HE := hid (show okTm 9 u1 n1 (Ty.mk tk1 tn1 tks1) ns1 ks1.length = (inR ks1.length (2) (5) && (n1.toList.isEmpty && (tyNone (Ty.mk tk1 tn1 tks1) && (decide (ns1.length = 0) && decide (u1 = 0))))) from rfl)
  have hlen : ns1.length ≤ 1048576 := by have := Sr.bulks_length ns1; simp only [Tm.bulk] at hM; omega
  have hlk : ks1.length ≤ 1048576 := by have := Tm.bulks_length ks1; simp only [Tm.bulk] at hM; omega
  have hbt : Ty.bulk (Ty.mk tk1 tn1 tks1) ≤ 1048576 := by simp only [Tm.bulk] at hM; omega
  have HX0 := hid ((Boxes.nil w).alloc #[.int .i64 9, .int .i64 u1, .string n1, .int .i64 tk1, .string tn1, .slice atks1 tks1.length ctks1, .slice ans1 ns1.length cns1, .slice aks1 ks1.length cks1] 36 (0, 0))
  have hB : Below w.heap.size w (w.alloc (.cells #[.int .i64 9, .int .i64 u1, .string n1, .int .i64 tk1, .string tn1, .slice atks1 tks1.length ctks1, .slice ans1 ns1.length cns1, .slice aks1 ks1.length cks1] 36)) := (Below.refl w.heap.size w).alloc (Nat.le_refl _) _
  have htl := impl_isTypeless tk1 tn1 tks1 atks1 ctks1 (w.alloc (.cells #[.int .i64 9, .int .i64 u1, .string n1, .int .i64 tk1, .string tn1, .slice atks1 tks1.length ctks1, .slice ans1 ns1.length cns1, .slice aks1 ks1.length cks1] 36)) (hr.subTm_t.below hB)
  have HLO := hid (fun W d os => Calls.regrown_of (impl_IsLower n1 (grow (redrawn W d) os)))
  have HUP := hid (fun W d os => Calls.regrown_of (impl_IsUpper n1 (grow (redrawn W d) os)))
  have HB0 := hid hB
  clear hr hM hbt hB
  by_cases a1 : ns1.length = 0
  case neg =>
    have e1 : decide (0 < ns1.length) = true := decide_eq_true (by omega)
    have HF := hid (show okTm 9 u1 n1 (Ty.mk tk1 tn1 tks1) ns1 ks1.length = false by rw [HE.out]; rw [decide_eq_false a1]; simp)
    generalize tyNone (Ty.mk tk1 tn1 tks1) = pv at htl
    have HTL := hid htl
    clear HE htl a1
    go_enter Tryz.func77, Tryz.ntmps77
    go_wp2_with fail
    refine HTL.out.mono ?_
    rintro e w1 ⟨rfl, hb⟩
    have HB1 := hid (HB0.out.trans (hb.mono HB0.out.size))
    have HX1 := hid (HX0.out.below hb)
    clear hb HTL
    have y0 := HX1.out.at 0 0 rfl rfl
    have y1 := HX1.out.at 0 1 rfl rfl
    have y2 := HX1.out.at 0 2 rfl rfl
    have y3 := HX1.out.at 0 3 rfl rfl
    have y4 := HX1.out.at 0 4 rfl rfl
    have y5 := HX1.out.at 0 5 rfl rfl
    have y6 := HX1.out.at 0 6 rfl rfl
    have y7 := HX1.out.at 0 7 rfl rfl
    go_wp2_with fail
    go_ret
    exact ⟨ret_bool HF.out.symm, HB1.out⟩
  case pos =>
  have e1 : decide (0 < ns1.length) = false := decide_eq_false (by omega)
  by_cases a2 : tyNone (Ty.mk tk1 tn1 tks1) = true
  case neg =>
    replace a2 := (Bool.not_eq_true _).mp a2
    have HF := hid (show okTm 9 u1 n1 (Ty.mk tk1 tn1 tks1) ns1 ks1.length = false by rw [HE.out]; rw [a2]; simp)
    rw [a2] at htl
    have HTL := hid htl
    clear HE htl a1 a2
    go_enter Tryz.func77, Tryz.ntmps77
    go_wp2_with fail
    refine HTL.out.mono ?_
    rintro e w1 ⟨rfl, hb⟩
    have HB1 := hid (HB0.out.trans (hb.mono HB0.out.size))
    have HX1 := hid (HX0.out.below hb)
    clear hb HTL
    have y0 := HX1.out.at 0 0 rfl rfl
    have y1 := HX1.out.at 0 1 rfl rfl
    have y2 := HX1.out.at 0 2 rfl rfl
    have y3 := HX1.out.at 0 3 rfl rfl
    have y4 := HX1.out.at 0 4 rfl rfl
    have y5 := HX1.out.at 0 5 rfl rfl
    have y6 := HX1.out.at 0 6 rfl rfl
    have y7 := HX1.out.at 0 7 rfl rfl
    go_wp2_with fail
    go_ret
    exact ⟨ret_bool HF.out.symm, HB1.out⟩
  case pos =>
  rw [a2] at htl
  by_cases a3 : u1 = 0
  case neg =>
    have e3 : (u1 == 0) = false := by simp [a3]
    have HF := hid (show okTm 9 u1 n1 (Ty.mk tk1 tn1 tks1) ns1 ks1.length = false by rw [HE.out]; rw [decide_eq_false a3]; simp)
    have HTL := hid htl
    clear HE htl a1 a2 a3
    go_enter Tryz.func77, Tryz.ntmps77
    go_wp2_with fail
    refine HTL.out.mono ?_
    rintro e w1 ⟨rfl, hb⟩
    have HB1 := hid (HB0.out.trans (hb.mono HB0.out.size))
    have HX1 := hid (HX0.out.below hb)
    clear hb HTL
    have y0 := HX1.out.at 0 0 rfl rfl
    have y1 := HX1.out.at 0 1 rfl rfl
    have y2 := HX1.out.at 0 2 rfl rfl
    have y3 := HX1.out.at 0 3 rfl rfl
    have y4 := HX1.out.at 0 4 rfl rfl
    have y5 := HX1.out.at 0 5 rfl rfl
    have y6 := HX1.out.at 0 6 rfl rfl
    have y7 := HX1.out.at 0 7 rfl rfl
    go_wp2_with fail
    go_ret
    exact ⟨ret_bool HF.out.symm, HB1.out⟩
  case pos =>
  have e3 : (u1 == 0) = true := by simp [a3]
  by_cases a4 : n1.toList.isEmpty = true
  case neg =>
    replace a4 := (Bool.not_eq_true _).mp a4
    have e4 : (n1.toList == []) = false := by simpa [List.isEmpty_eq_false_iff] using a4
    have HF := hid (show okTm 9 u1 n1 (Ty.mk tk1 tn1 tks1) ns1 ks1.length = false by rw [HE.out]; rw [a4]; simp)
    have HTL := hid htl
    clear HE htl a1 a2 a3 a4
    go_enter Tryz.func77, Tryz.ntmps77
    go_wp2_with fail
    refine HTL.out.mono ?_
    rintro e w1 ⟨rfl, hb⟩
    have HB1 := hid (HB0.out.trans (hb.mono HB0.out.size))
    have HX1 := hid (HX0.out.below hb)
    clear hb HTL
    have y0 := HX1.out.at 0 0 rfl rfl
    have y1 := HX1.out.at 0 1 rfl rfl
    have y2 := HX1.out.at 0 2 rfl rfl
    have y3 := HX1.out.at 0 3 rfl rfl
    have y4 := HX1.out.at 0 4 rfl rfl
    have y5 := HX1.out.at 0 5 rfl rfl
    have y6 := HX1.out.at 0 6 rfl rfl
    have y7 := HX1.out.at 0 7 rfl rfl
    go_wp2_with fail
    clear y0 y1 y2 y3 y4 y5 y6 y7
    have y0 := cell_regrown (HX1.out.at 0 0 rfl rfl)
    have y1 := cell_regrown (HX1.out.at 0 1 rfl rfl)
    have y2 := cell_regrown (HX1.out.at 0 2 rfl rfl)
    have y3 := cell_regrown (HX1.out.at 0 3 rfl rfl)
    have y4 := cell_regrown (HX1.out.at 0 4 rfl rfl)
    have y5 := cell_regrown (HX1.out.at 0 5 rfl rfl)
    have y6 := cell_regrown (HX1.out.at 0 6 rfl rfl)
    have y7 := cell_regrown (HX1.out.at 0 7 rfl rfl)
    refine wp_region_quiet_below (by kernel_rfl) (by kernel_rfl) ?_
    repeat (go_big_quiet_step (first | exact HLO.out _ _ _ | exact HUP.out _ _ _))
    refine wpQuiet_nil ?_
    intro _ hw'
    obtain ⟨⟨dq, osq⟩, hw''⟩ := hw'
    subst hw''
    have hbr := below_regrown w1 dq osq
    have HB2 := hid (HB1.out.trans (hbr.mono HB1.out.size))
    have HX2 := hid (HX1.out.below hbr)
    clear hbr y0 y1 y2 y3 y4 y5 y6 y7
    have y0 := HX2.out.at 0 0 rfl rfl
    have y1 := HX2.out.at 0 1 rfl rfl
    have y2 := HX2.out.at 0 2 rfl rfl
    have y3 := HX2.out.at 0 3 rfl rfl
    have y4 := HX2.out.at 0 4 rfl rfl
    have y5 := HX2.out.at 0 5 rfl rfl
    have y6 := HX2.out.at 0 6 rfl rfl
    have y7 := HX2.out.at 0 7 rfl rfl
    go_wp2_with fail
    go_ret
    exact ⟨ret_bool HF.out.symm, HB2.out⟩
  case pos =>
  have e4 : (n1.toList == []) = true := by simpa [List.isEmpty_iff] using a4
  by_cases a6 : 2 ≤ ks1.length
  case neg =>
    have e6 : decide ((2 : Int) ≤ ks1.length) = false := decide_eq_false (by omega)
    have HF := hid (show okTm 9 u1 n1 (Ty.mk tk1 tn1 tks1) ns1 ks1.length = false by rw [HE.out]; rw [inR_f (by omega)]; simp)
    have HTL := hid htl
    clear HE htl a1 a2 a3 a4 a6
    go_enter Tryz.func77, Tryz.ntmps77
    go_wp2_with fail
    refine HTL.out.mono ?_
    rintro e w1 ⟨rfl, hb⟩
    have HB1 := hid (HB0.out.trans (hb.mono HB0.out.size))
    have HX1 := hid (HX0.out.below hb)
    clear hb HTL
    have y0 := HX1.out.at 0 0 rfl rfl
    have y1 := HX1.out.at 0 1 rfl rfl
    have y2 := HX1.out.at 0 2 rfl rfl
    have y3 := HX1.out.at 0 3 rfl rfl
    have y4 := HX1.out.at 0 4 rfl rfl
    have y5 := HX1.out.at 0 5 rfl rfl
    have y6 := HX1.out.at 0 6 rfl rfl
    have y7 := HX1.out.at 0 7 rfl rfl
    go_wp2_with fail
    clear y0 y1 y2 y3 y4 y5 y6 y7
    have y0 := cell_regrown (HX1.out.at 0 0 rfl rfl)
    have y1 := cell_regrown (HX1.out.at 0 1 rfl rfl)
    have y2 := cell_regrown (HX1.out.at 0 2 rfl rfl)
    have y3 := cell_regrown (HX1.out.at 0 3 rfl rfl)
    have y4 := cell_regrown (HX1.out.at 0 4 rfl rfl)
    have y5 := cell_regrown (HX1.out.at 0 5 rfl rfl)
    have y6 := cell_regrown (HX1.out.at 0 6 rfl rfl)
    have y7 := cell_regrown (HX1.out.at 0 7 rfl rfl)
    refine wp_region_quiet_below (by kernel_rfl) (by kernel_rfl) ?_
    repeat (go_big_quiet_step (first | exact HLO.out _ _ _ | exact HUP.out _ _ _))
    refine wpQuiet_nil ?_
    intro _ hw'
    obtain ⟨⟨dq, osq⟩, hw''⟩ := hw'
    subst hw''
    have hbr := below_regrown w1 dq osq
    have HB2 := hid (HB1.out.trans (hbr.mono HB1.out.size))
    have HX2 := hid (HX1.out.below hbr)
    clear hbr y0 y1 y2 y3 y4 y5 y6 y7
    have y0 := HX2.out.at 0 0 rfl rfl
    have y1 := HX2.out.at 0 1 rfl rfl
    have y2 := HX2.out.at 0 2 rfl rfl
    have y3 := HX2.out.at 0 3 rfl rfl
    have y4 := HX2.out.at 0 4 rfl rfl
    have y5 := HX2.out.at 0 5 rfl rfl
    have y6 := HX2.out.at 0 6 rfl rfl
    have y7 := HX2.out.at 0 7 rfl rfl
    go_wp2_with fail
    go_ret
    exact ⟨ret_bool HF.out.symm, HB2.out⟩
  case pos =>
  have e6 : decide ((2 : Int) ≤ ks1.length) = true := decide_eq_true (by omega)
  by_cases a5 : ks1.length ≤ 5
  case neg =>
    have e5 : decide ((ks1.length : Int) ≤ 5) = false := decide_eq_false (by omega)
    have HF := hid (show okTm 9 u1 n1 (Ty.mk tk1 tn1 tks1) ns1 ks1.length = false by rw [HE.out]; rw [inR_f (by omega)]; simp)
    have HTL := hid htl
    clear HE htl a1 a2 a3 a4 a5 a6
    go_enter Tryz.func77, Tryz.ntmps77
    go_wp2_with fail
    refine HTL.out.mono ?_
    rintro e w1 ⟨rfl, hb⟩
    have HB1 := hid (HB0.out.trans (hb.mono HB0.out.size))
    have HX1 := hid (HX0.out.below hb)
    clear hb HTL
    have y0 := HX1.out.at 0 0 rfl rfl
    have y1 := HX1.out.at 0 1 rfl rfl
    have y2 := HX1.out.at 0 2 rfl rfl
    have y3 := HX1.out.at 0 3 rfl rfl
    have y4 := HX1.out.at 0 4 rfl rfl
    have y5 := HX1.out.at 0 5 rfl rfl
    have y6 := HX1.out.at 0 6 rfl rfl
    have y7 := HX1.out.at 0 7 rfl rfl
    go_wp2_with fail
    clear y0 y1 y2 y3 y4 y5 y6 y7
    have y0 := cell_regrown (HX1.out.at 0 0 rfl rfl)
    have y1 := cell_regrown (HX1.out.at 0 1 rfl rfl)
    have y2 := cell_regrown (HX1.out.at 0 2 rfl rfl)
    have y3 := cell_regrown (HX1.out.at 0 3 rfl rfl)
    have y4 := cell_regrown (HX1.out.at 0 4 rfl rfl)
    have y5 := cell_regrown (HX1.out.at 0 5 rfl rfl)
    have y6 := cell_regrown (HX1.out.at 0 6 rfl rfl)
    have y7 := cell_regrown (HX1.out.at 0 7 rfl rfl)
    refine wp_region_quiet_below (by kernel_rfl) (by kernel_rfl) ?_
    repeat (go_big_quiet_step (first | exact HLO.out _ _ _ | exact HUP.out _ _ _))
    refine wpQuiet_nil ?_
    intro _ hw'
    obtain ⟨⟨dq, osq⟩, hw''⟩ := hw'
    subst hw''
    have hbr := below_regrown w1 dq osq
    have HB2 := hid (HB1.out.trans (hbr.mono HB1.out.size))
    have HX2 := hid (HX1.out.below hbr)
    clear hbr y0 y1 y2 y3 y4 y5 y6 y7
    have y0 := HX2.out.at 0 0 rfl rfl
    have y1 := HX2.out.at 0 1 rfl rfl
    have y2 := HX2.out.at 0 2 rfl rfl
    have y3 := HX2.out.at 0 3 rfl rfl
    have y4 := HX2.out.at 0 4 rfl rfl
    have y5 := HX2.out.at 0 5 rfl rfl
    have y6 := HX2.out.at 0 6 rfl rfl
    have y7 := HX2.out.at 0 7 rfl rfl
    go_wp2_with fail
    go_ret
    exact ⟨ret_bool HF.out.symm, HB2.out⟩
  case pos =>
  have e5 : decide ((ks1.length : Int) ≤ 5) = true := decide_eq_true (by omega)
  have HF := hid (show okTm 9 u1 n1 (Ty.mk tk1 tn1 tks1) ns1 ks1.length = true by rw [HE.out]; rw [inR_t (by omega) (by omega), a4, a2, decide_eq_true a1, decide_eq_true a3]; simp)
  have HTL := hid htl
  clear HE htl a1 a2 a3 a4 a6 a5
  go_enter Tryz.func77, Tryz.ntmps77
  go_wp2_with fail
  refine HTL.out.mono ?_
  rintro e w1 ⟨rfl, hb⟩
  have HB1 := hid (HB0.out.trans (hb.mono HB0.out.size))
  have HX1 := hid (HX0.out.below hb)
  clear hb HTL
  have y0 := HX1.out.at 0 0 rfl rfl
  have y1 := HX1.out.at 0 1 rfl rfl
  have y2 := HX1.out.at 0 2 rfl rfl
  have y3 := HX1.out.at 0 3 rfl rfl
  have y4 := HX1.out.at 0 4 rfl rfl
  have y5 := HX1.out.at 0 5 rfl rfl
  have y6 := HX1.out.at 0 6 rfl rfl
  have y7 := HX1.out.at 0 7 rfl rfl
  go_wp2_with fail
  clear y0 y1 y2 y3 y4 y5 y6 y7
  have y0 := cell_regrown (HX1.out.at 0 0 rfl rfl)
  have y1 := cell_regrown (HX1.out.at 0 1 rfl rfl)
  have y2 := cell_regrown (HX1.out.at 0 2 rfl rfl)
  have y3 := cell_regrown (HX1.out.at 0 3 rfl rfl)
  have y4 := cell_regrown (HX1.out.at 0 4 rfl rfl)
  have y5 := cell_regrown (HX1.out.at 0 5 rfl rfl)
  have y6 := cell_regrown (HX1.out.at 0 6 rfl rfl)
  have y7 := cell_regrown (HX1.out.at 0 7 rfl rfl)
  refine wp_region_quiet_below (by kernel_rfl) (by kernel_rfl) ?_
  repeat (go_big_quiet_step (first | exact HLO.out _ _ _ | exact HUP.out _ _ _))
  refine wpQuiet_nil ?_
  intro _ hw'
  obtain ⟨⟨dq, osq⟩, hw''⟩ := hw'
  subst hw''
  have hbr := below_regrown w1 dq osq
  have HB2 := hid (HB1.out.trans (hbr.mono HB1.out.size))
  have HX2 := hid (HX1.out.below hbr)
  clear hbr y0 y1 y2 y3 y4 y5 y6 y7
  have y0 := HX2.out.at 0 0 rfl rfl
  have y1 := HX2.out.at 0 1 rfl rfl
  have y2 := HX2.out.at 0 2 rfl rfl
  have y3 := HX2.out.at 0 3 rfl rfl
  have y4 := HX2.out.at 0 4 rfl rfl
  have y5 := HX2.out.at 0 5 rfl rfl
  have y6 := HX2.out.at 0 6 rfl rfl
  have y7 := HX2.out.at 0 7 rfl rfl
  go_wp2_with fail
  go_ret
  exact ⟨ret_bool HF.out.symm, HB2.out⟩
set_option maxRecDepth 100000 in
set_option maxHeartbeats 2000000 in
theorem impl_node_10 (u1 : Int) (n1 : ByteArray) (tk1 : Int) (tn1 : ByteArray) (tks1 : List Ty) (ns1 : List ByteArray) (ks1 : List Tm) (atks1 : Option Addr) (ctks1 : Nat) (ans1 : Option Addr) (cns1 : Nat) (aks1 : Option Addr) (cks1 : Nat) (w : World) (hM : Tm.bulk (Tm.mk 10 u1 n1 (Ty.mk tk1 tn1 tks1) ns1 ks1) ≤ 1048576) (hr : RdS w (Tm.d (Tm.mk 10 u1 n1 (Ty.mk tk1 tn1 tks1) ns1 ks1)) [.int .i64 10, .int .i64 u1, .string n1, .int .i64 tk1, .string tn1, .slice atks1 tks1.length ctks1, .slice ans1 ns1.length cns1, .slice aks1 ks1.length cks1]) :
    Calls Tryz.prog 77 #[.agg #[.int .i64 10, .int .i64 u1, .string n1, .int .i64 tk1, .string tn1, .slice atks1 tks1.length ctks1, .slice ans1 ns1.length cns1, .slice aks1 ks1.length cks1]] w fun e w' => e = .returned (.bool (okTm 10 u1 n1 (Ty.mk tk1 tn1 tks1) ns1 ks1.length)) ∧ Below w.heap.size w w' := by
  have HE := hid (show okTm 10 u1 n1 (Ty.mk tk1 tn1 tks1) ns1 ks1.length = (inR ks1.length (1) (1) && (isUpperB n1 && (tyNone (Ty.mk tk1 tn1 tks1) && ((decide (ns1.length ≤ 3) && lowFrom ns1 ns1 0) && decide (u1 = 0))))) from rfl)
  have hlen : ns1.length ≤ 1048576 := by have := Sr.bulks_length ns1; simp only [Tm.bulk] at hM; omega
  have hlk : ks1.length ≤ 1048576 := by have := Tm.bulks_length ks1; simp only [Tm.bulk] at hM; omega
  have hbt : Ty.bulk (Ty.mk tk1 tn1 tks1) ≤ 1048576 := by simp only [Tm.bulk] at hM; omega
  have HX0 := hid ((Boxes.nil w).alloc #[.int .i64 10, .int .i64 u1, .string n1, .int .i64 tk1, .string tn1, .slice atks1 tks1.length ctks1, .slice ans1 ns1.length cns1, .slice aks1 ks1.length cks1] 36 (0, 0))
  have hB : Below w.heap.size w (w.alloc (.cells #[.int .i64 10, .int .i64 u1, .string n1, .int .i64 tk1, .string tn1, .slice atks1 tks1.length ctks1, .slice ans1 ns1.length cns1, .slice aks1 ks1.length cks1] 36)) := (Below.refl w.heap.size w).alloc (Nat.le_refl _) _
  have htl := impl_isTypeless tk1 tn1 tks1 atks1 ctks1 (w.alloc (.cells #[.int .i64 10, .int .i64 u1, .string n1, .int .i64 tk1, .string tn1, .slice atks1 tks1.length ctks1, .slice ans1 ns1.length cns1, .slice aks1 ks1.length cks1] 36)) (hr.subTm_t.below hB)
  have HLO := hid (fun W d os => Calls.regrown_of (impl_IsLower n1 (grow (redrawn W d) os)))
  have HUP := hid (fun W d os => Calls.regrown_of (impl_IsUpper n1 (grow (redrawn W d) os)))
  have hvf := fun W (hW : Below w.heap.size w W) => impl_validFieldNames ns1 ans1 cns1 W (hr.fTm.2.2.2.2.1.below hW) hlen
  have HB0 := hid hB
  clear hr hM hbt hB
  by_cases a2 : tyNone (Ty.mk tk1 tn1 tks1) = true
  case neg =>
    replace a2 := (Bool.not_eq_true _).mp a2
    have HF := hid (show okTm 10 u1 n1 (Ty.mk tk1 tn1 tks1) ns1 ks1.length = false by rw [HE.out]; rw [a2]; simp)
    rw [a2] at htl
    have HTL := hid htl
    clear HE htl a2 hvf
    go_enter Tryz.func77, Tryz.ntmps77
    go_wp2_with fail
    refine HTL.out.mono ?_
    rintro e w1 ⟨rfl, hb⟩
    have HB1 := hid (HB0.out.trans (hb.mono HB0.out.size))
    have HX1 := hid (HX0.out.below hb)
    clear hb HTL
    have y0 := HX1.out.at 0 0 rfl rfl
    have y1 := HX1.out.at 0 1 rfl rfl
    have y2 := HX1.out.at 0 2 rfl rfl
    have y3 := HX1.out.at 0 3 rfl rfl
    have y4 := HX1.out.at 0 4 rfl rfl
    have y5 := HX1.out.at 0 5 rfl rfl
    have y6 := HX1.out.at 0 6 rfl rfl
    have y7 := HX1.out.at 0 7 rfl rfl
    go_wp2_with fail
    go_ret
    exact ⟨ret_bool HF.out.symm, HB1.out⟩
  case pos =>
  rw [a2] at htl
  by_cases a3 : u1 = 0
  case neg =>
    have e3 : (u1 == 0) = false := by simp [a3]
    have HF := hid (show okTm 10 u1 n1 (Ty.mk tk1 tn1 tks1) ns1 ks1.length = false by rw [HE.out]; rw [decide_eq_false a3]; simp)
    have HTL := hid htl
    clear HE htl a2 a3 hvf
    go_enter Tryz.func77, Tryz.ntmps77
    go_wp2_with fail
    refine HTL.out.mono ?_
    rintro e w1 ⟨rfl, hb⟩
    have HB1 := hid (HB0.out.trans (hb.mono HB0.out.size))
    have HX1 := hid (HX0.out.below hb)
    clear hb HTL
    have y0 := HX1.out.at 0 0 rfl rfl
    have y1 := HX1.out.at 0 1 rfl rfl
    have y2 := HX1.out.at 0 2 rfl rfl
    have y3 := HX1.out.at 0 3 rfl rfl
    have y4 := HX1.out.at 0 4 rfl rfl
    have y5 := HX1.out.at 0 5 rfl rfl
    have y6 := HX1.out.at 0 6 rfl rfl
    have y7 := HX1.out.at 0 7 rfl rfl
    go_wp2_with fail
    go_ret
    exact ⟨ret_bool HF.out.symm, HB1.out⟩
  case pos =>
  have e3 : (u1 == 0) = true := by simp [a3]
  by_cases a4 : isUpperB n1 = true
  case neg =>
    replace a4 := (Bool.not_eq_true _).mp a4
    have hup := HUP.out
    rw [a4] at hup
    have HUP := hid hup
    clear hup
    have HF := hid (show okTm 10 u1 n1 (Ty.mk tk1 tn1 tks1) ns1 ks1.length = false by rw [HE.out]; rw [a4]; simp)
    have HTL := hid htl
    clear HE htl a2 a3 a4 hvf
    go_enter Tryz.func77, Tryz.ntmps77
    go_wp2_with fail
    refine HTL.out.mono ?_
    rintro e w1 ⟨rfl, hb⟩
    have HB1 := hid (HB0.out.trans (hb.mono HB0.out.size))
    have HX1 := hid (HX0.out.below hb)
    clear hb HTL
    have y0 := HX1.out.at 0 0 rfl rfl
    have y1 := HX1.out.at 0 1 rfl rfl
    have y2 := HX1.out.at 0 2 rfl rfl
    have y3 := HX1.out.at 0 3 rfl rfl
    have y4 := HX1.out.at 0 4 rfl rfl
    have y5 := HX1.out.at 0 5 rfl rfl
    have y6 := HX1.out.at 0 6 rfl rfl
    have y7 := HX1.out.at 0 7 rfl rfl
    go_wp2_with fail
    clear y0 y1 y2 y3 y4 y5 y6 y7
    have y0 := cell_regrown (HX1.out.at 0 0 rfl rfl)
    have y1 := cell_regrown (HX1.out.at 0 1 rfl rfl)
    have y2 := cell_regrown (HX1.out.at 0 2 rfl rfl)
    have y3 := cell_regrown (HX1.out.at 0 3 rfl rfl)
    have y4 := cell_regrown (HX1.out.at 0 4 rfl rfl)
    have y5 := cell_regrown (HX1.out.at 0 5 rfl rfl)
    have y6 := cell_regrown (HX1.out.at 0 6 rfl rfl)
    have y7 := cell_regrown (HX1.out.at 0 7 rfl rfl)
    refine wp_region_quiet_below (by kernel_rfl) (by kernel_rfl) ?_
    repeat (go_big_quiet_step (first | exact HLO.out _ _ _ | exact HUP.out _ _ _))
    refine wpQuiet_nil ?_
    intro _ hw'
    obtain ⟨⟨dq, osq⟩, hw''⟩ := hw'
    subst hw''
    have hbr := below_regrown w1 dq osq
    have HB2 := hid (HB1.out.trans (hbr.mono HB1.out.size))
    have HX2 := hid (HX1.out.below hbr)
    clear hbr y0 y1 y2 y3 y4 y5 y6 y7
    have y0 := HX2.out.at 0 0 rfl rfl
    have y1 := HX2.out.at 0 1 rfl rfl
    have y2 := HX2.out.at 0 2 rfl rfl
    have y3 := HX2.out.at 0 3 rfl rfl
    have y4 := HX2.out.at 0 4 rfl rfl
    have y5 := HX2.out.at 0 5 rfl rfl
    have y6 := HX2.out.at 0 6 rfl rfl
    have y7 := HX2.out.at 0 7 rfl rfl
    go_wp2_with fail
    go_ret
    exact ⟨ret_bool HF.out.symm, HB2.out⟩
  case pos =>
  have hup := HUP.out
  rw [a4] at hup
  have HUP := hid hup
  clear hup
  by_cases a5 : ks1.length = 1
  case neg =>
    have e5 : ((ks1.length : Int) == 1) = false := beq_eq_false_iff_ne.2 (by omega)
    have HF := hid (show okTm 10 u1 n1 (Ty.mk tk1 tn1 tks1) ns1 ks1.length = false by rw [HE.out]; rw [inR_f (by omega)]; simp)
    have HTL := hid htl
    clear HE htl a2 a3 a4 a5 hvf
    go_enter Tryz.func77, Tryz.ntmps77
    go_wp2_with fail
    refine HTL.out.mono ?_
    rintro e w1 ⟨rfl, hb⟩
    have HB1 := hid (HB0.out.trans (hb.mono HB0.out.size))
    have HX1 := hid (HX0.out.below hb)
    clear hb HTL
    have y0 := HX1.out.at 0 0 rfl rfl
    have y1 := HX1.out.at 0 1 rfl rfl
    have y2 := HX1.out.at 0 2 rfl rfl
    have y3 := HX1.out.at 0 3 rfl rfl
    have y4 := HX1.out.at 0 4 rfl rfl
    have y5 := HX1.out.at 0 5 rfl rfl
    have y6 := HX1.out.at 0 6 rfl rfl
    have y7 := HX1.out.at 0 7 rfl rfl
    go_wp2_with fail
    clear y0 y1 y2 y3 y4 y5 y6 y7
    have y0 := cell_regrown (HX1.out.at 0 0 rfl rfl)
    have y1 := cell_regrown (HX1.out.at 0 1 rfl rfl)
    have y2 := cell_regrown (HX1.out.at 0 2 rfl rfl)
    have y3 := cell_regrown (HX1.out.at 0 3 rfl rfl)
    have y4 := cell_regrown (HX1.out.at 0 4 rfl rfl)
    have y5 := cell_regrown (HX1.out.at 0 5 rfl rfl)
    have y6 := cell_regrown (HX1.out.at 0 6 rfl rfl)
    have y7 := cell_regrown (HX1.out.at 0 7 rfl rfl)
    refine wp_region_quiet_below (by kernel_rfl) (by kernel_rfl) ?_
    repeat (go_big_quiet_step (first | exact HLO.out _ _ _ | exact HUP.out _ _ _))
    refine wpQuiet_nil ?_
    intro _ hw'
    obtain ⟨⟨dq, osq⟩, hw''⟩ := hw'
    subst hw''
    have hbr := below_regrown w1 dq osq
    have HB2 := hid (HB1.out.trans (hbr.mono HB1.out.size))
    have HX2 := hid (HX1.out.below hbr)
    clear hbr y0 y1 y2 y3 y4 y5 y6 y7
    have y0 := HX2.out.at 0 0 rfl rfl
    have y1 := HX2.out.at 0 1 rfl rfl
    have y2 := HX2.out.at 0 2 rfl rfl
    have y3 := HX2.out.at 0 3 rfl rfl
    have y4 := HX2.out.at 0 4 rfl rfl
    have y5 := HX2.out.at 0 5 rfl rfl
    have y6 := HX2.out.at 0 6 rfl rfl
    have y7 := HX2.out.at 0 7 rfl rfl
    go_wp2_with fail
    go_ret
    exact ⟨ret_bool HF.out.symm, HB2.out⟩
  case pos =>
  have e5 : ((ks1.length : Int) == 1) = true := beq_iff_eq.2 (by omega)
  have HF := hid (show okTm 10 u1 n1 (Ty.mk tk1 tn1 tks1) ns1 ks1.length = (decide (ns1.length ≤ 3) && lowFrom ns1 ns1 0) by rw [HE.out]; rw [inR_t (by omega) (by omega), a4, a2, decide_eq_true a3]; simp)
  have HVF := hid hvf
  have HTL := hid htl
  clear HE htl a2 a3 a4 a5 hvf
  go_enter Tryz.func77, Tryz.ntmps77
  go_wp2_with fail
  refine HTL.out.mono ?_
  rintro e w1 ⟨rfl, hb⟩
  have HB1 := hid (HB0.out.trans (hb.mono HB0.out.size))
  have HX1 := hid (HX0.out.below hb)
  clear hb HTL
  have y0 := HX1.out.at 0 0 rfl rfl
  have y1 := HX1.out.at 0 1 rfl rfl
  have y2 := HX1.out.at 0 2 rfl rfl
  have y3 := HX1.out.at 0 3 rfl rfl
  have y4 := HX1.out.at 0 4 rfl rfl
  have y5 := HX1.out.at 0 5 rfl rfl
  have y6 := HX1.out.at 0 6 rfl rfl
  have y7 := HX1.out.at 0 7 rfl rfl
  go_wp2_with fail
  clear y0 y1 y2 y3 y4 y5 y6 y7
  have y0 := cell_regrown (HX1.out.at 0 0 rfl rfl)
  have y1 := cell_regrown (HX1.out.at 0 1 rfl rfl)
  have y2 := cell_regrown (HX1.out.at 0 2 rfl rfl)
  have y3 := cell_regrown (HX1.out.at 0 3 rfl rfl)
  have y4 := cell_regrown (HX1.out.at 0 4 rfl rfl)
  have y5 := cell_regrown (HX1.out.at 0 5 rfl rfl)
  have y6 := cell_regrown (HX1.out.at 0 6 rfl rfl)
  have y7 := cell_regrown (HX1.out.at 0 7 rfl rfl)
  refine wp_region_quiet_below (by kernel_rfl) (by kernel_rfl) ?_
  repeat (go_big_quiet_step (first | exact HLO.out _ _ _ | exact HUP.out _ _ _))
  refine wpQuiet_nil ?_
  intro _ hw'
  obtain ⟨⟨dq, osq⟩, hw''⟩ := hw'
  subst hw''
  have hbr := below_regrown w1 dq osq
  have HB2 := hid (HB1.out.trans (hbr.mono HB1.out.size))
  have HX2 := hid (HX1.out.below hbr)
  clear hbr y0 y1 y2 y3 y4 y5 y6 y7
  have y0 := HX2.out.at 0 0 rfl rfl
  have y1 := HX2.out.at 0 1 rfl rfl
  have y2 := HX2.out.at 0 2 rfl rfl
  have y3 := HX2.out.at 0 3 rfl rfl
  have y4 := HX2.out.at 0 4 rfl rfl
  have y5 := HX2.out.at 0 5 rfl rfl
  have y6 := HX2.out.at 0 6 rfl rfl
  have y7 := HX2.out.at 0 7 rfl rfl
  go_wp2_with fail
  refine (HVF.out _ HB2.out).mono ?_
  rintro e w3 ⟨rfl, hb⟩
  have HB3 := hid (HB2.out.trans (hb.mono HB2.out.size))
  clear hb y0 y1 y2 y3 y4 y5 y6 y7
  go_wp2_with fail
  go_ret
  exact ⟨ret_bool (by rw [HF.out, Bool.and_comm]), HB3.out⟩
set_option maxRecDepth 100000 in
set_option maxHeartbeats 2000000 in
theorem impl_node_11 (u1 : Int) (n1 : ByteArray) (tk1 : Int) (tn1 : ByteArray) (tks1 : List Ty) (ns1 : List ByteArray) (ks1 : List Tm) (atks1 : Option Addr) (ctks1 : Nat) (ans1 : Option Addr) (cns1 : Nat) (aks1 : Option Addr) (cks1 : Nat) (w : World) (hM : Tm.bulk (Tm.mk 11 u1 n1 (Ty.mk tk1 tn1 tks1) ns1 ks1) ≤ 1048576) (hr : RdS w (Tm.d (Tm.mk 11 u1 n1 (Ty.mk tk1 tn1 tks1) ns1 ks1)) [.int .i64 11, .int .i64 u1, .string n1, .int .i64 tk1, .string tn1, .slice atks1 tks1.length ctks1, .slice ans1 ns1.length cns1, .slice aks1 ks1.length cks1]) :
    Calls Tryz.prog 77 #[.agg #[.int .i64 11, .int .i64 u1, .string n1, .int .i64 tk1, .string tn1, .slice atks1 tks1.length ctks1, .slice ans1 ns1.length cns1, .slice aks1 ks1.length cks1]] w fun e w' => e = .returned (.bool (okTm 11 u1 n1 (Ty.mk tk1 tn1 tks1) ns1 ks1.length)) ∧ Below w.heap.size w w' := by
  have HE := hid (show okTm 11 u1 n1 (Ty.mk tk1 tn1 tks1) ns1 ks1.length = (inR ks1.length (3) (3) && (n1.toList.isEmpty && (tyNone (Ty.mk tk1 tn1 tks1) && (decide (ns1.length = 0) && decide (u1 = 0))))) from rfl)
  have hlen : ns1.length ≤ 1048576 := by have := Sr.bulks_length ns1; simp only [Tm.bulk] at hM; omega
  have hlk : ks1.length ≤ 1048576 := by have := Tm.bulks_length ks1; simp only [Tm.bulk] at hM; omega
  have hbt : Ty.bulk (Ty.mk tk1 tn1 tks1) ≤ 1048576 := by simp only [Tm.bulk] at hM; omega
  have HX0 := hid ((Boxes.nil w).alloc #[.int .i64 11, .int .i64 u1, .string n1, .int .i64 tk1, .string tn1, .slice atks1 tks1.length ctks1, .slice ans1 ns1.length cns1, .slice aks1 ks1.length cks1] 36 (0, 0))
  have hB : Below w.heap.size w (w.alloc (.cells #[.int .i64 11, .int .i64 u1, .string n1, .int .i64 tk1, .string tn1, .slice atks1 tks1.length ctks1, .slice ans1 ns1.length cns1, .slice aks1 ks1.length cks1] 36)) := (Below.refl w.heap.size w).alloc (Nat.le_refl _) _
  have htl := impl_isTypeless tk1 tn1 tks1 atks1 ctks1 (w.alloc (.cells #[.int .i64 11, .int .i64 u1, .string n1, .int .i64 tk1, .string tn1, .slice atks1 tks1.length ctks1, .slice ans1 ns1.length cns1, .slice aks1 ks1.length cks1] 36)) (hr.subTm_t.below hB)
  have HLO := hid (fun W d os => Calls.regrown_of (impl_IsLower n1 (grow (redrawn W d) os)))
  have HUP := hid (fun W d os => Calls.regrown_of (impl_IsUpper n1 (grow (redrawn W d) os)))
  have HB0 := hid hB
  clear hr hM hbt hB
  by_cases a1 : ns1.length = 0
  case neg =>
    have e1 : decide (0 < ns1.length) = true := decide_eq_true (by omega)
    have HF := hid (show okTm 11 u1 n1 (Ty.mk tk1 tn1 tks1) ns1 ks1.length = false by rw [HE.out]; rw [decide_eq_false a1]; simp)
    generalize tyNone (Ty.mk tk1 tn1 tks1) = pv at htl
    have HTL := hid htl
    clear HE htl a1
    go_enter Tryz.func77, Tryz.ntmps77
    go_wp2_with fail
    refine HTL.out.mono ?_
    rintro e w1 ⟨rfl, hb⟩
    have HB1 := hid (HB0.out.trans (hb.mono HB0.out.size))
    have HX1 := hid (HX0.out.below hb)
    clear hb HTL
    have y0 := HX1.out.at 0 0 rfl rfl
    have y1 := HX1.out.at 0 1 rfl rfl
    have y2 := HX1.out.at 0 2 rfl rfl
    have y3 := HX1.out.at 0 3 rfl rfl
    have y4 := HX1.out.at 0 4 rfl rfl
    have y5 := HX1.out.at 0 5 rfl rfl
    have y6 := HX1.out.at 0 6 rfl rfl
    have y7 := HX1.out.at 0 7 rfl rfl
    go_wp2_with fail
    go_ret
    exact ⟨ret_bool HF.out.symm, HB1.out⟩
  case pos =>
  have e1 : decide (0 < ns1.length) = false := decide_eq_false (by omega)
  by_cases a2 : tyNone (Ty.mk tk1 tn1 tks1) = true
  case neg =>
    replace a2 := (Bool.not_eq_true _).mp a2
    have HF := hid (show okTm 11 u1 n1 (Ty.mk tk1 tn1 tks1) ns1 ks1.length = false by rw [HE.out]; rw [a2]; simp)
    rw [a2] at htl
    have HTL := hid htl
    clear HE htl a1 a2
    go_enter Tryz.func77, Tryz.ntmps77
    go_wp2_with fail
    refine HTL.out.mono ?_
    rintro e w1 ⟨rfl, hb⟩
    have HB1 := hid (HB0.out.trans (hb.mono HB0.out.size))
    have HX1 := hid (HX0.out.below hb)
    clear hb HTL
    have y0 := HX1.out.at 0 0 rfl rfl
    have y1 := HX1.out.at 0 1 rfl rfl
    have y2 := HX1.out.at 0 2 rfl rfl
    have y3 := HX1.out.at 0 3 rfl rfl
    have y4 := HX1.out.at 0 4 rfl rfl
    have y5 := HX1.out.at 0 5 rfl rfl
    have y6 := HX1.out.at 0 6 rfl rfl
    have y7 := HX1.out.at 0 7 rfl rfl
    go_wp2_with fail
    go_ret
    exact ⟨ret_bool HF.out.symm, HB1.out⟩
  case pos =>
  rw [a2] at htl
  by_cases a3 : u1 = 0
  case neg =>
    have e3 : (u1 == 0) = false := by simp [a3]
    have HF := hid (show okTm 11 u1 n1 (Ty.mk tk1 tn1 tks1) ns1 ks1.length = false by rw [HE.out]; rw [decide_eq_false a3]; simp)
    have HTL := hid htl
    clear HE htl a1 a2 a3
    go_enter Tryz.func77, Tryz.ntmps77
    go_wp2_with fail
    refine HTL.out.mono ?_
    rintro e w1 ⟨rfl, hb⟩
    have HB1 := hid (HB0.out.trans (hb.mono HB0.out.size))
    have HX1 := hid (HX0.out.below hb)
    clear hb HTL
    have y0 := HX1.out.at 0 0 rfl rfl
    have y1 := HX1.out.at 0 1 rfl rfl
    have y2 := HX1.out.at 0 2 rfl rfl
    have y3 := HX1.out.at 0 3 rfl rfl
    have y4 := HX1.out.at 0 4 rfl rfl
    have y5 := HX1.out.at 0 5 rfl rfl
    have y6 := HX1.out.at 0 6 rfl rfl
    have y7 := HX1.out.at 0 7 rfl rfl
    go_wp2_with fail
    go_ret
    exact ⟨ret_bool HF.out.symm, HB1.out⟩
  case pos =>
  have e3 : (u1 == 0) = true := by simp [a3]
  by_cases a4 : n1.toList.isEmpty = true
  case neg =>
    replace a4 := (Bool.not_eq_true _).mp a4
    have e4 : (n1.toList == []) = false := by simpa [List.isEmpty_eq_false_iff] using a4
    have HF := hid (show okTm 11 u1 n1 (Ty.mk tk1 tn1 tks1) ns1 ks1.length = false by rw [HE.out]; rw [a4]; simp)
    have HTL := hid htl
    clear HE htl a1 a2 a3 a4
    go_enter Tryz.func77, Tryz.ntmps77
    go_wp2_with fail
    refine HTL.out.mono ?_
    rintro e w1 ⟨rfl, hb⟩
    have HB1 := hid (HB0.out.trans (hb.mono HB0.out.size))
    have HX1 := hid (HX0.out.below hb)
    clear hb HTL
    have y0 := HX1.out.at 0 0 rfl rfl
    have y1 := HX1.out.at 0 1 rfl rfl
    have y2 := HX1.out.at 0 2 rfl rfl
    have y3 := HX1.out.at 0 3 rfl rfl
    have y4 := HX1.out.at 0 4 rfl rfl
    have y5 := HX1.out.at 0 5 rfl rfl
    have y6 := HX1.out.at 0 6 rfl rfl
    have y7 := HX1.out.at 0 7 rfl rfl
    go_wp2_with fail
    clear y0 y1 y2 y3 y4 y5 y6 y7
    have y0 := cell_regrown (HX1.out.at 0 0 rfl rfl)
    have y1 := cell_regrown (HX1.out.at 0 1 rfl rfl)
    have y2 := cell_regrown (HX1.out.at 0 2 rfl rfl)
    have y3 := cell_regrown (HX1.out.at 0 3 rfl rfl)
    have y4 := cell_regrown (HX1.out.at 0 4 rfl rfl)
    have y5 := cell_regrown (HX1.out.at 0 5 rfl rfl)
    have y6 := cell_regrown (HX1.out.at 0 6 rfl rfl)
    have y7 := cell_regrown (HX1.out.at 0 7 rfl rfl)
    refine wp_region_quiet_below (by kernel_rfl) (by kernel_rfl) ?_
    repeat (go_big_quiet_step (first | exact HLO.out _ _ _ | exact HUP.out _ _ _))
    refine wpQuiet_nil ?_
    intro _ hw'
    obtain ⟨⟨dq, osq⟩, hw''⟩ := hw'
    subst hw''
    have hbr := below_regrown w1 dq osq
    have HB2 := hid (HB1.out.trans (hbr.mono HB1.out.size))
    have HX2 := hid (HX1.out.below hbr)
    clear hbr y0 y1 y2 y3 y4 y5 y6 y7
    have y0 := HX2.out.at 0 0 rfl rfl
    have y1 := HX2.out.at 0 1 rfl rfl
    have y2 := HX2.out.at 0 2 rfl rfl
    have y3 := HX2.out.at 0 3 rfl rfl
    have y4 := HX2.out.at 0 4 rfl rfl
    have y5 := HX2.out.at 0 5 rfl rfl
    have y6 := HX2.out.at 0 6 rfl rfl
    have y7 := HX2.out.at 0 7 rfl rfl
    go_wp2_with fail
    go_ret
    exact ⟨ret_bool HF.out.symm, HB2.out⟩
  case pos =>
  have e4 : (n1.toList == []) = true := by simpa [List.isEmpty_iff] using a4
  by_cases a5 : ks1.length = 3
  case neg =>
    have e5 : ((ks1.length : Int) == 3) = false := beq_eq_false_iff_ne.2 (by omega)
    have HF := hid (show okTm 11 u1 n1 (Ty.mk tk1 tn1 tks1) ns1 ks1.length = false by rw [HE.out]; rw [inR_f (by omega)]; simp)
    have HTL := hid htl
    clear HE htl a1 a2 a3 a4 a5
    go_enter Tryz.func77, Tryz.ntmps77
    go_wp2_with fail
    refine HTL.out.mono ?_
    rintro e w1 ⟨rfl, hb⟩
    have HB1 := hid (HB0.out.trans (hb.mono HB0.out.size))
    have HX1 := hid (HX0.out.below hb)
    clear hb HTL
    have y0 := HX1.out.at 0 0 rfl rfl
    have y1 := HX1.out.at 0 1 rfl rfl
    have y2 := HX1.out.at 0 2 rfl rfl
    have y3 := HX1.out.at 0 3 rfl rfl
    have y4 := HX1.out.at 0 4 rfl rfl
    have y5 := HX1.out.at 0 5 rfl rfl
    have y6 := HX1.out.at 0 6 rfl rfl
    have y7 := HX1.out.at 0 7 rfl rfl
    go_wp2_with fail
    clear y0 y1 y2 y3 y4 y5 y6 y7
    have y0 := cell_regrown (HX1.out.at 0 0 rfl rfl)
    have y1 := cell_regrown (HX1.out.at 0 1 rfl rfl)
    have y2 := cell_regrown (HX1.out.at 0 2 rfl rfl)
    have y3 := cell_regrown (HX1.out.at 0 3 rfl rfl)
    have y4 := cell_regrown (HX1.out.at 0 4 rfl rfl)
    have y5 := cell_regrown (HX1.out.at 0 5 rfl rfl)
    have y6 := cell_regrown (HX1.out.at 0 6 rfl rfl)
    have y7 := cell_regrown (HX1.out.at 0 7 rfl rfl)
    refine wp_region_quiet_below (by kernel_rfl) (by kernel_rfl) ?_
    repeat (go_big_quiet_step (first | exact HLO.out _ _ _ | exact HUP.out _ _ _))
    refine wpQuiet_nil ?_
    intro _ hw'
    obtain ⟨⟨dq, osq⟩, hw''⟩ := hw'
    subst hw''
    have hbr := below_regrown w1 dq osq
    have HB2 := hid (HB1.out.trans (hbr.mono HB1.out.size))
    have HX2 := hid (HX1.out.below hbr)
    clear hbr y0 y1 y2 y3 y4 y5 y6 y7
    have y0 := HX2.out.at 0 0 rfl rfl
    have y1 := HX2.out.at 0 1 rfl rfl
    have y2 := HX2.out.at 0 2 rfl rfl
    have y3 := HX2.out.at 0 3 rfl rfl
    have y4 := HX2.out.at 0 4 rfl rfl
    have y5 := HX2.out.at 0 5 rfl rfl
    have y6 := HX2.out.at 0 6 rfl rfl
    have y7 := HX2.out.at 0 7 rfl rfl
    go_wp2_with fail
    go_ret
    exact ⟨ret_bool HF.out.symm, HB2.out⟩
  case pos =>
  have e5 : ((ks1.length : Int) == 3) = true := beq_iff_eq.2 (by omega)
  have HF := hid (show okTm 11 u1 n1 (Ty.mk tk1 tn1 tks1) ns1 ks1.length = true by rw [HE.out]; rw [inR_t (by omega) (by omega), a4, a2, decide_eq_true a1, decide_eq_true a3]; simp)
  have HTL := hid htl
  clear HE htl a1 a2 a3 a4 a5
  go_enter Tryz.func77, Tryz.ntmps77
  go_wp2_with fail
  refine HTL.out.mono ?_
  rintro e w1 ⟨rfl, hb⟩
  have HB1 := hid (HB0.out.trans (hb.mono HB0.out.size))
  have HX1 := hid (HX0.out.below hb)
  clear hb HTL
  have y0 := HX1.out.at 0 0 rfl rfl
  have y1 := HX1.out.at 0 1 rfl rfl
  have y2 := HX1.out.at 0 2 rfl rfl
  have y3 := HX1.out.at 0 3 rfl rfl
  have y4 := HX1.out.at 0 4 rfl rfl
  have y5 := HX1.out.at 0 5 rfl rfl
  have y6 := HX1.out.at 0 6 rfl rfl
  have y7 := HX1.out.at 0 7 rfl rfl
  go_wp2_with fail
  clear y0 y1 y2 y3 y4 y5 y6 y7
  have y0 := cell_regrown (HX1.out.at 0 0 rfl rfl)
  have y1 := cell_regrown (HX1.out.at 0 1 rfl rfl)
  have y2 := cell_regrown (HX1.out.at 0 2 rfl rfl)
  have y3 := cell_regrown (HX1.out.at 0 3 rfl rfl)
  have y4 := cell_regrown (HX1.out.at 0 4 rfl rfl)
  have y5 := cell_regrown (HX1.out.at 0 5 rfl rfl)
  have y6 := cell_regrown (HX1.out.at 0 6 rfl rfl)
  have y7 := cell_regrown (HX1.out.at 0 7 rfl rfl)
  refine wp_region_quiet_below (by kernel_rfl) (by kernel_rfl) ?_
  repeat (go_big_quiet_step (first | exact HLO.out _ _ _ | exact HUP.out _ _ _))
  refine wpQuiet_nil ?_
  intro _ hw'
  obtain ⟨⟨dq, osq⟩, hw''⟩ := hw'
  subst hw''
  have hbr := below_regrown w1 dq osq
  have HB2 := hid (HB1.out.trans (hbr.mono HB1.out.size))
  have HX2 := hid (HX1.out.below hbr)
  clear hbr y0 y1 y2 y3 y4 y5 y6 y7
  have y0 := HX2.out.at 0 0 rfl rfl
  have y1 := HX2.out.at 0 1 rfl rfl
  have y2 := HX2.out.at 0 2 rfl rfl
  have y3 := HX2.out.at 0 3 rfl rfl
  have y4 := HX2.out.at 0 4 rfl rfl
  have y5 := HX2.out.at 0 5 rfl rfl
  have y6 := HX2.out.at 0 6 rfl rfl
  have y7 := HX2.out.at 0 7 rfl rfl
  go_wp2_with fail
  go_ret
  exact ⟨ret_bool HF.out.symm, HB2.out⟩
set_option maxRecDepth 100000 in
set_option maxHeartbeats 2000000 in
theorem impl_node_o (k1 : Int) (u1 : Int) (n1 : ByteArray) (tk1 : Int) (tn1 : ByteArray) (tks1 : List Ty) (ns1 : List ByteArray) (ks1 : List Tm) (atks1 : Option Addr) (ctks1 : Nat) (ans1 : Option Addr) (cns1 : Nat) (aks1 : Option Addr) (cks1 : Nat) (g1 : (k1 == 1) = false) (f1 : k1 ≠ 1) (g2 : (k1 == 2) = false) (f2 : k1 ≠ 2) (g3 : (k1 == 3) = false) (f3 : k1 ≠ 3) (g4 : (k1 == 4) = false) (f4 : k1 ≠ 4) (g5 : (k1 == 5) = false) (f5 : k1 ≠ 5) (g6 : (k1 == 6) = false) (f6 : k1 ≠ 6) (g7 : (k1 == 7) = false) (f7 : k1 ≠ 7) (g8 : (k1 == 8) = false) (f8 : k1 ≠ 8) (g9 : (k1 == 9) = false) (f9 : k1 ≠ 9) (g10 : (k1 == 10) = false) (f10 : k1 ≠ 10) (g11 : (k1 == 11) = false) (f11 : k1 ≠ 11) (w : World) (hM : Tm.bulk (Tm.mk k1 u1 n1 (Ty.mk tk1 tn1 tks1) ns1 ks1) ≤ 1048576) (hr : RdS w (Tm.d (Tm.mk k1 u1 n1 (Ty.mk tk1 tn1 tks1) ns1 ks1)) [.int .i64 k1, .int .i64 u1, .string n1, .int .i64 tk1, .string tn1, .slice atks1 tks1.length ctks1, .slice ans1 ns1.length cns1, .slice aks1 ks1.length cks1]) :
    Calls Tryz.prog 77 #[.agg #[.int .i64 k1, .int .i64 u1, .string n1, .int .i64 tk1, .string tn1, .slice atks1 tks1.length ctks1, .slice ans1 ns1.length cns1, .slice aks1 ks1.length cks1]] w fun e w' => e = .returned (.bool (okTm k1 u1 n1 (Ty.mk tk1 tn1 tks1) ns1 ks1.length)) ∧ Below w.heap.size w w' := by
  have HE := hid (show okTm k1 u1 n1 (Ty.mk tk1 tn1 tks1) ns1 ks1.length = false from by rw [okTm, show tmN k1 = (0, -1) from by simp [tmN, f1, f2, f3, f4, f5, f6, f7, f8, f9, f10, f11]]; simp [inR]; omega)
  have m2 : (k1 != 2) = true := by simp [f2]
  have m3 : (k1 != 3) = true := by simp [f3]
  have m4 : (k1 != 4) = true := by simp [f4]
  have m10 : (k1 != 10) = true := by simp [f10]
  clear f1 f2 f3 f4 f5 f6 f7 f8 f9 f10 f11
  have hlen : ns1.length ≤ 1048576 := by have := Sr.bulks_length ns1; simp only [Tm.bulk] at hM; omega
  have hlk : ks1.length ≤ 1048576 := by have := Tm.bulks_length ks1; simp only [Tm.bulk] at hM; omega
  have hbt : Ty.bulk (Ty.mk tk1 tn1 tks1) ≤ 1048576 := by simp only [Tm.bulk] at hM; omega
  have HX0 := hid ((Boxes.nil w).alloc #[.int .i64 k1, .int .i64 u1, .string n1, .int .i64 tk1, .string tn1, .slice atks1 tks1.length ctks1, .slice ans1 ns1.length cns1, .slice aks1 ks1.length cks1] 36 (0, 0))
  have hB : Below w.heap.size w (w.alloc (.cells #[.int .i64 k1, .int .i64 u1, .string n1, .int .i64 tk1, .string tn1, .slice atks1 tks1.length ctks1, .slice ans1 ns1.length cns1, .slice aks1 ks1.length cks1] 36)) := (Below.refl w.heap.size w).alloc (Nat.le_refl _) _
  have htl := impl_isTypeless tk1 tn1 tks1 atks1 ctks1 (w.alloc (.cells #[.int .i64 k1, .int .i64 u1, .string n1, .int .i64 tk1, .string tn1, .slice atks1 tks1.length ctks1, .slice ans1 ns1.length cns1, .slice aks1 ks1.length cks1] 36)) (hr.subTm_t.below hB)
  have HLO := hid (fun W d os => Calls.regrown_of (impl_IsLower n1 (grow (redrawn W d) os)))
  have HUP := hid (fun W d os => Calls.regrown_of (impl_IsUpper n1 (grow (redrawn W d) os)))
  have HB0 := hid hB
  clear hr hM hbt hB
  by_cases a1 : ns1.length = 0
  case neg =>
    have e1 : decide (0 < ns1.length) = true := decide_eq_true (by omega)
    have HF := hid HE.out
    generalize tyNone (Ty.mk tk1 tn1 tks1) = pv at htl
    have HTL := hid htl
    clear HE htl a1
    go_enter Tryz.func77, Tryz.ntmps77
    go_wp2_with fail
    refine HTL.out.mono ?_
    rintro e w1 ⟨rfl, hb⟩
    have HB1 := hid (HB0.out.trans (hb.mono HB0.out.size))
    have HX1 := hid (HX0.out.below hb)
    clear hb HTL
    have y0 := HX1.out.at 0 0 rfl rfl
    have y1 := HX1.out.at 0 1 rfl rfl
    have y2 := HX1.out.at 0 2 rfl rfl
    have y3 := HX1.out.at 0 3 rfl rfl
    have y4 := HX1.out.at 0 4 rfl rfl
    have y5 := HX1.out.at 0 5 rfl rfl
    have y6 := HX1.out.at 0 6 rfl rfl
    have y7 := HX1.out.at 0 7 rfl rfl
    go_wp2_with fail
    go_ret
    exact ⟨ret_bool HF.out.symm, HB1.out⟩
  case pos =>
  have e1 : decide (0 < ns1.length) = false := decide_eq_false (by omega)
  by_cases a2 : tyNone (Ty.mk tk1 tn1 tks1) = true
  case neg =>
    replace a2 := (Bool.not_eq_true _).mp a2
    have HF := hid HE.out
    rw [a2] at htl
    have HTL := hid htl
    clear HE htl a1 a2
    go_enter Tryz.func77, Tryz.ntmps77
    go_wp2_with fail
    refine HTL.out.mono ?_
    rintro e w1 ⟨rfl, hb⟩
    have HB1 := hid (HB0.out.trans (hb.mono HB0.out.size))
    have HX1 := hid (HX0.out.below hb)
    clear hb HTL
    have y0 := HX1.out.at 0 0 rfl rfl
    have y1 := HX1.out.at 0 1 rfl rfl
    have y2 := HX1.out.at 0 2 rfl rfl
    have y3 := HX1.out.at 0 3 rfl rfl
    have y4 := HX1.out.at 0 4 rfl rfl
    have y5 := HX1.out.at 0 5 rfl rfl
    have y6 := HX1.out.at 0 6 rfl rfl
    have y7 := HX1.out.at 0 7 rfl rfl
    go_wp2_with fail
    go_ret
    exact ⟨ret_bool HF.out.symm, HB1.out⟩
  case pos =>
  rw [a2] at htl
  by_cases a3 : u1 = 0
  case neg =>
    have e3 : (u1 == 0) = false := by simp [a3]
    have HF := hid HE.out
    have HTL := hid htl
    clear HE htl a1 a2 a3
    go_enter Tryz.func77, Tryz.ntmps77
    go_wp2_with fail
    refine HTL.out.mono ?_
    rintro e w1 ⟨rfl, hb⟩
    have HB1 := hid (HB0.out.trans (hb.mono HB0.out.size))
    have HX1 := hid (HX0.out.below hb)
    clear hb HTL
    have y0 := HX1.out.at 0 0 rfl rfl
    have y1 := HX1.out.at 0 1 rfl rfl
    have y2 := HX1.out.at 0 2 rfl rfl
    have y3 := HX1.out.at 0 3 rfl rfl
    have y4 := HX1.out.at 0 4 rfl rfl
    have y5 := HX1.out.at 0 5 rfl rfl
    have y6 := HX1.out.at 0 6 rfl rfl
    have y7 := HX1.out.at 0 7 rfl rfl
    go_wp2_with fail
    go_ret
    exact ⟨ret_bool HF.out.symm, HB1.out⟩
  case pos =>
  have e3 : (u1 == 0) = true := by simp [a3]
  have HF := hid HE.out
  have HTL := hid htl
  clear HE htl a1 a2 a3
  go_enter Tryz.func77, Tryz.ntmps77
  go_wp2_with fail
  refine HTL.out.mono ?_
  rintro e w1 ⟨rfl, hb⟩
  have HB1 := hid (HB0.out.trans (hb.mono HB0.out.size))
  have HX1 := hid (HX0.out.below hb)
  clear hb HTL
  have y0 := HX1.out.at 0 0 rfl rfl
  have y1 := HX1.out.at 0 1 rfl rfl
  have y2 := HX1.out.at 0 2 rfl rfl
  have y3 := HX1.out.at 0 3 rfl rfl
  have y4 := HX1.out.at 0 4 rfl rfl
  have y5 := HX1.out.at 0 5 rfl rfl
  have y6 := HX1.out.at 0 6 rfl rfl
  have y7 := HX1.out.at 0 7 rfl rfl
  go_wp2_with fail
  clear y0 y1 y2 y3 y4 y5 y6 y7
  have y0 := cell_regrown (HX1.out.at 0 0 rfl rfl)
  have y1 := cell_regrown (HX1.out.at 0 1 rfl rfl)
  have y2 := cell_regrown (HX1.out.at 0 2 rfl rfl)
  have y3 := cell_regrown (HX1.out.at 0 3 rfl rfl)
  have y4 := cell_regrown (HX1.out.at 0 4 rfl rfl)
  have y5 := cell_regrown (HX1.out.at 0 5 rfl rfl)
  have y6 := cell_regrown (HX1.out.at 0 6 rfl rfl)
  have y7 := cell_regrown (HX1.out.at 0 7 rfl rfl)
  refine wp_region_quiet_below (by kernel_rfl) (by kernel_rfl) ?_
  repeat (go_big_quiet_step (first | exact HLO.out _ _ _ | exact HUP.out _ _ _))
  refine wpQuiet_nil ?_
  intro _ hw'
  obtain ⟨⟨dq, osq⟩, hw''⟩ := hw'
  subst hw''
  have hbr := below_regrown w1 dq osq
  have HB2 := hid (HB1.out.trans (hbr.mono HB1.out.size))
  have HX2 := hid (HX1.out.below hbr)
  clear hbr y0 y1 y2 y3 y4 y5 y6 y7
  have y0 := HX2.out.at 0 0 rfl rfl
  have y1 := HX2.out.at 0 1 rfl rfl
  have y2 := HX2.out.at 0 2 rfl rfl
  have y3 := HX2.out.at 0 3 rfl rfl
  have y4 := HX2.out.at 0 4 rfl rfl
  have y5 := HX2.out.at 0 5 rfl rfl
  have y6 := HX2.out.at 0 6 rfl rfl
  have y7 := HX2.out.at 0 7 rfl rfl
  go_wp2_with fail
  go_ret
  exact ⟨ret_bool HF.out.symm, HB2.out⟩
theorem impl_validNode (k1 : Int) (u1 : Int) (n1 : ByteArray) (tk1 : Int) (tn1 : ByteArray) (tks1 : List Ty) (ns1 : List ByteArray) (ks1 : List Tm) (atks1 : Option Addr) (ctks1 : Nat) (ans1 : Option Addr) (cns1 : Nat) (aks1 : Option Addr) (cks1 : Nat) (w : World) (hM : Tm.bulk (Tm.mk k1 u1 n1 (Ty.mk tk1 tn1 tks1) ns1 ks1) ≤ 1048576) (hr : RdS w (Tm.d (Tm.mk k1 u1 n1 (Ty.mk tk1 tn1 tks1) ns1 ks1)) [.int .i64 k1, .int .i64 u1, .string n1, .int .i64 tk1, .string tn1, .slice atks1 tks1.length ctks1, .slice ans1 ns1.length cns1, .slice aks1 ks1.length cks1]) :
    Calls Tryz.prog 77 #[.agg #[.int .i64 k1, .int .i64 u1, .string n1, .int .i64 tk1, .string tn1, .slice atks1 tks1.length ctks1, .slice ans1 ns1.length cns1, .slice aks1 ks1.length cks1]] w fun e w' => e = .returned (.bool (okTm k1 u1 n1 (Ty.mk tk1 tn1 tks1) ns1 ks1.length)) ∧ Below w.heap.size w w' := by
  by_cases h1 : k1 = 1
  · subst h1
    exact impl_node_1 u1 n1 tk1 tn1 tks1 ns1 ks1 atks1 ctks1 ans1 cns1 aks1 cks1 w hM hr
  by_cases h2 : k1 = 2
  · subst h2
    exact impl_node_2 u1 n1 tk1 tn1 tks1 ns1 ks1 atks1 ctks1 ans1 cns1 aks1 cks1 w hM hr
  by_cases h3 : k1 = 3
  · subst h3
    exact impl_node_3 u1 n1 tk1 tn1 tks1 ns1 ks1 atks1 ctks1 ans1 cns1 aks1 cks1 w hM hr
  by_cases h4 : k1 = 4
  · subst h4
    exact impl_node_4 u1 n1 tk1 tn1 tks1 ns1 ks1 atks1 ctks1 ans1 cns1 aks1 cks1 w hM hr
  by_cases h5 : k1 = 5
  · subst h5
    exact impl_node_5 u1 n1 tk1 tn1 tks1 ns1 ks1 atks1 ctks1 ans1 cns1 aks1 cks1 w hM hr
  by_cases h6 : k1 = 6
  · subst h6
    exact impl_node_6 u1 n1 tk1 tn1 tks1 ns1 ks1 atks1 ctks1 ans1 cns1 aks1 cks1 w hM hr
  by_cases h7 : k1 = 7
  · subst h7
    exact impl_node_7 u1 n1 tk1 tn1 tks1 ns1 ks1 atks1 ctks1 ans1 cns1 aks1 cks1 w hM hr
  by_cases h8 : k1 = 8
  · subst h8
    exact impl_node_8 u1 n1 tk1 tn1 tks1 ns1 ks1 atks1 ctks1 ans1 cns1 aks1 cks1 w hM hr
  by_cases h9 : k1 = 9
  · subst h9
    exact impl_node_9 u1 n1 tk1 tn1 tks1 ns1 ks1 atks1 ctks1 ans1 cns1 aks1 cks1 w hM hr
  by_cases h10 : k1 = 10
  · subst h10
    exact impl_node_10 u1 n1 tk1 tn1 tks1 ns1 ks1 atks1 ctks1 ans1 cns1 aks1 cks1 w hM hr
  by_cases h11 : k1 = 11
  · subst h11
    exact impl_node_11 u1 n1 tk1 tn1 tks1 ns1 ks1 atks1 ctks1 ans1 cns1 aks1 cks1 w hM hr
  exact impl_node_o k1 u1 n1 tk1 tn1 tks1 ns1 ks1 atks1 ctks1 ans1 cns1 aks1 cks1 (by simp [h1]) h1 (by simp [h2]) h2 (by simp [h3]) h3 (by simp [h4]) h4 (by simp [h5]) h5 (by simp [h6]) h6 (by simp [h7]) h7 (by simp [h8]) h8 (by simp [h9]) h9 (by simp [h10]) h10 (by simp [h11]) h11 w hM hr
end Go.Proofs.YtikhofcjkcbpbaaGreatDoor
