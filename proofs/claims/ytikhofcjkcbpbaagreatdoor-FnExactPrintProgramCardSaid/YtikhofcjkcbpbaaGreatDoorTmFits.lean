/- Walks: ValidTerm and TermSize, in the program. -/
import Derived.Test.YtikhofcjkcbpbaaGreatDoorTmShape
import Derived.Test.YtikhofcjkcbpbaaGreatDoorTmValid
namespace Go.Proofs.YtikhofcjkcbpbaaGreatDoor
open Go.ChangeShapes Go.WideShapes Go.ChangeAt Go.RowKit
set_option linter.unusedVariables false

theorem impl_ValidTerm (k1 : Int) (u1 : Int) (n1 : ByteArray) (tk1 : Int) (tn1 : ByteArray) (tks1 : List Ty) (ns1 : List ByteArray) (ks1 : List Tm) (atks1 : Option Addr) (ctks1 : Nat) (ans1 : Option Addr) (cns1 : Nat) (aks1 : Option Addr) (cks1 : Nat) (w : World) (hM : Tm.bulk (Tm.mk k1 u1 n1 (Ty.mk tk1 tn1 tks1) ns1 ks1) ≤ 1048576) (hr : RdS w (Tm.d (Tm.mk k1 u1 n1 (Ty.mk tk1 tn1 tks1) ns1 ks1)) [.int .i64 k1, .int .i64 u1, .string n1, .int .i64 tk1, .string tn1, .slice atks1 tks1.length ctks1, .slice ans1 ns1.length cns1, .slice aks1 ks1.length cks1]) :
    Calls Tryz.prog 23 #[.agg #[.int .i64 k1, .int .i64 u1, .string n1, .int .i64 tk1, .string tn1, .slice atks1 tks1.length ctks1, .slice ans1 ns1.length cns1, .slice aks1 ks1.length cks1]] w fun e w' => e = .returned (.bool (Tm.ok (Tm.mk k1 u1 n1 (Ty.mk tk1 tn1 tks1) ns1 ks1))) ∧ Below w.heap.size w w' := by
  have hB := (Below.refl w.heap.size w).alloc (Nat.le_refl _) (.cells #[.int .i64 k1, .int .i64 u1, .string n1, .int .i64 tk1, .string tn1, .slice atks1 tks1.length ctks1, .slice ans1 ns1.length cns1, .slice aks1 ks1.length cks1] 36)
  have hc := impl_termShape k1 u1 n1 tk1 tn1 tks1 ns1 ks1 atks1 ctks1 ans1 cns1 aks1 cks1 (w.alloc (.cells #[.int .i64 k1, .int .i64 u1, .string n1, .int .i64 tk1, .string tn1, .slice atks1 tks1.length ctks1, .slice ans1 ns1.length cns1, .slice aks1 ks1.length cks1] 36)) hM (hr.below hB)
  have HX0 := hid ((Boxes.nil w).alloc #[.int .i64 k1, .int .i64 u1, .string n1, .int .i64 tk1, .string tn1, .slice atks1 tks1.length ctks1, .slice ans1 ns1.length cns1, .slice aks1 ks1.length cks1] 36 (0, 0))
  have HB0 := hid hB
  have HE := hid (show Tm.ok (Tm.mk k1 u1 n1 (Ty.mk tk1 tn1 tks1) ns1 ks1) = (Tm.good (Tm.mk k1 u1 n1 (Ty.mk tk1 tn1 tks1) ns1 ks1) && (!(k1 == 10) && (decide (Tm.dep (Tm.mk k1 u1 n1 (Ty.mk tk1 tn1 tks1) ns1 ks1) ≤ 24) && decide (Tm.cnt (Tm.mk k1 u1 n1 (Ty.mk tk1 tn1 tks1) ns1 ks1) ≤ 160)))) by rw [Tm.ok, Tm.isCase_mk])
  have hcl := Tm.cnt_le (Tm.mk k1 u1 n1 (Ty.mk tk1 tn1 tks1) ns1 ks1)
  have hdl := Tm.dep_le (Tm.mk k1 u1 n1 (Ty.mk tk1 tn1 tks1) ns1 ks1)
  by_cases hg : Tm.good (Tm.mk k1 u1 n1 (Ty.mk tk1 tn1 tks1) ns1 ks1) = true
  case neg =>
    rw [tmShapeV_no hg] at hc
    have HF := hid (show Tm.ok (Tm.mk k1 u1 n1 (Ty.mk tk1 tn1 tks1) ns1 ks1) = false by rw [HE.out, (Bool.not_eq_true _).mp hg]; rfl)
    have HC := hid hc
    clear hc hg hM hr hB HE hcl hdl
    go_enter Tryz.func23, Tryz.ntmps23
    go_wp2_with fail
    refine HC.out.mono ?_
    rintro e w1 ⟨rfl, hb⟩
    have HB1 := hid (HB0.out.trans (hb.mono HB0.out.size))
    clear hb
    go_wp2_with fail
    go_ret
    exact ⟨ret_bool HF.out.symm, HB1.out⟩
  case pos =>
    rw [tmShapeV_yes hg] at hc
    have HF := hid (show Tm.ok (Tm.mk k1 u1 n1 (Ty.mk tk1 tn1 tks1) ns1 ks1) = (!(k1 == 10) && (decide (Tm.dep (Tm.mk k1 u1 n1 (Ty.mk tk1 tn1 tks1) ns1 ks1) ≤ 24) && decide (Tm.cnt (Tm.mk k1 u1 n1 (Ty.mk tk1 tn1 tks1) ns1 ks1) ≤ 160))) by rw [HE.out, hg]; rfl)
    generalize Tm.dep (Tm.mk k1 u1 n1 (Ty.mk tk1 tn1 tks1) ns1 ks1) = dd at hc HF hdl
    generalize Tm.cnt (Tm.mk k1 u1 n1 (Ty.mk tk1 tn1 tks1) ns1 ks1) = cc at hc HF hdl hcl
    have HC := hid hc
    clear hc hg hM hr hB HE hcl hdl
    by_cases hk : k1 = 10
    case pos =>
      have g10 : (k1 != 10) = false := by simp [hk]
      have HG := hid (show Tm.ok (Tm.mk k1 u1 n1 (Ty.mk tk1 tn1 tks1) ns1 ks1) = false by rw [HF.out]; simp [hk])
      clear hk
      go_enter Tryz.func23, Tryz.ntmps23
      go_wp2_with fail
      refine HC.out.mono ?_
      rintro e w1 ⟨rfl, hb⟩
      have HB1 := hid (HB0.out.trans (hb.mono HB0.out.size))
      have g0 := (HX0.out.below hb).at 0 0 rfl rfl
      clear hb
      go_wp2_with fail
      go_ret
      exact ⟨ret_bool HG.out.symm, HB1.out⟩
    case neg =>
      have g10 : (k1 != 10) = true := by simp [hk]
      by_cases hd : dd ≤ 24
      case neg =>
        have gd : decide ((dd : Int) ≤ 24) = false := decide_eq_false (by omega)
        have HG := hid (show Tm.ok (Tm.mk k1 u1 n1 (Ty.mk tk1 tn1 tks1) ns1 ks1) = false by rw [HF.out]; simp [hd])
        clear hk hd
        go_enter Tryz.func23, Tryz.ntmps23
        go_wp2_with fail
        refine HC.out.mono ?_
        rintro e w1 ⟨rfl, hb⟩
        have HB1 := hid (HB0.out.trans (hb.mono HB0.out.size))
        have g0 := (HX0.out.below hb).at 0 0 rfl rfl
        clear hb
        go_wp2_with fail
        go_ret
        exact ⟨ret_bool HG.out.symm, HB1.out⟩
      case pos =>
        have gd : decide ((dd : Int) ≤ 24) = true := decide_eq_true (by omega)
        by_cases hc : cc ≤ 160
        case neg =>
          have gc : decide ((cc : Int) ≤ 160) = false := decide_eq_false (by omega)
          have HG := hid (show Tm.ok (Tm.mk k1 u1 n1 (Ty.mk tk1 tn1 tks1) ns1 ks1) = false by rw [HF.out]; simp [hc])
          clear hk hd hc
          go_enter Tryz.func23, Tryz.ntmps23
          go_wp2_with fail
          refine HC.out.mono ?_
          rintro e w1 ⟨rfl, hb⟩
          have HB1 := hid (HB0.out.trans (hb.mono HB0.out.size))
          have g0 := (HX0.out.below hb).at 0 0 rfl rfl
          clear hb
          go_wp2_with fail
          go_ret
          exact ⟨ret_bool HG.out.symm, HB1.out⟩
        case pos =>
          have gc : decide ((cc : Int) ≤ 160) = true := decide_eq_true (by omega)
          have HG := hid (show Tm.ok (Tm.mk k1 u1 n1 (Ty.mk tk1 tn1 tks1) ns1 ks1) = true by rw [HF.out]; simp [hc, hd, hk])
          clear hk hd hc
          go_enter Tryz.func23, Tryz.ntmps23
          go_wp2_with fail
          refine HC.out.mono ?_
          rintro e w1 ⟨rfl, hb⟩
          have HB1 := hid (HB0.out.trans (hb.mono HB0.out.size))
          have g0 := (HX0.out.below hb).at 0 0 rfl rfl
          clear hb
          go_wp2_with fail
          go_ret
          exact ⟨ret_bool HG.out.symm, HB1.out⟩
end Go.Proofs.YtikhofcjkcbpbaaGreatDoor
