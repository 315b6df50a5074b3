/- Walks: CoreText, whole, in both. No condition. -/
import Derived.Test.YtikhofcjkcbpbaaDoorTxS
import Derived.Test.YtikhofcjkcbpbaaDoorTxI
import Derived.Test.YtikhofcjkcbpbaaDoorCoValid
import Derived.Test.YtikhofcjkcbpbaaDoorCoFits
namespace Go.Proofs.YtikhofcjkcbpbaaDoor
open Go.ChangeShapes Go.WideShapes Go.ChangeAt Go.RowKit Go.BigFrame
open Go.Sort (grow)
set_option linter.unusedVariables false

set_option maxRecDepth 100000 in
theorem spec_CoreText (k1 : Int) (v1 : Int) (ds1 : List Int) (ks1 : List Co) (ads1 : Option Addr) (cds1 : Nat) (aks1 : Option Addr) (cks1 : Nat) (w : World) (hM : Co.bulk (Co.mk k1 v1 ds1 ks1) ≤ 1048576) (hr : RdS w (Co.d (Co.mk k1 v1 ds1 ks1)) [.int .i64 k1, .int .i64 v1, .slice ads1 ds1.length cds1, .slice aks1 ks1.length cks1]) :
    Calls Tryd.prog 12 #[.agg #[.int .i64 k1, .int .i64 v1, .slice ads1 ds1.length cds1, .slice aks1 ks1.length cks1]] w fun e w' => e = .returned (.string (coText (Co.mk k1 v1 ds1 ks1))) ∧ Below w.heap.size w w' := by
  have HX0 := hid ((Boxes.nil w).alloc #[.int .i64 k1, .int .i64 v1, .slice ads1 ds1.length cds1, .slice aks1 ks1.length cks1] 35 (0, 0))
  have hB := (Below.refl w.heap.size w).alloc (Nat.le_refl _) (.cells #[.int .i64 k1, .int .i64 v1, .slice ads1 ds1.length cds1, .slice aks1 ks1.length cks1] 35)
  have HB := hid hB
  have HR := hid hr
  have HM := hid hM
  have HV := hid (spec_l06Ok k1 v1 ds1 ks1 ads1 cds1 aks1 cks1 w.heap.size 0 _ hM (HX0.out.at 0 0 rfl rfl) (HX0.out.at 0 1 rfl rfl) (HX0.out.at 0 2 rfl rfl) (HX0.out.at 0 3 rfl rfl) (hr.below hB))
  by_cases hok : Co.ok (Co.mk k1 v1 ds1 ks1) = true
  case neg =>
    have hf := (Bool.not_eq_true _).mp hok
    rw [hf] at HV
    have ht : coText (Co.mk k1 v1 ds1 ks1) = ⟨#[]⟩ := by simp [coText, hf]
    rw [ht]
    clear ht hf hok hr hM hB
    go_enter Tryd.func12, Tryd.ntmps12
    go_wp2_with fail
    refine HV.out.mono ?_
    rintro e w1 ⟨rfl, hb⟩
    have HB1 := hid (HB.out.trans (hb.mono HB.out.size))
    clear hb
    go_wp2_with fail
    go_ret
    exact ⟨rfl, HB1.out⟩
  case pos =>
    have HG := hid (Co.ok_good' hok)
    rw [hok] at HV
    have ht : coText (Co.mk k1 v1 ds1 ks1) = Co.text (Co.mk k1 v1 ds1 ks1) := by simp [coText, hok]
    rw [ht]
    clear ht hok hr hM hB
    go_enter Tryd.func12, Tryd.ntmps12
    go_wp2_with fail
    refine HV.out.mono ?_
    rintro e w1 ⟨rfl, hb⟩
    have HB1 := hid (HB.out.trans (hb.mono HB.out.size))
    have HX1 := hid (HX0.out.below hb)
    have g0 := HX1.out.at 0 0 rfl rfl
    have g1 := HX1.out.at 0 1 rfl rfl
    have g2 := HX1.out.at 0 2 rfl rfl
    have g3 := HX1.out.at 0 3 rfl rfl
    have HC := hid (spec_text_all (Co.bulk (Co.mk k1 v1 ds1 ks1) + 1) k1 v1 ds1 ks1 ads1 cds1 aks1 cks1 w.heap.size 0 w1 (by omega) HM.out HG.out g0 g1 g2 g3 (HR.out.below HB1.out))
    clear hb
    go_wp2_with fail
    refine HC.out.mono ?_
    rintro e w2 ⟨rfl, hb⟩
    have HB2 := hid (HB1.out.trans (hb.mono HB1.out.size))
    clear hb
    go_wp2_with fail
    go_ret
    exact ⟨rfl, HB2.out⟩
set_option maxRecDepth 100000 in
theorem impl_CoreText (k1 : Int) (v1 : Int) (ds1 : List Int) (ks1 : List Co) (ads1 : Option Addr) (cds1 : Nat) (aks1 : Option Addr) (cks1 : Nat) (w : World) (hM : Co.bulk (Co.mk k1 v1 ds1 ks1) ≤ 1048576) (hr : RdS w (Co.d (Co.mk k1 v1 ds1 ks1)) [.int .i64 k1, .int .i64 v1, .slice ads1 ds1.length cds1, .slice aks1 ks1.length cks1]) (hp : Pow w) :
    Calls Tryd.prog 14 #[.agg #[.int .i64 k1, .int .i64 v1, .slice ads1 ds1.length cds1, .slice aks1 ks1.length cks1]] w fun e w' => e = .returned (.string (coText (Co.mk k1 v1 ds1 ks1))) ∧ Below w.heap.size w w' := by
  have HX0 := hid ((Boxes.nil w).alloc #[.int .i64 k1, .int .i64 v1, .slice ads1 ds1.length cds1, .slice aks1 ks1.length cks1] 35 (0, 0))
  have hB := (Below.refl w.heap.size w).alloc (Nat.le_refl _) (.cells #[.int .i64 k1, .int .i64 v1, .slice ads1 ds1.length cds1, .slice aks1 ks1.length cks1] 35)
  have HB := hid hB
  have HR := hid hr
  have HM := hid hM
  have HP := hid hp
  clear hp
  have HV := hid (impl_ValidCore k1 v1 ds1 ks1 ads1 cds1 aks1 cks1 _ hM (hr.below hB))
  by_cases hok : Co.ok (Co.mk k1 v1 ds1 ks1) = true
  case neg =>
    have hf := (Bool.not_eq_true _).mp hok
    rw [hf] at HV
    have ht : coText (Co.mk k1 v1 ds1 ks1) = ⟨#[]⟩ := by simp [coText, hf]
    rw [ht]
    clear ht hf hok hr hM hB
    go_enter Tryd.func14, Tryd.ntmps14
    go_wp2_with fail
    refine HV.out.mono ?_
    rintro e w1 ⟨rfl, hb⟩
    have HB1 := hid (HB.out.trans (hb.mono HB.out.size))
    clear hb
    go_wp2_with fail
    go_ret
    exact ⟨rfl, HB1.out⟩
  case pos =>
    have HG := hid (Co.ok_good' hok)
    rw [hok] at HV
    have ht : coText (Co.mk k1 v1 ds1 ks1) = Co.text (Co.mk k1 v1 ds1 ks1) := by simp [coText, hok]
    rw [ht]
    clear ht hok hr hM hB
    go_enter Tryd.func14, Tryd.ntmps14
    go_wp2_with fail
    refine HV.out.mono ?_
    rintro e w1 ⟨rfl, hb⟩
    have HB1 := hid (HB.out.trans (hb.mono HB.out.size))
    have HX1 := hid (HX0.out.below hb)
    have g0 := HX1.out.at 0 0 rfl rfl
    have g1 := HX1.out.at 0 1 rfl rfl
    have g2 := HX1.out.at 0 2 rfl rfl
    have g3 := HX1.out.at 0 3 rfl rfl
    have HC := hid (impl_text_all (Co.bulk (Co.mk k1 v1 ds1 ks1) + 1) k1 v1 ds1 ks1 ads1 cds1 aks1 cks1 w1 (HP.out.below HB1.out) (by omega) HM.out HG.out (HR.out.below HB1.out))
    clear hb
    go_wp2_with fail
    refine HC.out.mono ?_
    rintro e w2 ⟨rfl, hb⟩
    have HB2 := hid (HB1.out.trans (hb.mono HB1.out.size))
    clear hb
    go_wp2_with fail
    go_ret
    exact ⟨rfl, HB2.out⟩
end Go.Proofs.YtikhofcjkcbpbaaDoor
