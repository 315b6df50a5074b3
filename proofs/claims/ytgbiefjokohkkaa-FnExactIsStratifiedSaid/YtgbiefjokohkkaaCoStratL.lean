/- Walks: IsStratified, of the reference and of the program. -/
import Derived.Test.YtgbiefjokohkkaaCoStratI
import Derived.Test.YtgbiefjokohkkaaBkValid
namespace Go.Proofs.Ytgbiefjokohkkaa
open Go.ChangeShapes Go.WideShapes Go.ChangeAt Go.RowKit
set_option linter.unusedVariables false

def isStrat (t : Co) : Bool := (Co.ok t && Co.clo t 0) && Co.strat t 0
theorem clo_ok {t : Co} (h : (Co.ok t && Co.clo t 0) = true) : Co.ok t = true := by rw [Bool.and_eq_true] at h; exact h.1
theorem spec_IsStratified (k1 : Int) (v1 : Int) (ds1 : List Int) (ks1 : List Co) (ads1 : Option Addr) (cds1 : Nat) (aks1 : Option Addr) (cks1 : Nat) (w : World) (hM : Co.bulk (Co.mk k1 v1 ds1 ks1) ≤ 1048576) (hr : RdS w (Co.d (Co.mk k1 v1 ds1 ks1)) [.int .i64 k1, .int .i64 v1, .slice ads1 ds1.length cds1, .slice aks1 ks1.length cks1]) :
    Calls Try.prog 36 #[.agg #[.int .i64 k1, .int .i64 v1, .slice ads1 ds1.length cds1, .slice aks1 ks1.length cks1]] w fun e w' => e = .returned (.bool (isStrat (Co.mk k1 v1 ds1 ks1))) ∧ Below w.heap.size w w' := by
  have HX0 := hid ((Boxes.nil w).alloc #[.int .i64 k1, .int .i64 v1, .slice ads1 ds1.length cds1, .slice aks1 ks1.length cks1] 30 (0, 0))
  have hB := (Below.refl w.heap.size w).alloc (Nat.le_refl _) (.cells #[.int .i64 k1, .int .i64 v1, .slice ads1 ds1.length cds1, .slice aks1 ks1.length cks1] 30)
  have hv := spec_l06Closed k1 v1 ds1 ks1 ads1 cds1 aks1 cks1 w.heap.size 0 _ hM (HX0.out.at 0 0 rfl rfl) (HX0.out.at 0 1 rfl rfl) (HX0.out.at 0 2 rfl rfl) (HX0.out.at 0 3 rfl rfl) (hr.below hB)
  have hc := fun (hg : Co.good (Co.mk k1 v1 ds1 ks1) = true) W (hW : Below w.heap.size w W) x0 x1 x2 x3 => str_all (Co.bulk (Co.mk k1 v1 ds1 ks1) + 1) k1 v1 ds1 ks1 ads1 cds1 aks1 cks1 w.heap.size 0 0 W (by omega) hM (by omega) (by omega) hg x0 x1 x2 x3 (hr.below hW)
  have HE := hid (show isStrat (Co.mk k1 v1 ds1 ks1) = ((Co.ok (Co.mk k1 v1 ds1 ks1) && Co.clo (Co.mk k1 v1 ds1 ks1) 0) && Co.strat (Co.mk k1 v1 ds1 ks1) 0) from rfl)
  have HB := hid hB
  by_cases hok : (Co.ok (Co.mk k1 v1 ds1 ks1) && Co.clo (Co.mk k1 v1 ds1 ks1) 0) = true
  case neg =>
    replace hok := (Bool.not_eq_true _).mp hok
    have HF := hid (show isStrat (Co.mk k1 v1 ds1 ks1) = false by rw [HE.out, hok]; rfl)
    rw [hok] at hv
    have HV := hid hv
    clear hr hB hv hc hok HX0 hM HE
    go_enter Try.func36, Try.ntmps36
    go_wp2_with fail
    refine HV.out.mono ?_
    rintro e w1 ⟨rfl, hb⟩
    have HB1 := hid (HB.out.trans (hb.mono HB.out.size))
    clear hb
    go_wp2_with fail
    go_ret
    exact ⟨ret_bool HF.out.symm, HB1.out⟩
  case pos =>
    have HF := hid (show isStrat (Co.mk k1 v1 ds1 ks1) = Co.strat (Co.mk k1 v1 ds1 ks1) 0 by rw [HE.out, hok]; rfl)
    replace hc := hc (ok_good (clo_ok hok))
    rw [hok] at hv
    have HV := hid hv
    have HC := hid hc
    clear hr hB hv hc hok hM HE
    go_enter Try.func36, Try.ntmps36
    go_wp2_with fail
    refine HV.out.mono ?_
    rintro e w1 ⟨rfl, hb⟩
    have HB1 := hid (HB.out.trans (hb.mono HB.out.size))
    have HX1 := hid (HX0.out.below hb)
    clear hb
    go_wp2_with fail
    refine (HC.out _ HB1.out (HX1.out.at 0 0 rfl rfl) (HX1.out.at 0 1 rfl rfl) (HX1.out.at 0 2 rfl rfl) (HX1.out.at 0 3 rfl rfl)).mono ?_
    rintro e w2 ⟨rfl, hb⟩
    have HB2 := hid (HB1.out.trans (hb.mono HB1.out.size))
    clear hb
    go_wp2_with fail
    go_ret
    exact ⟨ret_bool HF.out.symm, HB2.out⟩
theorem impl_IsStratified (k1 : Int) (v1 : Int) (ds1 : List Int) (ks1 : List Co) (ads1 : Option Addr) (cds1 : Nat) (aks1 : Option Addr) (cks1 : Nat) (w : World) (hM : Co.bulk (Co.mk k1 v1 ds1 ks1) ≤ 1048576) (hr : RdS w (Co.d (Co.mk k1 v1 ds1 ks1)) [.int .i64 k1, .int .i64 v1, .slice ads1 ds1.length cds1, .slice aks1 ks1.length cks1]) :
    Calls Try.prog 37 #[.agg #[.int .i64 k1, .int .i64 v1, .slice ads1 ds1.length cds1, .slice aks1 ks1.length cks1]] w fun e w' => e = .returned (.bool (isStrat (Co.mk k1 v1 ds1 ks1))) ∧ Below w.heap.size w w' := by
  have HX0 := hid ((Boxes.nil w).alloc #[.int .i64 k1, .int .i64 v1, .slice ads1 ds1.length cds1, .slice aks1 ks1.length cks1] 30 (0, 0))
  have hB := (Below.refl w.heap.size w).alloc (Nat.le_refl _) (.cells #[.int .i64 k1, .int .i64 v1, .slice ads1 ds1.length cds1, .slice aks1 ks1.length cks1] 30)
  have hv := impl_IsClosed k1 v1 ds1 ks1 ads1 cds1 aks1 cks1 _ hM (hr.below hB)
  have hc := fun (hg : Co.good (Co.mk k1 v1 ds1 ks1) = true) W (hW : Below w.heap.size w W) => sk_all (Co.bulk (Co.mk k1 v1 ds1 ks1) + 1) k1 v1 ds1 ks1 ads1 cds1 aks1 cks1 0 W (by omega) hM (by omega) (by omega) hg (hr.below hW)
  have HE := hid (show isStrat (Co.mk k1 v1 ds1 ks1) = ((Co.ok (Co.mk k1 v1 ds1 ks1) && Co.clo (Co.mk k1 v1 ds1 ks1) 0) && Co.strat (Co.mk k1 v1 ds1 ks1) 0) from rfl)
  have HB := hid hB
  by_cases hok : (Co.ok (Co.mk k1 v1 ds1 ks1) && Co.clo (Co.mk k1 v1 ds1 ks1) 0) = true
  case neg =>
    replace hok := (Bool.not_eq_true _).mp hok
    have HF := hid (show isStrat (Co.mk k1 v1 ds1 ks1) = false by rw [HE.out, hok]; rfl)
    rw [hok] at hv
    have HV := hid hv
    clear hr hB hv hc hok HX0 hM HE
    go_enter Try.func37, Try.ntmps37
    go_wp2_with fail
    refine HV.out.mono ?_
    rintro e w1 ⟨rfl, hb⟩
    have HB1 := hid (HB.out.trans (hb.mono HB.out.size))
    clear hb
    go_wp2_with fail
    go_ret
    exact ⟨ret_bool HF.out.symm, HB1.out⟩
  case pos =>
    have HF := hid (show isStrat (Co.mk k1 v1 ds1 ks1) = Co.strat (Co.mk k1 v1 ds1 ks1) 0 by rw [HE.out, hok]; rfl)
    replace hc := hc (ok_good (clo_ok hok))
    rw [hok] at hv
    have HV := hid hv
    have HC := hid hc
    clear hr hB hv hc hok hM HE
    go_enter Try.func37, Try.ntmps37
    go_wp2_with fail
    refine HV.out.mono ?_
    rintro e w1 ⟨rfl, hb⟩
    have HB1 := hid (HB.out.trans (hb.mono HB.out.size))
    have HX1 := hid (HX0.out.below hb)
    have g0 := HX1.out.at 0 0 rfl rfl
    have g1 := HX1.out.at 0 1 rfl rfl
    have g2 := HX1.out.at 0 2 rfl rfl
    have g3 := HX1.out.at 0 3 rfl rfl
    clear hb
    go_wp2_with fail
    refine (HC.out _ HB1.out).mono ?_
    rintro e w2 ⟨rfl, hb⟩
    have HB2 := hid (HB1.out.trans (hb.mono HB1.out.size))
    clear hb
    go_wp2_with fail
    go_ret
    exact ⟨ret_bool HF.out.symm, HB2.out⟩
end Go.Proofs.Ytgbiefjokohkkaa
