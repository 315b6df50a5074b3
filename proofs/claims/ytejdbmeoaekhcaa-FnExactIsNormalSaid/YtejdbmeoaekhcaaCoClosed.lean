/- Walks: IsClosed, of the reference and of the program. -/
import Derived.Test.YtejdbmeoaekhcaaCoBelow
namespace Go.Proofs.Ytejdbmeoaekhcaa
open Go.ChangeShapes Go.WideShapes Go.ChangeAt Go.RowKit
set_option linter.unusedVariables false

theorem ok_good {t : Co} (h : Co.ok t = true) : Co.good t = true := by
  simp only [Co.ok, Bool.and_eq_true] at h; exact h.1
theorem impl_IsClosed (k1 : Int) (v1 : Int) (ds1 : List Int) (ks1 : List Co) (ads1 : Option Addr) (cds1 : Nat) (aks1 : Option Addr) (cks1 : Nat) (w : World) (hM : Co.bulk (Co.mk k1 v1 ds1 ks1) ≤ 1048576) (hr : RdS w (Co.d (Co.mk k1 v1 ds1 ks1)) [.int .i64 k1, .int .i64 v1, .slice ads1 ds1.length cds1, .slice aks1 ks1.length cks1]) :
    Calls Try.prog 73 #[.agg #[.int .i64 k1, .int .i64 v1, .slice ads1 ds1.length cds1, .slice aks1 ks1.length cks1]] w fun e w' => e = .returned (.bool (Co.ok (Co.mk k1 v1 ds1 ks1) && Co.clo (Co.mk k1 v1 ds1 ks1) 0)) ∧ Below w.heap.size w w' := by
  have HX0 := hid ((Boxes.nil w).alloc #[.int .i64 k1, .int .i64 v1, .slice ads1 ds1.length cds1, .slice aks1 ks1.length cks1] 36 (0, 0))
  have hB := (Below.refl w.heap.size w).alloc (Nat.le_refl _) (.cells #[.int .i64 k1, .int .i64 v1, .slice ads1 ds1.length cds1, .slice aks1 ks1.length cks1] 36)
  have hv := impl_ValidCore k1 v1 ds1 ks1 ads1 cds1 aks1 cks1 _ hM (hr.below hB)
  have hc := fun W (hW : Below w.heap.size w W) => closed_all (Co.bulk (Co.mk k1 v1 ds1 ks1) + 1) k1 v1 ds1 ks1 ads1 cds1 aks1 cks1 0 W (by omega) (by omega) (by omega) (hr.below hW)
  have HB := hid hB
  by_cases hok : Co.ok (Co.mk k1 v1 ds1 ks1) = true
  case neg =>
    replace hok := (Bool.not_eq_true _).mp hok
    rw [hok] at hv ⊢
    have HV := hid hv
    clear hr hB hv hc hok HX0
    go_enter Try.func73, Try.ntmps73
    go_wp2_with fail
    refine HV.out.mono ?_
    rintro e w1 ⟨rfl, hb⟩
    have HB1 := hid (HB.out.trans (hb.mono HB.out.size))
    clear hb
    go_wp2_with fail
    go_ret
    exact ⟨rfl, HB1.out⟩
  case pos =>
    rw [hok] at hv ⊢
    have HV := hid hv
    have HC := hid hc
    clear hr hB hv hc hok
    go_enter Try.func73, Try.ntmps73
    go_wp2_with fail
    refine HV.out.mono ?_
    rintro e w1 ⟨rfl, hb⟩
    have HB1 := hid (HB.out.trans (hb.mono HB.out.size))
    have HX1 := hid (HX0.out.below hb)
    have g0 := HX1.out.at 0 0 rfl rfl
    have g1 := HX1.out.at 0 1 rfl rfl
    have g2 := HX1.out.at 0 2 rfl rfl
    have g3 := HX1.out.at 0 3 rfl rfl
    clear hb
    go_wp2_with fail
    refine (HC.out _ HB1.out).mono ?_
    rintro e w2 ⟨rfl, hb⟩
    have HB2 := hid (HB1.out.trans (hb.mono HB1.out.size))
    clear hb
    go_wp2_with fail
    go_ret
    exact ⟨ret_bool (by simp), HB2.out⟩
end Go.Proofs.Ytejdbmeoaekhcaa
