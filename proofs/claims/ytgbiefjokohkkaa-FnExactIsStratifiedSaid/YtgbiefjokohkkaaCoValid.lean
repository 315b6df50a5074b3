/- Walks: whether a core is valid, and its size, in the reference. -/
import Derived.Test.YtgbiefjokohkkaaCoNodes
namespace Go.Proofs.Ytgbiefjokohkkaa
open Go.ChangeShapes Go.WideShapes Go.ChangeAt Go.RowKit
set_option linter.unusedVariables false

theorem spec_l06Ok (k1 : Int) (v1 : Int) (ds1 : List Int) (ks1 : List Co) (ads1 : Option Addr) (cds1 : Nat) (aks1 : Option Addr) (cks1 : Nat) (b1 o1 : Nat) (w : World) (hM : Co.bulk (Co.mk k1 v1 ds1 ks1) ≤ 1048576)
    (x0 : w.cell? ⟨b1, o1, none⟩ = some (.int .i64 k1)) (x1 : w.cell? ⟨b1, o1 + 1, none⟩ = some (.int .i64 v1)) (x2 : w.cell? ⟨b1, o1 + 2, none⟩ = some (.slice ads1 ds1.length cds1)) (x3 : w.cell? ⟨b1, o1 + 3, none⟩ = some (.slice aks1 ks1.length cks1))
    (hr : RdS w (Co.d (Co.mk k1 v1 ds1 ks1)) [.int .i64 k1, .int .i64 v1, .slice ads1 ds1.length cds1, .slice aks1 ks1.length cks1]) :
    Calls Try.prog 54 #[.pointer (some ⟨b1, o1, none⟩)] w fun e w' => e = .returned (.bool (Co.ok (Co.mk k1 v1 ds1 ks1))) ∧ Below w.heap.size w w' := by
  have hc := spec_l06Nodes k1 v1 ds1 ks1 ads1 cds1 aks1 cks1 b1 o1 80 400 w hM (by omega) (by omega) (by omega) (by omega) x0 x1 x2 x3 hr
  have HO := hid (Co.nodes_ok (Co.mk k1 v1 ds1 ks1))
  generalize Co.nodes (Co.mk k1 v1 ds1 ks1) 80 400 = n at hc HO
  have HC := hid hc
  clear hc hr x0 x1 x2 x3
  go_enter Try.func54, Try.ntmps54
  go_wp2_with fail
  refine HC.out.mono ?_
  rintro e w1 ⟨rfl, hb⟩
  go_wp2_with fail
  go_ret
  exact ⟨ret_bool HO.out, hb⟩

theorem spec_ValidCore (k1 : Int) (v1 : Int) (ds1 : List Int) (ks1 : List Co) (ads1 : Option Addr) (cds1 : Nat) (aks1 : Option Addr) (cks1 : Nat) (w : World) (hM : Co.bulk (Co.mk k1 v1 ds1 ks1) ≤ 1048576)
    (hr : RdS w (Co.d (Co.mk k1 v1 ds1 ks1)) [.int .i64 k1, .int .i64 v1, .slice ads1 ds1.length cds1, .slice aks1 ks1.length cks1]) :
    Calls Try.prog 24 #[.agg #[.int .i64 k1, .int .i64 v1, .slice ads1 ds1.length cds1, .slice aks1 ks1.length cks1]] w fun e w' => e = .returned (.bool (Co.ok (Co.mk k1 v1 ds1 ks1))) ∧ Below w.heap.size w w' := by
  have HX0 := hid ((Boxes.nil w).alloc #[.int .i64 k1, .int .i64 v1, .slice ads1 ds1.length cds1, .slice aks1 ks1.length cks1] 30 (0, 0))
  have hB := (Below.refl w.heap.size w).alloc (Nat.le_refl _) (.cells #[.int .i64 k1, .int .i64 v1, .slice ads1 ds1.length cds1, .slice aks1 ks1.length cks1] 30)
  have HC := hid (spec_l06Ok k1 v1 ds1 ks1 ads1 cds1 aks1 cks1 w.heap.size 0 _ hM (HX0.out.at 0 0 rfl rfl) (HX0.out.at 0 1 rfl rfl) (HX0.out.at 0 2 rfl rfl) (HX0.out.at 0 3 rfl rfl) (hr.below hB))
  have HB := hid hB
  clear hr hB HX0
  go_enter Try.func24, Try.ntmps24
  go_wp2_with fail
  refine HC.out.mono ?_
  rintro e w1 ⟨rfl, hb⟩
  have HB1 := hid (HB.out.trans (hb.mono HB.out.size))
  clear hb
  go_wp2_with fail
  go_ret
  exact ⟨rfl, HB1.out⟩

def coSize (t : Co) : Int := if Co.ok t then (Co.cnt t : Int) else 0
theorem spec_CoreSize (k1 : Int) (v1 : Int) (ds1 : List Int) (ks1 : List Co) (ads1 : Option Addr) (cds1 : Nat) (aks1 : Option Addr) (cks1 : Nat) (w : World) (hM : Co.bulk (Co.mk k1 v1 ds1 ks1) ≤ 1048576)
    (hr : RdS w (Co.d (Co.mk k1 v1 ds1 ks1)) [.int .i64 k1, .int .i64 v1, .slice ads1 ds1.length cds1, .slice aks1 ks1.length cks1]) :
    Calls Try.prog 26 #[.agg #[.int .i64 k1, .int .i64 v1, .slice ads1 ds1.length cds1, .slice aks1 ks1.length cks1]] w fun e w' => e = .returned (.int .i64 (coSize (Co.mk k1 v1 ds1 ks1))) ∧ Below w.heap.size w w' := by
  have HX0 := hid ((Boxes.nil w).alloc #[.int .i64 k1, .int .i64 v1, .slice ads1 ds1.length cds1, .slice aks1 ks1.length cks1] 30 (0, 0))
  have hB := (Below.refl w.heap.size w).alloc (Nat.le_refl _) (.cells #[.int .i64 k1, .int .i64 v1, .slice ads1 ds1.length cds1, .slice aks1 ks1.length cks1] 30)
  have hc := spec_l06Ok k1 v1 ds1 ks1 ads1 cds1 aks1 cks1 w.heap.size 0 _ hM (HX0.out.at 0 0 rfl rfl) (HX0.out.at 0 1 rfl rfl) (HX0.out.at 0 2 rfl rfl) (HX0.out.at 0 3 rfl rfl) (hr.below hB)
  have HB := hid hB
  by_cases hok : Co.ok (Co.mk k1 v1 ds1 ks1) = true
  case neg =>
    replace hok := (Bool.not_eq_true _).mp hok
    have hs : coSize (Co.mk k1 v1 ds1 ks1) = 0 := by simp [coSize, hok]
    rw [hs]
    rw [hok] at hc
    have HC := hid hc
    clear hr hB HX0 hc hs hok
    go_enter Try.func26, Try.ntmps26
    go_wp2_with fail
    refine HC.out.mono ?_
    rintro e w1 ⟨rfl, hb⟩
    have HB1 := hid (HB.out.trans (hb.mono HB.out.size))
    clear hb
    go_wp2_with fail
    go_ret
    exact ⟨rfl, HB1.out⟩
  case pos =>
    have hs : coSize (Co.mk k1 v1 ds1 ks1) = Co.cnt (Co.mk k1 v1 ds1 ks1) := by simp [coSize, hok]
    have hn : Co.nodes (Co.mk k1 v1 ds1 ks1) 80 400 = Co.cnt (Co.mk k1 v1 ds1 ks1) := by
      simp only [Co.ok, Bool.and_eq_true, decide_eq_true_eq] at hok
      exact Co.nodes_yes ⟨hok.1, by omega, by omega⟩
    have hc2 := fun W (hW : Below w.heap.size w W) x0 x1 x2 x3 => spec_l06Nodes k1 v1 ds1 ks1 ads1 cds1 aks1 cks1 w.heap.size 0 80 400 W hM (by omega) (by omega) (by omega) (by omega) x0 x1 x2 x3 (hr.below hW)
    rw [hn] at hc2
    rw [hs]
    rw [hok] at hc
    have HC := hid hc
    have HC2 := hid hc2
    clear hr hB hc hc2 hs hok hn
    go_enter Try.func26, Try.ntmps26
    go_wp2_with fail
    refine HC.out.mono ?_
    rintro e w1 ⟨rfl, hb⟩
    have HB1 := hid (HB.out.trans (hb.mono HB.out.size))
    have HX1 := hid (HX0.out.below hb)
    clear hb
    go_wp2_with fail
    refine (HC2.out _ HB1.out (HX1.out.at 0 0 rfl rfl) (HX1.out.at 0 1 rfl rfl) (HX1.out.at 0 2 rfl rfl) (HX1.out.at 0 3 rfl rfl)).mono ?_
    rintro e w2 ⟨rfl, hb⟩
    have HB2 := hid (HB1.out.trans (hb.mono HB1.out.size))
    clear hb
    go_wp2_with fail
    go_ret
    exact ⟨rfl, HB2.out⟩
end Go.Proofs.Ytgbiefjokohkkaa
