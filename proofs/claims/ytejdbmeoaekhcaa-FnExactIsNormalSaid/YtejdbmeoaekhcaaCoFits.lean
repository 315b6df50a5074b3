/- Walks: whether a core is valid, and its size, in the program. -/
import Derived.Test.YtejdbmeoaekhcaaCoShape
import Derived.Test.YtejdbmeoaekhcaaCoValid
namespace Go.Proofs.Ytejdbmeoaekhcaa
open Go.ChangeShapes Go.WideShapes Go.ChangeAt Go.RowKit
set_option linter.unusedVariables false

theorem impl_coreFits (k1 : Int) (v1 : Int) (ds1 : List Int) (ks1 : List Co) (ads1 : Option Addr) (cds1 : Nat) (aks1 : Option Addr) (cks1 : Nat) (w : World) (hM : Co.bulk (Co.mk k1 v1 ds1 ks1) ≤ 1048576) (hr : RdS w (Co.d (Co.mk k1 v1 ds1 ks1)) [.int .i64 k1, .int .i64 v1, .slice ads1 ds1.length cds1, .slice aks1 ks1.length cks1]) :
    Calls Try.prog 100 #[.agg #[.int .i64 k1, .int .i64 v1, .slice ads1 ds1.length cds1, .slice aks1 ks1.length cks1]] w fun e w' => e = .returned (.bool (decide (Co.dep (Co.mk k1 v1 ds1 ks1) ≤ 80) && decide (Co.cnt (Co.mk k1 v1 ds1 ks1) ≤ 400))) ∧ Below w.heap.size w w' := by
  have hB := (Below.refl w.heap.size w).alloc (Nat.le_refl _) (.cells #[.int .i64 k1, .int .i64 v1, .slice ads1 ds1.length cds1, .slice aks1 ks1.length cks1] 36)
  have hc := coreExtent_all (Co.bulk (Co.mk k1 v1 ds1 ks1) + 1) k1 v1 ds1 ks1 ads1 cds1 aks1 cks1 _ (by omega) hM (hr.below hB)
  have hd := Co.dep_le (Co.mk k1 v1 ds1 ks1)
  have hn := Co.cnt_le (Co.mk k1 v1 ds1 ks1)
  rw [show coExtentV (Co.mk k1 v1 ds1 ks1) = .tuple #[.int .i64 (Co.dep (Co.mk k1 v1 ds1 ks1) : Nat), .int .i64 (Co.cnt (Co.mk k1 v1 ds1 ks1) : Nat)] from rfl] at hc
  generalize Co.dep (Co.mk k1 v1 ds1 ks1) = dd at hc hd ⊢
  generalize Co.cnt (Co.mk k1 v1 ds1 ks1) = nn at hc hd hn ⊢
  have HC := hid hc
  have HB := hid hB
  clear hc hr hB
  by_cases h1 : dd ≤ 80 <;> by_cases h2 : nn ≤ 400
  all_goals
    first | (have b1 : decide ((dd : Int) ≤ 80) = true := by simp; omega) | (have b1 : decide ((dd : Int) ≤ 80) = false := by simp; omega)
    first | (have b2 : decide ((nn : Int) ≤ 400) = true := by simp; omega) | (have b2 : decide ((nn : Int) ≤ 400) = false := by simp; omega)
    have H1 := hid h1
    have H2 := hid h2
    clear h1 h2
    go_enter Try.func100, Try.ntmps100
    go_wp2_with fail
    refine (HC.out).mono ?_
    rintro e w1 ⟨rfl, hb⟩
    have HB1 := hid (HB.out.trans (hb.mono HB.out.size))
    clear hb
    go_wp2_with fail
    go_ret
    refine ⟨ret_bool ?_, HB1.out⟩
    have h1 := H1.out
    have h2 := H2.out
    simp [h1, h2]

theorem impl_ValidCore (k1 : Int) (v1 : Int) (ds1 : List Int) (ks1 : List Co) (ads1 : Option Addr) (cds1 : Nat) (aks1 : Option Addr) (cks1 : Nat) (w : World) (hM : Co.bulk (Co.mk k1 v1 ds1 ks1) ≤ 1048576) (hr : RdS w (Co.d (Co.mk k1 v1 ds1 ks1)) [.int .i64 k1, .int .i64 v1, .slice ads1 ds1.length cds1, .slice aks1 ks1.length cks1]) :
    Calls Try.prog 89 #[.agg #[.int .i64 k1, .int .i64 v1, .slice ads1 ds1.length cds1, .slice aks1 ks1.length cks1]] w fun e w' => e = .returned (.bool (Co.ok (Co.mk k1 v1 ds1 ks1))) ∧ Below w.heap.size w w' := by
  have hB := (Below.refl w.heap.size w).alloc (Nat.le_refl _) (.cells #[.int .i64 k1, .int .i64 v1, .slice ads1 ds1.length cds1, .slice aks1 ks1.length cks1] 36)
  have hc := coreShape_all (Co.bulk (Co.mk k1 v1 ds1 ks1) + 1) k1 v1 ds1 ks1 ads1 cds1 aks1 cks1 _ (by omega) hM (hr.below hB)
  have HF := hid (fun W (hW : Below w.heap.size w W) => impl_coreFits k1 v1 ds1 ks1 ads1 cds1 aks1 cks1 W hM (hr.below hW))
  have HX0 := hid ((Boxes.nil w).alloc #[.int .i64 k1, .int .i64 v1, .slice ads1 ds1.length cds1, .slice aks1 ks1.length cks1] 36 (0, 0))
  have HOK := hid (show Co.ok (Co.mk k1 v1 ds1 ks1) = (Co.good (Co.mk k1 v1 ds1 ks1) && (decide (Co.dep (Co.mk k1 v1 ds1 ks1) ≤ 80) && decide (Co.cnt (Co.mk k1 v1 ds1 ks1) ≤ 400))) from rfl)
  by_cases hg : Co.good (Co.mk k1 v1 ds1 ks1) = true
  case neg =>
    have hs : coShapeV (Co.mk k1 v1 ds1 ks1) = .tuple #[.int .i64 0, .int .i64 0, .bool false] := by simp [coShapeV, hg]
    rw [hs] at hc
    have HC := hid hc
    have HB := hid hB
    have HG := hid hg
    clear hc hr hB hs hg HX0 HF
    go_enter Try.func89, Try.ntmps89
    go_wp2_with fail
    refine (HC.out).mono ?_
    rintro e w1 ⟨rfl, hb⟩
    have HB1 := hid (HB.out.trans (hb.mono HB.out.size))
    clear hb
    go_wp2_with fail
    go_ret
    exact ⟨ret_bool (by rw [HOK.out, (Bool.not_eq_true _).mp HG.out]; rfl), HB1.out⟩
  case pos =>
    have hs : coShapeV (Co.mk k1 v1 ds1 ks1) = .tuple #[.int .i64 (Co.dep (Co.mk k1 v1 ds1 ks1) : Nat), .int .i64 (Co.cnt (Co.mk k1 v1 ds1 ks1) : Nat), .bool true] := by simp [coShapeV, hg]
    rw [hs] at hc
    have HC := hid hc
    have HB := hid hB
    have HG := hid hg
    clear hc hr hB hs hg
    go_enter Try.func89, Try.ntmps89
    go_wp2_with fail
    refine (HC.out).mono ?_
    rintro e w1 ⟨rfl, hb⟩
    have HB1 := hid (HB.out.trans (hb.mono HB.out.size))
    have HX1 := hid (HX0.out.below hb)
    have g0 := HX1.out.at 0 0 rfl rfl
    have g1 := HX1.out.at 0 1 rfl rfl
    have g2 := HX1.out.at 0 2 rfl rfl
    have g3 := HX1.out.at 0 3 rfl rfl
    clear hb
    go_wp2_with fail
    refine (HF.out _ HB1.out).mono ?_
    rintro e w2 ⟨rfl, hb⟩
    have HB2 := hid (HB1.out.trans (hb.mono HB1.out.size))
    clear hb
    go_wp2_with fail
    go_ret
    exact ⟨ret_bool (by rw [HOK.out, HG.out]; rfl), HB2.out⟩

end Go.Proofs.Ytejdbmeoaekhcaa
