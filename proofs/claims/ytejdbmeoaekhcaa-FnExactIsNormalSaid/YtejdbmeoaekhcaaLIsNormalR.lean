/- FnExactIsNormal: for every input. No condition. -/
import Derived.Test.YtejdbmeoaekhcaaArBk
import Derived.Test.YtejdbmeoaekhcaaArCo
import Derived.Test.YtejdbmeoaekhcaaSzBk
import Derived.Test.YtejdbmeoaekhcaaSzCo
import Derived.Test.YtejdbmeoaekhcaaToBk
import Derived.Test.YtejdbmeoaekhcaaToCo
import Derived.Test.YtejdbmeoaekhcaaEqBk
import Derived.Test.YtejdbmeoaekhcaaEqCo
import Derived.Test.YtejdbmeoaekhcaaNrmR
import Derived.Deep.RegionHeld3
namespace Go.Proofs.Ytejdbmeoaekhcaa
open Go.ChangeShapes Go.WideShapes Go.ChangeAt Go.RowKit
open Go.Sort (grow)
open Go.ChangeMaps (open_string)
set_option linter.unusedVariables false

set_option maxHeartbeats 1000000 in
theorem FnExactIsNormal_walk (fs_x : List Co) (afs_x : Option Addr) (cfs_x : Nat) (k_y : Int) (v_y : Int) (ds_y : List Int) (ks_y : List Co) (ads_y : Option Addr) (cds_y : Nat) (aks_y : Option Addr) (cks_y : Nat) (w : World) (hr_x : RdS w (Bk.d (Bk.mk fs_x)) [.slice afs_x fs_x.length cfs_x]) (hr_y : RdS w (Co.d (Co.mk k_y v_y ds_y ks_y)) [.int .i64 k_y, .int .i64 v_y, .slice ads_y ds_y.length cds_y, .slice aks_y ks_y.length cks_y]) :
    Calls Try.prog 3 #[.agg #[.slice afs_x fs_x.length cfs_x], .agg #[.int .i64 k_y, .int .i64 v_y, .slice ads_y ds_y.length cds_y, .slice aks_y ks_y.length cks_y]] w fun e w' => e = .returned (.bool true) ∧ Below w.heap.size w w' := by
  have hbw0 : Below w.heap.size w ((w.alloc (.cells #[.slice afs_x fs_x.length cfs_x] 24)).alloc (.cells #[.int .i64 k_y, .int .i64 v_y, .slice ads_y ds_y.length cds_y, .slice aks_y ks_y.length cks_y] 27)) := (((Below.refl _ _).alloc (by simp) _).alloc (by simp) _)
  have HX0 := hid (((Boxes.nil w).alloc #[.slice afs_x fs_x.length cfs_x] 24 (0, 0)).alloc #[.int .i64 k_y, .int .i64 v_y, .slice ads_y ds_y.length cds_y, .slice aks_y ks_y.length cks_y] 27 (0, 0))
  have hc0 := fun (W : World) (hb : Below w.heap.size w W) => szBk fs_x afs_x cfs_x (1048576) W (hr_x.below hb) (by omega) (by omega)
  by_cases hp0 : ((Bk.bulk (Bk.mk fs_x) : Nat) : Int) ≤ 1048576
  case neg =>
    rw [purse_no hp0] at hc0
    have HC0 := hid hc0
    have HB0 := hid hbw0
    clear hbw0 hc0 hr_x hr_y
    go_enter Try.func3, Try.ntmps3
    go_wp2_with fail
    refine (HC0.out _ HB0.out).mono ?_
    rintro e w1 ⟨rfl, hb⟩
    have HB1 := hid (HB0.out.trans (hb.mono (by simp; omega)))
    have HX1 := hid (HX0.out.below hb)
    clear hb HC0
    go_wp2_with fail
    go_ret
    exact ⟨rfl, HB1.out⟩
  case pos =>
    rw [purse_ok hp0] at hc0
    have hc1 := fun (W : World) (hb : Below w.heap.size w W) => szCo k_y v_y ds_y ks_y ads_y cds_y aks_y cks_y (1048576 - (Bk.bulk (Bk.mk fs_x) : Nat)) W (hr_y.below hb) (by omega) (by omega)
    by_cases hp1 : ((Co.bulk (Co.mk k_y v_y ds_y ks_y) : Nat) : Int) ≤ 1048576 - (Bk.bulk (Bk.mk fs_x) : Nat)
    case neg =>
      rw [purse_no hp1] at hc1
      have HC0 := hid hc0
      have HC1 := hid hc1
      have HB0 := hid hbw0
      clear hbw0 hc0 hc1 hr_x hr_y
      go_enter Try.func3, Try.ntmps3
      go_wp2_with fail
      refine (HC0.out _ HB0.out).mono ?_
      rintro e w1 ⟨rfl, hb⟩
      have HB1 := hid (HB0.out.trans (hb.mono (by simp; omega)))
      have HX1 := hid (HX0.out.below hb)
      clear hb HC0
      have g0_0 := HX1.out.at 0 0 rfl rfl
      have g0_1 := HX1.out.at 0 1 rfl rfl
      have g0_2 := HX1.out.at 0 2 rfl rfl
      have g0_3 := HX1.out.at 0 3 rfl rfl
      simp only [World.size_alloc] at g0_0 g0_1 g0_2 g0_3
      go_wp2_with fail
      clear g0_0 g0_1 g0_2 g0_3
      refine (HC1.out _ HB1.out).mono ?_
      rintro e w2 ⟨rfl, hb⟩
      have HB2 := hid (HB1.out.trans (hb.mono HB1.out.size))
      have HX2 := hid (HX1.out.below hb)
      clear hb HC1
      go_wp2_with fail
      go_ret
      exact ⟨rfl, HB2.out⟩
    case pos =>
      rw [purse_ok hp1] at hc1
      have HM_x : Hid (Bk.bulk (Bk.mk fs_x) ≤ 1048576) := by show _ ≤ _; omega
      have HM_y : Hid (Co.bulk (Co.mk k_y v_y ds_y ks_y) ≤ 1048576) := by show _ ≤ _; omega
      have HC0 := hid hc0
      have HC1 := hid hc1
      have HB0 := hid hbw0
      have R_x := hid hr_x
      have R_y := hid hr_y
      clear hbw0 hc0 hc1 hr_x hr_y
      go_enter Try.func3, Try.ntmps3
      go_wp2_with fail
      refine (HC0.out _ HB0.out).mono ?_
      rintro e w1 ⟨rfl, hb⟩
      have HB1 := hid (HB0.out.trans (hb.mono (by simp; omega)))
      have HX1 := hid (HX0.out.below hb)
      clear hb HC0
      have g0_0 := HX1.out.at 0 0 rfl rfl
      have g0_1 := HX1.out.at 0 1 rfl rfl
      have g0_2 := HX1.out.at 0 2 rfl rfl
      have g0_3 := HX1.out.at 0 3 rfl rfl
      simp only [World.size_alloc] at g0_0 g0_1 g0_2 g0_3
      go_wp2_with fail
      clear g0_0 g0_1 g0_2 g0_3
      refine (HC1.out _ HB1.out).mono ?_
      rintro e w2 ⟨rfl, hb⟩
      have HB2 := hid (HB1.out.trans (hb.mono HB1.out.size))
      have HX2 := hid (HX1.out.below hb)
      clear hb HC1
      have R_x := hid (R_x.out.below HB2.out)
      have R_y := hid (R_y.out.below HB2.out)
      go_wp2_with fail
      have g1_0 := HX2.out.at 1 0 rfl rfl
      have g0_0 := HX2.out.at 0 0 rfl rfl
      have g0_1 := HX2.out.at 0 1 rfl rfl
      have g0_2 := HX2.out.at 0 2 rfl rfl
      have g0_3 := HX2.out.at 0 3 rfl rfl
      simp only [World.size_alloc] at g0_0 g0_1 g0_2 g0_3
      have hkeep : ∀ V V' : World, Below V.heap.size V V' → (Below w2.heap.size w2 V ∧ V.cell? ⟨w.heap.size, 0, none⟩ = some (.slice afs_x fs_x.length cfs_x) ∧ V.cell? ⟨w.heap.size + 1, 0, none⟩ = some (.int .i64 k_y) ∧ V.cell? ⟨w.heap.size + 1, 1, none⟩ = some (.int .i64 v_y) ∧ V.cell? ⟨w.heap.size + 1, 2, none⟩ = some (.slice ads_y ds_y.length cds_y) ∧ V.cell? ⟨w.heap.size + 1, 3, none⟩ = some (.slice aks_y ks_y.length cks_y)) → (Below w2.heap.size w2 V' ∧ V'.cell? ⟨w.heap.size, 0, none⟩ = some (.slice afs_x fs_x.length cfs_x) ∧ V'.cell? ⟨w.heap.size + 1, 0, none⟩ = some (.int .i64 k_y) ∧ V'.cell? ⟨w.heap.size + 1, 1, none⟩ = some (.int .i64 v_y) ∧ V'.cell? ⟨w.heap.size + 1, 2, none⟩ = some (.slice ads_y ds_y.length cds_y) ∧ V'.cell? ⟨w.heap.size + 1, 3, none⟩ = some (.slice aks_y ks_y.length cks_y)) := fun V V' hb ⟨h, _⟩ =>
        have hb' := h.trans (hb.mono h.size)
        ⟨hb', (hb'.cell (p := ⟨_, 0, none⟩) (World.block_lt_of_cell? _ _ g1_0)).trans g1_0, (hb'.cell (p := ⟨_, 0, none⟩) (World.block_lt_of_cell? _ _ g0_0)).trans g0_0, (hb'.cell (p := ⟨_, 1, none⟩) (World.block_lt_of_cell? _ _ g0_1)).trans g0_1, (hb'.cell (p := ⟨_, 2, none⟩) (World.block_lt_of_cell? _ _ g0_2)).trans g0_2, (hb'.cell (p := ⟨_, 3, none⟩) (World.block_lt_of_cell? _ _ g0_3)).trans g0_3⟩
      have KEEP := hid hkeep
      clear hkeep
      have hbd : Below w2.heap.size w2 w2.drew := (Below.refl _ _).drew
      go_region_held3 (fun V => Below w2.heap.size w2 V ∧ V.cell? ⟨w.heap.size, 0, none⟩ = some (.slice afs_x fs_x.length cfs_x) ∧ V.cell? ⟨w.heap.size + 1, 0, none⟩ = some (.int .i64 k_y) ∧ V.cell? ⟨w.heap.size + 1, 1, none⟩ = some (.int .i64 v_y) ∧ V.cell? ⟨w.heap.size + 1, 2, none⟩ = some (.slice ads_y ds_y.length cds_y) ∧ V.cell? ⟨w.heap.size + 1, 3, none⟩ = some (.slice aks_y ks_y.length cks_y))
        (first | exact KEEP.out _ _ hbq (by assumption) | go_keep)
        (first
          | (go_at_call 8; (with_reducible refine (toBk fs_x afs_x cfs_x _ HM_x.out ?_).mono ?_); (exact R_x.out.below (‹Below w2.heap.size w2 _ ∧ _›).1); rintro e V0 ⟨afs_xs, cfs_xs, rfl, ho_xs, hbq⟩; have hbq_0 := hbq)
          | (go_at_call 9; (with_reducible refine (toCo k_y v_y ds_y ks_y ads_y cds_y aks_y cks_y _ HM_y.out ?_).mono ?_); (exact R_y.out.below (‹Below w2.heap.size w2 _ ∧ _›).1); rintro e V1 ⟨ads_ys, cds_ys, aks_ys, cks_ys, rfl, ho_ys, hbq⟩; have hbq_1 := hbq)
          | (go_at_call 7; (with_reducible refine (spec_IsNormal _ _ _ _ _ _ _ _ _ _ _ _ ?_ ?_ ?_ ?_).mono ?_); (exact HM_x.out); (exact HM_y.out); (exact ho_xs.rd.below hbq_1); (exact ho_ys.rd); rintro e Vz ⟨rfl, hbq⟩))
      obtain ⟨hbr, -⟩ := ‹Below w2.heap.size w2 Vz ∧ _›
      clear KEEP hbd g1_0 g0_0 g0_1 g0_2 g0_3
      have HB3 := hid (HB2.out.trans (hbr.mono HB2.out.size))
      have HX3 := hid (HX2.out.below hbr)
      have R_x := hid (R_x.out.below hbr)
      have R_y := hid (R_y.out.below hbr)
      clear hbr
      clear ho_xs ho_ys
      go_wp2_with fail
      have g1_0 := HX3.out.at 1 0 rfl rfl
      go_wp2_with fail
      clear g1_0
      refine (toBk fs_x afs_x cfs_x _ HM_x.out ?_).mono ?_
      · exact R_x.out
      rintro e x0 ⟨afs_xx, cfs_xx, rfl, ho_xx, hb⟩
      have HB4 := hid (HB3.out.trans (hb.mono HB3.out.size))
      have HX4 := hid (HX3.out.below hb)
      have R_x := hid (R_x.out.below hb)
      have R_y := hid (R_y.out.below hb)
      have C_xx := hid ho_xx.rd
      clear hb ho_xx
      have hba : Below x0.heap.size x0 (x0.alloc (.cells #[.slice afs_xx fs_x.length cfs_xx] 33)) := (Below.refl _ _).alloc (Nat.le_refl _) _
      have HXa := hid (HX4.out.alloc #[.slice afs_xx fs_x.length cfs_xx] 33 (0, 0))
      have HB5 := hid (HB4.out.trans (hba.mono HB4.out.size))
      have HX5 := hid (HX4.out.below hba)
      have R_x := hid (R_x.out.below hba)
      have R_y := hid (R_y.out.below hba)
      have C_xx := hid (C_xx.out.below hba)
      clear hba
      have HX5 := HXa
      have g1_0 := HX5.out.at 1 0 rfl rfl
      have g1_1 := HX5.out.at 1 1 rfl rfl
      have g1_2 := HX5.out.at 1 2 rfl rfl
      have g1_3 := HX5.out.at 1 3 rfl rfl
      simp only [World.size_alloc] at g1_0 g1_1 g1_2 g1_3
      go_wp2_with fail
      clear g1_0 g1_1 g1_2 g1_3
      refine (toCo k_y v_y ds_y ks_y ads_y cds_y aks_y cks_y _ HM_y.out ?_).mono ?_
      · exact R_y.out
      rintro e x1 ⟨ads_yx, cds_yx, aks_yx, cks_yx, rfl, ho_yx, hb⟩
      have HB6 := hid (HB5.out.trans (hb.mono HB5.out.size))
      have HX6 := hid (HX5.out.below hb)
      have R_x := hid (R_x.out.below hb)
      have R_y := hid (R_y.out.below hb)
      have C_xx := hid (C_xx.out.below hb)
      have C_yx := hid ho_yx.rd
      clear hb ho_yx
      have hba : Below x1.heap.size x1 (x1.alloc (.cells #[.int .i64 k_y, .int .i64 v_y, .slice ads_yx ds_y.length cds_yx, .slice aks_yx ks_y.length cks_yx] 36)) := (Below.refl _ _).alloc (Nat.le_refl _) _
      have HXa := hid (HX6.out.alloc #[.int .i64 k_y, .int .i64 v_y, .slice ads_yx ds_y.length cds_yx, .slice aks_yx ks_y.length cks_yx] 36 (0, 0))
      have HB7 := hid (HB6.out.trans (hba.mono HB6.out.size))
      have HX7 := hid (HX6.out.below hba)
      have R_x := hid (R_x.out.below hba)
      have R_y := hid (R_y.out.below hba)
      have C_xx := hid (C_xx.out.below hba)
      have C_yx := hid (C_yx.out.below hba)
      clear hba
      have HX7 := HXa
      have g1_0 := HX7.out.at 1 0 rfl rfl
      have g0_0 := HX7.out.at 0 0 rfl rfl
      have g0_1 := HX7.out.at 0 1 rfl rfl
      have g0_2 := HX7.out.at 0 2 rfl rfl
      have g0_3 := HX7.out.at 0 3 rfl rfl
      go_wp2_with fail
      clear g1_0 g0_0 g0_1 g0_2 g0_3
      refine (impl_IsNormal _ _ _ _ _ _ _ _ _ _ _ _ ?_ ?_ ?_ ?_).mono ?_
      · exact HM_x.out
      · exact HM_y.out
      · exact C_xx.out
      · exact C_yx.out
      rintro e vi ⟨rfl, hb⟩
      have HB8 := hid (HB7.out.trans (hb.mono HB7.out.size))
      have HX8 := hid (HX7.out.below hb)
      have R_x := hid (R_x.out.below hb)
      have R_y := hid (R_y.out.below hb)
      have C_xx := hid (C_xx.out.below hb)
      have C_yx := hid (C_yx.out.below hb)
      clear hb
      go_wp2_with fail
      have g1_0 := HX8.out.at 1 0 rfl rfl
      have g3_0 := HX8.out.at 3 0 rfl rfl
      have hkeep : ∀ V V' : World, Below V.heap.size V V' → (Below vi.heap.size vi V ∧ V.cell? ⟨x0.heap.size, 0, none⟩ = some (.slice afs_xx fs_x.length cfs_xx) ∧ V.cell? ⟨w.heap.size, 0, none⟩ = some (.slice afs_x fs_x.length cfs_x)) → (Below vi.heap.size vi V' ∧ V'.cell? ⟨x0.heap.size, 0, none⟩ = some (.slice afs_xx fs_x.length cfs_xx) ∧ V'.cell? ⟨w.heap.size, 0, none⟩ = some (.slice afs_x fs_x.length cfs_x)) := fun V V' hb ⟨h, _⟩ =>
        have hb' := h.trans (hb.mono h.size)
        ⟨hb', (hb'.cell (p := ⟨_, 0, none⟩) (World.block_lt_of_cell? _ _ g1_0)).trans g1_0, (hb'.cell (p := ⟨_, 0, none⟩) (World.block_lt_of_cell? _ _ g3_0)).trans g3_0⟩
      have KEEP := hid hkeep
      clear hkeep
      have hbd : Below vi.heap.size vi vi.drew := (Below.refl _ _).drew
      go_region_held3 (fun V => Below vi.heap.size vi V ∧ V.cell? ⟨x0.heap.size, 0, none⟩ = some (.slice afs_xx fs_x.length cfs_xx) ∧ V.cell? ⟨w.heap.size, 0, none⟩ = some (.slice afs_x fs_x.length cfs_x))
        (first | exact KEEP.out _ _ hbq (by assumption) | go_keep)
        (first
          | (go_at_call 8; (with_reducible refine (toBk fs_x afs_x cfs_x _ HM_x.out ?_).mono ?_); (exact R_x.out.below (‹Below vi.heap.size vi _ ∧ _›).1); rintro e y0a ⟨afs_xe, cfs_xe, rfl, ho_xe, hbq⟩)
          | (go_at_call 11; (with_reducible refine (eqBk _ _ _ _ _ _ ?_ ?_).mono ?_); (exact C_xx.out.below ((‹Below vi.heap.size vi y0a ∧ _›).1)); (exact ho_xe.rd); rintro e y0b ⟨rfl, hbq⟩))
      obtain ⟨hbr, -⟩ := ‹Below vi.heap.size vi y0b ∧ _›
      clear KEEP hbd g1_0 g3_0
      have HB9 := hid (HB8.out.trans (hbr.mono HB8.out.size))
      have HX9 := hid (HX8.out.below hbr)
      have R_x := hid (R_x.out.below hbr)
      have R_y := hid (R_y.out.below hbr)
      have C_xx := hid (C_xx.out.below hbr)
      have C_yx := hid (C_yx.out.below hbr)
      clear hbr
      clear ho_xe
      go_wp2_with fail
      have g0_0 := HX9.out.at 0 0 rfl rfl
      have g0_1 := HX9.out.at 0 1 rfl rfl
      have g0_2 := HX9.out.at 0 2 rfl rfl
      have g0_3 := HX9.out.at 0 3 rfl rfl
      have g2_0 := HX9.out.at 2 0 rfl rfl
      have g2_1 := HX9.out.at 2 1 rfl rfl
      have g2_2 := HX9.out.at 2 2 rfl rfl
      have g2_3 := HX9.out.at 2 3 rfl rfl
      simp only [World.size_alloc] at g2_0 g2_1 g2_2 g2_3
      have hkeep : ∀ V V' : World, Below V.heap.size V V' → (Below y0b.heap.size y0b V ∧ V.cell? ⟨x1.heap.size, 0, none⟩ = some (.int .i64 k_y) ∧ V.cell? ⟨x1.heap.size, 1, none⟩ = some (.int .i64 v_y) ∧ V.cell? ⟨x1.heap.size, 2, none⟩ = some (.slice ads_yx ds_y.length cds_yx) ∧ V.cell? ⟨x1.heap.size, 3, none⟩ = some (.slice aks_yx ks_y.length cks_yx) ∧ V.cell? ⟨w.heap.size + 1, 0, none⟩ = some (.int .i64 k_y) ∧ V.cell? ⟨w.heap.size + 1, 1, none⟩ = some (.int .i64 v_y) ∧ V.cell? ⟨w.heap.size + 1, 2, none⟩ = some (.slice ads_y ds_y.length cds_y) ∧ V.cell? ⟨w.heap.size + 1, 3, none⟩ = some (.slice aks_y ks_y.length cks_y)) → (Below y0b.heap.size y0b V' ∧ V'.cell? ⟨x1.heap.size, 0, none⟩ = some (.int .i64 k_y) ∧ V'.cell? ⟨x1.heap.size, 1, none⟩ = some (.int .i64 v_y) ∧ V'.cell? ⟨x1.heap.size, 2, none⟩ = some (.slice ads_yx ds_y.length cds_yx) ∧ V'.cell? ⟨x1.heap.size, 3, none⟩ = some (.slice aks_yx ks_y.length cks_yx) ∧ V'.cell? ⟨w.heap.size + 1, 0, none⟩ = some (.int .i64 k_y) ∧ V'.cell? ⟨w.heap.size + 1, 1, none⟩ = some (.int .i64 v_y) ∧ V'.cell? ⟨w.heap.size + 1, 2, none⟩ = some (.slice ads_y ds_y.length cds_y) ∧ V'.cell? ⟨w.heap.size + 1, 3, none⟩ = some (.slice aks_y ks_y.length cks_y)) := fun V V' hb ⟨h, _⟩ =>
        have hb' := h.trans (hb.mono h.size)
        ⟨hb', (hb'.cell (p := ⟨_, 0, none⟩) (World.block_lt_of_cell? _ _ g0_0)).trans g0_0, (hb'.cell (p := ⟨_, 1, none⟩) (World.block_lt_of_cell? _ _ g0_1)).trans g0_1, (hb'.cell (p := ⟨_, 2, none⟩) (World.block_lt_of_cell? _ _ g0_2)).trans g0_2, (hb'.cell (p := ⟨_, 3, none⟩) (World.block_lt_of_cell? _ _ g0_3)).trans g0_3, (hb'.cell (p := ⟨_, 0, none⟩) (World.block_lt_of_cell? _ _ g2_0)).trans g2_0, (hb'.cell (p := ⟨_, 1, none⟩) (World.block_lt_of_cell? _ _ g2_1)).trans g2_1, (hb'.cell (p := ⟨_, 2, none⟩) (World.block_lt_of_cell? _ _ g2_2)).trans g2_2, (hb'.cell (p := ⟨_, 3, none⟩) (World.block_lt_of_cell? _ _ g2_3)).trans g2_3⟩
      have KEEP := hid hkeep
      clear hkeep
      have hbd : Below y0b.heap.size y0b y0b.drew := (Below.refl _ _).drew
      go_region_held3 (fun V => Below y0b.heap.size y0b V ∧ V.cell? ⟨x1.heap.size, 0, none⟩ = some (.int .i64 k_y) ∧ V.cell? ⟨x1.heap.size, 1, none⟩ = some (.int .i64 v_y) ∧ V.cell? ⟨x1.heap.size, 2, none⟩ = some (.slice ads_yx ds_y.length cds_yx) ∧ V.cell? ⟨x1.heap.size, 3, none⟩ = some (.slice aks_yx ks_y.length cks_yx) ∧ V.cell? ⟨w.heap.size + 1, 0, none⟩ = some (.int .i64 k_y) ∧ V.cell? ⟨w.heap.size + 1, 1, none⟩ = some (.int .i64 v_y) ∧ V.cell? ⟨w.heap.size + 1, 2, none⟩ = some (.slice ads_y ds_y.length cds_y) ∧ V.cell? ⟨w.heap.size + 1, 3, none⟩ = some (.slice aks_y ks_y.length cks_y))
        (first | exact KEEP.out _ _ hbq (by assumption) | go_keep)
        (first
          | (go_at_call 9; (with_reducible refine (toCo k_y v_y ds_y ks_y ads_y cds_y aks_y cks_y _ HM_y.out ?_).mono ?_); (exact R_y.out.below (‹Below y0b.heap.size y0b _ ∧ _›).1); rintro e y1a ⟨ads_ye, cds_ye, aks_ye, cks_ye, rfl, ho_ye, hbq⟩)
          | (go_at_call 12; (with_reducible refine (eqCo _ _ _ _ _ _ _ _ _ _ _ _ _ ?_ ?_).mono ?_); (exact C_yx.out.below ((‹Below y0b.heap.size y0b y1a ∧ _›).1)); (exact ho_ye.rd); rintro e y1b ⟨rfl, hbq⟩))
      obtain ⟨hbr, -⟩ := ‹Below y0b.heap.size y0b y1b ∧ _›
      clear KEEP hbd g0_0 g0_1 g0_2 g0_3 g2_0 g2_1 g2_2 g2_3
      have HB10 := hid (HB9.out.trans (hbr.mono HB9.out.size))
      have HX10 := hid (HX9.out.below hbr)
      have R_x := hid (R_x.out.below hbr)
      have R_y := hid (R_y.out.below hbr)
      have C_xx := hid (C_xx.out.below hbr)
      have C_yx := hid (C_yx.out.below hbr)
      clear hbr
      clear ho_ye
      go_wp2_with fail
      go_ret
      exact ⟨rfl, HB10.out⟩

set_option maxRecDepth 100000 in
theorem FnExactIsNormal_lifted (os : Os) (started : os.Started) (H : Type) (enc : TypeId × Value → H) :
    ReturnsInHanded {} Try.checked os 3 .any (Rows.fnExactIsNormalSpec.pre6 enc Try.prog Try.f3 Rows.fnExactIsNormalRow.domain false) (Rows.fnExactIsNormalSpec.post enc Try.prog Try.f3 false true false false) := by
  refine law_lifted (C := Try.checked) (tb := 4) own started (by kernel_rfl) Try.func3 laidOut (by intro t ht; rw [Try.params3] at ht; simp at ht; rcases ht with rfl | rfl <;> exact ⟨by kernel_rfl, of_decide_eq_true (by kernel_rfl)⟩) rfl Try.underlying4 rfl ?_
    (ChangeSpec.witness6 (enc := enc) (C := Try.checked) false ⟨#[], #[.agg #[.slice none 0 0], .agg #[.int .i64 0, .int .i64 0, .slice none 0 0, .slice none 0 0]], []⟩ 8 (by kernel_rfl) (by kernel_rfl) (by kernel_rfl) (by kernel_rfl)) ?_
  · intro ds hds
    rw [Try.params3] at hds
    match ds, hds with
    | [_, _], _ => exact ⟨rfl, rfl, rfl⟩
  intro W base args ds p hval0 hA0 hlt
  have hval : ∀ (j : Nat) t v, Try.f3.params[j]? = some t → args[j]? = some v → Value.okWide Try.prog W .any base t v := hval0
  have hA : DataW.TrodAll enc Try.prog W 0 (fun _ => true) true Try.f3.params.toList args.toList ds p := hA0
  rw [Try.params3] at hA hval
  clear hval0 hA0
  obtain ⟨v0, vs0, d0, ds0, p0, q0, hargs0, rfl, rfl, h0, r0⟩ := trodAll_cons hA
  obtain ⟨v1, vs1, d1, ds1, p1, q1, hargs1, rfl, rfl, h1, r1⟩ := trodAll_cons r0
  obtain ⟨rfl, rfl, rfl⟩ := trodAll_nil r1
  subst hargs1
  obtain rfl : args = #[v0, v1] := by cases args; simp_all
  obtain ⟨fs_x, afs_x, cfs_x, rfl, hr_x⟩ := arg_Bk (hval 0 24 v0 rfl rfl) h0
  obtain ⟨k_y, v_y, ds_y, ks_y, ads_y, cds_y, aks_y, cks_y, rfl, hr_y⟩ := arg_Co (hval 1 27 v1 rfl rfl) h1
  exact FnExactIsNormal_walk fs_x afs_x cfs_x k_y v_y ds_y ks_y ads_y cds_y aks_y cks_y W hr_x hr_y

theorem FnExactIsNormal_holds : Rows.FnExactIsNormalSaid :=
  OpenClaim.holds_of_wide 3 Try.f3 rfl rfl rfl rfl rfl rfl rfl ⟨rfl, rfl, rfl, rfl, rfl⟩ rfl rfl rfl rfl rfl (by kernel_rfl) Try.func3 (by kernel_rfl)
    (of_decide_eq_true (by kernel_rfl)) (by unfold Func.isWrapper; first | (rw [if_pos (by decide +kernel)]; kernel_rfl) | (rw [if_neg (by decide +kernel)]; exact ⟨rfl, rfl⟩))
    (fun os started H enc _ => FnExactIsNormal_lifted os started H enc)
end Go.Proofs.Ytejdbmeoaekhcaa
