/- FnExactFreeNames: for every input. No condition. -/
import Derived.Test.YtdcifcfkjhpokaaArTm
import Derived.Test.YtdcifcfkjhpokaaSzTm
import Derived.Test.YtdcifcfkjhpokaaToTm
import Derived.Test.YtdcifcfkjhpokaaEqTm
import Derived.Test.YtdcifcfkjhpokaaFrF
import Derived.Test.YtdcifcfkjhpokaaHdSc
import Derived.Test.YtdcifcfkjhpokaaMkVal
import Derived.Deep.RegionHeld3
namespace Go.Proofs.Ytdcifcfkjhpokaa
open Go.ChangeShapes Go.WideShapes Go.ChangeAt Go.RowKit
open Go.Sort (grow)
open Go.ChangeMaps (open_string)
set_option linter.unusedVariables false

set_option maxHeartbeats 1000000 in
theorem FnExactFreeNames_walk (k_x : Int) (u_x : Int) (n_x : ByteArray) (tk_x : Int) (tn_x : ByteArray) (tks_x : List Ty) (ns_x : List ByteArray) (ks_x : List Tm) (atks_x : Option Addr) (ctks_x : Nat) (ans_x : Option Addr) (cns_x : Nat) (aks_x : Option Addr) (cks_x : Nat) (w : World) (hr_x : RdS w (Tm.d (Tm.mk k_x u_x n_x (Ty.mk tk_x tn_x tks_x) ns_x ks_x)) [.int .i64 k_x, .int .i64 u_x, .string n_x, .int .i64 tk_x, .string tn_x, .slice atks_x tks_x.length ctks_x, .slice ans_x ns_x.length cns_x, .slice aks_x ks_x.length cks_x]) :
    Calls Try.prog 8 #[.agg #[.int .i64 k_x, .int .i64 u_x, .string n_x, .int .i64 tk_x, .string tn_x, .slice atks_x tks_x.length ctks_x, .slice ans_x ns_x.length cns_x, .slice aks_x ks_x.length cks_x]] w fun e w' => e = .returned (.bool true) ∧ Below w.heap.size w w' := by
  have hbw0 : Below w.heap.size w (w.alloc (.cells #[.int .i64 k_x, .int .i64 u_x, .string n_x, .int .i64 tk_x, .string tn_x, .slice atks_x tks_x.length ctks_x, .slice ans_x ns_x.length cns_x, .slice aks_x ks_x.length cks_x] 28)) := ((Below.refl _ _).alloc (by simp) _)
  have HX0 := hid ((Boxes.nil w).alloc #[.int .i64 k_x, .int .i64 u_x, .string n_x, .int .i64 tk_x, .string tn_x, .slice atks_x tks_x.length ctks_x, .slice ans_x ns_x.length cns_x, .slice aks_x ks_x.length cks_x] 28 (0, 0))
  have hc0 := fun (W : World) (hb : Below w.heap.size w W) => szTm k_x u_x n_x tk_x tn_x tks_x ns_x ks_x atks_x ctks_x ans_x cns_x aks_x cks_x (1048576) W (hr_x.below hb) (by omega) (by omega)
  by_cases hp0 : ((Tm.bulk (Tm.mk k_x u_x n_x (Ty.mk tk_x tn_x tks_x) ns_x ks_x) : Nat) : Int) ≤ 1048576
  case neg =>
    rw [purse_no hp0] at hc0
    have HC0 := hid hc0
    have HB0 := hid hbw0
    clear hbw0 hc0 hr_x
    go_enter Try.func8, Try.ntmps8
    go_wp2_with fail
    refine (HC0.out _ HB0.out).mono ?_
    rintro e w1 ⟨rfl, hb⟩
    have HB1 := hid (HB0.out.trans (hb.mono (by simp)))
    have HX1 := hid (HX0.out.below hb)
    clear hb HC0
    go_wp2_with fail
    go_ret
    exact ⟨rfl, HB1.out⟩
  case pos =>
    rw [purse_ok hp0] at hc0
    have HM_x : Hid (Tm.bulk (Tm.mk k_x u_x n_x (Ty.mk tk_x tn_x tks_x) ns_x ks_x) ≤ 1048576) := by show _ ≤ _; omega
    have HC0 := hid hc0
    have HB0 := hid hbw0
    have R_x := hid hr_x
    have R0_x := hid hr_x
    clear hbw0 hc0 hr_x
    go_enter Try.func8, Try.ntmps8
    go_wp2_with fail
    refine (HC0.out _ HB0.out).mono ?_
    rintro e w1 ⟨rfl, hb⟩
    have HB1 := hid (HB0.out.trans (hb.mono (by simp)))
    have HX1 := hid (HX0.out.below hb)
    clear hb HC0
    have R_x := hid (R_x.out.below HB1.out)
    have g0_0 := HX1.out.at 0 0 rfl rfl
    have g0_1 := HX1.out.at 0 1 rfl rfl
    have g0_2 := HX1.out.at 0 2 rfl rfl
    have g0_3 := HX1.out.at 0 3 rfl rfl
    have g0_4 := HX1.out.at 0 4 rfl rfl
    have g0_5 := HX1.out.at 0 5 rfl rfl
    have g0_6 := HX1.out.at 0 6 rfl rfl
    have g0_7 := HX1.out.at 0 7 rfl rfl
    go_wp2_with fail
    clear g0_0 g0_1 g0_2 g0_3 g0_4 g0_5 g0_6 g0_7
    refine (toTm k_x u_x n_x tk_x tn_x tks_x ns_x ks_x atks_x ctks_x ans_x cns_x aks_x cks_x _ HM_x.out ?_).mono ?_
    · exact R_x.out
    rintro e v0 ⟨atks_xs, ctks_xs, ans_xs, cns_xs, aks_xs, cks_xs, rfl, ho_xs, hb⟩
    have HB2 := hid (HB1.out.trans (hb.mono HB1.out.size))
    have HX2 := hid (HX1.out.below hb)
    have R_x := hid (R_x.out.below hb)
    have C_xs := hid ho_xs.rd
    clear hb ho_xs
    go_wp2_with fail
    have HBs := hid HB2.out.size
    refine (spec_FreeNames _ _ _ _ _ _ _ _ _ _ _ _ _ _ _ ?_ ?_).mono ?_
    · exact HM_x.out
    · exact C_xs.out
    rintro e vs ⟨a_w, c_w, rfl, ho_w, hb⟩
    have HB3 := hid (HB2.out.trans (hb.mono HB2.out.size))
    have HX3 := hid (HX2.out.below hb)
    have R_x := hid (R_x.out.below hb)
    have C_xs := hid (C_xs.out.below hb)
    have W0 := hid ho_w.rd
    have W_w := hid ho_w.rd
    have HV := hid (Below.refl vs.heap.size vs)
    have HWV := hid HB3.out.size
    clear hb ho_w C_xs HBs
    have g0_0 := HX3.out.at 0 0 rfl rfl
    have g0_1 := HX3.out.at 0 1 rfl rfl
    have g0_2 := HX3.out.at 0 2 rfl rfl
    have g0_3 := HX3.out.at 0 3 rfl rfl
    have g0_4 := HX3.out.at 0 4 rfl rfl
    have g0_5 := HX3.out.at 0 5 rfl rfl
    have g0_6 := HX3.out.at 0 6 rfl rfl
    have g0_7 := HX3.out.at 0 7 rfl rfl
    go_wp2_with fail
    clear g0_0 g0_1 g0_2 g0_3 g0_4 g0_5 g0_6 g0_7
    refine (toTm k_x u_x n_x tk_x tn_x tks_x ns_x ks_x atks_x ctks_x ans_x cns_x aks_x cks_x _ HM_x.out ?_).mono ?_
    · exact R_x.out
    rintro e x0 ⟨atks_xx, ctks_xx, ans_xx, cns_xx, aks_xx, cks_xx, rfl, ho_xx, hb⟩
    have HB4 := hid (HB3.out.trans (hb.mono HB3.out.size))
    have HX4 := hid (HX3.out.below hb)
    have R_x := hid (R_x.out.below hb)
    have W_w := hid (W_w.out.below hb)
    have HV := hid (HV.out.trans (hb.mono HV.out.size))
    obtain ⟨Fx, hRx, hOx⟩ := ho_xx
    have C_xx := hid (show RdS _ _ _ from ⟨Fx, hRx⟩)
    clear hb
    have HXV := hid HV.out.size
    have HWB := hid (show w.heap.size < vs.heap.size from (HX3.out 0 _ _ rfl).1)
    have HRX := hid hRx
    have HOX := hid (hOx.mono (base' := 0) (Nat.zero_le _))
    have LOX := hid (fun b (hb : b ∈ Fx) => (⟨(hOx.2 b hb).1, hRx.lt b hb⟩ : vs.heap.size ≤ b ∧ b < x0.heap.size))
    clear hRx hOx
    have hba : Below x0.heap.size x0 (x0.alloc (.cells #[.int .i64 k_x, .int .i64 u_x, .string n_x, .int .i64 tk_x, .string tn_x, .slice atks_xx tks_x.length ctks_xx, .slice ans_xx ns_x.length cns_xx, .slice aks_xx ks_x.length cks_xx] 36)) := (Below.refl _ _).alloc (Nat.le_refl _) _
    have HXa := hid (HX4.out.alloc #[.int .i64 k_x, .int .i64 u_x, .string n_x, .int .i64 tk_x, .string tn_x, .slice atks_xx tks_x.length ctks_xx, .slice ans_xx ns_x.length cns_xx, .slice aks_xx ks_x.length cks_xx] 36 (0, 0))
    have HB5 := hid (HB4.out.trans (hba.mono HB4.out.size))
    have HX5 := hid (HX4.out.below hba)
    have R_x := hid (R_x.out.below hba)
    have W_w := hid (W_w.out.below hba)
    have HV := hid (HV.out.trans (hba.mono HV.out.size))
    have C_xx := hid (C_xx.out.below hba)
    have HRX := hid (HRX.out.below hba)
    have HOX := hid (HOX.out.below hba)
    clear hba
    have HX5 := HXa
    have g0_0 := HX5.out.at 0 0 rfl rfl
    have g0_1 := HX5.out.at 0 1 rfl rfl
    have g0_2 := HX5.out.at 0 2 rfl rfl
    have g0_3 := HX5.out.at 0 3 rfl rfl
    have g0_4 := HX5.out.at 0 4 rfl rfl
    have g0_5 := HX5.out.at 0 5 rfl rfl
    have g0_6 := HX5.out.at 0 6 rfl rfl
    have g0_7 := HX5.out.at 0 7 rfl rfl
    go_wp2_with fail
    clear g0_0 g0_1 g0_2 g0_3 g0_4 g0_5 g0_6 g0_7
    have HX0S := hid (show x0.heap.size < (x0.alloc (.cells #[.int .i64 k_x, .int .i64 u_x, .string n_x, .int .i64 tk_x, .string tn_x, .slice atks_xx tks_x.length ctks_xx, .slice ans_xx ns_x.length cns_xx, .slice aks_xx ks_x.length cks_xx] 36)).heap.size by simp)
    refine (impl_FreeNames _ _ _ _ _ _ _ _ _ _ _ _ _ _ _ ?_ ?_).mono ?_
    · exact HM_x.out
    · exact C_xx.out
    rintro e vi ⟨a_g, c_g, rfl, ho_g, hb⟩
    have HB6 := hid (HB5.out.trans (hb.mono HB5.out.size))
    have HX6 := hid (HX5.out.below hb)
    have R_x := hid (R_x.out.below hb)
    have W_w := hid (W_w.out.below hb)
    have HV := hid (HV.out.trans (hb.mono HV.out.size))
    have C_xx := hid (C_xx.out.below hb)
    have HRX := hid (HRX.out.below hb)
    have HOX := hid (HOX.out.below hb)
    obtain ⟨Fg, hRg, hOg⟩ := ho_g
    have HRG := hid hRg
    have HOG := hid (hOg.mono (base' := 0) (Nat.zero_le _))
    have LOG := hid (fun b (hb : b ∈ Fg) => Nat.lt_of_lt_of_le HX0S.out (hOg.2 b hb).1)
    clear hRg hOg hb
    go_wp2_with fail
    refine (eqSrs _ _ _ _ _ _ ?_ ?_).mono ?_
    · exact ⟨Fg, HRG.out⟩
    · exact W_w.out
    rintro e ve ⟨rfl, hb⟩
    have HB7 := hid (HB6.out.trans (hb.mono HB6.out.size))
    have HX7 := hid (HX6.out.below hb)
    have R_x := hid (R_x.out.below hb)
    have W_w := hid (W_w.out.below hb)
    have HV := hid (HV.out.trans (hb.mono HV.out.size))
    have C_xx := hid (C_xx.out.below hb)
    have HRX := hid (HRX.out.below hb)
    have HOX := hid (HOX.out.below hb)
    have HRG := hid (HRG.out.below hb)
    have HOG := hid (HOG.out.below hb)
    clear hb
    go_wp2_with fail
    have g0_0 := HX7.out.at 0 0 rfl rfl
    have g0_1 := HX7.out.at 0 1 rfl rfl
    have g0_2 := HX7.out.at 0 2 rfl rfl
    have g0_3 := HX7.out.at 0 3 rfl rfl
    have g0_4 := HX7.out.at 0 4 rfl rfl
    have g0_5 := HX7.out.at 0 5 rfl rfl
    have g0_6 := HX7.out.at 0 6 rfl rfl
    have g0_7 := HX7.out.at 0 7 rfl rfl
    have g1_0 := HX7.out.at 1 0 rfl rfl
    have g1_1 := HX7.out.at 1 1 rfl rfl
    have g1_2 := HX7.out.at 1 2 rfl rfl
    have g1_3 := HX7.out.at 1 3 rfl rfl
    have g1_4 := HX7.out.at 1 4 rfl rfl
    have g1_5 := HX7.out.at 1 5 rfl rfl
    have g1_6 := HX7.out.at 1 6 rfl rfl
    have g1_7 := HX7.out.at 1 7 rfl rfl
    have hkeep : ∀ V V' : World, Below V.heap.size V V' → (Below ve.heap.size ve V ∧ V.cell? ⟨x0.heap.size, 0, none⟩ = some (.int .i64 k_x) ∧ V.cell? ⟨x0.heap.size, 1, none⟩ = some (.int .i64 u_x) ∧ V.cell? ⟨x0.heap.size, 2, none⟩ = some (.string n_x) ∧ V.cell? ⟨x0.heap.size, 3, none⟩ = some (.int .i64 tk_x) ∧ V.cell? ⟨x0.heap.size, 4, none⟩ = some (.string tn_x) ∧ V.cell? ⟨x0.heap.size, 5, none⟩ = some (.slice atks_xx tks_x.length ctks_xx) ∧ V.cell? ⟨x0.heap.size, 6, none⟩ = some (.slice ans_xx ns_x.length cns_xx) ∧ V.cell? ⟨x0.heap.size, 7, none⟩ = some (.slice aks_xx ks_x.length cks_xx) ∧ V.cell? ⟨w.heap.size, 0, none⟩ = some (.int .i64 k_x) ∧ V.cell? ⟨w.heap.size, 1, none⟩ = some (.int .i64 u_x) ∧ V.cell? ⟨w.heap.size, 2, none⟩ = some (.string n_x) ∧ V.cell? ⟨w.heap.size, 3, none⟩ = some (.int .i64 tk_x) ∧ V.cell? ⟨w.heap.size, 4, none⟩ = some (.string tn_x) ∧ V.cell? ⟨w.heap.size, 5, none⟩ = some (.slice atks_x tks_x.length ctks_x) ∧ V.cell? ⟨w.heap.size, 6, none⟩ = some (.slice ans_x ns_x.length cns_x) ∧ V.cell? ⟨w.heap.size, 7, none⟩ = some (.slice aks_x ks_x.length cks_x)) → (Below ve.heap.size ve V' ∧ V'.cell? ⟨x0.heap.size, 0, none⟩ = some (.int .i64 k_x) ∧ V'.cell? ⟨x0.heap.size, 1, none⟩ = some (.int .i64 u_x) ∧ V'.cell? ⟨x0.heap.size, 2, none⟩ = some (.string n_x) ∧ V'.cell? ⟨x0.heap.size, 3, none⟩ = some (.int .i64 tk_x) ∧ V'.cell? ⟨x0.heap.size, 4, none⟩ = some (.string tn_x) ∧ V'.cell? ⟨x0.heap.size, 5, none⟩ = some (.slice atks_xx tks_x.length ctks_xx) ∧ V'.cell? ⟨x0.heap.size, 6, none⟩ = some (.slice ans_xx ns_x.length cns_xx) ∧ V'.cell? ⟨x0.heap.size, 7, none⟩ = some (.slice aks_xx ks_x.length cks_xx) ∧ V'.cell? ⟨w.heap.size, 0, none⟩ = some (.int .i64 k_x) ∧ V'.cell? ⟨w.heap.size, 1, none⟩ = some (.int .i64 u_x) ∧ V'.cell? ⟨w.heap.size, 2, none⟩ = some (.string n_x) ∧ V'.cell? ⟨w.heap.size, 3, none⟩ = some (.int .i64 tk_x) ∧ V'.cell? ⟨w.heap.size, 4, none⟩ = some (.string tn_x) ∧ V'.cell? ⟨w.heap.size, 5, none⟩ = some (.slice atks_x tks_x.length ctks_x) ∧ V'.cell? ⟨w.heap.size, 6, none⟩ = some (.slice ans_x ns_x.length cns_x) ∧ V'.cell? ⟨w.heap.size, 7, none⟩ = some (.slice aks_x ks_x.length cks_x)) := fun V V' hb ⟨h, _⟩ =>
      have hb' := h.trans (hb.mono h.size)
      ⟨hb', (hb'.cell (p := ⟨_, 0, none⟩) (World.block_lt_of_cell? _ _ g0_0)).trans g0_0, (hb'.cell (p := ⟨_, 1, none⟩) (World.block_lt_of_cell? _ _ g0_1)).trans g0_1, (hb'.cell (p := ⟨_, 2, none⟩) (World.block_lt_of_cell? _ _ g0_2)).trans g0_2, (hb'.cell (p := ⟨_, 3, none⟩) (World.block_lt_of_cell? _ _ g0_3)).trans g0_3, (hb'.cell (p := ⟨_, 4, none⟩) (World.block_lt_of_cell? _ _ g0_4)).trans g0_4, (hb'.cell (p := ⟨_, 5, none⟩) (World.block_lt_of_cell? _ _ g0_5)).trans g0_5, (hb'.cell (p := ⟨_, 6, none⟩) (World.block_lt_of_cell? _ _ g0_6)).trans g0_6, (hb'.cell (p := ⟨_, 7, none⟩) (World.block_lt_of_cell? _ _ g0_7)).trans g0_7, (hb'.cell (p := ⟨_, 0, none⟩) (World.block_lt_of_cell? _ _ g1_0)).trans g1_0, (hb'.cell (p := ⟨_, 1, none⟩) (World.block_lt_of_cell? _ _ g1_1)).trans g1_1, (hb'.cell (p := ⟨_, 2, none⟩) (World.block_lt_of_cell? _ _ g1_2)).trans g1_2, (hb'.cell (p := ⟨_, 3, none⟩) (World.block_lt_of_cell? _ _ g1_3)).trans g1_3, (hb'.cell (p := ⟨_, 4, none⟩) (World.block_lt_of_cell? _ _ g1_4)).trans g1_4, (hb'.cell (p := ⟨_, 5, none⟩) (World.block_lt_of_cell? _ _ g1_5)).trans g1_5, (hb'.cell (p := ⟨_, 6, none⟩) (World.block_lt_of_cell? _ _ g1_6)).trans g1_6, (hb'.cell (p := ⟨_, 7, none⟩) (World.block_lt_of_cell? _ _ g1_7)).trans g1_7⟩
    have KEEP := hid hkeep
    clear hkeep
    have hbd : Below ve.heap.size ve ve.drew := (Below.refl _ _).drew
    go_region_held3 (fun V => Below ve.heap.size ve V ∧ V.cell? ⟨x0.heap.size, 0, none⟩ = some (.int .i64 k_x) ∧ V.cell? ⟨x0.heap.size, 1, none⟩ = some (.int .i64 u_x) ∧ V.cell? ⟨x0.heap.size, 2, none⟩ = some (.string n_x) ∧ V.cell? ⟨x0.heap.size, 3, none⟩ = some (.int .i64 tk_x) ∧ V.cell? ⟨x0.heap.size, 4, none⟩ = some (.string tn_x) ∧ V.cell? ⟨x0.heap.size, 5, none⟩ = some (.slice atks_xx tks_x.length ctks_xx) ∧ V.cell? ⟨x0.heap.size, 6, none⟩ = some (.slice ans_xx ns_x.length cns_xx) ∧ V.cell? ⟨x0.heap.size, 7, none⟩ = some (.slice aks_xx ks_x.length cks_xx) ∧ V.cell? ⟨w.heap.size, 0, none⟩ = some (.int .i64 k_x) ∧ V.cell? ⟨w.heap.size, 1, none⟩ = some (.int .i64 u_x) ∧ V.cell? ⟨w.heap.size, 2, none⟩ = some (.string n_x) ∧ V.cell? ⟨w.heap.size, 3, none⟩ = some (.int .i64 tk_x) ∧ V.cell? ⟨w.heap.size, 4, none⟩ = some (.string tn_x) ∧ V.cell? ⟨w.heap.size, 5, none⟩ = some (.slice atks_x tks_x.length ctks_x) ∧ V.cell? ⟨w.heap.size, 6, none⟩ = some (.slice ans_x ns_x.length cns_x) ∧ V.cell? ⟨w.heap.size, 7, none⟩ = some (.slice aks_x ks_x.length cks_x))
      (first | exact KEEP.out _ _ hbq (by assumption) | go_keep)
      (first
        | (go_at_call 15; (with_reducible refine (toTm k_x u_x n_x tk_x tn_x tks_x ns_x ks_x atks_x ctks_x ans_x cns_x aks_x cks_x _ HM_x.out ?_).mono ?_); (exact R_x.out.below (‹Below ve.heap.size ve _ ∧ _›).1); rintro e ya ⟨atks_xe, ctks_xe, ans_xe, cns_xe, aks_xe, cks_xe, rfl, ho_xe, hbq⟩)
        | (go_at_call 17; (with_reducible refine (eqTm _ _ _ _ _ _ _ _ _ _ _ _ _ _ _ _ _ _ _ _ _ ?_ ?_).mono ?_); (exact C_xx.out.below ((‹Below ve.heap.size ve ya ∧ _›).1)); (exact ho_xe.rd); rintro e yb ⟨rfl, hbq⟩))
    obtain ⟨hbr, -⟩ := ‹Below ve.heap.size ve yb ∧ _›
    clear KEEP hbd g0_0 g0_1 g0_2 g0_3 g0_4 g0_5 g0_6 g0_7 g1_0 g1_1 g1_2 g1_3 g1_4 g1_5 g1_6 g1_7
    have HB8 := hid (HB7.out.trans (hbr.mono HB7.out.size))
    have HX8 := hid (HX7.out.below hbr)
    have R_x := hid (R_x.out.below hbr)
    have W_w := hid (W_w.out.below hbr)
    have HV := hid (HV.out.trans (hbr.mono HV.out.size))
    have C_xx := hid (C_xx.out.below hbr)
    have HRX := hid (HRX.out.below hbr)
    have HOX := hid (HOX.out.below hbr)
    have HRG := hid (HRG.out.below hbr)
    have HOG := hid (HOG.out.below hbr)
    clear hbr ho_xe
    have g0_0 := HX8.out.at 0 0 rfl rfl
    have g0_1 := HX8.out.at 0 1 rfl rfl
    have g0_2 := HX8.out.at 0 2 rfl rfl
    have g0_3 := HX8.out.at 0 3 rfl rfl
    have g0_4 := HX8.out.at 0 4 rfl rfl
    have g0_5 := HX8.out.at 0 5 rfl rfl
    have g0_6 := HX8.out.at 0 6 rfl rfl
    have g0_7 := HX8.out.at 0 7 rfl rfl
    have hm1 := markTm_in k_x u_x n_x tk_x tn_x tks_x ns_x ks_x atks_xx ctks_xx ans_xx cns_xx aks_xx cks_xx Fx 1 yb HM_x.out (by omega) HRX.out HOX.out
    rw [show ((1 : Nat) : Int) = 1 from rfl] at hm1
    have HM1 := hid hm1
    clear hm1
    go_wp2_with fail
    clear g0_0 g0_1 g0_2 g0_3 g0_4 g0_5 g0_6 g0_7
    refine HM1.out.mono ?_
    rintro e km ⟨rk, rfl, hrk, hmk⟩
    have HB9 := hid (Mk.below HB8.out hmk (fun b hb => by have h1 := HWV.out; have h2 := LOX.out b hb; omega) HB8.out.size)
    have HV := hid (Mk.below HV.out hmk (fun b hb => by have h2 := LOX.out b hb; omega) HV.out.size)
    have HX9 := hid (Boxes.mk HX8.out hmk (fun q hq hy => by
      have h2 := LOX.out q.1 hy
      simp only [List.mem_cons, List.not_mem_nil, or_false] at hq
      have h3 := HWB.out
      rcases hq with rfl | rfl
      · exact absurd h2.2 (Nat.lt_irrefl _)
      · simp only at h2; omega))
    have R_x := hid (R0_x.out.below HB9.out)
    have W_w := hid (W0.out.below HV.out)
    have HRG := hid (hmk.rd HRG.out (fun b hb hy => by have h1 := LOG.out b hb; have h2 := LOX.out b hy; omega))
    have HOG := hid (hmk.own HOG.out)
    have hrk2 : rk ≤ 1099511627776 := by have := HM_x.out; omega
    have hk0 : decide ((rk : Int) < 0) = false := decide_eq_false (by omega)
    clear hmk hrk C_xx HRX HOX HM1
    go_wp2_with fail
    refine (eqSrs _ _ _ _ _ _ ?_ ?_).mono ?_
    · exact ⟨Fg, HRG.out⟩
    · exact W_w.out
    rintro e vf ⟨rfl, hb⟩
    have HB10 := hid (HB9.out.trans (hb.mono HB9.out.size))
    have HX10 := hid (HX9.out.below hb)
    have R_x := hid (R_x.out.below hb)
    have W_w := hid (W_w.out.below hb)
    have HV := hid (HV.out.trans (hb.mono HV.out.size))
    have HRG := hid (HRG.out.below hb)
    have HOG := hid (HOG.out.below hb)
    clear hb
    clear hk0
    have hm2 := markSrs (freeN (Tm.mk k_x u_x n_x (Ty.mk tk_x tn_x tks_x) ns_x ks_x)) a_g c_g Fg 1 vf (by have := freeN_len (Tm.mk k_x u_x n_x (Ty.mk tk_x tn_x tks_x) ns_x ks_x); have := HM_x.out; omega) (by rw [nums_Sr]; have := freeN_len (Tm.mk k_x u_x n_x (Ty.mk tk_x tn_x tks_x) ns_x ks_x); have := HM_x.out; omega) HRG.out HOG.out
    unfold MkPost at hm2
    obtain ⟨mm, hmm⟩ : ∃ mm, mm = 1 + D.nums (Sr.ds (freeN (Tm.mk k_x u_x n_x (Ty.mk tk_x tn_x tks_x) ns_x ks_x))) := ⟨_, rfl⟩
    rw [← hmm, show ((1 : Nat) : Int) = 1 from rfl] at hm2
    have HMM := hid hmm
    have hmb : mm ≤ 1099511627776 := by have := HMM.out; rw [nums_Sr] at this; have := freeN_len (Tm.mk k_x u_x n_x (Ty.mk tk_x tn_x tks_x) ns_x ks_x); have := HM_x.out; omega
    clear hmm
    have HM2 := hid hm2
    clear hm2
    go_wp2_with fail
    refine HM2.out.mono ?_
    rintro e kg ⟨rfl, hrd, hmk⟩
    have HB11 := hid (Mk.below HB10.out hmk (fun b hb => by have h1 := HWV.out; have h2 := LOG.out b hb; have h3 := HXV.out; omega) HB10.out.size)
    have HV := hid (Mk.below HV.out hmk (fun b hb => by have h2 := LOG.out b hb; have h3 := HXV.out; omega) HV.out.size)
    have HX11 := hid (Boxes.mk HX10.out hmk (fun q hq hy => by
      have h2 := LOG.out q.1 hy
      simp only [List.mem_cons, List.not_mem_nil, or_false] at hq
      have h3 := HWB.out
      rcases hq with rfl | rfl
      · exact absurd h2 (Nat.lt_irrefl _)
      · simp only at h2; have h4 := HXV.out; have h5 := HWV.out; omega))
    have R_x := hid (R0_x.out.below HB11.out)
    have W_w := hid (W0.out.below HV.out)
    have HRM := hid (show RdL kg (D.marks 1 (Sr.ds (freeN (Tm.mk k_x u_x n_x (Ty.mk tk_x tn_x tks_x) ns_x ks_x)))) (.slice a_g (freeN (Tm.mk k_x u_x n_x (Ty.mk tk_x tn_x tks_x) ns_x ks_x)).length c_g) from ⟨Fg, hrd⟩)
    clear hmk hrd HRG HOG HM2
    have hh := heldSrs (freeN (Tm.mk k_x u_x n_x (Ty.mk tk_x tn_x tks_x) ns_x ks_x)) a_g c_g 1 kg (by have := freeN_len (Tm.mk k_x u_x n_x (Ty.mk tk_x tn_x tks_x) ns_x ks_x); have := HM_x.out; omega) HRM.out
    rw [show 1 + (freeN (Tm.mk k_x u_x n_x (Ty.mk tk_x tn_x tks_x) ns_x ks_x)).length = mm from by have := HMM.out; rw [nums_Sr] at this; omega, show ((1 : Nat) : Int) = 1 from rfl] at hh
    have HH := hid hh
    clear hh
    have hm0 : decide ((mm : Int) < 0) = false := decide_eq_false (by omega)
    go_wp2_with fail
    refine HH.out.mono ?_
    rintro e kh ⟨rfl, hb⟩
    have HB12 := hid (HB11.out.trans (hb.mono HB11.out.size))
    have HX12 := hid (HX11.out.below hb)
    have R_x := hid (R_x.out.below hb)
    have W_w := hid (W_w.out.below hb)
    have HV := hid (HV.out.trans (hb.mono HV.out.size))
    have HRM := hid (HRM.out.below hb)
    clear HH hb
    have g1_0 := HX12.out.at 1 0 rfl rfl
    have g1_1 := HX12.out.at 1 1 rfl rfl
    have g1_2 := HX12.out.at 1 2 rfl rfl
    have g1_3 := HX12.out.at 1 3 rfl rfl
    have g1_4 := HX12.out.at 1 4 rfl rfl
    have g1_5 := HX12.out.at 1 5 rfl rfl
    have g1_6 := HX12.out.at 1 6 rfl rfl
    have g1_7 := HX12.out.at 1 7 rfl rfl
    go_wp2_with fail
    clear g1_0 g1_1 g1_2 g1_3 g1_4 g1_5 g1_6 g1_7
    refine (toTm k_x u_x n_x tk_x tn_x tks_x ns_x ks_x atks_x ctks_x ans_x cns_x aks_x cks_x _ HM_x.out ?_).mono ?_
    · exact R_x.out
    rintro e vh0 ⟨atks_xh, ctks_xh, ans_xh, cns_xh, aks_xh, cks_xh, rfl, ho_xh, hb⟩
    have HB13 := hid (HB12.out.trans (hb.mono HB12.out.size))
    have HX13 := hid (HX12.out.below hb)
    have R_x := hid (R_x.out.below hb)
    have W_w := hid (W_w.out.below hb)
    have HV := hid (HV.out.trans (hb.mono HV.out.size))
    have HRM := hid (HRM.out.below hb)
    have C_xh := hid ho_xh.rd
    clear hb ho_xh
    go_wp2_with fail
    refine (impl_FreeNames _ _ _ _ _ _ _ _ _ _ _ _ _ _ _ ?_ ?_).mono ?_
    · exact HM_x.out
    · exact C_xh.out
    rintro e vh ⟨a_h, c_h, rfl, ho_h, hb⟩
    have HB14 := hid (HB13.out.trans (hb.mono HB13.out.size))
    have HX14 := hid (HX13.out.below hb)
    have R_x := hid (R_x.out.below hb)
    have W_w := hid (W_w.out.below hb)
    have HV := hid (HV.out.trans (hb.mono HV.out.size))
    have HRM := hid (HRM.out.below hb)
    have C_xh := hid (C_xh.out.below hb)
    have HRH := hid ho_h.rd
    clear hb ho_h C_xh
    go_wp2_with fail
    refine (eqSrs _ _ _ _ _ _ ?_ ?_).mono ?_
    · exact HRH.out
    · exact W_w.out
    rintro e vj ⟨rfl, hb⟩
    have HB15 := hid (HB14.out.trans (hb.mono HB14.out.size))
    have HX15 := hid (HX14.out.below hb)
    have R_x := hid (R_x.out.below hb)
    have W_w := hid (W_w.out.below hb)
    have HV := hid (HV.out.trans (hb.mono HV.out.size))
    have HRM := hid (HRM.out.below hb)
    have HRH := hid (HRH.out.below hb)
    clear hb
    have hh := heldSrs (freeN (Tm.mk k_x u_x n_x (Ty.mk tk_x tn_x tks_x) ns_x ks_x)) a_g c_g 1 vj (by have := freeN_len (Tm.mk k_x u_x n_x (Ty.mk tk_x tn_x tks_x) ns_x ks_x); have := HM_x.out; omega) HRM.out
    rw [show 1 + (freeN (Tm.mk k_x u_x n_x (Ty.mk tk_x tn_x tks_x) ns_x ks_x)).length = mm from by have := HMM.out; rw [nums_Sr] at this; omega, show ((1 : Nat) : Int) = 1 from rfl] at hh
    have HH := hid hh
    clear hh
    have hm0' : decide ((mm : Int) < 0) = false := decide_eq_false (by omega)
    go_wp2_with fail
    refine HH.out.mono ?_
    rintro e kj ⟨rfl, hb⟩
    have HB16 := hid (HB15.out.trans (hb.mono HB15.out.size))
    have HX16 := hid (HX15.out.below hb)
    have R_x := hid (R_x.out.below hb)
    have W_w := hid (W_w.out.below hb)
    have HV := hid (HV.out.trans (hb.mono HV.out.size))
    have HRM := hid (HRM.out.below hb)
    have HRH := hid (HRH.out.below hb)
    clear HH hb
    go_wp2_with fail
    go_ret
    exact ⟨rfl, HB16.out⟩

set_option maxRecDepth 100000 in
theorem FnExactFreeNames_lifted (os : Os) (started : os.Started) (H : Type) (enc : TypeId × Value → H) :
    ReturnsInHanded {} Try.checked os 8 .any (Rows.fnExactFreeNamesSpec.pre6 enc Try.prog Try.f8 Rows.fnExactFreeNamesRow.domain false) (Rows.fnExactFreeNamesSpec.post enc Try.prog Try.f8 false true false false) := by
  refine law_lifted (C := Try.checked) (tb := 4) own started (by kernel_rfl) Try.func8 laidOut (by intro t ht; rw [Try.params8] at ht; simp at ht; subst ht; exact ⟨by kernel_rfl, of_decide_eq_true (by kernel_rfl)⟩) rfl Try.underlying4 rfl ?_
    (ChangeSpec.witness6 (enc := enc) (C := Try.checked) false ⟨#[], #[.agg #[.int .i64 0, .int .i64 0, .string ⟨#[]⟩, .int .i64 0, .string ⟨#[]⟩, .slice none 0 0, .slice none 0 0, .slice none 0 0]], []⟩ 8 (by kernel_rfl) (by kernel_rfl) (by kernel_rfl) (by kernel_rfl)) ?_
  · intro ds hds
    rw [Try.params8] at hds
    match ds, hds with
    | [_], _ => exact ⟨rfl, rfl, rfl⟩
  intro W base args ds p hval0 hA0 hlt
  have hval : ∀ (j : Nat) t v, Try.f8.params[j]? = some t → args[j]? = some v → Value.okWide Try.prog W .any base t v := hval0
  have hA : DataW.TrodAll enc Try.prog W 0 (fun _ => true) true Try.f8.params.toList args.toList ds p := hA0
  rw [Try.params8] at hA hval
  clear hval0 hA0
  obtain ⟨v0, vs0, d0, ds0, p0, q0, hargs0, rfl, rfl, h0, r0⟩ := trodAll_cons hA
  obtain ⟨rfl, rfl, rfl⟩ := trodAll_nil r0
  obtain rfl : args = #[v0] := by cases args; simp_all
  obtain ⟨k_x, u_x, n_x, tk_x, tn_x, tks_x, ns_x, ks_x, atks_x, ctks_x, ans_x, cns_x, aks_x, cks_x, rfl, hr_x⟩ := arg_Tm (hval 0 28 v0 rfl rfl) h0
  exact FnExactFreeNames_walk k_x u_x n_x tk_x tn_x tks_x ns_x ks_x atks_x ctks_x ans_x cns_x aks_x cks_x W hr_x

theorem FnExactFreeNames_holds : Rows.FnExactFreeNamesSaid :=
  OpenClaim.holds_of_wide 8 Try.f8 rfl rfl rfl rfl rfl rfl rfl ⟨rfl, rfl, rfl, rfl, rfl⟩ rfl rfl rfl rfl rfl (by kernel_rfl) Try.func8 (by kernel_rfl)
    (of_decide_eq_true (by kernel_rfl)) (by unfold Func.isWrapper; first | (rw [if_pos (by decide +kernel)]; kernel_rfl) | (rw [if_neg (by decide +kernel)]; exact ⟨rfl, rfl⟩))
    (fun os started H enc _ => FnExactFreeNames_lifted os started H enc)
end Go.Proofs.Ytdcifcfkjhpokaa
