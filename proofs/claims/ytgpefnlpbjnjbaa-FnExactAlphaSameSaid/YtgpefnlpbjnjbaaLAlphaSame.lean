/- FnExactAlphaSame: for every input. No condition. -/
import Derived.Test.YtgpefnlpbjnjbaaArTm
import Derived.Test.YtgpefnlpbjnjbaaSzTm
import Derived.Test.YtgpefnlpbjnjbaaToTm
import Derived.Test.YtgpefnlpbjnjbaaEqTm
import Derived.Test.YtgpefnlpbjnjbaaAlF
import Derived.Deep.RegionHeld3
namespace Go.Proofs.Ytgpefnlpbjnjbaa
open Go.ChangeShapes Go.WideShapes Go.ChangeAt Go.RowKit
open Go.Sort (grow)
open Go.ChangeMaps (open_string)
set_option linter.unusedVariables false

set_option maxHeartbeats 1000000 in
theorem FnExactAlphaSame_walk (k_x : Int) (u_x : Int) (n_x : ByteArray) (tk_x : Int) (tn_x : ByteArray) (tks_x : List Ty) (ns_x : List ByteArray) (ks_x : List Tm) (atks_x : Option Addr) (ctks_x : Nat) (ans_x : Option Addr) (cns_x : Nat) (aks_x : Option Addr) (cks_x : Nat) (k_y : Int) (u_y : Int) (n_y : ByteArray) (tk_y : Int) (tn_y : ByteArray) (tks_y : List Ty) (ns_y : List ByteArray) (ks_y : List Tm) (atks_y : Option Addr) (ctks_y : Nat) (ans_y : Option Addr) (cns_y : Nat) (aks_y : Option Addr) (cks_y : Nat) (w : World) (hr_x : RdS w (Tm.d (Tm.mk k_x u_x n_x (Ty.mk tk_x tn_x tks_x) ns_x ks_x)) [.int .i64 k_x, .int .i64 u_x, .string n_x, .int .i64 tk_x, .string tn_x, .slice atks_x tks_x.length ctks_x, .slice ans_x ns_x.length cns_x, .slice aks_x ks_x.length cks_x]) (hr_y : RdS w (Tm.d (Tm.mk k_y u_y n_y (Ty.mk tk_y tn_y tks_y) ns_y ks_y)) [.int .i64 k_y, .int .i64 u_y, .string n_y, .int .i64 tk_y, .string tn_y, .slice atks_y tks_y.length ctks_y, .slice ans_y ns_y.length cns_y, .slice aks_y ks_y.length cks_y]) :
    Calls Try.prog 6 #[.agg #[.int .i64 k_x, .int .i64 u_x, .string n_x, .int .i64 tk_x, .string tn_x, .slice atks_x tks_x.length ctks_x, .slice ans_x ns_x.length cns_x, .slice aks_x ks_x.length cks_x], .agg #[.int .i64 k_y, .int .i64 u_y, .string n_y, .int .i64 tk_y, .string tn_y, .slice atks_y tks_y.length ctks_y, .slice ans_y ns_y.length cns_y, .slice aks_y ks_y.length cks_y]] w fun e w' => e = .returned (.bool true) ∧ Below w.heap.size w w' := by
  have hbw0 : Below w.heap.size w ((w.alloc (.cells #[.int .i64 k_x, .int .i64 u_x, .string n_x, .int .i64 tk_x, .string tn_x, .slice atks_x tks_x.length ctks_x, .slice ans_x ns_x.length cns_x, .slice aks_x ks_x.length cks_x] 50)).alloc (.cells #[.int .i64 k_y, .int .i64 u_y, .string n_y, .int .i64 tk_y, .string tn_y, .slice atks_y tks_y.length ctks_y, .slice ans_y ns_y.length cns_y, .slice aks_y ks_y.length cks_y] 50)) := (((Below.refl _ _).alloc (by simp) _).alloc (by simp) _)
  have HX0 := hid (((Boxes.nil w).alloc #[.int .i64 k_x, .int .i64 u_x, .string n_x, .int .i64 tk_x, .string tn_x, .slice atks_x tks_x.length ctks_x, .slice ans_x ns_x.length cns_x, .slice aks_x ks_x.length cks_x] 50 (0, 0)).alloc #[.int .i64 k_y, .int .i64 u_y, .string n_y, .int .i64 tk_y, .string tn_y, .slice atks_y tks_y.length ctks_y, .slice ans_y ns_y.length cns_y, .slice aks_y ks_y.length cks_y] 50 (0, 0))
  have hc0 := fun (W : World) (hb : Below w.heap.size w W) => szTm k_x u_x n_x tk_x tn_x tks_x ns_x ks_x atks_x ctks_x ans_x cns_x aks_x cks_x (1048576) W (hr_x.below hb) (by omega) (by omega)
  by_cases hp0 : ((Tm.bulk (Tm.mk k_x u_x n_x (Ty.mk tk_x tn_x tks_x) ns_x ks_x) : Nat) : Int) ≤ 1048576
  case neg =>
    rw [purse_no hp0] at hc0
    have HC0 := hid hc0
    have HB0 := hid hbw0
    clear hbw0 hc0 hr_x hr_y
    go_enter Try.func6, Try.ntmps6
    go_wp2_with fail
    refine (HC0.out _ HB0.out).mono ?_
    rintro e w1 ⟨rfl, hb⟩
    have HB1 := hid (HB0.out.trans (hb.mono (by simp; omega)))
    have HX1 := hid (HX0.out.below hb)
    clear hb HC0
    go_wp2_with fail
    go_ret
    exact ⟨rfl, HB1.out⟩
  case pos =>
    rw [purse_ok hp0] at hc0
    have hc1 := fun (W : World) (hb : Below w.heap.size w W) => szTm k_y u_y n_y tk_y tn_y tks_y ns_y ks_y atks_y ctks_y ans_y cns_y aks_y cks_y (1048576 - (Tm.bulk (Tm.mk k_x u_x n_x (Ty.mk tk_x tn_x tks_x) ns_x ks_x) : Nat)) W (hr_y.below hb) (by omega) (by omega)
    by_cases hp1 : ((Tm.bulk (Tm.mk k_y u_y n_y (Ty.mk tk_y tn_y tks_y) ns_y ks_y) : Nat) : Int) ≤ 1048576 - (Tm.bulk (Tm.mk k_x u_x n_x (Ty.mk tk_x tn_x tks_x) ns_x ks_x) : Nat)
    case neg =>
      rw [purse_no hp1] at hc1
      have HC0 := hid hc0
      have HC1 := hid hc1
      have HB0 := hid hbw0
      clear hbw0 hc0 hc1 hr_x hr_y
      go_enter Try.func6, Try.ntmps6
      go_wp2_with fail
      refine (HC0.out _ HB0.out).mono ?_
      rintro e w1 ⟨rfl, hb⟩
      have HB1 := hid (HB0.out.trans (hb.mono (by simp; omega)))
      have HX1 := hid (HX0.out.below hb)
      clear hb HC0
      have g0_0 := HX1.out.at 0 0 rfl rfl
      have g0_1 := HX1.out.at 0 1 rfl rfl
      have g0_2 := HX1.out.at 0 2 rfl rfl
      have g0_3 := HX1.out.at 0 3 rfl rfl
      have g0_4 := HX1.out.at 0 4 rfl rfl
      have g0_5 := HX1.out.at 0 5 rfl rfl
      have g0_6 := HX1.out.at 0 6 rfl rfl
      have g0_7 := HX1.out.at 0 7 rfl rfl
      simp only [World.size_alloc] at g0_0 g0_1 g0_2 g0_3 g0_4 g0_5 g0_6 g0_7
      go_wp2_with fail
      clear g0_0 g0_1 g0_2 g0_3 g0_4 g0_5 g0_6 g0_7
      refine (HC1.out _ HB1.out).mono ?_
      rintro e w2 ⟨rfl, hb⟩
      have HB2 := hid (HB1.out.trans (hb.mono HB1.out.size))
      have HX2 := hid (HX1.out.below hb)
      clear hb HC1
      go_wp2_with fail
      go_ret
      exact ⟨rfl, HB2.out⟩
    case pos =>
      rw [purse_ok hp1] at hc1
      have HM_x : Hid (Tm.bulk (Tm.mk k_x u_x n_x (Ty.mk tk_x tn_x tks_x) ns_x ks_x) ≤ 1048576) := by show _ ≤ _; omega
      have HM_y : Hid (Tm.bulk (Tm.mk k_y u_y n_y (Ty.mk tk_y tn_y tks_y) ns_y ks_y) ≤ 1048576) := by show _ ≤ _; omega
      have HC0 := hid hc0
      have HC1 := hid hc1
      have HB0 := hid hbw0
      have R_x := hid hr_x
      have R_y := hid hr_y
      clear hbw0 hc0 hc1 hr_x hr_y
      go_enter Try.func6, Try.ntmps6
      go_wp2_with fail
      refine (HC0.out _ HB0.out).mono ?_
      rintro e w1 ⟨rfl, hb⟩
      have HB1 := hid (HB0.out.trans (hb.mono (by simp; omega)))
      have HX1 := hid (HX0.out.below hb)
      clear hb HC0
      have g0_0 := HX1.out.at 0 0 rfl rfl
      have g0_1 := HX1.out.at 0 1 rfl rfl
      have g0_2 := HX1.out.at 0 2 rfl rfl
      have g0_3 := HX1.out.at 0 3 rfl rfl
      have g0_4 := HX1.out.at 0 4 rfl rfl
      have g0_5 := HX1.out.at 0 5 rfl rfl
      have g0_6 := HX1.out.at 0 6 rfl rfl
      have g0_7 := HX1.out.at 0 7 rfl rfl
      simp only [World.size_alloc] at g0_0 g0_1 g0_2 g0_3 g0_4 g0_5 g0_6 g0_7
      go_wp2_with fail
      clear g0_0 g0_1 g0_2 g0_3 g0_4 g0_5 g0_6 g0_7
      refine (HC1.out _ HB1.out).mono ?_
      rintro e w2 ⟨rfl, hb⟩
      have HB2 := hid (HB1.out.trans (hb.mono HB1.out.size))
      have HX2 := hid (HX1.out.below hb)
      clear hb HC1
      have R_x := hid (R_x.out.below HB2.out)
      have R_y := hid (R_y.out.below HB2.out)
      go_wp2_with fail
      have g1_0 := HX2.out.at 1 0 rfl rfl
      have g1_1 := HX2.out.at 1 1 rfl rfl
      have g1_2 := HX2.out.at 1 2 rfl rfl
      have g1_3 := HX2.out.at 1 3 rfl rfl
      have g1_4 := HX2.out.at 1 4 rfl rfl
      have g1_5 := HX2.out.at 1 5 rfl rfl
      have g1_6 := HX2.out.at 1 6 rfl rfl
      have g1_7 := HX2.out.at 1 7 rfl rfl
      have g0_0 := HX2.out.at 0 0 rfl rfl
      have g0_1 := HX2.out.at 0 1 rfl rfl
      have g0_2 := HX2.out.at 0 2 rfl rfl
      have g0_3 := HX2.out.at 0 3 rfl rfl
      have g0_4 := HX2.out.at 0 4 rfl rfl
      have g0_5 := HX2.out.at 0 5 rfl rfl
      have g0_6 := HX2.out.at 0 6 rfl rfl
      have g0_7 := HX2.out.at 0 7 rfl rfl
      simp only [World.size_alloc] at g0_0 g0_1 g0_2 g0_3 g0_4 g0_5 g0_6 g0_7
      have hkeep : ∀ V V' : World, Below V.heap.size V V' → (Below w2.heap.size w2 V ∧ V.cell? ⟨w.heap.size, 0, none⟩ = some (.int .i64 k_x) ∧ V.cell? ⟨w.heap.size, 1, none⟩ = some (.int .i64 u_x) ∧ V.cell? ⟨w.heap.size, 2, none⟩ = some (.string n_x) ∧ V.cell? ⟨w.heap.size, 3, none⟩ = some (.int .i64 tk_x) ∧ V.cell? ⟨w.heap.size, 4, none⟩ = some (.string tn_x) ∧ V.cell? ⟨w.heap.size, 5, none⟩ = some (.slice atks_x tks_x.length ctks_x) ∧ V.cell? ⟨w.heap.size, 6, none⟩ = some (.slice ans_x ns_x.length cns_x) ∧ V.cell? ⟨w.heap.size, 7, none⟩ = some (.slice aks_x ks_x.length cks_x) ∧ V.cell? ⟨w.heap.size + 1, 0, none⟩ = some (.int .i64 k_y) ∧ V.cell? ⟨w.heap.size + 1, 1, none⟩ = some (.int .i64 u_y) ∧ V.cell? ⟨w.heap.size + 1, 2, none⟩ = some (.string n_y) ∧ V.cell? ⟨w.heap.size + 1, 3, none⟩ = some (.int .i64 tk_y) ∧ V.cell? ⟨w.heap.size + 1, 4, none⟩ = some (.string tn_y) ∧ V.cell? ⟨w.heap.size + 1, 5, none⟩ = some (.slice atks_y tks_y.length ctks_y) ∧ V.cell? ⟨w.heap.size + 1, 6, none⟩ = some (.slice ans_y ns_y.length cns_y) ∧ V.cell? ⟨w.heap.size + 1, 7, none⟩ = some (.slice aks_y ks_y.length cks_y)) → (Below w2.heap.size w2 V' ∧ V'.cell? ⟨w.heap.size, 0, none⟩ = some (.int .i64 k_x) ∧ V'.cell? ⟨w.heap.size, 1, none⟩ = some (.int .i64 u_x) ∧ V'.cell? ⟨w.heap.size, 2, none⟩ = some (.string n_x) ∧ V'.cell? ⟨w.heap.size, 3, none⟩ = some (.int .i64 tk_x) ∧ V'.cell? ⟨w.heap.size, 4, none⟩ = some (.string tn_x) ∧ V'.cell? ⟨w.heap.size, 5, none⟩ = some (.slice atks_x tks_x.length ctks_x) ∧ V'.cell? ⟨w.heap.size, 6, none⟩ = some (.slice ans_x ns_x.length cns_x) ∧ V'.cell? ⟨w.heap.size, 7, none⟩ = some (.slice aks_x ks_x.length cks_x) ∧ V'.cell? ⟨w.heap.size + 1, 0, none⟩ = some (.int .i64 k_y) ∧ V'.cell? ⟨w.heap.size + 1, 1, none⟩ = some (.int .i64 u_y) ∧ V'.cell? ⟨w.heap.size + 1, 2, none⟩ = some (.string n_y) ∧ V'.cell? ⟨w.heap.size + 1, 3, none⟩ = some (.int .i64 tk_y) ∧ V'.cell? ⟨w.heap.size + 1, 4, none⟩ = some (.string tn_y) ∧ V'.cell? ⟨w.heap.size + 1, 5, none⟩ = some (.slice atks_y tks_y.length ctks_y) ∧ V'.cell? ⟨w.heap.size + 1, 6, none⟩ = some (.slice ans_y ns_y.length cns_y) ∧ V'.cell? ⟨w.heap.size + 1, 7, none⟩ = some (.slice aks_y ks_y.length cks_y)) := fun V V' hb ⟨h, _⟩ =>
        have hb' := h.trans (hb.mono h.size)
        ⟨hb', (hb'.cell (p := ⟨_, 0, none⟩) (World.block_lt_of_cell? _ _ g1_0)).trans g1_0, (hb'.cell (p := ⟨_, 1, none⟩) (World.block_lt_of_cell? _ _ g1_1)).trans g1_1, (hb'.cell (p := ⟨_, 2, none⟩) (World.block_lt_of_cell? _ _ g1_2)).trans g1_2, (hb'.cell (p := ⟨_, 3, none⟩) (World.block_lt_of_cell? _ _ g1_3)).trans g1_3, (hb'.cell (p := ⟨_, 4, none⟩) (World.block_lt_of_cell? _ _ g1_4)).trans g1_4, (hb'.cell (p := ⟨_, 5, none⟩) (World.block_lt_of_cell? _ _ g1_5)).trans g1_5, (hb'.cell (p := ⟨_, 6, none⟩) (World.block_lt_of_cell? _ _ g1_6)).trans g1_6, (hb'.cell (p := ⟨_, 7, none⟩) (World.block_lt_of_cell? _ _ g1_7)).trans g1_7, (hb'.cell (p := ⟨_, 0, none⟩) (World.block_lt_of_cell? _ _ g0_0)).trans g0_0, (hb'.cell (p := ⟨_, 1, none⟩) (World.block_lt_of_cell? _ _ g0_1)).trans g0_1, (hb'.cell (p := ⟨_, 2, none⟩) (World.block_lt_of_cell? _ _ g0_2)).trans g0_2, (hb'.cell (p := ⟨_, 3, none⟩) (World.block_lt_of_cell? _ _ g0_3)).trans g0_3, (hb'.cell (p := ⟨_, 4, none⟩) (World.block_lt_of_cell? _ _ g0_4)).trans g0_4, (hb'.cell (p := ⟨_, 5, none⟩) (World.block_lt_of_cell? _ _ g0_5)).trans g0_5, (hb'.cell (p := ⟨_, 6, none⟩) (World.block_lt_of_cell? _ _ g0_6)).trans g0_6, (hb'.cell (p := ⟨_, 7, none⟩) (World.block_lt_of_cell? _ _ g0_7)).trans g0_7⟩
      have KEEP := hid hkeep
      clear hkeep
      have hbd : Below w2.heap.size w2 w2.drew := (Below.refl _ _).drew
      go_region_held3 (fun V => Below w2.heap.size w2 V ∧ V.cell? ⟨w.heap.size, 0, none⟩ = some (.int .i64 k_x) ∧ V.cell? ⟨w.heap.size, 1, none⟩ = some (.int .i64 u_x) ∧ V.cell? ⟨w.heap.size, 2, none⟩ = some (.string n_x) ∧ V.cell? ⟨w.heap.size, 3, none⟩ = some (.int .i64 tk_x) ∧ V.cell? ⟨w.heap.size, 4, none⟩ = some (.string tn_x) ∧ V.cell? ⟨w.heap.size, 5, none⟩ = some (.slice atks_x tks_x.length ctks_x) ∧ V.cell? ⟨w.heap.size, 6, none⟩ = some (.slice ans_x ns_x.length cns_x) ∧ V.cell? ⟨w.heap.size, 7, none⟩ = some (.slice aks_x ks_x.length cks_x) ∧ V.cell? ⟨w.heap.size + 1, 0, none⟩ = some (.int .i64 k_y) ∧ V.cell? ⟨w.heap.size + 1, 1, none⟩ = some (.int .i64 u_y) ∧ V.cell? ⟨w.heap.size + 1, 2, none⟩ = some (.string n_y) ∧ V.cell? ⟨w.heap.size + 1, 3, none⟩ = some (.int .i64 tk_y) ∧ V.cell? ⟨w.heap.size + 1, 4, none⟩ = some (.string tn_y) ∧ V.cell? ⟨w.heap.size + 1, 5, none⟩ = some (.slice atks_y tks_y.length ctks_y) ∧ V.cell? ⟨w.heap.size + 1, 6, none⟩ = some (.slice ans_y ns_y.length cns_y) ∧ V.cell? ⟨w.heap.size + 1, 7, none⟩ = some (.slice aks_y ks_y.length cks_y))
        (first | exact KEEP.out _ _ hbq (by assumption) | go_keep)
        (first
          | (go_at_call 29; (with_reducible refine (toTm k_x u_x n_x tk_x tn_x tks_x ns_x ks_x atks_x ctks_x ans_x cns_x aks_x cks_x _ HM_x.out ?_).mono ?_); (exact R_x.out.below (‹Below w2.heap.size w2 _ ∧ _›).1); rintro e V0 ⟨atks_xs, ctks_xs, ans_xs, cns_xs, aks_xs, cks_xs, rfl, ho_xs, hbq⟩; have hbq_0 := hbq)
          | (go_at_call 29; (with_reducible refine (toTm k_y u_y n_y tk_y tn_y tks_y ns_y ks_y atks_y ctks_y ans_y cns_y aks_y cks_y _ HM_y.out ?_).mono ?_); (exact R_y.out.below (‹Below w2.heap.size w2 _ ∧ _›).1); rintro e V1 ⟨atks_ys, ctks_ys, ans_ys, cns_ys, aks_ys, cks_ys, rfl, ho_ys, hbq⟩; have hbq_1 := hbq)
          | (go_at_call 28; (with_reducible refine (spec_AlphaSame _ _ _ _ _ _ _ _ _ _ _ _ _ _ _ _ _ _ _ _ _ _ _ _ _ _ _ _ _ ?_ ?_ ?_ ?_).mono ?_); (exact HM_x.out); (exact HM_y.out); (exact ho_xs.rd.below hbq_1); (exact ho_ys.rd); rintro e Vz ⟨rfl, hbq⟩))
      obtain ⟨hbr, -⟩ := ‹Below w2.heap.size w2 Vz ∧ _›
      clear KEEP hbd g1_0 g1_1 g1_2 g1_3 g1_4 g1_5 g1_6 g1_7 g0_0 g0_1 g0_2 g0_3 g0_4 g0_5 g0_6 g0_7
      have HB3 := hid (HB2.out.trans (hbr.mono HB2.out.size))
      have HX3 := hid (HX2.out.below hbr)
      have R_x := hid (R_x.out.below hbr)
      have R_y := hid (R_y.out.below hbr)
      clear hbr
      clear ho_xs ho_ys
      go_wp2_with fail
      have g1_0 := HX3.out.at 1 0 rfl rfl
      have g1_1 := HX3.out.at 1 1 rfl rfl
      have g1_2 := HX3.out.at 1 2 rfl rfl
      have g1_3 := HX3.out.at 1 3 rfl rfl
      have g1_4 := HX3.out.at 1 4 rfl rfl
      have g1_5 := HX3.out.at 1 5 rfl rfl
      have g1_6 := HX3.out.at 1 6 rfl rfl
      have g1_7 := HX3.out.at 1 7 rfl rfl
      go_wp2_with fail
      clear g1_0 g1_1 g1_2 g1_3 g1_4 g1_5 g1_6 g1_7
      refine (toTm k_x u_x n_x tk_x tn_x tks_x ns_x ks_x atks_x ctks_x ans_x cns_x aks_x cks_x _ HM_x.out ?_).mono ?_
      · exact R_x.out
      rintro e x0 ⟨atks_xx, ctks_xx, ans_xx, cns_xx, aks_xx, cks_xx, rfl, ho_xx, hb⟩
      have HB4 := hid (HB3.out.trans (hb.mono HB3.out.size))
      have HX4 := hid (HX3.out.below hb)
      have R_x := hid (R_x.out.below hb)
      have R_y := hid (R_y.out.below hb)
      have C_xx := hid ho_xx.rd
      clear hb ho_xx
      have hba : Below x0.heap.size x0 (x0.alloc (.cells #[.int .i64 k_x, .int .i64 u_x, .string n_x, .int .i64 tk_x, .string tn_x, .slice atks_xx tks_x.length ctks_xx, .slice ans_xx ns_x.length cns_xx, .slice aks_xx ks_x.length cks_xx] 55)) := (Below.refl _ _).alloc (Nat.le_refl _) _
      have HXa := hid (HX4.out.alloc #[.int .i64 k_x, .int .i64 u_x, .string n_x, .int .i64 tk_x, .string tn_x, .slice atks_xx tks_x.length ctks_xx, .slice ans_xx ns_x.length cns_xx, .slice aks_xx ks_x.length cks_xx] 55 (0, 0))
      have HB5 := hid (HB4.out.trans (hba.mono HB4.out.size))
      have HX5 := hid (HX4.out.below hba)
      have R_x := hid (R_x.out.below hba)
      have R_y := hid (R_y.out.below hba)
      have C_xx := hid (C_xx.out.below hba)
      clear hba
      have HX5 := HXa
      have g1_0 := HX5.out.at 1 0 rfl rfl
      have g1_1 := HX5.out.at 1 1 rfl rfl
      have g1_2 := HX5.out.at 1 2 rfl rfl
      have g1_3 := HX5.out.at 1 3 rfl rfl
      have g1_4 := HX5.out.at 1 4 rfl rfl
      have g1_5 := HX5.out.at 1 5 rfl rfl
      have g1_6 := HX5.out.at 1 6 rfl rfl
      have g1_7 := HX5.out.at 1 7 rfl rfl
      simp only [World.size_alloc] at g1_0 g1_1 g1_2 g1_3 g1_4 g1_5 g1_6 g1_7
      go_wp2_with fail
      clear g1_0 g1_1 g1_2 g1_3 g1_4 g1_5 g1_6 g1_7
      refine (toTm k_y u_y n_y tk_y tn_y tks_y ns_y ks_y atks_y ctks_y ans_y cns_y aks_y cks_y _ HM_y.out ?_).mono ?_
      · exact R_y.out
      rintro e x1 ⟨atks_yx, ctks_yx, ans_yx, cns_yx, aks_yx, cks_yx, rfl, ho_yx, hb⟩
      have HB6 := hid (HB5.out.trans (hb.mono HB5.out.size))
      have HX6 := hid (HX5.out.below hb)
      have R_x := hid (R_x.out.below hb)
      have R_y := hid (R_y.out.below hb)
      have C_xx := hid (C_xx.out.below hb)
      have C_yx := hid ho_yx.rd
      clear hb ho_yx
      have hba : Below x1.heap.size x1 (x1.alloc (.cells #[.int .i64 k_y, .int .i64 u_y, .string n_y, .int .i64 tk_y, .string tn_y, .slice atks_yx tks_y.length ctks_yx, .slice ans_yx ns_y.length cns_yx, .slice aks_yx ks_y.length cks_yx] 55)) := (Below.refl _ _).alloc (Nat.le_refl _) _
      have HXa := hid (HX6.out.alloc #[.int .i64 k_y, .int .i64 u_y, .string n_y, .int .i64 tk_y, .string tn_y, .slice atks_yx tks_y.length ctks_yx, .slice ans_yx ns_y.length cns_yx, .slice aks_yx ks_y.length cks_yx] 55 (0, 0))
      have HB7 := hid (HB6.out.trans (hba.mono HB6.out.size))
      have HX7 := hid (HX6.out.below hba)
      have R_x := hid (R_x.out.below hba)
      have R_y := hid (R_y.out.below hba)
      have C_xx := hid (C_xx.out.below hba)
      have C_yx := hid (C_yx.out.below hba)
      clear hba
      have HX7 := HXa
      have g1_0 := HX7.out.at 1 0 rfl rfl
      have g1_1 := HX7.out.at 1 1 rfl rfl
      have g1_2 := HX7.out.at 1 2 rfl rfl
      have g1_3 := HX7.out.at 1 3 rfl rfl
      have g1_4 := HX7.out.at 1 4 rfl rfl
      have g1_5 := HX7.out.at 1 5 rfl rfl
      have g1_6 := HX7.out.at 1 6 rfl rfl
      have g1_7 := HX7.out.at 1 7 rfl rfl
      have g0_0 := HX7.out.at 0 0 rfl rfl
      have g0_1 := HX7.out.at 0 1 rfl rfl
      have g0_2 := HX7.out.at 0 2 rfl rfl
      have g0_3 := HX7.out.at 0 3 rfl rfl
      have g0_4 := HX7.out.at 0 4 rfl rfl
      have g0_5 := HX7.out.at 0 5 rfl rfl
      have g0_6 := HX7.out.at 0 6 rfl rfl
      have g0_7 := HX7.out.at 0 7 rfl rfl
      go_wp2_with fail
      clear g1_0 g1_1 g1_2 g1_3 g1_4 g1_5 g1_6 g1_7 g0_0 g0_1 g0_2 g0_3 g0_4 g0_5 g0_6 g0_7
      refine (impl_AlphaSame _ _ _ _ _ _ _ _ _ _ _ _ _ _ _ _ _ _ _ _ _ _ _ _ _ _ _ _ _ ?_ ?_ ?_ ?_).mono ?_
      · exact HM_x.out
      · exact HM_y.out
      · exact C_xx.out
      · exact C_yx.out
      rintro e vi ⟨rfl, hb⟩
      have HB8 := hid (HB7.out.trans (hb.mono HB7.out.size))
      have HX8 := hid (HX7.out.below hb)
      have R_x := hid (R_x.out.below hb)
      have R_y := hid (R_y.out.below hb)
      have C_xx := hid (C_xx.out.below hb)
      have C_yx := hid (C_yx.out.below hb)
      clear hb
      go_wp2_with fail
      have g1_0 := HX8.out.at 1 0 rfl rfl
      have g1_1 := HX8.out.at 1 1 rfl rfl
      have g1_2 := HX8.out.at 1 2 rfl rfl
      have g1_3 := HX8.out.at 1 3 rfl rfl
      have g1_4 := HX8.out.at 1 4 rfl rfl
      have g1_5 := HX8.out.at 1 5 rfl rfl
      have g1_6 := HX8.out.at 1 6 rfl rfl
      have g1_7 := HX8.out.at 1 7 rfl rfl
      have g3_0 := HX8.out.at 3 0 rfl rfl
      have g3_1 := HX8.out.at 3 1 rfl rfl
      have g3_2 := HX8.out.at 3 2 rfl rfl
      have g3_3 := HX8.out.at 3 3 rfl rfl
      have g3_4 := HX8.out.at 3 4 rfl rfl
      have g3_5 := HX8.out.at 3 5 rfl rfl
      have g3_6 := HX8.out.at 3 6 rfl rfl
      have g3_7 := HX8.out.at 3 7 rfl rfl
      have hkeep : ∀ V V' : World, Below V.heap.size V V' → (Below vi.heap.size vi V ∧ V.cell? ⟨x0.heap.size, 0, none⟩ = some (.int .i64 k_x) ∧ V.cell? ⟨x0.heap.size, 1, none⟩ = some (.int .i64 u_x) ∧ V.cell? ⟨x0.heap.size, 2, none⟩ = some (.string n_x) ∧ V.cell? ⟨x0.heap.size, 3, none⟩ = some (.int .i64 tk_x) ∧ V.cell? ⟨x0.heap.size, 4, none⟩ = some (.string tn_x) ∧ V.cell? ⟨x0.heap.size, 5, none⟩ = some (.slice atks_xx tks_x.length ctks_xx) ∧ V.cell? ⟨x0.heap.size, 6, none⟩ = some (.slice ans_xx ns_x.length cns_xx) ∧ V.cell? ⟨x0.heap.size, 7, none⟩ = some (.slice aks_xx ks_x.length cks_xx) ∧ V.cell? ⟨w.heap.size, 0, none⟩ = some (.int .i64 k_x) ∧ V.cell? ⟨w.heap.size, 1, none⟩ = some (.int .i64 u_x) ∧ V.cell? ⟨w.heap.size, 2, none⟩ = some (.string n_x) ∧ V.cell? ⟨w.heap.size, 3, none⟩ = some (.int .i64 tk_x) ∧ V.cell? ⟨w.heap.size, 4, none⟩ = some (.string tn_x) ∧ V.cell? ⟨w.heap.size, 5, none⟩ = some (.slice atks_x tks_x.length ctks_x) ∧ V.cell? ⟨w.heap.size, 6, none⟩ = some (.slice ans_x ns_x.length cns_x) ∧ V.cell? ⟨w.heap.size, 7, none⟩ = some (.slice aks_x ks_x.length cks_x)) → (Below vi.heap.size vi V' ∧ V'.cell? ⟨x0.heap.size, 0, none⟩ = some (.int .i64 k_x) ∧ V'.cell? ⟨x0.heap.size, 1, none⟩ = some (.int .i64 u_x) ∧ V'.cell? ⟨x0.heap.size, 2, none⟩ = some (.string n_x) ∧ V'.cell? ⟨x0.heap.size, 3, none⟩ = some (.int .i64 tk_x) ∧ V'.cell? ⟨x0.heap.size, 4, none⟩ = some (.string tn_x) ∧ V'.cell? ⟨x0.heap.size, 5, none⟩ = some (.slice atks_xx tks_x.length ctks_xx) ∧ V'.cell? ⟨x0.heap.size, 6, none⟩ = some (.slice ans_xx ns_x.length cns_xx) ∧ V'.cell? ⟨x0.heap.size, 7, none⟩ = some (.slice aks_xx ks_x.length cks_xx) ∧ V'.cell? ⟨w.heap.size, 0, none⟩ = some (.int .i64 k_x) ∧ V'.cell? ⟨w.heap.size, 1, none⟩ = some (.int .i64 u_x) ∧ V'.cell? ⟨w.heap.size, 2, none⟩ = some (.string n_x) ∧ V'.cell? ⟨w.heap.size, 3, none⟩ = some (.int .i64 tk_x) ∧ V'.cell? ⟨w.heap.size, 4, none⟩ = some (.string tn_x) ∧ V'.cell? ⟨w.heap.size, 5, none⟩ = some (.slice atks_x tks_x.length ctks_x) ∧ V'.cell? ⟨w.heap.size, 6, none⟩ = some (.slice ans_x ns_x.length cns_x) ∧ V'.cell? ⟨w.heap.size, 7, none⟩ = some (.slice aks_x ks_x.length cks_x)) := fun V V' hb ⟨h, _⟩ =>
        have hb' := h.trans (hb.mono h.size)
        ⟨hb', (hb'.cell (p := ⟨_, 0, none⟩) (World.block_lt_of_cell? _ _ g1_0)).trans g1_0, (hb'.cell (p := ⟨_, 1, none⟩) (World.block_lt_of_cell? _ _ g1_1)).trans g1_1, (hb'.cell (p := ⟨_, 2, none⟩) (World.block_lt_of_cell? _ _ g1_2)).trans g1_2, (hb'.cell (p := ⟨_, 3, none⟩) (World.block_lt_of_cell? _ _ g1_3)).trans g1_3, (hb'.cell (p := ⟨_, 4, none⟩) (World.block_lt_of_cell? _ _ g1_4)).trans g1_4, (hb'.cell (p := ⟨_, 5, none⟩) (World.block_lt_of_cell? _ _ g1_5)).trans g1_5, (hb'.cell (p := ⟨_, 6, none⟩) (World.block_lt_of_cell? _ _ g1_6)).trans g1_6, (hb'.cell (p := ⟨_, 7, none⟩) (World.block_lt_of_cell? _ _ g1_7)).trans g1_7, (hb'.cell (p := ⟨_, 0, none⟩) (World.block_lt_of_cell? _ _ g3_0)).trans g3_0, (hb'.cell (p := ⟨_, 1, none⟩) (World.block_lt_of_cell? _ _ g3_1)).trans g3_1, (hb'.cell (p := ⟨_, 2, none⟩) (World.block_lt_of_cell? _ _ g3_2)).trans g3_2, (hb'.cell (p := ⟨_, 3, none⟩) (World.block_lt_of_cell? _ _ g3_3)).trans g3_3, (hb'.cell (p := ⟨_, 4, none⟩) (World.block_lt_of_cell? _ _ g3_4)).trans g3_4, (hb'.cell (p := ⟨_, 5, none⟩) (World.block_lt_of_cell? _ _ g3_5)).trans g3_5, (hb'.cell (p := ⟨_, 6, none⟩) (World.block_lt_of_cell? _ _ g3_6)).trans g3_6, (hb'.cell (p := ⟨_, 7, none⟩) (World.block_lt_of_cell? _ _ g3_7)).trans g3_7⟩
      have KEEP := hid hkeep
      clear hkeep
      have hbd : Below vi.heap.size vi vi.drew := (Below.refl _ _).drew
      go_region_held3 (fun V => Below vi.heap.size vi V ∧ V.cell? ⟨x0.heap.size, 0, none⟩ = some (.int .i64 k_x) ∧ V.cell? ⟨x0.heap.size, 1, none⟩ = some (.int .i64 u_x) ∧ V.cell? ⟨x0.heap.size, 2, none⟩ = some (.string n_x) ∧ V.cell? ⟨x0.heap.size, 3, none⟩ = some (.int .i64 tk_x) ∧ V.cell? ⟨x0.heap.size, 4, none⟩ = some (.string tn_x) ∧ V.cell? ⟨x0.heap.size, 5, none⟩ = some (.slice atks_xx tks_x.length ctks_xx) ∧ V.cell? ⟨x0.heap.size, 6, none⟩ = some (.slice ans_xx ns_x.length cns_xx) ∧ V.cell? ⟨x0.heap.size, 7, none⟩ = some (.slice aks_xx ks_x.length cks_xx) ∧ V.cell? ⟨w.heap.size, 0, none⟩ = some (.int .i64 k_x) ∧ V.cell? ⟨w.heap.size, 1, none⟩ = some (.int .i64 u_x) ∧ V.cell? ⟨w.heap.size, 2, none⟩ = some (.string n_x) ∧ V.cell? ⟨w.heap.size, 3, none⟩ = some (.int .i64 tk_x) ∧ V.cell? ⟨w.heap.size, 4, none⟩ = some (.string tn_x) ∧ V.cell? ⟨w.heap.size, 5, none⟩ = some (.slice atks_x tks_x.length ctks_x) ∧ V.cell? ⟨w.heap.size, 6, none⟩ = some (.slice ans_x ns_x.length cns_x) ∧ V.cell? ⟨w.heap.size, 7, none⟩ = some (.slice aks_x ks_x.length cks_x))
        (first | exact KEEP.out _ _ hbq (by assumption) | go_keep)
        (first
          | (go_at_call 29; (with_reducible refine (toTm k_x u_x n_x tk_x tn_x tks_x ns_x ks_x atks_x ctks_x ans_x cns_x aks_x cks_x _ HM_x.out ?_).mono ?_); (exact R_x.out.below (‹Below vi.heap.size vi _ ∧ _›).1); rintro e y0a ⟨atks_xe, ctks_xe, ans_xe, cns_xe, aks_xe, cks_xe, rfl, ho_xe, hbq⟩)
          | (go_at_call 31; (with_reducible refine (eqTm _ _ _ _ _ _ _ _ _ _ _ _ _ _ _ _ _ _ _ _ _ ?_ ?_).mono ?_); (exact C_xx.out.below ((‹Below vi.heap.size vi y0a ∧ _›).1)); (exact ho_xe.rd); rintro e y0b ⟨rfl, hbq⟩))
      obtain ⟨hbr, -⟩ := ‹Below vi.heap.size vi y0b ∧ _›
      clear KEEP hbd g1_0 g1_1 g1_2 g1_3 g1_4 g1_5 g1_6 g1_7 g3_0 g3_1 g3_2 g3_3 g3_4 g3_5 g3_6 g3_7
      have HB9 := hid (HB8.out.trans (hbr.mono HB8.out.size))
      have HX9 := hid (HX8.out.below hbr)
      have R_x := hid (R_x.out.below hbr)
      have R_y := hid (R_y.out.below hbr)
      have C_xx := hid (C_xx.out.below hbr)
      have C_yx := hid (C_yx.out.below hbr)
      clear hbr
      clear ho_xe
      go_wp2_with fail
      have g0_0 := HX9.out.at 0 0 rfl rfl
      have g0_1 := HX9.out.at 0 1 rfl rfl
      have g0_2 := HX9.out.at 0 2 rfl rfl
      have g0_3 := HX9.out.at 0 3 rfl rfl
      have g0_4 := HX9.out.at 0 4 rfl rfl
      have g0_5 := HX9.out.at 0 5 rfl rfl
      have g0_6 := HX9.out.at 0 6 rfl rfl
      have g0_7 := HX9.out.at 0 7 rfl rfl
      have g2_0 := HX9.out.at 2 0 rfl rfl
      have g2_1 := HX9.out.at 2 1 rfl rfl
      have g2_2 := HX9.out.at 2 2 rfl rfl
      have g2_3 := HX9.out.at 2 3 rfl rfl
      have g2_4 := HX9.out.at 2 4 rfl rfl
      have g2_5 := HX9.out.at 2 5 rfl rfl
      have g2_6 := HX9.out.at 2 6 rfl rfl
      have g2_7 := HX9.out.at 2 7 rfl rfl
      simp only [World.size_alloc] at g2_0 g2_1 g2_2 g2_3 g2_4 g2_5 g2_6 g2_7
      have hkeep : ∀ V V' : World, Below V.heap.size V V' → (Below y0b.heap.size y0b V ∧ V.cell? ⟨x1.heap.size, 0, none⟩ = some (.int .i64 k_y) ∧ V.cell? ⟨x1.heap.size, 1, none⟩ = some (.int .i64 u_y) ∧ V.cell? ⟨x1.heap.size, 2, none⟩ = some (.string n_y) ∧ V.cell? ⟨x1.heap.size, 3, none⟩ = some (.int .i64 tk_y) ∧ V.cell? ⟨x1.heap.size, 4, none⟩ = some (.string tn_y) ∧ V.cell? ⟨x1.heap.size, 5, none⟩ = some (.slice atks_yx tks_y.length ctks_yx) ∧ V.cell? ⟨x1.heap.size, 6, none⟩ = some (.slice ans_yx ns_y.length cns_yx) ∧ V.cell? ⟨x1.heap.size, 7, none⟩ = some (.slice aks_yx ks_y.length cks_yx) ∧ V.cell? ⟨w.heap.size + 1, 0, none⟩ = some (.int .i64 k_y) ∧ V.cell? ⟨w.heap.size + 1, 1, none⟩ = some (.int .i64 u_y) ∧ V.cell? ⟨w.heap.size + 1, 2, none⟩ = some (.string n_y) ∧ V.cell? ⟨w.heap.size + 1, 3, none⟩ = some (.int .i64 tk_y) ∧ V.cell? ⟨w.heap.size + 1, 4, none⟩ = some (.string tn_y) ∧ V.cell? ⟨w.heap.size + 1, 5, none⟩ = some (.slice atks_y tks_y.length ctks_y) ∧ V.cell? ⟨w.heap.size + 1, 6, none⟩ = some (.slice ans_y ns_y.length cns_y) ∧ V.cell? ⟨w.heap.size + 1, 7, none⟩ = some (.slice aks_y ks_y.length cks_y)) → (Below y0b.heap.size y0b V' ∧ V'.cell? ⟨x1.heap.size, 0, none⟩ = some (.int .i64 k_y) ∧ V'.cell? ⟨x1.heap.size, 1, none⟩ = some (.int .i64 u_y) ∧ V'.cell? ⟨x1.heap.size, 2, none⟩ = some (.string n_y) ∧ V'.cell? ⟨x1.heap.size, 3, none⟩ = some (.int .i64 tk_y) ∧ V'.cell? ⟨x1.heap.size, 4, none⟩ = some (.string tn_y) ∧ V'.cell? ⟨x1.heap.size, 5, none⟩ = some (.slice atks_yx tks_y.length ctks_yx) ∧ V'.cell? ⟨x1.heap.size, 6, none⟩ = some (.slice ans_yx ns_y.length cns_yx) ∧ V'.cell? ⟨x1.heap.size, 7, none⟩ = some (.slice aks_yx ks_y.length cks_yx) ∧ V'.cell? ⟨w.heap.size + 1, 0, none⟩ = some (.int .i64 k_y) ∧ V'.cell? ⟨w.heap.size + 1, 1, none⟩ = some (.int .i64 u_y) ∧ V'.cell? ⟨w.heap.size + 1, 2, none⟩ = some (.string n_y) ∧ V'.cell? ⟨w.heap.size + 1, 3, none⟩ = some (.int .i64 tk_y) ∧ V'.cell? ⟨w.heap.size + 1, 4, none⟩ = some (.string tn_y) ∧ V'.cell? ⟨w.heap.size + 1, 5, none⟩ = some (.slice atks_y tks_y.length ctks_y) ∧ V'.cell? ⟨w.heap.size + 1, 6, none⟩ = some (.slice ans_y ns_y.length cns_y) ∧ V'.cell? ⟨w.heap.size + 1, 7, none⟩ = some (.slice aks_y ks_y.length cks_y)) := fun V V' hb ⟨h, _⟩ =>
        have hb' := h.trans (hb.mono h.size)
        ⟨hb', (hb'.cell (p := ⟨_, 0, none⟩) (World.block_lt_of_cell? _ _ g0_0)).trans g0_0, (hb'.cell (p := ⟨_, 1, none⟩) (World.block_lt_of_cell? _ _ g0_1)).trans g0_1, (hb'.cell (p := ⟨_, 2, none⟩) (World.block_lt_of_cell? _ _ g0_2)).trans g0_2, (hb'.cell (p := ⟨_, 3, none⟩) (World.block_lt_of_cell? _ _ g0_3)).trans g0_3, (hb'.cell (p := ⟨_, 4, none⟩) (World.block_lt_of_cell? _ _ g0_4)).trans g0_4, (hb'.cell (p := ⟨_, 5, none⟩) (World.block_lt_of_cell? _ _ g0_5)).trans g0_5, (hb'.cell (p := ⟨_, 6, none⟩) (World.block_lt_of_cell? _ _ g0_6)).trans g0_6, (hb'.cell (p := ⟨_, 7, none⟩) (World.block_lt_of_cell? _ _ g0_7)).trans g0_7, (hb'.cell (p := ⟨_, 0, none⟩) (World.block_lt_of_cell? _ _ g2_0)).trans g2_0, (hb'.cell (p := ⟨_, 1, none⟩) (World.block_lt_of_cell? _ _ g2_1)).trans g2_1, (hb'.cell (p := ⟨_, 2, none⟩) (World.block_lt_of_cell? _ _ g2_2)).trans g2_2, (hb'.cell (p := ⟨_, 3, none⟩) (World.block_lt_of_cell? _ _ g2_3)).trans g2_3, (hb'.cell (p := ⟨_, 4, none⟩) (World.block_lt_of_cell? _ _ g2_4)).trans g2_4, (hb'.cell (p := ⟨_, 5, none⟩) (World.block_lt_of_cell? _ _ g2_5)).trans g2_5, (hb'.cell (p := ⟨_, 6, none⟩) (World.block_lt_of_cell? _ _ g2_6)).trans g2_6, (hb'.cell (p := ⟨_, 7, none⟩) (World.block_lt_of_cell? _ _ g2_7)).trans g2_7⟩
      have KEEP := hid hkeep
      clear hkeep
      have hbd : Below y0b.heap.size y0b y0b.drew := (Below.refl _ _).drew
      go_region_held3 (fun V => Below y0b.heap.size y0b V ∧ V.cell? ⟨x1.heap.size, 0, none⟩ = some (.int .i64 k_y) ∧ V.cell? ⟨x1.heap.size, 1, none⟩ = some (.int .i64 u_y) ∧ V.cell? ⟨x1.heap.size, 2, none⟩ = some (.string n_y) ∧ V.cell? ⟨x1.heap.size, 3, none⟩ = some (.int .i64 tk_y) ∧ V.cell? ⟨x1.heap.size, 4, none⟩ = some (.string tn_y) ∧ V.cell? ⟨x1.heap.size, 5, none⟩ = some (.slice atks_yx tks_y.length ctks_yx) ∧ V.cell? ⟨x1.heap.size, 6, none⟩ = some (.slice ans_yx ns_y.length cns_yx) ∧ V.cell? ⟨x1.heap.size, 7, none⟩ = some (.slice aks_yx ks_y.length cks_yx) ∧ V.cell? ⟨w.heap.size + 1, 0, none⟩ = some (.int .i64 k_y) ∧ V.cell? ⟨w.heap.size + 1, 1, none⟩ = some (.int .i64 u_y) ∧ V.cell? ⟨w.heap.size + 1, 2, none⟩ = some (.string n_y) ∧ V.cell? ⟨w.heap.size + 1, 3, none⟩ = some (.int .i64 tk_y) ∧ V.cell? ⟨w.heap.size + 1, 4, none⟩ = some (.string tn_y) ∧ V.cell? ⟨w.heap.size + 1, 5, none⟩ = some (.slice atks_y tks_y.length ctks_y) ∧ V.cell? ⟨w.heap.size + 1, 6, none⟩ = some (.slice ans_y ns_y.length cns_y) ∧ V.cell? ⟨w.heap.size + 1, 7, none⟩ = some (.slice aks_y ks_y.length cks_y))
        (first | exact KEEP.out _ _ hbq (by assumption) | go_keep)
        (first
          | (go_at_call 29; (with_reducible refine (toTm k_y u_y n_y tk_y tn_y tks_y ns_y ks_y atks_y ctks_y ans_y cns_y aks_y cks_y _ HM_y.out ?_).mono ?_); (exact R_y.out.below (‹Below y0b.heap.size y0b _ ∧ _›).1); rintro e y1a ⟨atks_ye, ctks_ye, ans_ye, cns_ye, aks_ye, cks_ye, rfl, ho_ye, hbq⟩)
          | (go_at_call 31; (with_reducible refine (eqTm _ _ _ _ _ _ _ _ _ _ _ _ _ _ _ _ _ _ _ _ _ ?_ ?_).mono ?_); (exact C_yx.out.below ((‹Below y0b.heap.size y0b y1a ∧ _›).1)); (exact ho_ye.rd); rintro e y1b ⟨rfl, hbq⟩))
      obtain ⟨hbr, -⟩ := ‹Below y0b.heap.size y0b y1b ∧ _›
      clear KEEP hbd g0_0 g0_1 g0_2 g0_3 g0_4 g0_5 g0_6 g0_7 g2_0 g2_1 g2_2 g2_3 g2_4 g2_5 g2_6 g2_7
      have HB10 := hid (HB9.out.trans (hbr.mono HB9.out.size))
      have HX10 := hid (HX9.out.below hbr)
      have R_x := hid (R_x.out.below hbr)
      have R_y := hid (R_y.out.below hbr)
      have C_xx := hid (C_xx.out.below hbr)
      have C_yx := hid (C_yx.out.below hbr)
      clear hbr
      clear ho_ye
      go_wp2_with fail
      go_ret
      exact ⟨rfl, HB10.out⟩

set_option maxRecDepth 100000 in
theorem FnExactAlphaSame_lifted (os : Os) (started : os.Started) (H : Type) (enc : TypeId × Value → H) :
    ReturnsInHanded {} Try.checked os 6 .any (Rows.fnExactAlphaSameSpec.pre6 enc Try.prog Try.f6 Rows.fnExactAlphaSameRow.domain false) (Rows.fnExactAlphaSameSpec.post enc Try.prog Try.f6 false true false false) := by
  refine law_lifted (C := Try.checked) (tb := 4) own started (by kernel_rfl) Try.func6 laidOut (by intro t ht; rw [Try.params6] at ht; simp at ht; subst ht; exact ⟨by kernel_rfl, of_decide_eq_true (by kernel_rfl)⟩) rfl Try.underlying4 rfl ?_
    (ChangeSpec.witness6 (enc := enc) (C := Try.checked) false ⟨#[], #[.agg #[.int .i64 0, .int .i64 0, .string ⟨#[]⟩, .int .i64 0, .string ⟨#[]⟩, .slice none 0 0, .slice none 0 0, .slice none 0 0], .agg #[.int .i64 0, .int .i64 0, .string ⟨#[]⟩, .int .i64 0, .string ⟨#[]⟩, .slice none 0 0, .slice none 0 0, .slice none 0 0]], []⟩ 8 (by kernel_rfl) (by kernel_rfl) (by kernel_rfl) (by kernel_rfl)) ?_
  · intro ds hds
    rw [Try.params6] at hds
    match ds, hds with
    | [_, _], _ => exact ⟨rfl, rfl, rfl⟩
  intro W base args ds p hval0 hA0 hlt
  have hval : ∀ (j : Nat) t v, Try.f6.params[j]? = some t → args[j]? = some v → Value.okWide Try.prog W .any base t v := hval0
  have hA : DataW.TrodAll enc Try.prog W 0 (fun _ => true) true Try.f6.params.toList args.toList ds p := hA0
  rw [Try.params6] at hA hval
  clear hval0 hA0
  obtain ⟨v0, vs0, d0, ds0, p0, q0, hargs0, rfl, rfl, h0, r0⟩ := trodAll_cons hA
  obtain ⟨v1, vs1, d1, ds1, p1, q1, hargs1, rfl, rfl, h1, r1⟩ := trodAll_cons r0
  obtain ⟨rfl, rfl, rfl⟩ := trodAll_nil r1
  subst hargs1
  obtain rfl : args = #[v0, v1] := by cases args; simp_all
  obtain ⟨k_x, u_x, n_x, tk_x, tn_x, tks_x, ns_x, ks_x, atks_x, ctks_x, ans_x, cns_x, aks_x, cks_x, rfl, hr_x⟩ := arg_Tm (hval 0 50 v0 rfl rfl) h0
  obtain ⟨k_y, u_y, n_y, tk_y, tn_y, tks_y, ns_y, ks_y, atks_y, ctks_y, ans_y, cns_y, aks_y, cks_y, rfl, hr_y⟩ := arg_Tm (hval 1 50 v1 rfl rfl) h1
  exact FnExactAlphaSame_walk k_x u_x n_x tk_x tn_x tks_x ns_x ks_x atks_x ctks_x ans_x cns_x aks_x cks_x k_y u_y n_y tk_y tn_y tks_y ns_y ks_y atks_y ctks_y ans_y cns_y aks_y cks_y W hr_x hr_y

theorem FnExactAlphaSame_holds : Rows.FnExactAlphaSameSaid :=
  OpenClaim.holds_of_wide 6 Try.f6 rfl rfl rfl rfl rfl rfl rfl ⟨rfl, rfl, rfl, rfl, rfl⟩ rfl rfl rfl rfl rfl (by kernel_rfl) Try.func6 (by kernel_rfl)
    (of_decide_eq_true (by kernel_rfl)) (by unfold Func.isWrapper; first | (rw [if_pos (by decide +kernel)]; kernel_rfl) | (rw [if_neg (by decide +kernel)]; exact ⟨rfl, rfl⟩))
    (fun os started H enc _ => FnExactAlphaSame_lifted os started H enc)
end Go.Proofs.Ytgpefnlpbjnjbaa
