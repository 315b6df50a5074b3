/- FnExactPrintTerm: for every input, where the listed variables hold what the program's text lays; the card ties that. -/
import Derived.Test.YtikhofcjkcbpbaaGreatDoorCard
import Derived.Test.YtikhofcjkcbpbaaGreatDoorCards
import Derived.Test.YtikhofcjkcbpbaaGreatDoorTie
import Derived.Test.YtikhofcjkcbpbaaGreatDoorLaid
import Derived.Test.YtikhofcjkcbpbaaGreatDoorArTm
import Derived.Test.YtikhofcjkcbpbaaGreatDoorSzTm
import Derived.Test.YtikhofcjkcbpbaaGreatDoorToTm
import Derived.Test.YtikhofcjkcbpbaaGreatDoorEqTm
import Derived.Test.YtikhofcjkcbpbaaGreatDoorPrV
import Derived.Deep.RegionHeld3
import Derived.SevenTiedAt
import Derived.LaidMore
import Derived.ProofKit
import Derived.OpenShut
namespace Go.Proofs.YtikhofcjkcbpbaaGreatDoor
open Go.ChangeShapes Go.WideShapes Go.ChangeAt Go.RowKit
open Go.Sort (grow)
open Go.ChangeMaps (open_string)
set_option linter.unusedVariables false

set_option maxHeartbeats 1000000 in
theorem FnExactPrintTerm_walk (k_x : Int) (u_x : Int) (n_x : ByteArray) (tk_x : Int) (tn_x : ByteArray) (tks_x : List Ty) (ns_x : List ByteArray) (ks_x : List Tm) (atks_x : Option Addr) (ctks_x : Nat) (ans_x : Option Addr) (cns_x : Nat) (aks_x : Option Addr) (cks_x : Nat) (w : World) (hr_x : RdS w (Tm.d (Tm.mk k_x u_x n_x (Ty.mk tk_x tn_x tks_x) ns_x ks_x)) [.int .i64 k_x, .int .i64 u_x, .string n_x, .int .i64 tk_x, .string tn_x, .slice atks_x tks_x.length ctks_x, .slice ans_x ns_x.length cns_x, .slice aks_x ks_x.length cks_x]) (hpw : Pow w) :
    Calls Tryz.prog 3 #[.agg #[.int .i64 k_x, .int .i64 u_x, .string n_x, .int .i64 tk_x, .string tn_x, .slice atks_x tks_x.length ctks_x, .slice ans_x ns_x.length cns_x, .slice aks_x ks_x.length cks_x]] w fun e w' => e = .returned (.bool true) ∧ Below w.heap.size w w' := by
  have HPW := hid hpw
  clear hpw
  have hbw0 : Below w.heap.size w (w.alloc (.cells #[.int .i64 k_x, .int .i64 u_x, .string n_x, .int .i64 tk_x, .string tn_x, .slice atks_x tks_x.length ctks_x, .slice ans_x ns_x.length cns_x, .slice aks_x ks_x.length cks_x] 28)) := ((Below.refl _ _).alloc (by simp) _)
  have HX0 := hid ((Boxes.nil w).alloc #[.int .i64 k_x, .int .i64 u_x, .string n_x, .int .i64 tk_x, .string tn_x, .slice atks_x tks_x.length ctks_x, .slice ans_x ns_x.length cns_x, .slice aks_x ks_x.length cks_x] 28 (0, 0))
  have hc0 := fun (W : World) (hb : Below w.heap.size w W) => szTm k_x u_x n_x tk_x tn_x tks_x ns_x ks_x atks_x ctks_x ans_x cns_x aks_x cks_x (1048576) W (hr_x.below hb) (by omega) (by omega)
  by_cases hp0 : ((Tm.bulk (Tm.mk k_x u_x n_x (Ty.mk tk_x tn_x tks_x) ns_x ks_x) : Nat) : Int) ≤ 1048576
  case neg =>
    rw [purse_no hp0] at hc0
    have HC0 := hid hc0
    have HB0 := hid hbw0
    clear hbw0 hc0 hr_x
    go_enter Tryz.func3, Tryz.ntmps3
    go_wp2_with fail
    refine (HC0.out _ HB0.out).mono ?_
    rintro e w1 ⟨rfl, hb⟩
    have HB1 := hid (HB0.out.trans (hb.mono (by simp)))
    have HX1 := hid (HX0.out.below hb)
    clear hb HC0
    go_wp2_with fail
    go_ret
    exact ⟨rfl, HB1.out⟩
  case pos =>
    rw [purse_ok hp0] at hc0
    have HM_x : Hid (Tm.bulk (Tm.mk k_x u_x n_x (Ty.mk tk_x tn_x tks_x) ns_x ks_x) ≤ 1048576) := by show _ ≤ _; omega
    have HC0 := hid hc0
    have HB0 := hid hbw0
    have R_x := hid hr_x
    clear hbw0 hc0 hr_x
    go_enter Tryz.func3, Tryz.ntmps3
    go_wp2_with fail
    refine (HC0.out _ HB0.out).mono ?_
    rintro e w1 ⟨rfl, hb⟩
    have HB1 := hid (HB0.out.trans (hb.mono (by simp)))
    have HX1 := hid (HX0.out.below hb)
    clear hb HC0
    have R_x := hid (R_x.out.below HB1.out)
    have g0_0 := HX1.out.at 0 0 rfl rfl
    have g0_1 := HX1.out.at 0 1 rfl rfl
    have g0_2 := HX1.out.at 0 2 rfl rfl
    have g0_3 := HX1.out.at 0 3 rfl rfl
    have g0_4 := HX1.out.at 0 4 rfl rfl
    have g0_5 := HX1.out.at 0 5 rfl rfl
    have g0_6 := HX1.out.at 0 6 rfl rfl
    have g0_7 := HX1.out.at 0 7 rfl rfl
    go_wp2_with fail
    clear g0_0 g0_1 g0_2 g0_3 g0_4 g0_5 g0_6 g0_7
    refine (toTm k_x u_x n_x tk_x tn_x tks_x ns_x ks_x atks_x ctks_x ans_x cns_x aks_x cks_x _ HM_x.out ?_).mono ?_
    · exact R_x.out
    rintro e v0 ⟨atks_xs, ctks_xs, ans_xs, cns_xs, aks_xs, cks_xs, rfl, ho_xs, hb⟩
    have HB2 := hid (HB1.out.trans (hb.mono HB1.out.size))
    have HX2 := hid (HX1.out.below hb)
    have R_x := hid (R_x.out.below hb)
    have C_xs := hid ho_xs.rd
    clear hb ho_xs
    go_wp2_with fail
    refine (spec_PrintTerm _ _ _ _ _ _ _ _ _ _ _ _ _ _ _ ?_ ?_).mono ?_
    · exact HM_x.out
    · exact C_xs.out
    rintro e vs ⟨rfl, hb⟩
    have HB3 := hid (HB2.out.trans (hb.mono HB2.out.size))
    have HX3 := hid (HX2.out.below hb)
    have R_x := hid (R_x.out.below hb)
    have C_xs := hid (C_xs.out.below hb)
    clear hb
    have g0_0 := HX3.out.at 0 0 rfl rfl
    have g0_1 := HX3.out.at 0 1 rfl rfl
    have g0_2 := HX3.out.at 0 2 rfl rfl
    have g0_3 := HX3.out.at 0 3 rfl rfl
    have g0_4 := HX3.out.at 0 4 rfl rfl
    have g0_5 := HX3.out.at 0 5 rfl rfl
    have g0_6 := HX3.out.at 0 6 rfl rfl
    have g0_7 := HX3.out.at 0 7 rfl rfl
    go_wp2_with fail
    clear g0_0 g0_1 g0_2 g0_3 g0_4 g0_5 g0_6 g0_7
    refine (toTm k_x u_x n_x tk_x tn_x tks_x ns_x ks_x atks_x ctks_x ans_x cns_x aks_x cks_x _ HM_x.out ?_).mono ?_
    · exact R_x.out
    rintro e x0 ⟨atks_xx, ctks_xx, ans_xx, cns_xx, aks_xx, cks_xx, rfl, ho_xx, hb⟩
    have HB4 := hid (HB3.out.trans (hb.mono HB3.out.size))
    have HX4 := hid (HX3.out.below hb)
    have R_x := hid (R_x.out.below hb)
    have C_xx := hid ho_xx.rd
    clear hb ho_xx
    have hba : Below x0.heap.size x0 (x0.alloc (.cells #[.int .i64 k_x, .int .i64 u_x, .string n_x, .int .i64 tk_x, .string tn_x, .slice atks_xx tks_x.length ctks_xx, .slice ans_xx ns_x.length cns_xx, .slice aks_xx ks_x.length cks_xx] 36)) := (Below.refl _ _).alloc (Nat.le_refl _) _
    have HXa := hid (HX4.out.alloc #[.int .i64 k_x, .int .i64 u_x, .string n_x, .int .i64 tk_x, .string tn_x, .slice atks_xx tks_x.length ctks_xx, .slice ans_xx ns_x.length cns_xx, .slice aks_xx ks_x.length cks_xx] 36 (0, 0))
    have HB5 := hid (HB4.out.trans (hba.mono HB4.out.size))
    have HX5 := hid (HX4.out.below hba)
    have R_x := hid (R_x.out.below hba)
    have C_xx := hid (C_xx.out.below hba)
    clear hba
    have HX5 := HXa
    have g0_0 := HX5.out.at 0 0 rfl rfl
    have g0_1 := HX5.out.at 0 1 rfl rfl
    have g0_2 := HX5.out.at 0 2 rfl rfl
    have g0_3 := HX5.out.at 0 3 rfl rfl
    have g0_4 := HX5.out.at 0 4 rfl rfl
    have g0_5 := HX5.out.at 0 5 rfl rfl
    have g0_6 := HX5.out.at 0 6 rfl rfl
    have g0_7 := HX5.out.at 0 7 rfl rfl
    go_wp2_with fail
    clear g0_0 g0_1 g0_2 g0_3 g0_4 g0_5 g0_6 g0_7
    refine (impl_PrintTerm _ _ _ _ _ _ _ _ _ _ _ _ _ _ _ ?_ ?_ ?_).mono ?_
    · exact HM_x.out
    · exact C_xx.out
    · first | exact HPW.out.below HB20.out | exact HPW.out.below HB19.out | exact HPW.out.below HB18.out | exact HPW.out.below HB17.out | exact HPW.out.below HB16.out | exact HPW.out.below HB15.out | exact HPW.out.below HB14.out | exact HPW.out.below HB13.out | exact HPW.out.below HB12.out | exact HPW.out.below HB11.out | exact HPW.out.below HB10.out | exact HPW.out.below HB9.out | exact HPW.out.below HB8.out | exact HPW.out.below HB7.out | exact HPW.out.below HB6.out | exact HPW.out.below HB5.out | exact HPW.out.below HB4.out | exact HPW.out.below HB3.out | exact HPW.out.below HB2.out | exact HPW.out.below HB1.out
    rintro e vi ⟨rfl, hb⟩
    have HB6 := hid (HB5.out.trans (hb.mono HB5.out.size))
    have HX6 := hid (HX5.out.below hb)
    have R_x := hid (R_x.out.below hb)
    have C_xx := hid (C_xx.out.below hb)
    clear hb
    go_wp2_with fail
    have g0_0 := HX6.out.at 0 0 rfl rfl
    have g0_1 := HX6.out.at 0 1 rfl rfl
    have g0_2 := HX6.out.at 0 2 rfl rfl
    have g0_3 := HX6.out.at 0 3 rfl rfl
    have g0_4 := HX6.out.at 0 4 rfl rfl
    have g0_5 := HX6.out.at 0 5 rfl rfl
    have g0_6 := HX6.out.at 0 6 rfl rfl
    have g0_7 := HX6.out.at 0 7 rfl rfl
    have g1_0 := HX6.out.at 1 0 rfl rfl
    have g1_1 := HX6.out.at 1 1 rfl rfl
    have g1_2 := HX6.out.at 1 2 rfl rfl
    have g1_3 := HX6.out.at 1 3 rfl rfl
    have g1_4 := HX6.out.at 1 4 rfl rfl
    have g1_5 := HX6.out.at 1 5 rfl rfl
    have g1_6 := HX6.out.at 1 6 rfl rfl
    have g1_7 := HX6.out.at 1 7 rfl rfl
    have hkeep : ∀ V V' : World, Below V.heap.size V V' → (Below vi.heap.size vi V ∧ V.cell? ⟨x0.heap.size, 0, none⟩ = some (.int .i64 k_x) ∧ V.cell? ⟨x0.heap.size, 1, none⟩ = some (.int .i64 u_x) ∧ V.cell? ⟨x0.heap.size, 2, none⟩ = some (.string n_x) ∧ V.cell? ⟨x0.heap.size, 3, none⟩ = some (.int .i64 tk_x) ∧ V.cell? ⟨x0.heap.size, 4, none⟩ = some (.string tn_x) ∧ V.cell? ⟨x0.heap.size, 5, none⟩ = some (.slice atks_xx tks_x.length ctks_xx) ∧ V.cell? ⟨x0.heap.size, 6, none⟩ = some (.slice ans_xx ns_x.length cns_xx) ∧ V.cell? ⟨x0.heap.size, 7, none⟩ = some (.slice aks_xx ks_x.length cks_xx) ∧ V.cell? ⟨w.heap.size, 0, none⟩ = some (.int .i64 k_x) ∧ V.cell? ⟨w.heap.size, 1, none⟩ = some (.int .i64 u_x) ∧ V.cell? ⟨w.heap.size, 2, none⟩ = some (.string n_x) ∧ V.cell? ⟨w.heap.size, 3, none⟩ = some (.int .i64 tk_x) ∧ V.cell? ⟨w.heap.size, 4, none⟩ = some (.string tn_x) ∧ V.cell? ⟨w.heap.size, 5, none⟩ = some (.slice atks_x tks_x.length ctks_x) ∧ V.cell? ⟨w.heap.size, 6, none⟩ = some (.slice ans_x ns_x.length cns_x) ∧ V.cell? ⟨w.heap.size, 7, none⟩ = some (.slice aks_x ks_x.length cks_x)) → (Below vi.heap.size vi V' ∧ V'.cell? ⟨x0.heap.size, 0, none⟩ = some (.int .i64 k_x) ∧ V'.cell? ⟨x0.heap.size, 1, none⟩ = some (.int .i64 u_x) ∧ V'.cell? ⟨x0.heap.size, 2, none⟩ = some (.string n_x) ∧ V'.cell? ⟨x0.heap.size, 3, none⟩ = some (.int .i64 tk_x) ∧ V'.cell? ⟨x0.heap.size, 4, none⟩ = some (.string tn_x) ∧ V'.cell? ⟨x0.heap.size, 5, none⟩ = some (.slice atks_xx tks_x.length ctks_xx) ∧ V'.cell? ⟨x0.heap.size, 6, none⟩ = some (.slice ans_xx ns_x.length cns_xx) ∧ V'.cell? ⟨x0.heap.size, 7, none⟩ = some (.slice aks_xx ks_x.length cks_xx) ∧ V'.cell? ⟨w.heap.size, 0, none⟩ = some (.int .i64 k_x) ∧ V'.cell? ⟨w.heap.size, 1, none⟩ = some (.int .i64 u_x) ∧ V'.cell? ⟨w.heap.size, 2, none⟩ = some (.string n_x) ∧ V'.cell? ⟨w.heap.size, 3, none⟩ = some (.int .i64 tk_x) ∧ V'.cell? ⟨w.heap.size, 4, none⟩ = some (.string tn_x) ∧ V'.cell? ⟨w.heap.size, 5, none⟩ = some (.slice atks_x tks_x.length ctks_x) ∧ V'.cell? ⟨w.heap.size, 6, none⟩ = some (.slice ans_x ns_x.length cns_x) ∧ V'.cell? ⟨w.heap.size, 7, none⟩ = some (.slice aks_x ks_x.length cks_x)) := fun V V' hb ⟨h, _⟩ =>
      have hb' := h.trans (hb.mono h.size)
      ⟨hb', (hb'.cell (p := ⟨_, 0, none⟩) (World.block_lt_of_cell? _ _ g0_0)).trans g0_0, (hb'.cell (p := ⟨_, 1, none⟩) (World.block_lt_of_cell? _ _ g0_1)).trans g0_1, (hb'.cell (p := ⟨_, 2, none⟩) (World.block_lt_of_cell? _ _ g0_2)).trans g0_2, (hb'.cell (p := ⟨_, 3, none⟩) (World.block_lt_of_cell? _ _ g0_3)).trans g0_3, (hb'.cell (p := ⟨_, 4, none⟩) (World.block_lt_of_cell? _ _ g0_4)).trans g0_4, (hb'.cell (p := ⟨_, 5, none⟩) (World.block_lt_of_cell? _ _ g0_5)).trans g0_5, (hb'.cell (p := ⟨_, 6, none⟩) (World.block_lt_of_cell? _ _ g0_6)).trans g0_6, (hb'.cell (p := ⟨_, 7, none⟩) (World.block_lt_of_cell? _ _ g0_7)).trans g0_7, (hb'.cell (p := ⟨_, 0, none⟩) (World.block_lt_of_cell? _ _ g1_0)).trans g1_0, (hb'.cell (p := ⟨_, 1, none⟩) (World.block_lt_of_cell? _ _ g1_1)).trans g1_1, (hb'.cell (p := ⟨_, 2, none⟩) (World.block_lt_of_cell? _ _ g1_2)).trans g1_2, (hb'.cell (p := ⟨_, 3, none⟩) (World.block_lt_of_cell? _ _ g1_3)).trans g1_3, (hb'.cell (p := ⟨_, 4, none⟩) (World.block_lt_of_cell? _ _ g1_4)).trans g1_4, (hb'.cell (p := ⟨_, 5, none⟩) (World.block_lt_of_cell? _ _ g1_5)).trans g1_5, (hb'.cell (p := ⟨_, 6, none⟩) (World.block_lt_of_cell? _ _ g1_6)).trans g1_6, (hb'.cell (p := ⟨_, 7, none⟩) (World.block_lt_of_cell? _ _ g1_7)).trans g1_7⟩
    have KEEP := hid hkeep
    clear hkeep
    have hbd : Below vi.heap.size vi vi.drew := (Below.refl _ _).drew
    go_region_held3 (fun V => Below vi.heap.size vi V ∧ V.cell? ⟨x0.heap.size, 0, none⟩ = some (.int .i64 k_x) ∧ V.cell? ⟨x0.heap.size, 1, none⟩ = some (.int .i64 u_x) ∧ V.cell? ⟨x0.heap.size, 2, none⟩ = some (.string n_x) ∧ V.cell? ⟨x0.heap.size, 3, none⟩ = some (.int .i64 tk_x) ∧ V.cell? ⟨x0.heap.size, 4, none⟩ = some (.string tn_x) ∧ V.cell? ⟨x0.heap.size, 5, none⟩ = some (.slice atks_xx tks_x.length ctks_xx) ∧ V.cell? ⟨x0.heap.size, 6, none⟩ = some (.slice ans_xx ns_x.length cns_xx) ∧ V.cell? ⟨x0.heap.size, 7, none⟩ = some (.slice aks_xx ks_x.length cks_xx) ∧ V.cell? ⟨w.heap.size, 0, none⟩ = some (.int .i64 k_x) ∧ V.cell? ⟨w.heap.size, 1, none⟩ = some (.int .i64 u_x) ∧ V.cell? ⟨w.heap.size, 2, none⟩ = some (.string n_x) ∧ V.cell? ⟨w.heap.size, 3, none⟩ = some (.int .i64 tk_x) ∧ V.cell? ⟨w.heap.size, 4, none⟩ = some (.string tn_x) ∧ V.cell? ⟨w.heap.size, 5, none⟩ = some (.slice atks_x tks_x.length ctks_x) ∧ V.cell? ⟨w.heap.size, 6, none⟩ = some (.slice ans_x ns_x.length cns_x) ∧ V.cell? ⟨w.heap.size, 7, none⟩ = some (.slice aks_x ks_x.length cks_x))
      (first | exact KEEP.out _ _ hbq (by assumption) | go_keep)
      (first
        | (go_at_call 7; (with_reducible refine (toTm k_x u_x n_x tk_x tn_x tks_x ns_x ks_x atks_x ctks_x ans_x cns_x aks_x cks_x _ HM_x.out ?_).mono ?_); (exact R_x.out.below (‹Below vi.heap.size vi _ ∧ _›).1); rintro e y0a ⟨atks_xe, ctks_xe, ans_xe, cns_xe, aks_xe, cks_xe, rfl, ho_xe, hbq⟩)
        | (go_at_call 9; (with_reducible refine (eqTm _ _ _ _ _ _ _ _ _ _ _ _ _ _ _ _ _ _ _ _ _ ?_ ?_).mono ?_); (exact C_xx.out.below ((‹Below vi.heap.size vi y0a ∧ _›).1)); (exact ho_xe.rd); rintro e y0b ⟨rfl, hbq⟩))
    obtain ⟨hbr, -⟩ := ‹Below vi.heap.size vi y0b ∧ _›
    clear KEEP hbd g0_0 g0_1 g0_2 g0_3 g0_4 g0_5 g0_6 g0_7 g1_0 g1_1 g1_2 g1_3 g1_4 g1_5 g1_6 g1_7
    have HB7 := hid (HB6.out.trans (hbr.mono HB6.out.size))
    have HX7 := hid (HX6.out.below hbr)
    have R_x := hid (R_x.out.below hbr)
    have C_xx := hid (C_xx.out.below hbr)
    clear hbr
    clear ho_xe
    go_wp2_with fail
    go_ret
    exact ⟨rfl, HB7.out⟩

/-- The heap that the program's own run leaves meets the row's condition. -/
theorem FnExactPrintTerm_met (os : Os) (args : Array Value) : laidMetH Tryz.prog Rows.fnExactPrintTermRow.laid ((World.doorLaid Tryz.prog 24 os).forCall (fun _ _ => 0) ⟨#[], args, []⟩).memory := by
  rw [MakeChecks.laidMetH_plain _ _ _ (by kernel_rfl)]
  exact laidMet_of_run' 8 (by kernel_rfl) (by kernel_rfl)
theorem FnExactPrintTerm_pow {W : World} (h : laidMetH Tryz.prog Rows.fnExactPrintTermRow.laid W) : Pow W := by
  rw [MakeChecks.laidMetH_plain _ _ _ (by kernel_rfl)] at h
  exact pow_of_laid h
set_option maxRecDepth 100000 in
theorem FnExactPrintTerm_lifted (os : Os) (started : os.Started) (H : Type) (enc : TypeId × Value → H) :
    ReturnsInHanded {} Tryz.checked os 3 .any (fun w args => (Rows.fnExactPrintTermSpec.pre enc Tryz.prog Tryz.f3 [] false w args ∧ laidMetH Tryz.prog Rows.fnExactPrintTermRow.laid w) ∧ sizedMet enc Tryz.prog Tryz.f3 (OpenSpec.ofChange Rows.fnExactPrintTermSpec) false w args) (Rows.fnExactPrintTermSpec.post enc Tryz.prog Tryz.f3 false true false false) := by
  refine law_lifted_laid (C := Tryz.checked) (tb := 4) own started (by kernel_rfl) Tryz.func3 laidOut (by intro t ht; rw [Tryz.params3] at ht; simp at ht; subst ht; exact ⟨by kernel_rfl, of_decide_eq_true (by kernel_rfl)⟩) rfl Tryz.underlying4 rfl ?_
    (ChangeSpec.witness_shaped (enc := enc) (C := Tryz.checked) (os := os) (X := fun w _ => laidMetH Tryz.prog Rows.fnExactPrintTermRow.laid w) false (World.doorLaid Tryz.prog 24 os) #[.agg #[.int .i64 0, .int .i64 0, .string ⟨#[]⟩, .int .i64 0, .string ⟨#[]⟩, .slice none 0 0, .slice none 0 0, .slice none 0 0]] 8 rfl (World.shaped_of_RefB (by kernel_rfl) (by kernel_rfl)) (by kernel_rfl) (by kernel_rfl) (by kernel_rfl) (FnExactPrintTerm_met os _)) ?_
  · intro ds hds
    rw [Tryz.params3] at hds
    match ds, hds with
    | [_], _ => exact ⟨rfl, rfl, rfl⟩
  intro W base args ds p hval0 hA0 hlt hL
  have hval : ∀ (j : Nat) t v, Tryz.f3.params[j]? = some t → args[j]? = some v → Value.okWide Tryz.prog W .any base t v := hval0
  have hA : DataW.TrodAll enc Tryz.prog W 0 (fun _ => true) true Tryz.f3.params.toList args.toList ds p := hA0
  rw [Tryz.params3] at hA hval
  clear hval0 hA0
  obtain ⟨v0, vs0, d0, ds0, p0, q0, hargs0, rfl, rfl, h0, r0⟩ := trodAll_cons hA
  obtain ⟨rfl, rfl, rfl⟩ := trodAll_nil r0
  obtain rfl : args = #[v0] := by cases args; simp_all
  obtain ⟨k_x, u_x, n_x, tk_x, tn_x, tks_x, ns_x, ks_x, atks_x, ctks_x, ans_x, cns_x, aks_x, cks_x, rfl, hr_x⟩ := arg_Tm (hval 0 28 v0 rfl rfl) h0
  exact FnExactPrintTerm_walk k_x u_x n_x tk_x tn_x tks_x ns_x ks_x atks_x ctks_x ans_x cns_x aks_x cks_x W hr_x (FnExactPrintTerm_pow hL)
theorem FnExactPrintTerm_row : Rows.FnExactPrintTermSaid :=
  OpenClaim.holds_of_wide 3 Tryz.f3 rfl rfl rfl rfl rfl rfl rfl ⟨rfl, rfl, rfl, rfl, rfl⟩ rfl rfl rfl rfl rfl (by kernel_rfl) Tryz.func3 (by kernel_rfl)
    (of_decide_eq_true (by kernel_rfl)) (by unfold Func.isWrapper; first | (rw [if_pos (by decide +kernel)]; kernel_rfl) | (rw [if_neg (by decide +kernel)]; exact ⟨rfl, rfl⟩))
    (fun os started H enc _ => FnExactPrintTerm_lifted os started H enc)
theorem FnExactPrintTermCard_holds : Rows.FnExactPrintTermCardSaid :=
  Claim7.holds_tied_plain_at .later [] Rows.fnExactPrintTermCard.laidKinds true Rows.fnExactPrintTermCard.stood.harness Rows.fnExactPrintTermCard.stood.looks
    FnExactPrintTerm_row (fun _ h => by cases h) (by kernel_rfl) (fun _ h => by cases h) fnExactPrintTerm_row_tie rfl ⟨rfl, rfl⟩ (by kernel_rfl) rfl
    (fun f fn hf hfn => by
      obtain rfl : f = 3 := Option.some.inj ((show Tryz.prog.funcNamed "loop.example/g01074/laws.FnExactPrintTerm" = some 3 by kernel_rfl).symm.trans hf) |>.symm
      obtain rfl : fn = Tryz.f3 := (Option.some.inj (Tryz.func3.symm.trans hfn)).symm
      exact ⟨by kernel_rfl, fun j t ht => by
        rw [Tryz.params3] at ht
        have hm : t ∈ [28] := by simpa using Array.mem_of_getElem? ht
        have hall : ([28].all fun u => !Tryz.prog.wantsStandIn u) = true := by kernel_rfl
        exact (show Tryz.prog.wantsStandIn t = false by simpa using List.all_eq_true.1 hall t hm)⟩)
    (by kernel_rfl)
end Go.Proofs.YtikhofcjkcbpbaaGreatDoor
