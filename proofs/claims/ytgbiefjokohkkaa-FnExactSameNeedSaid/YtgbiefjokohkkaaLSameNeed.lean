/- FnExactSameNeed: for every input. No condition. -/
import Derived.Test.YtgbiefjokohkkaaArNe
import Derived.Test.YtgbiefjokohkkaaSzNe
import Derived.Test.YtgbiefjokohkkaaToNe
import Derived.Test.YtgbiefjokohkkaaEqNe
import Derived.Test.YtgbiefjokohkkaaNeSameSp
import Derived.Deep.RegionHeld3
namespace Go.Proofs.Ytgbiefjokohkkaa
open Go.ChangeShapes Go.WideShapes Go.ChangeAt Go.RowKit
open Go.Sort (grow)
open Go.ChangeMaps (open_string)
set_option linter.unusedVariables false

set_option maxHeartbeats 1000000 in
theorem FnExactSameNeed_walk (ctk_x : Int) (ctv_x : Int) (ctds_x : List Int) (ctks_x : List Co) (ces_x : List Int) (ss_x : List Fr) (hs_x : List Th) (actds_x : Option Addr) (cctds_x : Nat) (actks_x : Option Addr) (cctks_x : Nat) (aces_x : Option Addr) (cces_x : Nat) (ass_x : Option Addr) (css_x : Nat) (ahs_x : Option Addr) (chs_x : Nat) (ctk_y : Int) (ctv_y : Int) (ctds_y : List Int) (ctks_y : List Co) (ces_y : List Int) (ss_y : List Fr) (hs_y : List Th) (actds_y : Option Addr) (cctds_y : Nat) (actks_y : Option Addr) (cctks_y : Nat) (aces_y : Option Addr) (cces_y : Nat) (ass_y : Option Addr) (css_y : Nat) (ahs_y : Option Addr) (chs_y : Nat) (w : World) (hr_x : RdS w (Ne.d (Ne.mk (Cl.mk (Co.mk ctk_x ctv_x ctds_x ctks_x) ces_x) ss_x hs_x)) [.int .i64 ctk_x, .int .i64 ctv_x, .slice actds_x ctds_x.length cctds_x, .slice actks_x ctks_x.length cctks_x, .slice aces_x ces_x.length cces_x, .slice ass_x ss_x.length css_x, .slice ahs_x hs_x.length chs_x]) (hr_y : RdS w (Ne.d (Ne.mk (Cl.mk (Co.mk ctk_y ctv_y ctds_y ctks_y) ces_y) ss_y hs_y)) [.int .i64 ctk_y, .int .i64 ctv_y, .slice actds_y ctds_y.length cctds_y, .slice actks_y ctks_y.length cctks_y, .slice aces_y ces_y.length cces_y, .slice ass_y ss_y.length css_y, .slice ahs_y hs_y.length chs_y]) :
    Calls Try.prog 13 #[.agg #[.int .i64 ctk_x, .int .i64 ctv_x, .slice actds_x ctds_x.length cctds_x, .slice actks_x ctks_x.length cctks_x, .slice aces_x ces_x.length cces_x, .slice ass_x ss_x.length css_x, .slice ahs_x hs_x.length chs_x], .agg #[.int .i64 ctk_y, .int .i64 ctv_y, .slice actds_y ctds_y.length cctds_y, .slice actks_y ctks_y.length cctks_y, .slice aces_y ces_y.length cces_y, .slice ass_y ss_y.length css_y, .slice ahs_y hs_y.length chs_y]] w fun e w' => e = .returned (.bool true) ∧ Below w.heap.size w w' := by
  have hbw0 : Below w.heap.size w ((w.alloc (.cells #[.int .i64 ctk_x, .int .i64 ctv_x, .slice actds_x ctds_x.length cctds_x, .slice actks_x ctks_x.length cctks_x, .slice aces_x ces_x.length cces_x, .slice ass_x ss_x.length css_x, .slice ahs_x hs_x.length chs_x] 55)).alloc (.cells #[.int .i64 ctk_y, .int .i64 ctv_y, .slice actds_y ctds_y.length cctds_y, .slice actks_y ctks_y.length cctks_y, .slice aces_y ces_y.length cces_y, .slice ass_y ss_y.length css_y, .slice ahs_y hs_y.length chs_y] 55)) := (((Below.refl _ _).alloc (by simp) _).alloc (by simp) _)
  have HX0 := hid (((Boxes.nil w).alloc #[.int .i64 ctk_x, .int .i64 ctv_x, .slice actds_x ctds_x.length cctds_x, .slice actks_x ctks_x.length cctks_x, .slice aces_x ces_x.length cces_x, .slice ass_x ss_x.length css_x, .slice ahs_x hs_x.length chs_x] 55 (0, 0)).alloc #[.int .i64 ctk_y, .int .i64 ctv_y, .slice actds_y ctds_y.length cctds_y, .slice actks_y ctks_y.length cctks_y, .slice aces_y ces_y.length cces_y, .slice ass_y ss_y.length css_y, .slice ahs_y hs_y.length chs_y] 55 (0, 0))
  have hc0 := fun (W : World) (hb : Below w.heap.size w W) => szNe ctk_x ctv_x ctds_x ctks_x ces_x ss_x hs_x actds_x cctds_x actks_x cctks_x aces_x cces_x ass_x css_x ahs_x chs_x (1048576) W (hr_x.below hb) (by omega) (by omega)
  by_cases hp0 : ((Ne.bulk (Ne.mk (Cl.mk (Co.mk ctk_x ctv_x ctds_x ctks_x) ces_x) ss_x hs_x) : Nat) : Int) ≤ 1048576
  case neg =>
    rw [purse_no hp0] at hc0
    have HC0 := hid hc0
    have HB0 := hid hbw0
    clear hbw0 hc0 hr_x hr_y
    go_enter Try.func13, Try.ntmps13
    go_wp2_with fail
    refine (HC0.out _ HB0.out).mono ?_
    rintro e w1 ⟨rfl, hb⟩
    have HB1 := hid (HB0.out.trans (hb.mono (by simp; omega)))
    have HX1 := hid (HX0.out.below hb)
    clear hb HC0
    go_wp2_with fail
    go_ret
    exact ⟨rfl, HB1.out⟩
  case pos =>
    rw [purse_ok hp0] at hc0
    have hc1 := fun (W : World) (hb : Below w.heap.size w W) => szNe ctk_y ctv_y ctds_y ctks_y ces_y ss_y hs_y actds_y cctds_y actks_y cctks_y aces_y cces_y ass_y css_y ahs_y chs_y (1048576 - (Ne.bulk (Ne.mk (Cl.mk (Co.mk ctk_x ctv_x ctds_x ctks_x) ces_x) ss_x hs_x) : Nat)) W (hr_y.below hb) (by omega) (by omega)
    by_cases hp1 : ((Ne.bulk (Ne.mk (Cl.mk (Co.mk ctk_y ctv_y ctds_y ctks_y) ces_y) ss_y hs_y) : Nat) : Int) ≤ 1048576 - (Ne.bulk (Ne.mk (Cl.mk (Co.mk ctk_x ctv_x ctds_x ctks_x) ces_x) ss_x hs_x) : Nat)
    case neg =>
      rw [purse_no hp1] at hc1
      have HC0 := hid hc0
      have HC1 := hid hc1
      have HB0 := hid hbw0
      clear hbw0 hc0 hc1 hr_x hr_y
      go_enter Try.func13, Try.ntmps13
      go_wp2_with fail
      refine (HC0.out _ HB0.out).mono ?_
      rintro e w1 ⟨rfl, hb⟩
      have HB1 := hid (HB0.out.trans (hb.mono (by simp; omega)))
      have HX1 := hid (HX0.out.below hb)
      clear hb HC0
      have g0_0 := HX1.out.at 0 0 rfl rfl
      have g0_1 := HX1.out.at 0 1 rfl rfl
      have g0_2 := HX1.out.at 0 2 rfl rfl
      have g0_3 := HX1.out.at 0 3 rfl rfl
      have g0_4 := HX1.out.at 0 4 rfl rfl
      have g0_5 := HX1.out.at 0 5 rfl rfl
      have g0_6 := HX1.out.at 0 6 rfl rfl
      simp only [World.size_alloc] at g0_0 g0_1 g0_2 g0_3 g0_4 g0_5 g0_6
      go_wp2_with fail
      clear g0_0 g0_1 g0_2 g0_3 g0_4 g0_5 g0_6
      refine (HC1.out _ HB1.out).mono ?_
      rintro e w2 ⟨rfl, hb⟩
      have HB2 := hid (HB1.out.trans (hb.mono HB1.out.size))
      have HX2 := hid (HX1.out.below hb)
      clear hb HC1
      go_wp2_with fail
      go_ret
      exact ⟨rfl, HB2.out⟩
    case pos =>
      rw [purse_ok hp1] at hc1
      have HM_x : Hid (Ne.bulk (Ne.mk (Cl.mk (Co.mk ctk_x ctv_x ctds_x ctks_x) ces_x) ss_x hs_x) ≤ 1048576) := by show _ ≤ _; omega
      have HM_y : Hid (Ne.bulk (Ne.mk (Cl.mk (Co.mk ctk_y ctv_y ctds_y ctks_y) ces_y) ss_y hs_y) ≤ 1048576) := by show _ ≤ _; omega
      have HC0 := hid hc0
      have HC1 := hid hc1
      have HB0 := hid hbw0
      have R_x := hid hr_x
      have R_y := hid hr_y
      clear hbw0 hc0 hc1 hr_x hr_y
      go_enter Try.func13, Try.ntmps13
      go_wp2_with fail
      refine (HC0.out _ HB0.out).mono ?_
      rintro e w1 ⟨rfl, hb⟩
      have HB1 := hid (HB0.out.trans (hb.mono (by simp; omega)))
      have HX1 := hid (HX0.out.below hb)
      clear hb HC0
      have g0_0 := HX1.out.at 0 0 rfl rfl
      have g0_1 := HX1.out.at 0 1 rfl rfl
      have g0_2 := HX1.out.at 0 2 rfl rfl
      have g0_3 := HX1.out.at 0 3 rfl rfl
      have g0_4 := HX1.out.at 0 4 rfl rfl
      have g0_5 := HX1.out.at 0 5 rfl rfl
      have g0_6 := HX1.out.at 0 6 rfl rfl
      simp only [World.size_alloc] at g0_0 g0_1 g0_2 g0_3 g0_4 g0_5 g0_6
      go_wp2_with fail
      clear g0_0 g0_1 g0_2 g0_3 g0_4 g0_5 g0_6
      refine (HC1.out _ HB1.out).mono ?_
      rintro e w2 ⟨rfl, hb⟩
      have HB2 := hid (HB1.out.trans (hb.mono HB1.out.size))
      have HX2 := hid (HX1.out.below hb)
      clear hb HC1
      have R_x := hid (R_x.out.below HB2.out)
      have R_y := hid (R_y.out.below HB2.out)
      go_wp2_with fail
      have g1_0 := HX2.out.at 1 0 rfl rfl
      have g1_1 := HX2.out.at 1 1 rfl rfl
      have g1_2 := HX2.out.at 1 2 rfl rfl
      have g1_3 := HX2.out.at 1 3 rfl rfl
      have g1_4 := HX2.out.at 1 4 rfl rfl
      have g1_5 := HX2.out.at 1 5 rfl rfl
      have g1_6 := HX2.out.at 1 6 rfl rfl
      have g0_0 := HX2.out.at 0 0 rfl rfl
      have g0_1 := HX2.out.at 0 1 rfl rfl
      have g0_2 := HX2.out.at 0 2 rfl rfl
      have g0_3 := HX2.out.at 0 3 rfl rfl
      have g0_4 := HX2.out.at 0 4 rfl rfl
      have g0_5 := HX2.out.at 0 5 rfl rfl
      have g0_6 := HX2.out.at 0 6 rfl rfl
      simp only [World.size_alloc] at g0_0 g0_1 g0_2 g0_3 g0_4 g0_5 g0_6
      have hkeep : ∀ V V' : World, Below V.heap.size V V' → (Below w2.heap.size w2 V ∧ V.cell? ⟨w.heap.size, 0, none⟩ = some (.int .i64 ctk_x) ∧ V.cell? ⟨w.heap.size, 1, none⟩ = some (.int .i64 ctv_x) ∧ V.cell? ⟨w.heap.size, 2, none⟩ = some (.slice actds_x ctds_x.length cctds_x) ∧ V.cell? ⟨w.heap.size, 3, none⟩ = some (.slice actks_x ctks_x.length cctks_x) ∧ V.cell? ⟨w.heap.size, 4, none⟩ = some (.slice aces_x ces_x.length cces_x) ∧ V.cell? ⟨w.heap.size, 5, none⟩ = some (.slice ass_x ss_x.length css_x) ∧ V.cell? ⟨w.heap.size, 6, none⟩ = some (.slice ahs_x hs_x.length chs_x) ∧ V.cell? ⟨w.heap.size + 1, 0, none⟩ = some (.int .i64 ctk_y) ∧ V.cell? ⟨w.heap.size + 1, 1, none⟩ = some (.int .i64 ctv_y) ∧ V.cell? ⟨w.heap.size + 1, 2, none⟩ = some (.slice actds_y ctds_y.length cctds_y) ∧ V.cell? ⟨w.heap.size + 1, 3, none⟩ = some (.slice actks_y ctks_y.length cctks_y) ∧ V.cell? ⟨w.heap.size + 1, 4, none⟩ = some (.slice aces_y ces_y.length cces_y) ∧ V.cell? ⟨w.heap.size + 1, 5, none⟩ = some (.slice ass_y ss_y.length css_y) ∧ V.cell? ⟨w.heap.size + 1, 6, none⟩ = some (.slice ahs_y hs_y.length chs_y)) → (Below w2.heap.size w2 V' ∧ V'.cell? ⟨w.heap.size, 0, none⟩ = some (.int .i64 ctk_x) ∧ V'.cell? ⟨w.heap.size, 1, none⟩ = some (.int .i64 ctv_x) ∧ V'.cell? ⟨w.heap.size, 2, none⟩ = some (.slice actds_x ctds_x.length cctds_x) ∧ V'.cell? ⟨w.heap.size, 3, none⟩ = some (.slice actks_x ctks_x.length cctks_x) ∧ V'.cell? ⟨w.heap.size, 4, none⟩ = some (.slice aces_x ces_x.length cces_x) ∧ V'.cell? ⟨w.heap.size, 5, none⟩ = some (.slice ass_x ss_x.length css_x) ∧ V'.cell? ⟨w.heap.size, 6, none⟩ = some (.slice ahs_x hs_x.length chs_x) ∧ V'.cell? ⟨w.heap.size + 1, 0, none⟩ = some (.int .i64 ctk_y) ∧ V'.cell? ⟨w.heap.size + 1, 1, none⟩ = some (.int .i64 ctv_y) ∧ V'.cell? ⟨w.heap.size + 1, 2, none⟩ = some (.slice actds_y ctds_y.length cctds_y) ∧ V'.cell? ⟨w.heap.size + 1, 3, none⟩ = some (.slice actks_y ctks_y.length cctks_y) ∧ V'.cell? ⟨w.heap.size + 1, 4, none⟩ = some (.slice aces_y ces_y.length cces_y) ∧ V'.cell? ⟨w.heap.size + 1, 5, none⟩ = some (.slice ass_y ss_y.length css_y) ∧ V'.cell? ⟨w.heap.size + 1, 6, none⟩ = some (.slice ahs_y hs_y.length chs_y)) := fun V V' hb ⟨h, _⟩ =>
        have hb' := h.trans (hb.mono h.size)
        ⟨hb', (hb'.cell (p := ⟨_, 0, none⟩) (World.block_lt_of_cell? _ _ g1_0)).trans g1_0, (hb'.cell (p := ⟨_, 1, none⟩) (World.block_lt_of_cell? _ _ g1_1)).trans g1_1, (hb'.cell (p := ⟨_, 2, none⟩) (World.block_lt_of_cell? _ _ g1_2)).trans g1_2, (hb'.cell (p := ⟨_, 3, none⟩) (World.block_lt_of_cell? _ _ g1_3)).trans g1_3, (hb'.cell (p := ⟨_, 4, none⟩) (World.block_lt_of_cell? _ _ g1_4)).trans g1_4, (hb'.cell (p := ⟨_, 5, none⟩) (World.block_lt_of_cell? _ _ g1_5)).trans g1_5, (hb'.cell (p := ⟨_, 6, none⟩) (World.block_lt_of_cell? _ _ g1_6)).trans g1_6, (hb'.cell (p := ⟨_, 0, none⟩) (World.block_lt_of_cell? _ _ g0_0)).trans g0_0, (hb'.cell (p := ⟨_, 1, none⟩) (World.block_lt_of_cell? _ _ g0_1)).trans g0_1, (hb'.cell (p := ⟨_, 2, none⟩) (World.block_lt_of_cell? _ _ g0_2)).trans g0_2, (hb'.cell (p := ⟨_, 3, none⟩) (World.block_lt_of_cell? _ _ g0_3)).trans g0_3, (hb'.cell (p := ⟨_, 4, none⟩) (World.block_lt_of_cell? _ _ g0_4)).trans g0_4, (hb'.cell (p := ⟨_, 5, none⟩) (World.block_lt_of_cell? _ _ g0_5)).trans g0_5, (hb'.cell (p := ⟨_, 6, none⟩) (World.block_lt_of_cell? _ _ g0_6)).trans g0_6⟩
      have KEEP := hid hkeep
      clear hkeep
      have hbd : Below w2.heap.size w2 w2.drew := (Below.refl _ _).drew
      go_region_held3 (fun V => Below w2.heap.size w2 V ∧ V.cell? ⟨w.heap.size, 0, none⟩ = some (.int .i64 ctk_x) ∧ V.cell? ⟨w.heap.size, 1, none⟩ = some (.int .i64 ctv_x) ∧ V.cell? ⟨w.heap.size, 2, none⟩ = some (.slice actds_x ctds_x.length cctds_x) ∧ V.cell? ⟨w.heap.size, 3, none⟩ = some (.slice actks_x ctks_x.length cctks_x) ∧ V.cell? ⟨w.heap.size, 4, none⟩ = some (.slice aces_x ces_x.length cces_x) ∧ V.cell? ⟨w.heap.size, 5, none⟩ = some (.slice ass_x ss_x.length css_x) ∧ V.cell? ⟨w.heap.size, 6, none⟩ = some (.slice ahs_x hs_x.length chs_x) ∧ V.cell? ⟨w.heap.size + 1, 0, none⟩ = some (.int .i64 ctk_y) ∧ V.cell? ⟨w.heap.size + 1, 1, none⟩ = some (.int .i64 ctv_y) ∧ V.cell? ⟨w.heap.size + 1, 2, none⟩ = some (.slice actds_y ctds_y.length cctds_y) ∧ V.cell? ⟨w.heap.size + 1, 3, none⟩ = some (.slice actks_y ctks_y.length cctks_y) ∧ V.cell? ⟨w.heap.size + 1, 4, none⟩ = some (.slice aces_y ces_y.length cces_y) ∧ V.cell? ⟨w.heap.size + 1, 5, none⟩ = some (.slice ass_y ss_y.length css_y) ∧ V.cell? ⟨w.heap.size + 1, 6, none⟩ = some (.slice ahs_y hs_y.length chs_y))
        (first | exact KEEP.out _ _ hbq (by assumption) | go_keep)
        (first
          | (go_at_call 42; (with_reducible refine (toNe ctk_x ctv_x ctds_x ctks_x ces_x ss_x hs_x actds_x cctds_x actks_x cctks_x aces_x cces_x ass_x css_x ahs_x chs_x _ HM_x.out ?_).mono ?_); (exact R_x.out.below (‹Below w2.heap.size w2 _ ∧ _›).1); rintro e V0 ⟨actds_xs, cctds_xs, actks_xs, cctks_xs, aces_xs, cces_xs, ass_xs, css_xs, ahs_xs, chs_xs, rfl, ho_xs, hbq⟩; have hbq_0 := hbq)
          | (go_at_call 42; (with_reducible refine (toNe ctk_y ctv_y ctds_y ctks_y ces_y ss_y hs_y actds_y cctds_y actks_y cctks_y aces_y cces_y ass_y css_y ahs_y chs_y _ HM_y.out ?_).mono ?_); (exact R_y.out.below (‹Below w2.heap.size w2 _ ∧ _›).1); rintro e V1 ⟨actds_ys, cctds_ys, actks_ys, cctks_ys, aces_ys, cces_ys, ass_ys, css_ys, ahs_ys, chs_ys, rfl, ho_ys, hbq⟩; have hbq_1 := hbq)
          | (go_at_call 41; (with_reducible refine (spec_SameNeed _ _ _ _ _ _ _ _ _ _ _ _ _ _ _ _ _ _ _ _ _ _ _ _ _ _ _ _ _ _ _ _ _ _ _ ?_ ?_).mono ?_); (exact ho_xs.rd.below hbq_1); (exact ho_ys.rd); rintro e Vz ⟨rfl, hbq⟩))
      obtain ⟨hbr, -⟩ := ‹Below w2.heap.size w2 Vz ∧ _›
      clear KEEP hbd g1_0 g1_1 g1_2 g1_3 g1_4 g1_5 g1_6 g0_0 g0_1 g0_2 g0_3 g0_4 g0_5 g0_6
      have HB3 := hid (HB2.out.trans (hbr.mono HB2.out.size))
      have HX3 := hid (HX2.out.below hbr)
      have R_x := hid (R_x.out.below hbr)
      have R_y := hid (R_y.out.below hbr)
      clear hbr
      clear ho_xs ho_ys
      go_wp2_with fail
      have g1_0 := HX3.out.at 1 0 rfl rfl
      have g1_1 := HX3.out.at 1 1 rfl rfl
      have g1_2 := HX3.out.at 1 2 rfl rfl
      have g1_3 := HX3.out.at 1 3 rfl rfl
      have g1_4 := HX3.out.at 1 4 rfl rfl
      have g1_5 := HX3.out.at 1 5 rfl rfl
      have g1_6 := HX3.out.at 1 6 rfl rfl
      go_wp2_with fail
      clear g1_0 g1_1 g1_2 g1_3 g1_4 g1_5 g1_6
      refine (toNe ctk_x ctv_x ctds_x ctks_x ces_x ss_x hs_x actds_x cctds_x actks_x cctks_x aces_x cces_x ass_x css_x ahs_x chs_x _ HM_x.out ?_).mono ?_
      · exact R_x.out
      rintro e x0 ⟨actds_xx, cctds_xx, actks_xx, cctks_xx, aces_xx, cces_xx, ass_xx, css_xx, ahs_xx, chs_xx, rfl, ho_xx, hb⟩
      have HB4 := hid (HB3.out.trans (hb.mono HB3.out.size))
      have HX4 := hid (HX3.out.below hb)
      have R_x := hid (R_x.out.below hb)
      have R_y := hid (R_y.out.below hb)
      have C_xx := hid ho_xx.rd
      clear hb ho_xx
      have hba : Below x0.heap.size x0 (x0.alloc (.cells #[.int .i64 ctk_x, .int .i64 ctv_x, .slice actds_xx ctds_x.length cctds_xx, .slice actks_xx ctks_x.length cctks_xx, .slice aces_xx ces_x.length cces_xx, .slice ass_xx ss_x.length css_xx, .slice ahs_xx hs_x.length chs_xx] 63)) := (Below.refl _ _).alloc (Nat.le_refl _) _
      have HXa := hid (HX4.out.alloc #[.int .i64 ctk_x, .int .i64 ctv_x, .slice actds_xx ctds_x.length cctds_xx, .slice actks_xx ctks_x.length cctks_xx, .slice aces_xx ces_x.length cces_xx, .slice ass_xx ss_x.length css_xx, .slice ahs_xx hs_x.length chs_xx] 63 (0, 0))
      have HB5 := hid (HB4.out.trans (hba.mono HB4.out.size))
      have HX5 := hid (HX4.out.below hba)
      have R_x := hid (R_x.out.below hba)
      have R_y := hid (R_y.out.below hba)
      have C_xx := hid (C_xx.out.below hba)
      clear hba
      have HX5 := HXa
      have g1_0 := HX5.out.at 1 0 rfl rfl
      have g1_1 := HX5.out.at 1 1 rfl rfl
      have g1_2 := HX5.out.at 1 2 rfl rfl
      have g1_3 := HX5.out.at 1 3 rfl rfl
      have g1_4 := HX5.out.at 1 4 rfl rfl
      have g1_5 := HX5.out.at 1 5 rfl rfl
      have g1_6 := HX5.out.at 1 6 rfl rfl
      simp only [World.size_alloc] at g1_0 g1_1 g1_2 g1_3 g1_4 g1_5 g1_6
      go_wp2_with fail
      clear g1_0 g1_1 g1_2 g1_3 g1_4 g1_5 g1_6
      refine (toNe ctk_y ctv_y ctds_y ctks_y ces_y ss_y hs_y actds_y cctds_y actks_y cctks_y aces_y cces_y ass_y css_y ahs_y chs_y _ HM_y.out ?_).mono ?_
      · exact R_y.out
      rintro e x1 ⟨actds_yx, cctds_yx, actks_yx, cctks_yx, aces_yx, cces_yx, ass_yx, css_yx, ahs_yx, chs_yx, rfl, ho_yx, hb⟩
      have HB6 := hid (HB5.out.trans (hb.mono HB5.out.size))
      have HX6 := hid (HX5.out.below hb)
      have R_x := hid (R_x.out.below hb)
      have R_y := hid (R_y.out.below hb)
      have C_xx := hid (C_xx.out.below hb)
      have C_yx := hid ho_yx.rd
      clear hb ho_yx
      have hba : Below x1.heap.size x1 (x1.alloc (.cells #[.int .i64 ctk_y, .int .i64 ctv_y, .slice actds_yx ctds_y.length cctds_yx, .slice actks_yx ctks_y.length cctks_yx, .slice aces_yx ces_y.length cces_yx, .slice ass_yx ss_y.length css_yx, .slice ahs_yx hs_y.length chs_yx] 63)) := (Below.refl _ _).alloc (Nat.le_refl _) _
      have HXa := hid (HX6.out.alloc #[.int .i64 ctk_y, .int .i64 ctv_y, .slice actds_yx ctds_y.length cctds_yx, .slice actks_yx ctks_y.length cctks_yx, .slice aces_yx ces_y.length cces_yx, .slice ass_yx ss_y.length css_yx, .slice ahs_yx hs_y.length chs_yx] 63 (0, 0))
      have HB7 := hid (HB6.out.trans (hba.mono HB6.out.size))
      have HX7 := hid (HX6.out.below hba)
      have R_x := hid (R_x.out.below hba)
      have R_y := hid (R_y.out.below hba)
      have C_xx := hid (C_xx.out.below hba)
      have C_yx := hid (C_yx.out.below hba)
      clear hba
      have HX7 := HXa
      have g1_0 := HX7.out.at 1 0 rfl rfl
      have g1_1 := HX7.out.at 1 1 rfl rfl
      have g1_2 := HX7.out.at 1 2 rfl rfl
      have g1_3 := HX7.out.at 1 3 rfl rfl
      have g1_4 := HX7.out.at 1 4 rfl rfl
      have g1_5 := HX7.out.at 1 5 rfl rfl
      have g1_6 := HX7.out.at 1 6 rfl rfl
      have g0_0 := HX7.out.at 0 0 rfl rfl
      have g0_1 := HX7.out.at 0 1 rfl rfl
      have g0_2 := HX7.out.at 0 2 rfl rfl
      have g0_3 := HX7.out.at 0 3 rfl rfl
      have g0_4 := HX7.out.at 0 4 rfl rfl
      have g0_5 := HX7.out.at 0 5 rfl rfl
      have g0_6 := HX7.out.at 0 6 rfl rfl
      go_wp2_with fail
      clear g1_0 g1_1 g1_2 g1_3 g1_4 g1_5 g1_6 g0_0 g0_1 g0_2 g0_3 g0_4 g0_5 g0_6
      refine (impl_SameNeed _ _ _ _ _ _ _ _ _ _ _ _ _ _ _ _ _ _ _ _ _ _ _ _ _ _ _ _ _ _ _ _ _ _ _ ?_ ?_).mono ?_
      · exact C_xx.out
      · exact C_yx.out
      rintro e vi ⟨rfl, hb⟩
      have HB8 := hid (HB7.out.trans (hb.mono HB7.out.size))
      have HX8 := hid (HX7.out.below hb)
      have R_x := hid (R_x.out.below hb)
      have R_y := hid (R_y.out.below hb)
      have C_xx := hid (C_xx.out.below hb)
      have C_yx := hid (C_yx.out.below hb)
      clear hb
      go_wp2_with fail
      have g1_0 := HX8.out.at 1 0 rfl rfl
      have g1_1 := HX8.out.at 1 1 rfl rfl
      have g1_2 := HX8.out.at 1 2 rfl rfl
      have g1_3 := HX8.out.at 1 3 rfl rfl
      have g1_4 := HX8.out.at 1 4 rfl rfl
      have g1_5 := HX8.out.at 1 5 rfl rfl
      have g1_6 := HX8.out.at 1 6 rfl rfl
      have g3_0 := HX8.out.at 3 0 rfl rfl
      have g3_1 := HX8.out.at 3 1 rfl rfl
      have g3_2 := HX8.out.at 3 2 rfl rfl
      have g3_3 := HX8.out.at 3 3 rfl rfl
      have g3_4 := HX8.out.at 3 4 rfl rfl
      have g3_5 := HX8.out.at 3 5 rfl rfl
      have g3_6 := HX8.out.at 3 6 rfl rfl
      have hkeep : ∀ V V' : World, Below V.heap.size V V' → (Below vi.heap.size vi V ∧ V.cell? ⟨x0.heap.size, 0, none⟩ = some (.int .i64 ctk_x) ∧ V.cell? ⟨x0.heap.size, 1, none⟩ = some (.int .i64 ctv_x) ∧ V.cell? ⟨x0.heap.size, 2, none⟩ = some (.slice actds_xx ctds_x.length cctds_xx) ∧ V.cell? ⟨x0.heap.size, 3, none⟩ = some (.slice actks_xx ctks_x.length cctks_xx) ∧ V.cell? ⟨x0.heap.size, 4, none⟩ = some (.slice aces_xx ces_x.length cces_xx) ∧ V.cell? ⟨x0.heap.size, 5, none⟩ = some (.slice ass_xx ss_x.length css_xx) ∧ V.cell? ⟨x0.heap.size, 6, none⟩ = some (.slice ahs_xx hs_x.length chs_xx) ∧ V.cell? ⟨w.heap.size, 0, none⟩ = some (.int .i64 ctk_x) ∧ V.cell? ⟨w.heap.size, 1, none⟩ = some (.int .i64 ctv_x) ∧ V.cell? ⟨w.heap.size, 2, none⟩ = some (.slice actds_x ctds_x.length cctds_x) ∧ V.cell? ⟨w.heap.size, 3, none⟩ = some (.slice actks_x ctks_x.length cctks_x) ∧ V.cell? ⟨w.heap.size, 4, none⟩ = some (.slice aces_x ces_x.length cces_x) ∧ V.cell? ⟨w.heap.size, 5, none⟩ = some (.slice ass_x ss_x.length css_x) ∧ V.cell? ⟨w.heap.size, 6, none⟩ = some (.slice ahs_x hs_x.length chs_x)) → (Below vi.heap.size vi V' ∧ V'.cell? ⟨x0.heap.size, 0, none⟩ = some (.int .i64 ctk_x) ∧ V'.cell? ⟨x0.heap.size, 1, none⟩ = some (.int .i64 ctv_x) ∧ V'.cell? ⟨x0.heap.size, 2, none⟩ = some (.slice actds_xx ctds_x.length cctds_xx) ∧ V'.cell? ⟨x0.heap.size, 3, none⟩ = some (.slice actks_xx ctks_x.length cctks_xx) ∧ V'.cell? ⟨x0.heap.size, 4, none⟩ = some (.slice aces_xx ces_x.length cces_xx) ∧ V'.cell? ⟨x0.heap.size, 5, none⟩ = some (.slice ass_xx ss_x.length css_xx) ∧ V'.cell? ⟨x0.heap.size, 6, none⟩ = some (.slice ahs_xx hs_x.length chs_xx) ∧ V'.cell? ⟨w.heap.size, 0, none⟩ = some (.int .i64 ctk_x) ∧ V'.cell? ⟨w.heap.size, 1, none⟩ = some (.int .i64 ctv_x) ∧ V'.cell? ⟨w.heap.size, 2, none⟩ = some (.slice actds_x ctds_x.length cctds_x) ∧ V'.cell? ⟨w.heap.size, 3, none⟩ = some (.slice actks_x ctks_x.length cctks_x) ∧ V'.cell? ⟨w.heap.size, 4, none⟩ = some (.slice aces_x ces_x.length cces_x) ∧ V'.cell? ⟨w.heap.size, 5, none⟩ = some (.slice ass_x ss_x.length css_x) ∧ V'.cell? ⟨w.heap.size, 6, none⟩ = some (.slice ahs_x hs_x.length chs_x)) := fun V V' hb ⟨h, _⟩ =>
        have hb' := h.trans (hb.mono h.size)
        ⟨hb', (hb'.cell (p := ⟨_, 0, none⟩) (World.block_lt_of_cell? _ _ g1_0)).trans g1_0, (hb'.cell (p := ⟨_, 1, none⟩) (World.block_lt_of_cell? _ _ g1_1)).trans g1_1, (hb'.cell (p := ⟨_, 2, none⟩) (World.block_lt_of_cell? _ _ g1_2)).trans g1_2, (hb'.cell (p := ⟨_, 3, none⟩) (World.block_lt_of_cell? _ _ g1_3)).trans g1_3, (hb'.cell (p := ⟨_, 4, none⟩) (World.block_lt_of_cell? _ _ g1_4)).trans g1_4, (hb'.cell (p := ⟨_, 5, none⟩) (World.block_lt_of_cell? _ _ g1_5)).trans g1_5, (hb'.cell (p := ⟨_, 6, none⟩) (World.block_lt_of_cell? _ _ g1_6)).trans g1_6, (hb'.cell (p := ⟨_, 0, none⟩) (World.block_lt_of_cell? _ _ g3_0)).trans g3_0, (hb'.cell (p := ⟨_, 1, none⟩) (World.block_lt_of_cell? _ _ g3_1)).trans g3_1, (hb'.cell (p := ⟨_, 2, none⟩) (World.block_lt_of_cell? _ _ g3_2)).trans g3_2, (hb'.cell (p := ⟨_, 3, none⟩) (World.block_lt_of_cell? _ _ g3_3)).trans g3_3, (hb'.cell (p := ⟨_, 4, none⟩) (World.block_lt_of_cell? _ _ g3_4)).trans g3_4, (hb'.cell (p := ⟨_, 5, none⟩) (World.block_lt_of_cell? _ _ g3_5)).trans g3_5, (hb'.cell (p := ⟨_, 6, none⟩) (World.block_lt_of_cell? _ _ g3_6)).trans g3_6⟩
      have KEEP := hid hkeep
      clear hkeep
      have hbd : Below vi.heap.size vi vi.drew := (Below.refl _ _).drew
      go_region_held3 (fun V => Below vi.heap.size vi V ∧ V.cell? ⟨x0.heap.size, 0, none⟩ = some (.int .i64 ctk_x) ∧ V.cell? ⟨x0.heap.size, 1, none⟩ = some (.int .i64 ctv_x) ∧ V.cell? ⟨x0.heap.size, 2, none⟩ = some (.slice actds_xx ctds_x.length cctds_xx) ∧ V.cell? ⟨x0.heap.size, 3, none⟩ = some (.slice actks_xx ctks_x.length cctks_xx) ∧ V.cell? ⟨x0.heap.size, 4, none⟩ = some (.slice aces_xx ces_x.length cces_xx) ∧ V.cell? ⟨x0.heap.size, 5, none⟩ = some (.slice ass_xx ss_x.length css_xx) ∧ V.cell? ⟨x0.heap.size, 6, none⟩ = some (.slice ahs_xx hs_x.length chs_xx) ∧ V.cell? ⟨w.heap.size, 0, none⟩ = some (.int .i64 ctk_x) ∧ V.cell? ⟨w.heap.size, 1, none⟩ = some (.int .i64 ctv_x) ∧ V.cell? ⟨w.heap.size, 2, none⟩ = some (.slice actds_x ctds_x.length cctds_x) ∧ V.cell? ⟨w.heap.size, 3, none⟩ = some (.slice actks_x ctks_x.length cctks_x) ∧ V.cell? ⟨w.heap.size, 4, none⟩ = some (.slice aces_x ces_x.length cces_x) ∧ V.cell? ⟨w.heap.size, 5, none⟩ = some (.slice ass_x ss_x.length css_x) ∧ V.cell? ⟨w.heap.size, 6, none⟩ = some (.slice ahs_x hs_x.length chs_x))
        (first | exact KEEP.out _ _ hbq (by assumption) | go_keep)
        (first
          | (go_at_call 42; (with_reducible refine (toNe ctk_x ctv_x ctds_x ctks_x ces_x ss_x hs_x actds_x cctds_x actks_x cctks_x aces_x cces_x ass_x css_x ahs_x chs_x _ HM_x.out ?_).mono ?_); (exact R_x.out.below (‹Below vi.heap.size vi _ ∧ _›).1); rintro e y0a ⟨actds_xe, cctds_xe, actks_xe, cctks_xe, aces_xe, cces_xe, ass_xe, css_xe, ahs_xe, chs_xe, rfl, ho_xe, hbq⟩)
          | (go_at_call 44; (with_reducible refine (eqNe _ _ _ _ _ _ _ _ _ _ _ _ _ _ _ _ _ _ _ _ _ _ _ _ _ _ _ _ ?_ ?_).mono ?_); (exact C_xx.out.below ((‹Below vi.heap.size vi y0a ∧ _›).1)); (exact ho_xe.rd); rintro e y0b ⟨rfl, hbq⟩))
      obtain ⟨hbr, -⟩ := ‹Below vi.heap.size vi y0b ∧ _›
      clear KEEP hbd g1_0 g1_1 g1_2 g1_3 g1_4 g1_5 g1_6 g3_0 g3_1 g3_2 g3_3 g3_4 g3_5 g3_6
      have HB9 := hid (HB8.out.trans (hbr.mono HB8.out.size))
      have HX9 := hid (HX8.out.below hbr)
      have R_x := hid (R_x.out.below hbr)
      have R_y := hid (R_y.out.below hbr)
      have C_xx := hid (C_xx.out.below hbr)
      have C_yx := hid (C_yx.out.below hbr)
      clear hbr
      clear ho_xe
      go_wp2_with fail
      have g0_0 := HX9.out.at 0 0 rfl rfl
      have g0_1 := HX9.out.at 0 1 rfl rfl
      have g0_2 := HX9.out.at 0 2 rfl rfl
      have g0_3 := HX9.out.at 0 3 rfl rfl
      have g0_4 := HX9.out.at 0 4 rfl rfl
      have g0_5 := HX9.out.at 0 5 rfl rfl
      have g0_6 := HX9.out.at 0 6 rfl rfl
      have g2_0 := HX9.out.at 2 0 rfl rfl
      have g2_1 := HX9.out.at 2 1 rfl rfl
      have g2_2 := HX9.out.at 2 2 rfl rfl
      have g2_3 := HX9.out.at 2 3 rfl rfl
      have g2_4 := HX9.out.at 2 4 rfl rfl
      have g2_5 := HX9.out.at 2 5 rfl rfl
      have g2_6 := HX9.out.at 2 6 rfl rfl
      simp only [World.size_alloc] at g2_0 g2_1 g2_2 g2_3 g2_4 g2_5 g2_6
      have hkeep : ∀ V V' : World, Below V.heap.size V V' → (Below y0b.heap.size y0b V ∧ V.cell? ⟨x1.heap.size, 0, none⟩ = some (.int .i64 ctk_y) ∧ V.cell? ⟨x1.heap.size, 1, none⟩ = some (.int .i64 ctv_y) ∧ V.cell? ⟨x1.heap.size, 2, none⟩ = some (.slice actds_yx ctds_y.length cctds_yx) ∧ V.cell? ⟨x1.heap.size, 3, none⟩ = some (.slice actks_yx ctks_y.length cctks_yx) ∧ V.cell? ⟨x1.heap.size, 4, none⟩ = some (.slice aces_yx ces_y.length cces_yx) ∧ V.cell? ⟨x1.heap.size, 5, none⟩ = some (.slice ass_yx ss_y.length css_yx) ∧ V.cell? ⟨x1.heap.size, 6, none⟩ = some (.slice ahs_yx hs_y.length chs_yx) ∧ V.cell? ⟨w.heap.size + 1, 0, none⟩ = some (.int .i64 ctk_y) ∧ V.cell? ⟨w.heap.size + 1, 1, none⟩ = some (.int .i64 ctv_y) ∧ V.cell? ⟨w.heap.size + 1, 2, none⟩ = some (.slice actds_y ctds_y.length cctds_y) ∧ V.cell? ⟨w.heap.size + 1, 3, none⟩ = some (.slice actks_y ctks_y.length cctks_y) ∧ V.cell? ⟨w.heap.size + 1, 4, none⟩ = some (.slice aces_y ces_y.length cces_y) ∧ V.cell? ⟨w.heap.size + 1, 5, none⟩ = some (.slice ass_y ss_y.length css_y) ∧ V.cell? ⟨w.heap.size + 1, 6, none⟩ = some (.slice ahs_y hs_y.length chs_y)) → (Below y0b.heap.size y0b V' ∧ V'.cell? ⟨x1.heap.size, 0, none⟩ = some (.int .i64 ctk_y) ∧ V'.cell? ⟨x1.heap.size, 1, none⟩ = some (.int .i64 ctv_y) ∧ V'.cell? ⟨x1.heap.size, 2, none⟩ = some (.slice actds_yx ctds_y.length cctds_yx) ∧ V'.cell? ⟨x1.heap.size, 3, none⟩ = some (.slice actks_yx ctks_y.length cctks_yx) ∧ V'.cell? ⟨x1.heap.size, 4, none⟩ = some (.slice aces_yx ces_y.length cces_yx) ∧ V'.cell? ⟨x1.heap.size, 5, none⟩ = some (.slice ass_yx ss_y.length css_yx) ∧ V'.cell? ⟨x1.heap.size, 6, none⟩ = some (.slice ahs_yx hs_y.length chs_yx) ∧ V'.cell? ⟨w.heap.size + 1, 0, none⟩ = some (.int .i64 ctk_y) ∧ V'.cell? ⟨w.heap.size + 1, 1, none⟩ = some (.int .i64 ctv_y) ∧ V'.cell? ⟨w.heap.size + 1, 2, none⟩ = some (.slice actds_y ctds_y.length cctds_y) ∧ V'.cell? ⟨w.heap.size + 1, 3, none⟩ = some (.slice actks_y ctks_y.length cctks_y) ∧ V'.cell? ⟨w.heap.size + 1, 4, none⟩ = some (.slice aces_y ces_y.length cces_y) ∧ V'.cell? ⟨w.heap.size + 1, 5, none⟩ = some (.slice ass_y ss_y.length css_y) ∧ V'.cell? ⟨w.heap.size + 1, 6, none⟩ = some (.slice ahs_y hs_y.length chs_y)) := fun V V' hb ⟨h, _⟩ =>
        have hb' := h.trans (hb.mono h.size)
        ⟨hb', (hb'.cell (p := ⟨_, 0, none⟩) (World.block_lt_of_cell? _ _ g0_0)).trans g0_0, (hb'.cell (p := ⟨_, 1, none⟩) (World.block_lt_of_cell? _ _ g0_1)).trans g0_1, (hb'.cell (p := ⟨_, 2, none⟩) (World.block_lt_of_cell? _ _ g0_2)).trans g0_2, (hb'.cell (p := ⟨_, 3, none⟩) (World.block_lt_of_cell? _ _ g0_3)).trans g0_3, (hb'.cell (p := ⟨_, 4, none⟩) (World.block_lt_of_cell? _ _ g0_4)).trans g0_4, (hb'.cell (p := ⟨_, 5, none⟩) (World.block_lt_of_cell? _ _ g0_5)).trans g0_5, (hb'.cell (p := ⟨_, 6, none⟩) (World.block_lt_of_cell? _ _ g0_6)).trans g0_6, (hb'.cell (p := ⟨_, 0, none⟩) (World.block_lt_of_cell? _ _ g2_0)).trans g2_0, (hb'.cell (p := ⟨_, 1, none⟩) (World.block_lt_of_cell? _ _ g2_1)).trans g2_1, (hb'.cell (p := ⟨_, 2, none⟩) (World.block_lt_of_cell? _ _ g2_2)).trans g2_2, (hb'.cell (p := ⟨_, 3, none⟩) (World.block_lt_of_cell? _ _ g2_3)).trans g2_3, (hb'.cell (p := ⟨_, 4, none⟩) (World.block_lt_of_cell? _ _ g2_4)).trans g2_4, (hb'.cell (p := ⟨_, 5, none⟩) (World.block_lt_of_cell? _ _ g2_5)).trans g2_5, (hb'.cell (p := ⟨_, 6, none⟩) (World.block_lt_of_cell? _ _ g2_6)).trans g2_6⟩
      have KEEP := hid hkeep
      clear hkeep
      have hbd : Below y0b.heap.size y0b y0b.drew := (Below.refl _ _).drew
      go_region_held3 (fun V => Below y0b.heap.size y0b V ∧ V.cell? ⟨x1.heap.size, 0, none⟩ = some (.int .i64 ctk_y) ∧ V.cell? ⟨x1.heap.size, 1, none⟩ = some (.int .i64 ctv_y) ∧ V.cell? ⟨x1.heap.size, 2, none⟩ = some (.slice actds_yx ctds_y.length cctds_yx) ∧ V.cell? ⟨x1.heap.size, 3, none⟩ = some (.slice actks_yx ctks_y.length cctks_yx) ∧ V.cell? ⟨x1.heap.size, 4, none⟩ = some (.slice aces_yx ces_y.length cces_yx) ∧ V.cell? ⟨x1.heap.size, 5, none⟩ = some (.slice ass_yx ss_y.length css_yx) ∧ V.cell? ⟨x1.heap.size, 6, none⟩ = some (.slice ahs_yx hs_y.length chs_yx) ∧ V.cell? ⟨w.heap.size + 1, 0, none⟩ = some (.int .i64 ctk_y) ∧ V.cell? ⟨w.heap.size + 1, 1, none⟩ = some (.int .i64 ctv_y) ∧ V.cell? ⟨w.heap.size + 1, 2, none⟩ = some (.slice actds_y ctds_y.length cctds_y) ∧ V.cell? ⟨w.heap.size + 1, 3, none⟩ = some (.slice actks_y ctks_y.length cctks_y) ∧ V.cell? ⟨w.heap.size + 1, 4, none⟩ = some (.slice aces_y ces_y.length cces_y) ∧ V.cell? ⟨w.heap.size + 1, 5, none⟩ = some (.slice ass_y ss_y.length css_y) ∧ V.cell? ⟨w.heap.size + 1, 6, none⟩ = some (.slice ahs_y hs_y.length chs_y))
        (first | exact KEEP.out _ _ hbq (by assumption) | go_keep)
        (first
          | (go_at_call 42; (with_reducible refine (toNe ctk_y ctv_y ctds_y ctks_y ces_y ss_y hs_y actds_y cctds_y actks_y cctks_y aces_y cces_y ass_y css_y ahs_y chs_y _ HM_y.out ?_).mono ?_); (exact R_y.out.below (‹Below y0b.heap.size y0b _ ∧ _›).1); rintro e y1a ⟨actds_ye, cctds_ye, actks_ye, cctks_ye, aces_ye, cces_ye, ass_ye, css_ye, ahs_ye, chs_ye, rfl, ho_ye, hbq⟩)
          | (go_at_call 44; (with_reducible refine (eqNe _ _ _ _ _ _ _ _ _ _ _ _ _ _ _ _ _ _ _ _ _ _ _ _ _ _ _ _ ?_ ?_).mono ?_); (exact C_yx.out.below ((‹Below y0b.heap.size y0b y1a ∧ _›).1)); (exact ho_ye.rd); rintro e y1b ⟨rfl, hbq⟩))
      obtain ⟨hbr, -⟩ := ‹Below y0b.heap.size y0b y1b ∧ _›
      clear KEEP hbd g0_0 g0_1 g0_2 g0_3 g0_4 g0_5 g0_6 g2_0 g2_1 g2_2 g2_3 g2_4 g2_5 g2_6
      have HB10 := hid (HB9.out.trans (hbr.mono HB9.out.size))
      have HX10 := hid (HX9.out.below hbr)
      have R_x := hid (R_x.out.below hbr)
      have R_y := hid (R_y.out.below hbr)
      have C_xx := hid (C_xx.out.below hbr)
      have C_yx := hid (C_yx.out.below hbr)
      clear hbr
      clear ho_ye
      go_wp2_with fail
      go_ret
      exact ⟨rfl, HB10.out⟩

set_option maxRecDepth 100000 in
theorem FnExactSameNeed_lifted (os : Os) (started : os.Started) (H : Type) (enc : TypeId × Value → H) :
    ReturnsInHanded {} Try.checked os 13 .any (Rows.fnExactSameNeedSpec.pre6 enc Try.prog Try.f13 Rows.fnExactSameNeedRow.domain false) (Rows.fnExactSameNeedSpec.post enc Try.prog Try.f13 false true false false) := by
  refine law_lifted (C := Try.checked) (tb := 4) own started (by kernel_rfl) Try.func13 laidOut (by intro t ht; rw [Try.params13] at ht; simp at ht; subst ht; exact ⟨by kernel_rfl, of_decide_eq_true (by kernel_rfl)⟩) rfl Try.underlying4 rfl ?_
    (ChangeSpec.witness6 (enc := enc) (C := Try.checked) false ⟨#[], #[.agg #[.int .i64 0, .int .i64 0, .slice none 0 0, .slice none 0 0, .slice none 0 0, .slice none 0 0, .slice none 0 0], .agg #[.int .i64 0, .int .i64 0, .slice none 0 0, .slice none 0 0, .slice none 0 0, .slice none 0 0, .slice none 0 0]], []⟩ 8 (by kernel_rfl) (by kernel_rfl) (by kernel_rfl) (by kernel_rfl)) ?_
  · intro ds hds
    rw [Try.params13] at hds
    match ds, hds with
    | [_, _], _ => exact ⟨rfl, rfl, rfl⟩
  intro W base args ds p hval0 hA0 hlt
  have hval : ∀ (j : Nat) t v, Try.f13.params[j]? = some t → args[j]? = some v → Value.okWide Try.prog W .any base t v := hval0
  have hA : DataW.TrodAll enc Try.prog W 0 (fun _ => true) true Try.f13.params.toList args.toList ds p := hA0
  rw [Try.params13] at hA hval
  clear hval0 hA0
  obtain ⟨v0, vs0, d0, ds0, p0, q0, hargs0, rfl, rfl, h0, r0⟩ := trodAll_cons hA
  obtain ⟨v1, vs1, d1, ds1, p1, q1, hargs1, rfl, rfl, h1, r1⟩ := trodAll_cons r0
  obtain ⟨rfl, rfl, rfl⟩ := trodAll_nil r1
  subst hargs1
  obtain rfl : args = #[v0, v1] := by cases args; simp_all
  obtain ⟨ctk_x, ctv_x, ctds_x, ctks_x, ces_x, ss_x, hs_x, actds_x, cctds_x, actks_x, cctks_x, aces_x, cces_x, ass_x, css_x, ahs_x, chs_x, rfl, hr_x⟩ := arg_Ne (hval 0 55 v0 rfl rfl) h0
  obtain ⟨ctk_y, ctv_y, ctds_y, ctks_y, ces_y, ss_y, hs_y, actds_y, cctds_y, actks_y, cctks_y, aces_y, cces_y, ass_y, css_y, ahs_y, chs_y, rfl, hr_y⟩ := arg_Ne (hval 1 55 v1 rfl rfl) h1
  exact FnExactSameNeed_walk ctk_x ctv_x ctds_x ctks_x ces_x ss_x hs_x actds_x cctds_x actks_x cctks_x aces_x cces_x ass_x css_x ahs_x chs_x ctk_y ctv_y ctds_y ctks_y ces_y ss_y hs_y actds_y cctds_y actks_y cctks_y aces_y cces_y ass_y css_y ahs_y chs_y W hr_x hr_y

theorem FnExactSameNeed_holds : Rows.FnExactSameNeedSaid :=
  OpenClaim.holds_of_wide 13 Try.f13 rfl rfl rfl rfl rfl rfl rfl ⟨rfl, rfl, rfl, rfl, rfl⟩ rfl rfl rfl rfl rfl (by kernel_rfl) Try.func13 (by kernel_rfl)
    (of_decide_eq_true (by kernel_rfl)) (by unfold Func.isWrapper; first | (rw [if_pos (by decide +kernel)]; kernel_rfl) | (rw [if_neg (by decide +kernel)]; exact ⟨rfl, rfl⟩))
    (fun os started H enc _ => FnExactSameNeed_lifted os started H enc)
end Go.Proofs.Ytgbiefjokohkkaa
