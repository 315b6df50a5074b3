/- FnExactPrintProgram: for every input, where the listed variables hold what the program's text lays; the card ties that. -/
import Derived.Test.YtikhofcjkcbpbaaGreatDoorCard
import Derived.Test.YtikhofcjkcbpbaaGreatDoorCards
import Derived.Test.YtikhofcjkcbpbaaGreatDoorTie
import Derived.Test.YtikhofcjkcbpbaaGreatDoorLaid
import Derived.Test.YtikhofcjkcbpbaaGreatDoorPgC
import Derived.Test.YtikhofcjkcbpbaaGreatDoorPgA
import Derived.Test.YtikhofcjkcbpbaaGreatDoorPgD
import Derived.Deep.RegionHeld3
import Derived.SevenTiedAt
import Derived.LaidMore
import Derived.ProofKit
import Derived.OpenShut
namespace Go.Proofs.YtikhofcjkcbpbaaGreatDoor
open Go.ChangeShapes Go.WideShapes Go.ChangeAt Go.RowKit
open Go.Sort (grow)
open Go.ChangeMaps (open_string)
set_option linter.unusedVariables false

set_option maxHeartbeats 1000000 in
theorem FnExactPrintProgram_walk (ds_x : List Dat) (fs_x : List Df) (ads_x : Option Addr) (cds_x : Nat) (afs_x : Option Addr) (cfs_x : Nat) (w : World) (hr_x : RdS w (Pg.d (Pg.mk ds_x fs_x)) [.slice ads_x ds_x.length cds_x, .slice afs_x fs_x.length cfs_x]) (hpw : Pow w) :
    Calls Tryz.prog 4 #[.agg #[.slice ads_x ds_x.length cds_x, .slice afs_x fs_x.length cfs_x]] w fun e w' => e = .returned (.bool true) ∧ Below w.heap.size w w' := by
  have HPW := hid hpw
  clear hpw
  have hbw0 : Below w.heap.size w (w.alloc (.cells #[.slice ads_x ds_x.length cds_x, .slice afs_x fs_x.length cfs_x] 43)) := ((Below.refl _ _).alloc (by simp) _)
  have HX0 := hid ((Boxes.nil w).alloc #[.slice ads_x ds_x.length cds_x, .slice afs_x fs_x.length cfs_x] 43 (0, 0))
  have hc0 := fun (W : World) (hb : Below w.heap.size w W) => szPg ds_x fs_x ads_x cds_x afs_x cfs_x (1048576) W (hr_x.below hb) (by omega) (by omega)
  by_cases hp0 : ((Pg.bulk (Pg.mk ds_x fs_x) : Nat) : Int) ≤ 1048576
  case neg =>
    rw [purse_no hp0] at hc0
    have HC0 := hid hc0
    have HB0 := hid hbw0
    clear hbw0 hc0 hr_x
    go_enter Tryz.func4, Tryz.ntmps4
    go_wp2_with fail
    refine (HC0.out _ HB0.out).mono ?_
    rintro e w1 ⟨rfl, hb⟩
    have HB1 := hid (HB0.out.trans (hb.mono (by simp)))
    have HX1 := hid (HX0.out.below hb)
    clear hb HC0
    go_wp2_with fail
    go_ret
    exact ⟨rfl, HB1.out⟩
  case pos =>
    rw [purse_ok hp0] at hc0
    have HM_x : Hid (Pg.bulk (Pg.mk ds_x fs_x) ≤ 1048576) := by show _ ≤ _; omega
    have HC0 := hid hc0
    have HB0 := hid hbw0
    have R_x := hid hr_x
    clear hbw0 hc0 hr_x
    go_enter Tryz.func4, Tryz.ntmps4
    go_wp2_with fail
    refine (HC0.out _ HB0.out).mono ?_
    rintro e w1 ⟨rfl, hb⟩
    have HB1 := hid (HB0.out.trans (hb.mono (by simp)))
    have HX1 := hid (HX0.out.below hb)
    clear hb HC0
    have R_x := hid (R_x.out.below HB1.out)
    have g0_0 := HX1.out.at 0 0 rfl rfl
    have g0_1 := HX1.out.at 0 1 rfl rfl
    go_wp2_with fail
    clear g0_0 g0_1
    refine (toPg ds_x fs_x ads_x cds_x afs_x cfs_x _ HM_x.out ?_).mono ?_
    · exact R_x.out
    rintro e v0 ⟨ads_xs, cds_xs, afs_xs, cfs_xs, rfl, ho_xs, hb⟩
    have HB2 := hid (HB1.out.trans (hb.mono HB1.out.size))
    have HX2 := hid (HX1.out.below hb)
    have R_x := hid (R_x.out.below hb)
    have C_xs := hid ho_xs.rd
    clear hb ho_xs
    go_wp2_with fail
    refine (spec_PrintProgram _ _ _ _ _ _ _ ?_ ?_).mono ?_
    · exact HM_x.out
    · exact C_xs.out
    rintro e vs ⟨rfl, hb⟩
    have HB3 := hid (HB2.out.trans (hb.mono HB2.out.size))
    have HX3 := hid (HX2.out.below hb)
    have R_x := hid (R_x.out.below hb)
    have C_xs := hid (C_xs.out.below hb)
    clear hb
    have g0_0 := HX3.out.at 0 0 rfl rfl
    have g0_1 := HX3.out.at 0 1 rfl rfl
    go_wp2_with fail
    clear g0_0 g0_1
    refine (toPg ds_x fs_x ads_x cds_x afs_x cfs_x _ HM_x.out ?_).mono ?_
    · exact R_x.out
    rintro e x0 ⟨ads_xx, cds_xx, afs_xx, cfs_xx, rfl, ho_xx, hb⟩
    have HB4 := hid (HB3.out.trans (hb.mono HB3.out.size))
    have HX4 := hid (HX3.out.below hb)
    have R_x := hid (R_x.out.below hb)
    have C_xx := hid ho_xx.rd
    clear hb ho_xx
    have hba : Below x0.heap.size x0 (x0.alloc (.cells #[.slice ads_xx ds_x.length cds_xx, .slice afs_xx fs_x.length cfs_xx] 49)) := (Below.refl _ _).alloc (Nat.le_refl _) _
    have HXa := hid (HX4.out.alloc #[.slice ads_xx ds_x.length cds_xx, .slice afs_xx fs_x.length cfs_xx] 49 (0, 0))
    have HB5 := hid (HB4.out.trans (hba.mono HB4.out.size))
    have HX5 := hid (HX4.out.below hba)
    have R_x := hid (R_x.out.below hba)
    have C_xx := hid (C_xx.out.below hba)
    clear hba
    have HX5 := HXa
    have g0_0 := HX5.out.at 0 0 rfl rfl
    have g0_1 := HX5.out.at 0 1 rfl rfl
    go_wp2_with fail
    clear g0_0 g0_1
    refine (impl_PrintProgram _ _ _ _ _ _ _ ?_ ?_ ?_).mono ?_
    · exact HM_x.out
    · exact C_xx.out
    · first | exact HPW.out.below HB20.out | exact HPW.out.below HB19.out | exact HPW.out.below HB18.out | exact HPW.out.below HB17.out | exact HPW.out.below HB16.out | exact HPW.out.below HB15.out | exact HPW.out.below HB14.out | exact HPW.out.below HB13.out | exact HPW.out.below HB12.out | exact HPW.out.below HB11.out | exact HPW.out.below HB10.out | exact HPW.out.below HB9.out | exact HPW.out.below HB8.out | exact HPW.out.below HB7.out | exact HPW.out.below HB6.out | exact HPW.out.below HB5.out | exact HPW.out.below HB4.out | exact HPW.out.below HB3.out | exact HPW.out.below HB2.out | exact HPW.out.below HB1.out
    rintro e vi ⟨rfl, hb⟩
    have HB6 := hid (HB5.out.trans (hb.mono HB5.out.size))
    have HX6 := hid (HX5.out.below hb)
    have R_x := hid (R_x.out.below hb)
    have C_xx := hid (C_xx.out.below hb)
    clear hb
    go_wp2_with fail
    have g0_0 := HX6.out.at 0 0 rfl rfl
    have g0_1 := HX6.out.at 0 1 rfl rfl
    have g1_0 := HX6.out.at 1 0 rfl rfl
    have g1_1 := HX6.out.at 1 1 rfl rfl
    have hkeep : ∀ V V' : World, Below V.heap.size V V' → (Below vi.heap.size vi V ∧ V.cell? ⟨x0.heap.size, 0, none⟩ = some (.slice ads_xx ds_x.length cds_xx) ∧ V.cell? ⟨x0.heap.size, 1, none⟩ = some (.slice afs_xx fs_x.length cfs_xx) ∧ V.cell? ⟨w.heap.size, 0, none⟩ = some (.slice ads_x ds_x.length cds_x) ∧ V.cell? ⟨w.heap.size, 1, none⟩ = some (.slice afs_x fs_x.length cfs_x)) → (Below vi.heap.size vi V' ∧ V'.cell? ⟨x0.heap.size, 0, none⟩ = some (.slice ads_xx ds_x.length cds_xx) ∧ V'.cell? ⟨x0.heap.size, 1, none⟩ = some (.slice afs_xx fs_x.length cfs_xx) ∧ V'.cell? ⟨w.heap.size, 0, none⟩ = some (.slice ads_x ds_x.length cds_x) ∧ V'.cell? ⟨w.heap.size, 1, none⟩ = some (.slice afs_x fs_x.length cfs_x)) := fun V V' hb ⟨h, _⟩ =>
      have hb' := h.trans (hb.mono h.size)
      ⟨hb', (hb'.cell (p := ⟨_, 0, none⟩) (World.block_lt_of_cell? _ _ g0_0)).trans g0_0, (hb'.cell (p := ⟨_, 1, none⟩) (World.block_lt_of_cell? _ _ g0_1)).trans g0_1, (hb'.cell (p := ⟨_, 0, none⟩) (World.block_lt_of_cell? _ _ g1_0)).trans g1_0, (hb'.cell (p := ⟨_, 1, none⟩) (World.block_lt_of_cell? _ _ g1_1)).trans g1_1⟩
    have KEEP := hid hkeep
    clear hkeep
    have hbd : Below vi.heap.size vi vi.drew := (Below.refl _ _).drew
    go_region_held3 (fun V => Below vi.heap.size vi V ∧ V.cell? ⟨x0.heap.size, 0, none⟩ = some (.slice ads_xx ds_x.length cds_xx) ∧ V.cell? ⟨x0.heap.size, 1, none⟩ = some (.slice afs_xx fs_x.length cfs_xx) ∧ V.cell? ⟨w.heap.size, 0, none⟩ = some (.slice ads_x ds_x.length cds_x) ∧ V.cell? ⟨w.heap.size, 1, none⟩ = some (.slice afs_x fs_x.length cfs_x))
      (first | exact KEEP.out _ _ hbq (by assumption) | go_keep)
      (first
        | (go_at_call 12; (with_reducible refine (toPg ds_x fs_x ads_x cds_x afs_x cfs_x _ HM_x.out ?_).mono ?_); (exact R_x.out.below (‹Below vi.heap.size vi _ ∧ _›).1); rintro e y0a ⟨ads_xe, cds_xe, afs_xe, cfs_xe, rfl, ho_xe, hbq⟩)
        | (go_at_call 14; (with_reducible refine (eqPg _ _ _ _ _ _ _ _ _ _ _ ?_ ?_).mono ?_); (exact C_xx.out.below ((‹Below vi.heap.size vi y0a ∧ _›).1)); (exact ho_xe.rd); rintro e y0b ⟨rfl, hbq⟩))
    obtain ⟨hbr, -⟩ := ‹Below vi.heap.size vi y0b ∧ _›
    clear KEEP hbd g0_0 g0_1 g1_0 g1_1
    have HB7 := hid (HB6.out.trans (hbr.mono HB6.out.size))
    have HX7 := hid (HX6.out.below hbr)
    have R_x := hid (R_x.out.below hbr)
    have C_xx := hid (C_xx.out.below hbr)
    clear hbr
    clear ho_xe
    go_wp2_with fail
    go_ret
    exact ⟨rfl, HB7.out⟩

/-- The heap that the program's own run leaves meets the row's condition. -/
theorem FnExactPrintProgram_met (os : Os) (args : Array Value) : laidMetH Tryz.prog Rows.fnExactPrintProgramRow.laid ((World.doorLaid Tryz.prog 24 os).forCall (fun _ _ => 0) ⟨#[], args, []⟩).memory := by
  rw [MakeChecks.laidMetH_plain _ _ _ (by kernel_rfl)]
  exact laidMet_of_run' 8 (by kernel_rfl) (by kernel_rfl)
theorem FnExactPrintProgram_pow {W : World} (h : laidMetH Tryz.prog Rows.fnExactPrintProgramRow.laid W) : Pow W := by
  rw [MakeChecks.laidMetH_plain _ _ _ (by kernel_rfl)] at h
  exact pow_of_laid h
set_option maxRecDepth 100000 in
theorem FnExactPrintProgram_lifted (os : Os) (started : os.Started) (H : Type) (enc : TypeId × Value → H) :
    ReturnsInHanded {} Tryz.checked os 4 .any (fun w args => (Rows.fnExactPrintProgramSpec.pre enc Tryz.prog Tryz.f4 [] false w args ∧ laidMetH Tryz.prog Rows.fnExactPrintProgramRow.laid w) ∧ sizedMet enc Tryz.prog Tryz.f4 (OpenSpec.ofChange Rows.fnExactPrintProgramSpec) false w args) (Rows.fnExactPrintProgramSpec.post enc Tryz.prog Tryz.f4 false true false false) := by
  refine law_lifted_laid (C := Tryz.checked) (tb := 4) own started (by kernel_rfl) Tryz.func4 laidOut (by intro t ht; rw [Tryz.params4] at ht; simp at ht; subst ht; exact ⟨by kernel_rfl, of_decide_eq_true (by kernel_rfl)⟩) rfl Tryz.underlying4 rfl ?_
    (ChangeSpec.witness_shaped (enc := enc) (C := Tryz.checked) (os := os) (X := fun w _ => laidMetH Tryz.prog Rows.fnExactPrintProgramRow.laid w) false (World.doorLaid Tryz.prog 24 os) #[.agg #[.slice none 0 0, .slice none 0 0]] 8 rfl (World.shaped_of_RefB (by kernel_rfl) (by kernel_rfl)) (by kernel_rfl) (by kernel_rfl) (by kernel_rfl) (FnExactPrintProgram_met os _)) ?_
  · intro ds hds
    rw [Tryz.params4] at hds
    match ds, hds with
    | [_], _ => exact ⟨rfl, rfl, rfl⟩
  intro W base args ds p hval0 hA0 hlt hL
  have hval : ∀ (j : Nat) t v, Tryz.f4.params[j]? = some t → args[j]? = some v → Value.okWide Tryz.prog W .any base t v := hval0
  have hA : DataW.TrodAll enc Tryz.prog W 0 (fun _ => true) true Tryz.f4.params.toList args.toList ds p := hA0
  rw [Tryz.params4] at hA hval
  clear hval0 hA0
  obtain ⟨v0, vs0, d0, ds0, p0, q0, hargs0, rfl, rfl, h0, r0⟩ := trodAll_cons hA
  obtain ⟨rfl, rfl, rfl⟩ := trodAll_nil r0
  obtain rfl : args = #[v0] := by cases args; simp_all
  obtain ⟨ds_x, fs_x, ads_x, cds_x, afs_x, cfs_x, rfl, hr_x⟩ := arg_Pg (hval 0 43 v0 rfl rfl) h0
  exact FnExactPrintProgram_walk ds_x fs_x ads_x cds_x afs_x cfs_x W hr_x (FnExactPrintProgram_pow hL)
theorem FnExactPrintProgram_row : Rows.FnExactPrintProgramSaid :=
  OpenClaim.holds_of_wide 4 Tryz.f4 rfl rfl rfl rfl rfl rfl rfl ⟨rfl, rfl, rfl, rfl, rfl⟩ rfl rfl rfl rfl rfl (by kernel_rfl) Tryz.func4 (by kernel_rfl)
    (of_decide_eq_true (by kernel_rfl)) (by unfold Func.isWrapper; first | (rw [if_pos (by decide +kernel)]; kernel_rfl) | (rw [if_neg (by decide +kernel)]; exact ⟨rfl, rfl⟩))
    (fun os started H enc _ => FnExactPrintProgram_lifted os started H enc)
theorem FnExactPrintProgramCard_holds : Rows.FnExactPrintProgramCardSaid :=
  Claim7.holds_tied_plain_at .later [] Rows.fnExactPrintProgramCard.laidKinds true Rows.fnExactPrintProgramCard.stood.harness Rows.fnExactPrintProgramCard.stood.looks
    FnExactPrintProgram_row (fun _ h => by cases h) (by kernel_rfl) (fun _ h => by cases h) fnExactPrintProgram_row_tie rfl ⟨rfl, rfl⟩ (by kernel_rfl) rfl
    (fun f fn hf hfn => by
      obtain rfl : f = 4 := Option.some.inj ((show Tryz.prog.funcNamed "loop.example/g01074/laws.FnExactPrintProgram" = some 4 by kernel_rfl).symm.trans hf) |>.symm
      obtain rfl : fn = Tryz.f4 := (Option.some.inj (Tryz.func4.symm.trans hfn)).symm
      exact ⟨by kernel_rfl, fun j t ht => by
        rw [Tryz.params4] at ht
        have hm : t ∈ [43] := by simpa using Array.mem_of_getElem? ht
        have hall : ([43].all fun u => !Tryz.prog.wantsStandIn u) = true := by kernel_rfl
        exact (show Tryz.prog.wantsStandIn t = false by simpa using List.all_eq_true.1 hall t hm)⟩)
    (by kernel_rfl)
end Go.Proofs.YtikhofcjkcbpbaaGreatDoor
