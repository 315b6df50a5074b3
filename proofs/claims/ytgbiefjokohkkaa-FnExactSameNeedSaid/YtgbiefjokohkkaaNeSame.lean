/- Walks: SameNeed, in the program. -/
import Derived.Test.YtgbiefjokohkkaaEqfNe
import Derived.Test.YtgbiefjokohkkaaSaCoSp
import Derived.Test.YtgbiefjokohkkaaSzNe
import Derived.BigQuiet
import Derived.Lib.QuietBelow
namespace Go.Proofs.Ytgbiefjokohkkaa
open Go.ChangeShapes Go.WideShapes Go.ChangeAt Go.RowKit Go.BigFrame
open Go.Sort (grow)
set_option linter.unusedVariables false

def Cl.eqb : Cl → Cl → Bool
  | .mk t1 es1, .mk t2 es2 => (Co.eqb t1 t2 && decide (es1 = es2))
def Fr.eqb : Fr → Fr → Bool
  | .mk k1 v1 ds1 c1, .mk k2 v2 ds2 c2 => (decide (k1 = k2) && (decide (v1 = v2) && (decide (ds1 = ds2) && Cl.eqb c1 c2)))
def Th.eqb : Th → Th → Bool
  | .mk dn1 c1, .mk dn2 c2 => (decide (dn1 = dn2) && Cl.eqb c1 c2)
def Ne.eqb : Ne → Ne → Bool
  | .mk c1 ss1 hs1, .mk c2 ss2 hs2 => (Cl.eqb c1 c2 && (eqBy Fr.eqb ss1 ss2 && eqBy Th.eqb hs1 hs2))

set_option maxHeartbeats 2000000 in
theorem impl_sameClosure (tk1 : Int) (tv1 : Int) (tds1 : List Int) (tks1 : List Co) (es1 : List Int) (atds1 : Option Addr) (ctds1 : Nat) (atks1 : Option Addr) (ctks1 : Nat) (aes1 : Option Addr) (ces1 : Nat) (tk2 : Int) (tv2 : Int) (tds2 : List Int) (tks2 : List Co) (es2 : List Int) (atds2 : Option Addr) (ctds2 : Nat) (atks2 : Option Addr) (ctks2 : Nat) (aes2 : Option Addr) (ces2 : Nat) (w : World) (hr : RdS w (Cl.d (Cl.mk (Co.mk tk1 tv1 tds1 tks1) es1)) [.int .i64 tk1, .int .i64 tv1, .slice atds1 tds1.length ctds1, .slice atks1 tks1.length ctks1, .slice aes1 es1.length ces1]) (hr' : RdS w (Cl.d (Cl.mk (Co.mk tk2 tv2 tds2 tks2) es2)) [.int .i64 tk2, .int .i64 tv2, .slice atds2 tds2.length ctds2, .slice atks2 tks2.length ctks2, .slice aes2 es2.length ces2]) :
    Calls Try.prog 84 #[.agg #[.int .i64 tk1, .int .i64 tv1, .slice atds1 tds1.length ctds1, .slice atks1 tks1.length ctks1, .slice aes1 es1.length ces1], .agg #[.int .i64 tk2, .int .i64 tv2, .slice atds2 tds2.length ctds2, .slice atks2 tks2.length ctks2, .slice aes2 es2.length ces2]] w fun e w' => e = .returned (.bool (Cl.eqb (Cl.mk (Co.mk tk1 tv1 tds1 tks1) es1) (Cl.mk (Co.mk tk2 tv2 tds2 tks2) es2))) ∧ Below w.heap.size w w' := by
  have HE := hid (show Cl.eqb (Cl.mk (Co.mk tk1 tv1 tds1 tks1) es1) (Cl.mk (Co.mk tk2 tv2 tds2 tks2) es2) = (Co.eqb (Co.mk tk1 tv1 tds1 tks1) (Co.mk tk2 tv2 tds2 tks2) && decide (es1 = es2)) from rfl)
  have HX0 := hid (((Boxes.nil w).alloc #[.int .i64 tk1, .int .i64 tv1, .slice atds1 tds1.length ctds1, .slice atks1 tks1.length ctks1, .slice aes1 es1.length ces1] 59 (0, 0)).alloc #[.int .i64 tk2, .int .i64 tv2, .slice atds2 tds2.length ctds2, .slice atks2 tks2.length ctks2, .slice aes2 es2.length ces2] 59 (0, 0))
  have HB0 := hid (show Below w.heap.size w ((w.alloc (.cells #[.int .i64 tk1, .int .i64 tv1, .slice atds1 tds1.length ctds1, .slice atks1 tks1.length ctks1, .slice aes1 es1.length ces1] 59)).alloc (.cells #[.int .i64 tk2, .int .i64 tv2, .slice atds2 tds2.length ctds2, .slice atks2 tks2.length ctks2, .slice aes2 es2.length ces2] 59)) from ((Below.refl _ _).alloc (Nat.le_refl _) _).alloc (by simp) _)
  have hc0 := fun W (hW : Below w.heap.size w W) => impl_SameCore tk1 tv1 tds1 tks1 atds1 ctds1 atks1 ctks1 tk2 tv2 tds2 tks2 atds2 ctds2 atks2 ctks2 W (hr.subCl_t.below hW) (hr'.subCl_t.below hW)
  have HC0 := hid hc0
  have hc1 := fun W (hW : Below w.heap.size w W) => impl_sameIn es1 es2 aes1 aes2 ces1 ces2 W (hr.fCl.2.below hW) (hr'.fCl.2.below hW)
  have HC1 := hid hc1
  clear hr hr' hc0 hc1
  by_cases h0 : (Co.eqb (Co.mk tk1 tv1 tds1 tks1) (Co.mk tk2 tv2 tds2 tks2)) = true
  case neg =>
    replace h0 := (Bool.not_eq_true _).mp h0
    have HF := hid (show Cl.eqb (Cl.mk (Co.mk tk1 tv1 tds1 tks1) es1) (Cl.mk (Co.mk tk2 tv2 tds2 tks2) es2) = false by rw [HE.out]; simp only [h0, Bool.false_and])
    rw [h0] at HC0
    clear HE h0 HC1
    go_enter Try.func84, Try.ntmps84
    go_wp2_with fail
    refine (HC0.out _ HB0.out).mono ?_
    rintro e w1 ⟨rfl, hb⟩
    have HB1 := hid (HB0.out.trans (hb.mono HB0.out.size))
    have HX1 := hid (HX0.out.below hb)
    clear hb HC0
    have g0_0 := HX1.out.at 0 0 rfl rfl
    have g0_1 := HX1.out.at 0 1 rfl rfl
    have g0_2 := HX1.out.at 0 2 rfl rfl
    have g0_3 := HX1.out.at 0 3 rfl rfl
    have g0_4 := HX1.out.at 0 4 rfl rfl
    have g1_0 := HX1.out.at 1 0 rfl rfl
    have g1_1 := HX1.out.at 1 1 rfl rfl
    have g1_2 := HX1.out.at 1 2 rfl rfl
    have g1_3 := HX1.out.at 1 3 rfl rfl
    have g1_4 := HX1.out.at 1 4 rfl rfl
    simp only [World.size_alloc] at g0_0 g0_1 g0_2 g0_3 g0_4
    go_wp2_with fail
    go_ret
    exact ⟨ret_bool HF.out.symm, HB1.out⟩
  case pos =>
    rw [h0] at HC0
    have HF := hid (show Cl.eqb (Cl.mk (Co.mk tk1 tv1 tds1 tks1) es1) (Cl.mk (Co.mk tk2 tv2 tds2 tks2) es2) = decide (es1 = es2) by rw [HE.out]; simp only [h0, Bool.true_and])
    clear HE h0
    go_enter Try.func84, Try.ntmps84
    go_wp2_with fail
    refine (HC0.out _ HB0.out).mono ?_
    rintro e w1 ⟨rfl, hb⟩
    have HB1 := hid (HB0.out.trans (hb.mono HB0.out.size))
    have HX1 := hid (HX0.out.below hb)
    clear hb HC0
    have g0_0 := HX1.out.at 0 0 rfl rfl
    have g0_1 := HX1.out.at 0 1 rfl rfl
    have g0_2 := HX1.out.at 0 2 rfl rfl
    have g0_3 := HX1.out.at 0 3 rfl rfl
    have g0_4 := HX1.out.at 0 4 rfl rfl
    have g1_0 := HX1.out.at 1 0 rfl rfl
    have g1_1 := HX1.out.at 1 1 rfl rfl
    have g1_2 := HX1.out.at 1 2 rfl rfl
    have g1_3 := HX1.out.at 1 3 rfl rfl
    have g1_4 := HX1.out.at 1 4 rfl rfl
    simp only [World.size_alloc] at g0_0 g0_1 g0_2 g0_3 g0_4
    go_wp2_with fail
    clear g0_0 g0_1 g0_2 g0_3 g0_4 g1_0 g1_1 g1_2 g1_3 g1_4
    refine (HC1.out _ HB1.out).mono ?_
    rintro e w2 ⟨rfl, hb⟩
    have HB2 := hid (HB1.out.trans (hb.mono HB1.out.size))
    have HX2 := hid (HX1.out.below hb)
    clear hb HC1
    have g0_0 := HX2.out.at 0 0 rfl rfl
    have g0_1 := HX2.out.at 0 1 rfl rfl
    have g0_2 := HX2.out.at 0 2 rfl rfl
    have g0_3 := HX2.out.at 0 3 rfl rfl
    have g0_4 := HX2.out.at 0 4 rfl rfl
    have g1_0 := HX2.out.at 1 0 rfl rfl
    have g1_1 := HX2.out.at 1 1 rfl rfl
    have g1_2 := HX2.out.at 1 2 rfl rfl
    have g1_3 := HX2.out.at 1 3 rfl rfl
    have g1_4 := HX2.out.at 1 4 rfl rfl
    simp only [World.size_alloc] at g0_0 g0_1 g0_2 g0_3 g0_4
    go_wp2_with fail
    go_ret
    exact ⟨ret_bool HF.out.symm, HB2.out⟩

set_option maxHeartbeats 2000000 in
theorem impl_sameFrame (k1 : Int) (v1 : Int) (ds1 : List Int) (ctk1 : Int) (ctv1 : Int) (ctds1 : List Int) (ctks1 : List Co) (ces1 : List Int) (ads1 : Option Addr) (cds1 : Nat) (actds1 : Option Addr) (cctds1 : Nat) (actks1 : Option Addr) (cctks1 : Nat) (aces1 : Option Addr) (cces1 : Nat) (k2 : Int) (v2 : Int) (ds2 : List Int) (ctk2 : Int) (ctv2 : Int) (ctds2 : List Int) (ctks2 : List Co) (ces2 : List Int) (ads2 : Option Addr) (cds2 : Nat) (actds2 : Option Addr) (cctds2 : Nat) (actks2 : Option Addr) (cctks2 : Nat) (aces2 : Option Addr) (cces2 : Nat) (w : World) (hr : RdS w (Fr.d (Fr.mk k1 v1 ds1 (Cl.mk (Co.mk ctk1 ctv1 ctds1 ctks1) ces1))) [.int .i64 k1, .int .i64 v1, .slice ads1 ds1.length cds1, .int .i64 ctk1, .int .i64 ctv1, .slice actds1 ctds1.length cctds1, .slice actks1 ctks1.length cctks1, .slice aces1 ces1.length cces1]) (hr' : RdS w (Fr.d (Fr.mk k2 v2 ds2 (Cl.mk (Co.mk ctk2 ctv2 ctds2 ctks2) ces2))) [.int .i64 k2, .int .i64 v2, .slice ads2 ds2.length cds2, .int .i64 ctk2, .int .i64 ctv2, .slice actds2 ctds2.length cctds2, .slice actks2 ctks2.length cctks2, .slice aces2 ces2.length cces2]) :
    Calls Try.prog 86 #[.agg #[.int .i64 k1, .int .i64 v1, .slice ads1 ds1.length cds1, .int .i64 ctk1, .int .i64 ctv1, .slice actds1 ctds1.length cctds1, .slice actks1 ctks1.length cctks1, .slice aces1 ces1.length cces1], .agg #[.int .i64 k2, .int .i64 v2, .slice ads2 ds2.length cds2, .int .i64 ctk2, .int .i64 ctv2, .slice actds2 ctds2.length cctds2, .slice actks2 ctks2.length cctks2, .slice aces2 ces2.length cces2]] w fun e w' => e = .returned (.bool (Fr.eqb (Fr.mk k1 v1 ds1 (Cl.mk (Co.mk ctk1 ctv1 ctds1 ctks1) ces1)) (Fr.mk k2 v2 ds2 (Cl.mk (Co.mk ctk2 ctv2 ctds2 ctks2) ces2)))) ∧ Below w.heap.size w w' := by
  have HE := hid (show Fr.eqb (Fr.mk k1 v1 ds1 (Cl.mk (Co.mk ctk1 ctv1 ctds1 ctks1) ces1)) (Fr.mk k2 v2 ds2 (Cl.mk (Co.mk ctk2 ctv2 ctds2 ctks2) ces2)) = (decide (k1 = k2) && (decide (v1 = v2) && (decide (ds1 = ds2) && Cl.eqb (Cl.mk (Co.mk ctk1 ctv1 ctds1 ctks1) ces1) (Cl.mk (Co.mk ctk2 ctv2 ctds2 ctks2) ces2)))) from rfl)
  have HX0 := hid (((Boxes.nil w).alloc #[.int .i64 k1, .int .i64 v1, .slice ads1 ds1.length cds1, .int .i64 ctk1, .int .i64 ctv1, .slice actds1 ctds1.length cctds1, .slice actks1 ctks1.length cctks1, .slice aces1 ces1.length cces1] 104 (0, 0)).alloc #[.int .i64 k2, .int .i64 v2, .slice ads2 ds2.length cds2, .int .i64 ctk2, .int .i64 ctv2, .slice actds2 ctds2.length cctds2, .slice actks2 ctks2.length cctks2, .slice aces2 ces2.length cces2] 104 (0, 0))
  have HB0 := hid (show Below w.heap.size w ((w.alloc (.cells #[.int .i64 k1, .int .i64 v1, .slice ads1 ds1.length cds1, .int .i64 ctk1, .int .i64 ctv1, .slice actds1 ctds1.length cctds1, .slice actks1 ctks1.length cctks1, .slice aces1 ces1.length cces1] 104)).alloc (.cells #[.int .i64 k2, .int .i64 v2, .slice ads2 ds2.length cds2, .int .i64 ctk2, .int .i64 ctv2, .slice actds2 ctds2.length cctds2, .slice actks2 ctks2.length cctks2, .slice aces2 ces2.length cces2] 104)) from ((Below.refl _ _).alloc (Nat.le_refl _) _).alloc (by simp) _)
  have hc0 := fun W (hW : Below w.heap.size w W) => impl_sameIn ds1 ds2 ads1 ads2 cds1 cds2 W (hr.fFr.2.2.1.below hW) (hr'.fFr.2.2.1.below hW)
  have HC0 := hid hc0
  have hc1 := fun W (hW : Below w.heap.size w W) => impl_sameClosure ctk1 ctv1 ctds1 ctks1 ces1 actds1 cctds1 actks1 cctks1 aces1 cces1 ctk2 ctv2 ctds2 ctks2 ces2 actds2 cctds2 actks2 cctks2 aces2 cces2 W (hr.subFr_c.below hW) (hr'.subFr_c.below hW)
  have HC1 := hid hc1
  clear hr hr' hc0 hc1
  by_cases h0 : k1 = k2
  case neg =>
    have HF := hid (show Fr.eqb (Fr.mk k1 v1 ds1 (Cl.mk (Co.mk ctk1 ctv1 ctds1 ctks1) ces1)) (Fr.mk k2 v2 ds2 (Cl.mk (Co.mk ctk2 ctv2 ctds2 ctks2) ces2)) = false by rw [HE.out]; simp [h0])
    have hb0 : (k1 == k2) = false := by simp [h0]
    clear HE h0 HC0 HC1
    go_enter Try.func86, Try.ntmps86
    go_wp2_with fail
    go_ret
    exact ⟨ret_bool HF.out.symm, HB0.out⟩
  case pos =>
    have hb0 : (k1 == k2) = true := by simp [h0]
    by_cases h1 : v1 = v2
    case neg =>
      have HF := hid (show Fr.eqb (Fr.mk k1 v1 ds1 (Cl.mk (Co.mk ctk1 ctv1 ctds1 ctks1) ces1)) (Fr.mk k2 v2 ds2 (Cl.mk (Co.mk ctk2 ctv2 ctds2 ctks2) ces2)) = false by rw [HE.out]; simp [h1])
      have hb1 : (v1 == v2) = false := by simp [h1]
      clear HE h0 h1 HC0 HC1
      go_enter Try.func86, Try.ntmps86
      go_wp2_with fail
      go_ret
      exact ⟨ret_bool HF.out.symm, HB0.out⟩
    case pos =>
      have hb1 : (v1 == v2) = true := by simp [h1]
      by_cases h2 : (decide (ds1 = ds2)) = true
      case neg =>
        replace h2 := (Bool.not_eq_true _).mp h2
        have HF := hid (show Fr.eqb (Fr.mk k1 v1 ds1 (Cl.mk (Co.mk ctk1 ctv1 ctds1 ctks1) ces1)) (Fr.mk k2 v2 ds2 (Cl.mk (Co.mk ctk2 ctv2 ctds2 ctks2) ces2)) = false by rw [HE.out]; simp only [h2, Bool.false_and, Bool.and_false])
        rw [h2] at HC0
        clear HE h0 h1 h2 HC1
        go_enter Try.func86, Try.ntmps86
        go_wp2_with fail
        refine (HC0.out _ HB0.out).mono ?_
        rintro e w1 ⟨rfl, hb⟩
        have HB1 := hid (HB0.out.trans (hb.mono HB0.out.size))
        have HX1 := hid (HX0.out.below hb)
        clear hb HC0
        have g0_0 := HX1.out.at 0 0 rfl rfl
        have g0_1 := HX1.out.at 0 1 rfl rfl
        have g0_2 := HX1.out.at 0 2 rfl rfl
        have g0_3 := HX1.out.at 0 3 rfl rfl
        have g0_4 := HX1.out.at 0 4 rfl rfl
        have g0_5 := HX1.out.at 0 5 rfl rfl
        have g0_6 := HX1.out.at 0 6 rfl rfl
        have g0_7 := HX1.out.at 0 7 rfl rfl
        have g1_0 := HX1.out.at 1 0 rfl rfl
        have g1_1 := HX1.out.at 1 1 rfl rfl
        have g1_2 := HX1.out.at 1 2 rfl rfl
        have g1_3 := HX1.out.at 1 3 rfl rfl
        have g1_4 := HX1.out.at 1 4 rfl rfl
        have g1_5 := HX1.out.at 1 5 rfl rfl
        have g1_6 := HX1.out.at 1 6 rfl rfl
        have g1_7 := HX1.out.at 1 7 rfl rfl
        simp only [World.size_alloc] at g0_0 g0_1 g0_2 g0_3 g0_4 g0_5 g0_6 g0_7
        go_wp2_with fail
        go_ret
        exact ⟨ret_bool HF.out.symm, HB1.out⟩
      case pos =>
        rw [h2] at HC0
        have HF := hid (show Fr.eqb (Fr.mk k1 v1 ds1 (Cl.mk (Co.mk ctk1 ctv1 ctds1 ctks1) ces1)) (Fr.mk k2 v2 ds2 (Cl.mk (Co.mk ctk2 ctv2 ctds2 ctks2) ces2)) = Cl.eqb (Cl.mk (Co.mk ctk1 ctv1 ctds1 ctks1) ces1) (Cl.mk (Co.mk ctk2 ctv2 ctds2 ctks2) ces2) by rw [HE.out]; simp only [h0, h1, h2, decide_true, Bool.true_and])
        clear HE h0 h1 h2
        go_enter Try.func86, Try.ntmps86
        go_wp2_with fail
        refine (HC0.out _ HB0.out).mono ?_
        rintro e w1 ⟨rfl, hb⟩
        have HB1 := hid (HB0.out.trans (hb.mono HB0.out.size))
        have HX1 := hid (HX0.out.below hb)
        clear hb HC0
        have g0_0 := HX1.out.at 0 0 rfl rfl
        have g0_1 := HX1.out.at 0 1 rfl rfl
        have g0_2 := HX1.out.at 0 2 rfl rfl
        have g0_3 := HX1.out.at 0 3 rfl rfl
        have g0_4 := HX1.out.at 0 4 rfl rfl
        have g0_5 := HX1.out.at 0 5 rfl rfl
        have g0_6 := HX1.out.at 0 6 rfl rfl
        have g0_7 := HX1.out.at 0 7 rfl rfl
        have g1_0 := HX1.out.at 1 0 rfl rfl
        have g1_1 := HX1.out.at 1 1 rfl rfl
        have g1_2 := HX1.out.at 1 2 rfl rfl
        have g1_3 := HX1.out.at 1 3 rfl rfl
        have g1_4 := HX1.out.at 1 4 rfl rfl
        have g1_5 := HX1.out.at 1 5 rfl rfl
        have g1_6 := HX1.out.at 1 6 rfl rfl
        have g1_7 := HX1.out.at 1 7 rfl rfl
        simp only [World.size_alloc] at g0_0 g0_1 g0_2 g0_3 g0_4 g0_5 g0_6 g0_7
        go_wp2_with fail
        clear g0_0 g0_1 g0_2 g0_3 g0_4 g0_5 g0_6 g0_7 g1_0 g1_1 g1_2 g1_3 g1_4 g1_5 g1_6 g1_7
        refine (HC1.out _ HB1.out).mono ?_
        rintro e w2 ⟨rfl, hb⟩
        have HB2 := hid (HB1.out.trans (hb.mono HB1.out.size))
        have HX2 := hid (HX1.out.below hb)
        clear hb HC1
        have g0_0 := HX2.out.at 0 0 rfl rfl
        have g0_1 := HX2.out.at 0 1 rfl rfl
        have g0_2 := HX2.out.at 0 2 rfl rfl
        have g0_3 := HX2.out.at 0 3 rfl rfl
        have g0_4 := HX2.out.at 0 4 rfl rfl
        have g0_5 := HX2.out.at 0 5 rfl rfl
        have g0_6 := HX2.out.at 0 6 rfl rfl
        have g0_7 := HX2.out.at 0 7 rfl rfl
        have g1_0 := HX2.out.at 1 0 rfl rfl
        have g1_1 := HX2.out.at 1 1 rfl rfl
        have g1_2 := HX2.out.at 1 2 rfl rfl
        have g1_3 := HX2.out.at 1 3 rfl rfl
        have g1_4 := HX2.out.at 1 4 rfl rfl
        have g1_5 := HX2.out.at 1 5 rfl rfl
        have g1_6 := HX2.out.at 1 6 rfl rfl
        have g1_7 := HX2.out.at 1 7 rfl rfl
        simp only [World.size_alloc] at g0_0 g0_1 g0_2 g0_3 g0_4 g0_5 g0_6 g0_7
        go_wp2_with fail
        go_ret
        exact ⟨ret_bool HF.out.symm, HB2.out⟩

set_option maxHeartbeats 2000000 in
theorem impl_sameThunk (dn1 : Bool) (ctk1 : Int) (ctv1 : Int) (ctds1 : List Int) (ctks1 : List Co) (ces1 : List Int) (actds1 : Option Addr) (cctds1 : Nat) (actks1 : Option Addr) (cctks1 : Nat) (aces1 : Option Addr) (cces1 : Nat) (dn2 : Bool) (ctk2 : Int) (ctv2 : Int) (ctds2 : List Int) (ctks2 : List Co) (ces2 : List Int) (actds2 : Option Addr) (cctds2 : Nat) (actks2 : Option Addr) (cctks2 : Nat) (aces2 : Option Addr) (cces2 : Nat) (w : World) (hr : RdS w (Th.d (Th.mk dn1 (Cl.mk (Co.mk ctk1 ctv1 ctds1 ctks1) ces1))) [.bool dn1, .int .i64 ctk1, .int .i64 ctv1, .slice actds1 ctds1.length cctds1, .slice actks1 ctks1.length cctks1, .slice aces1 ces1.length cces1]) (hr' : RdS w (Th.d (Th.mk dn2 (Cl.mk (Co.mk ctk2 ctv2 ctds2 ctks2) ces2))) [.bool dn2, .int .i64 ctk2, .int .i64 ctv2, .slice actds2 ctds2.length cctds2, .slice actks2 ctks2.length cctks2, .slice aces2 ces2.length cces2]) :
    Calls Try.prog 88 #[.agg #[.bool dn1, .int .i64 ctk1, .int .i64 ctv1, .slice actds1 ctds1.length cctds1, .slice actks1 ctks1.length cctks1, .slice aces1 ces1.length cces1], .agg #[.bool dn2, .int .i64 ctk2, .int .i64 ctv2, .slice actds2 ctds2.length cctds2, .slice actks2 ctks2.length cctks2, .slice aces2 ces2.length cces2]] w fun e w' => e = .returned (.bool (Th.eqb (Th.mk dn1 (Cl.mk (Co.mk ctk1 ctv1 ctds1 ctks1) ces1)) (Th.mk dn2 (Cl.mk (Co.mk ctk2 ctv2 ctds2 ctks2) ces2)))) ∧ Below w.heap.size w w' := by
  have HE := hid (show Th.eqb (Th.mk dn1 (Cl.mk (Co.mk ctk1 ctv1 ctds1 ctks1) ces1)) (Th.mk dn2 (Cl.mk (Co.mk ctk2 ctv2 ctds2 ctks2) ces2)) = (decide (dn1 = dn2) && Cl.eqb (Cl.mk (Co.mk ctk1 ctv1 ctds1 ctks1) ces1) (Cl.mk (Co.mk ctk2 ctv2 ctds2 ctks2) ces2)) from rfl)
  have HX0 := hid (((Boxes.nil w).alloc #[.bool dn1, .int .i64 ctk1, .int .i64 ctv1, .slice actds1 ctds1.length cctds1, .slice actks1 ctks1.length cctks1, .slice aces1 ces1.length cces1] 108 (0, 0)).alloc #[.bool dn2, .int .i64 ctk2, .int .i64 ctv2, .slice actds2 ctds2.length cctds2, .slice actks2 ctks2.length cctks2, .slice aces2 ces2.length cces2] 108 (0, 0))
  have HB0 := hid (show Below w.heap.size w ((w.alloc (.cells #[.bool dn1, .int .i64 ctk1, .int .i64 ctv1, .slice actds1 ctds1.length cctds1, .slice actks1 ctks1.length cctks1, .slice aces1 ces1.length cces1] 108)).alloc (.cells #[.bool dn2, .int .i64 ctk2, .int .i64 ctv2, .slice actds2 ctds2.length cctds2, .slice actks2 ctks2.length cctks2, .slice aces2 ces2.length cces2] 108)) from ((Below.refl _ _).alloc (Nat.le_refl _) _).alloc (by simp) _)
  have hc0 := fun W (hW : Below w.heap.size w W) => impl_sameClosure ctk1 ctv1 ctds1 ctks1 ces1 actds1 cctds1 actks1 cctks1 aces1 cces1 ctk2 ctv2 ctds2 ctks2 ces2 actds2 cctds2 actks2 cctks2 aces2 cces2 W (hr.subTh_c.below hW) (hr'.subTh_c.below hW)
  have HC0 := hid hc0
  clear hr hr' hc0
  by_cases h0 : dn1 = dn2
  case neg =>
    have HF := hid (show Th.eqb (Th.mk dn1 (Cl.mk (Co.mk ctk1 ctv1 ctds1 ctks1) ces1)) (Th.mk dn2 (Cl.mk (Co.mk ctk2 ctv2 ctds2 ctks2) ces2)) = false by rw [HE.out]; simp [h0])
    have hb0 : (dn1 == dn2) = false := by simp [h0]
    clear HE h0 HC0
    go_enter Try.func88, Try.ntmps88
    go_wp2_with fail
    go_ret
    exact ⟨ret_bool HF.out.symm, HB0.out⟩
  case pos =>
    have hb0 : (dn1 == dn2) = true := by simp [h0]
    have HF := hid (show Th.eqb (Th.mk dn1 (Cl.mk (Co.mk ctk1 ctv1 ctds1 ctks1) ces1)) (Th.mk dn2 (Cl.mk (Co.mk ctk2 ctv2 ctds2 ctks2) ces2)) = Cl.eqb (Cl.mk (Co.mk ctk1 ctv1 ctds1 ctks1) ces1) (Cl.mk (Co.mk ctk2 ctv2 ctds2 ctks2) ces2) by rw [HE.out]; simp only [h0, decide_true, Bool.true_and])
    clear HE h0
    go_enter Try.func88, Try.ntmps88
    go_wp2_with fail
    refine (HC0.out _ HB0.out).mono ?_
    rintro e w1 ⟨rfl, hb⟩
    have HB1 := hid (HB0.out.trans (hb.mono HB0.out.size))
    have HX1 := hid (HX0.out.below hb)
    clear hb HC0
    have g0_0 := HX1.out.at 0 0 rfl rfl
    have g0_1 := HX1.out.at 0 1 rfl rfl
    have g0_2 := HX1.out.at 0 2 rfl rfl
    have g0_3 := HX1.out.at 0 3 rfl rfl
    have g0_4 := HX1.out.at 0 4 rfl rfl
    have g0_5 := HX1.out.at 0 5 rfl rfl
    have g1_0 := HX1.out.at 1 0 rfl rfl
    have g1_1 := HX1.out.at 1 1 rfl rfl
    have g1_2 := HX1.out.at 1 2 rfl rfl
    have g1_3 := HX1.out.at 1 3 rfl rfl
    have g1_4 := HX1.out.at 1 4 rfl rfl
    have g1_5 := HX1.out.at 1 5 rfl rfl
    simp only [World.size_alloc] at g0_0 g0_1 g0_2 g0_3 g0_4 g0_5
    go_wp2_with fail
    go_ret
    exact ⟨ret_bool HF.out.symm, HB1.out⟩

set_option maxHeartbeats 2000000 in
theorem impl_SameNeed (ctk1 : Int) (ctv1 : Int) (ctds1 : List Int) (ctks1 : List Co) (ces1 : List Int) (ss1 : List Fr) (hs1 : List Th) (actds1 : Option Addr) (cctds1 : Nat) (actks1 : Option Addr) (cctks1 : Nat) (aces1 : Option Addr) (cces1 : Nat) (ass1 : Option Addr) (css1 : Nat) (ahs1 : Option Addr) (chs1 : Nat) (ctk2 : Int) (ctv2 : Int) (ctds2 : List Int) (ctks2 : List Co) (ces2 : List Int) (ss2 : List Fr) (hs2 : List Th) (actds2 : Option Addr) (cctds2 : Nat) (actks2 : Option Addr) (cctks2 : Nat) (aces2 : Option Addr) (cces2 : Nat) (ass2 : Option Addr) (css2 : Nat) (ahs2 : Option Addr) (chs2 : Nat) (w : World) (hr : RdS w (Ne.d (Ne.mk (Cl.mk (Co.mk ctk1 ctv1 ctds1 ctks1) ces1) ss1 hs1)) [.int .i64 ctk1, .int .i64 ctv1, .slice actds1 ctds1.length cctds1, .slice actks1 ctks1.length cctks1, .slice aces1 ces1.length cces1, .slice ass1 ss1.length css1, .slice ahs1 hs1.length chs1]) (hr' : RdS w (Ne.d (Ne.mk (Cl.mk (Co.mk ctk2 ctv2 ctds2 ctks2) ces2) ss2 hs2)) [.int .i64 ctk2, .int .i64 ctv2, .slice actds2 ctds2.length cctds2, .slice actks2 ctks2.length cctks2, .slice aces2 ces2.length cces2, .slice ass2 ss2.length css2, .slice ahs2 hs2.length chs2]) :
    Calls Try.prog 43 #[.agg #[.int .i64 ctk1, .int .i64 ctv1, .slice actds1 ctds1.length cctds1, .slice actks1 ctks1.length cctks1, .slice aces1 ces1.length cces1, .slice ass1 ss1.length css1, .slice ahs1 hs1.length chs1], .agg #[.int .i64 ctk2, .int .i64 ctv2, .slice actds2 ctds2.length cctds2, .slice actks2 ctks2.length cctks2, .slice aces2 ces2.length cces2, .slice ass2 ss2.length css2, .slice ahs2 hs2.length chs2]] w fun e w' => e = .returned (.bool (Ne.eqb (Ne.mk (Cl.mk (Co.mk ctk1 ctv1 ctds1 ctks1) ces1) ss1 hs1) (Ne.mk (Cl.mk (Co.mk ctk2 ctv2 ctds2 ctks2) ces2) ss2 hs2))) ∧ Below w.heap.size w w' := by
  have HE := hid (show Ne.eqb (Ne.mk (Cl.mk (Co.mk ctk1 ctv1 ctds1 ctks1) ces1) ss1 hs1) (Ne.mk (Cl.mk (Co.mk ctk2 ctv2 ctds2 ctks2) ces2) ss2 hs2) = (Cl.eqb (Cl.mk (Co.mk ctk1 ctv1 ctds1 ctks1) ces1) (Cl.mk (Co.mk ctk2 ctv2 ctds2 ctks2) ces2) && (eqBy Fr.eqb ss1 ss2 && eqBy Th.eqb hs1 hs2)) from rfl)
  have HX0 := hid (((Boxes.nil w).alloc #[.int .i64 ctk1, .int .i64 ctv1, .slice actds1 ctds1.length cctds1, .slice actks1 ctks1.length cctks1, .slice aces1 ces1.length cces1, .slice ass1 ss1.length css1, .slice ahs1 hs1.length chs1] 63 (0, 0)).alloc #[.int .i64 ctk2, .int .i64 ctv2, .slice actds2 ctds2.length cctds2, .slice actks2 ctks2.length cctks2, .slice aces2 ces2.length cces2, .slice ass2 ss2.length css2, .slice ahs2 hs2.length chs2] 63 (0, 0))
  have HB0 := hid (show Below w.heap.size w ((w.alloc (.cells #[.int .i64 ctk1, .int .i64 ctv1, .slice actds1 ctds1.length cctds1, .slice actks1 ctks1.length cctks1, .slice aces1 ces1.length cces1, .slice ass1 ss1.length css1, .slice ahs1 hs1.length chs1] 63)).alloc (.cells #[.int .i64 ctk2, .int .i64 ctv2, .slice actds2 ctds2.length cctds2, .slice actks2 ctks2.length cctks2, .slice aces2 ces2.length cces2, .slice ass2 ss2.length css2, .slice ahs2 hs2.length chs2] 63)) from ((Below.refl _ _).alloc (Nat.le_refl _) _).alloc (by simp) _)
  have hc0 := fun W (hW : Below w.heap.size w W) => impl_sameClosure ctk1 ctv1 ctds1 ctks1 ces1 actds1 cctds1 actks1 cctks1 aces1 cces1 ctk2 ctv2 ctds2 ctks2 ces2 actds2 cctds2 actks2 cctks2 aces2 cces2 W (hr.subNe_c.below hW) (hr'.subNe_c.below hW)
  have HC0 := hid hc0
  have hc1 := fun W (hW : Below w.heap.size w W) => equalFunc_Fr 86 Try.call86 Fr.eqb ss1 ss2 ass1 ass2 css1 css2 W (hr.fNe.2.1.below hW) (hr'.fNe.2.1.below hW) (fun k3 v3 ds3 ctk3 ctv3 ctds3 ctks3 ces3 ads3 cds3 actds3 cctds3 actks3 cctks3 aces3 cces3 k4 v4 ds4 ctk4 ctv4 ctds4 ctks4 ces4 ads4 cds4 actds4 cctds4 actks4 cctks4 aces4 cces4 j V _ _ _ h h' => impl_sameFrame k3 v3 ds3 ctk3 ctv3 ctds3 ctks3 ces3 ads3 cds3 actds3 cctds3 actks3 cctks3 aces3 cces3 k4 v4 ds4 ctk4 ctv4 ctds4 ctks4 ces4 ads4 cds4 actds4 cctds4 actks4 cctks4 aces4 cces4 V h h')
  have HC1 := hid hc1
  have hc2 := fun W (hW : Below w.heap.size w W) => equalFunc_Th 88 Try.call88 Th.eqb hs1 hs2 ahs1 ahs2 chs1 chs2 W (hr.fNe.2.2.below hW) (hr'.fNe.2.2.below hW) (fun dn3 ctk3 ctv3 ctds3 ctks3 ces3 actds3 cctds3 actks3 cctks3 aces3 cces3 dn4 ctk4 ctv4 ctds4 ctks4 ces4 actds4 cctds4 actks4 cctks4 aces4 cces4 j V _ _ _ h h' => impl_sameThunk dn3 ctk3 ctv3 ctds3 ctks3 ces3 actds3 cctds3 actks3 cctks3 aces3 cces3 dn4 ctk4 ctv4 ctds4 ctks4 ces4 actds4 cctds4 actks4 cctks4 aces4 cces4 V h h')
  have HC2 := hid hc2
  clear hr hr' hc0 hc1 hc2
  by_cases h0 : (Cl.eqb (Cl.mk (Co.mk ctk1 ctv1 ctds1 ctks1) ces1) (Cl.mk (Co.mk ctk2 ctv2 ctds2 ctks2) ces2)) = true
  case neg =>
    replace h0 := (Bool.not_eq_true _).mp h0
    have HF := hid (show Ne.eqb (Ne.mk (Cl.mk (Co.mk ctk1 ctv1 ctds1 ctks1) ces1) ss1 hs1) (Ne.mk (Cl.mk (Co.mk ctk2 ctv2 ctds2 ctks2) ces2) ss2 hs2) = false by rw [HE.out]; simp only [h0, Bool.false_and])
    rw [h0] at HC0
    clear HE h0 HC1 HC2
    go_enter Try.func43, Try.ntmps43
    go_wp2_with fail
    refine (HC0.out _ HB0.out).mono ?_
    rintro e w1 ⟨rfl, hb⟩
    have HB1 := hid (HB0.out.trans (hb.mono HB0.out.size))
    have HX1 := hid (HX0.out.below hb)
    clear hb HC0
    have g0_0 := HX1.out.at 0 0 rfl rfl
    have g0_1 := HX1.out.at 0 1 rfl rfl
    have g0_2 := HX1.out.at 0 2 rfl rfl
    have g0_3 := HX1.out.at 0 3 rfl rfl
    have g0_4 := HX1.out.at 0 4 rfl rfl
    have g0_5 := HX1.out.at 0 5 rfl rfl
    have g0_6 := HX1.out.at 0 6 rfl rfl
    have g1_0 := HX1.out.at 1 0 rfl rfl
    have g1_1 := HX1.out.at 1 1 rfl rfl
    have g1_2 := HX1.out.at 1 2 rfl rfl
    have g1_3 := HX1.out.at 1 3 rfl rfl
    have g1_4 := HX1.out.at 1 4 rfl rfl
    have g1_5 := HX1.out.at 1 5 rfl rfl
    have g1_6 := HX1.out.at 1 6 rfl rfl
    simp only [World.size_alloc] at g0_0 g0_1 g0_2 g0_3 g0_4 g0_5 g0_6
    go_wp2_with fail
    go_ret
    exact ⟨ret_bool HF.out.symm, HB1.out⟩
  case pos =>
    rw [h0] at HC0
    by_cases h1 : (eqBy Fr.eqb ss1 ss2) = true
    case neg =>
      replace h1 := (Bool.not_eq_true _).mp h1
      have HF := hid (show Ne.eqb (Ne.mk (Cl.mk (Co.mk ctk1 ctv1 ctds1 ctks1) ces1) ss1 hs1) (Ne.mk (Cl.mk (Co.mk ctk2 ctv2 ctds2 ctks2) ces2) ss2 hs2) = false by rw [HE.out]; simp only [h1, Bool.false_and, Bool.and_false])
      rw [h1] at HC1
      clear HE h0 h1 HC2
      go_enter Try.func43, Try.ntmps43
      go_wp2_with fail
      refine (HC0.out _ HB0.out).mono ?_
      rintro e w1 ⟨rfl, hb⟩
      have HB1 := hid (HB0.out.trans (hb.mono HB0.out.size))
      have HX1 := hid (HX0.out.below hb)
      clear hb HC0
      have g0_0 := HX1.out.at 0 0 rfl rfl
      have g0_1 := HX1.out.at 0 1 rfl rfl
      have g0_2 := HX1.out.at 0 2 rfl rfl
      have g0_3 := HX1.out.at 0 3 rfl rfl
      have g0_4 := HX1.out.at 0 4 rfl rfl
      have g0_5 := HX1.out.at 0 5 rfl rfl
      have g0_6 := HX1.out.at 0 6 rfl rfl
      have g1_0 := HX1.out.at 1 0 rfl rfl
      have g1_1 := HX1.out.at 1 1 rfl rfl
      have g1_2 := HX1.out.at 1 2 rfl rfl
      have g1_3 := HX1.out.at 1 3 rfl rfl
      have g1_4 := HX1.out.at 1 4 rfl rfl
      have g1_5 := HX1.out.at 1 5 rfl rfl
      have g1_6 := HX1.out.at 1 6 rfl rfl
      simp only [World.size_alloc] at g0_0 g0_1 g0_2 g0_3 g0_4 g0_5 g0_6
      go_wp2_with fail
      clear g0_0 g0_1 g0_2 g0_3 g0_4 g0_5 g0_6 g1_0 g1_1 g1_2 g1_3 g1_4 g1_5 g1_6
      refine (HC1.out _ HB1.out).mono ?_
      rintro e w2 ⟨rfl, hb⟩
      have HB2 := hid (HB1.out.trans (hb.mono HB1.out.size))
      have HX2 := hid (HX1.out.below hb)
      clear hb HC1
      have g0_0 := HX2.out.at 0 0 rfl rfl
      have g0_1 := HX2.out.at 0 1 rfl rfl
      have g0_2 := HX2.out.at 0 2 rfl rfl
      have g0_3 := HX2.out.at 0 3 rfl rfl
      have g0_4 := HX2.out.at 0 4 rfl rfl
      have g0_5 := HX2.out.at 0 5 rfl rfl
      have g0_6 := HX2.out.at 0 6 rfl rfl
      have g1_0 := HX2.out.at 1 0 rfl rfl
      have g1_1 := HX2.out.at 1 1 rfl rfl
      have g1_2 := HX2.out.at 1 2 rfl rfl
      have g1_3 := HX2.out.at 1 3 rfl rfl
      have g1_4 := HX2.out.at 1 4 rfl rfl
      have g1_5 := HX2.out.at 1 5 rfl rfl
      have g1_6 := HX2.out.at 1 6 rfl rfl
      simp only [World.size_alloc] at g0_0 g0_1 g0_2 g0_3 g0_4 g0_5 g0_6
      go_wp2_with fail
      go_ret
      exact ⟨ret_bool HF.out.symm, HB2.out⟩
    case pos =>
      rw [h1] at HC1
      have HF := hid (show Ne.eqb (Ne.mk (Cl.mk (Co.mk ctk1 ctv1 ctds1 ctks1) ces1) ss1 hs1) (Ne.mk (Cl.mk (Co.mk ctk2 ctv2 ctds2 ctks2) ces2) ss2 hs2) = eqBy Th.eqb hs1 hs2 by rw [HE.out]; simp only [h0, h1, Bool.true_and])
      clear HE h0 h1
      go_enter Try.func43, Try.ntmps43
      go_wp2_with fail
      refine (HC0.out _ HB0.out).mono ?_
      rintro e w1 ⟨rfl, hb⟩
      have HB1 := hid (HB0.out.trans (hb.mono HB0.out.size))
      have HX1 := hid (HX0.out.below hb)
      clear hb HC0
      have g0_0 := HX1.out.at 0 0 rfl rfl
      have g0_1 := HX1.out.at 0 1 rfl rfl
      have g0_2 := HX1.out.at 0 2 rfl rfl
      have g0_3 := HX1.out.at 0 3 rfl rfl
      have g0_4 := HX1.out.at 0 4 rfl rfl
      have g0_5 := HX1.out.at 0 5 rfl rfl
      have g0_6 := HX1.out.at 0 6 rfl rfl
      have g1_0 := HX1.out.at 1 0 rfl rfl
      have g1_1 := HX1.out.at 1 1 rfl rfl
      have g1_2 := HX1.out.at 1 2 rfl rfl
      have g1_3 := HX1.out.at 1 3 rfl rfl
      have g1_4 := HX1.out.at 1 4 rfl rfl
      have g1_5 := HX1.out.at 1 5 rfl rfl
      have g1_6 := HX1.out.at 1 6 rfl rfl
      simp only [World.size_alloc] at g0_0 g0_1 g0_2 g0_3 g0_4 g0_5 g0_6
      go_wp2_with fail
      clear g0_0 g0_1 g0_2 g0_3 g0_4 g0_5 g0_6 g1_0 g1_1 g1_2 g1_3 g1_4 g1_5 g1_6
      refine (HC1.out _ HB1.out).mono ?_
      rintro e w2 ⟨rfl, hb⟩
      have HB2 := hid (HB1.out.trans (hb.mono HB1.out.size))
      have HX2 := hid (HX1.out.below hb)
      clear hb HC1
      have g0_0 := HX2.out.at 0 0 rfl rfl
      have g0_1 := HX2.out.at 0 1 rfl rfl
      have g0_2 := HX2.out.at 0 2 rfl rfl
      have g0_3 := HX2.out.at 0 3 rfl rfl
      have g0_4 := HX2.out.at 0 4 rfl rfl
      have g0_5 := HX2.out.at 0 5 rfl rfl
      have g0_6 := HX2.out.at 0 6 rfl rfl
      have g1_0 := HX2.out.at 1 0 rfl rfl
      have g1_1 := HX2.out.at 1 1 rfl rfl
      have g1_2 := HX2.out.at 1 2 rfl rfl
      have g1_3 := HX2.out.at 1 3 rfl rfl
      have g1_4 := HX2.out.at 1 4 rfl rfl
      have g1_5 := HX2.out.at 1 5 rfl rfl
      have g1_6 := HX2.out.at 1 6 rfl rfl
      simp only [World.size_alloc] at g0_0 g0_1 g0_2 g0_3 g0_4 g0_5 g0_6
      go_wp2_with fail
      clear g0_0 g0_1 g0_2 g0_3 g0_4 g0_5 g0_6 g1_0 g1_1 g1_2 g1_3 g1_4 g1_5 g1_6
      refine (HC2.out _ HB2.out).mono ?_
      rintro e w3 ⟨rfl, hb⟩
      have HB3 := hid (HB2.out.trans (hb.mono HB2.out.size))
      have HX3 := hid (HX2.out.below hb)
      clear hb HC2
      have g0_0 := HX3.out.at 0 0 rfl rfl
      have g0_1 := HX3.out.at 0 1 rfl rfl
      have g0_2 := HX3.out.at 0 2 rfl rfl
      have g0_3 := HX3.out.at 0 3 rfl rfl
      have g0_4 := HX3.out.at 0 4 rfl rfl
      have g0_5 := HX3.out.at 0 5 rfl rfl
      have g0_6 := HX3.out.at 0 6 rfl rfl
      have g1_0 := HX3.out.at 1 0 rfl rfl
      have g1_1 := HX3.out.at 1 1 rfl rfl
      have g1_2 := HX3.out.at 1 2 rfl rfl
      have g1_3 := HX3.out.at 1 3 rfl rfl
      have g1_4 := HX3.out.at 1 4 rfl rfl
      have g1_5 := HX3.out.at 1 5 rfl rfl
      have g1_6 := HX3.out.at 1 6 rfl rfl
      simp only [World.size_alloc] at g0_0 g0_1 g0_2 g0_3 g0_4 g0_5 g0_6
      go_wp2_with fail
      go_ret
      exact ⟨ret_bool HF.out.symm, HB3.out⟩

end Go.Proofs.Ytgbiefjokohkkaa
