/- Walks: frames and states, in the program. -/
import Derived.Test.YtlbebnmhldolnaaNdI2
import Derived.Test.YtlbebnmhldolnaaAnyFr
namespace Go.Proofs.Ytlbebnmhldolnaa
open Go.ChangeShapes Go.WideShapes Go.ChangeAt Go.RowKit Go.BigFrame
open Go.Sort (grow)
set_option linter.unusedVariables false

set_option maxRecDepth 100000 in
set_option maxHeartbeats 4000000 in
theorem impl_validFrame (mb mo h : Nat) (ahs : Option Addr) (chs : Nat) (n : Nat) (ab : Option Addr) (cb : Nat) (k1 : Int) (v1 : Int) (ds1 : List Int) (ctk1 : Int) (ctv1 : Int) (ctds1 : List Int) (ctks1 : List Co) (ces1 : List Int) (ads1 : Option Addr) (cds1 : Nat) (actds1 : Option Addr) (cctds1 : Nat) (actks1 : Option Addr) (cctks1 : Nat) (aces1 : Option Addr) (cces1 : Nat) (w : World) (hn : n ≤ 1048576) (hh : h ≤ 1048576) (hM : Fr.bulk (Fr.mk k1 v1 ds1 (Cl.mk (Co.mk ctk1 ctv1 ctds1 ctks1) ces1)) ≤ 1048576) (x6 : w.cell? ⟨mb, mo + 6, none⟩ = some (.slice ahs h chs)) (hr : RdS w (Fr.d (Fr.mk k1 v1 ds1 (Cl.mk (Co.mk ctk1 ctv1 ctds1 ctks1) ces1))) [.int .i64 k1, .int .i64 v1, .slice ads1 ds1.length cds1, .int .i64 ctk1, .int .i64 ctv1, .slice actds1 ctds1.length cctds1, .slice actks1 ctks1.length cctks1, .slice aces1 ces1.length cces1]) :
    Calls Try.prog 64 #[.pointer (some ⟨mb, mo, none⟩), .agg #[.slice ab n cb], .agg #[.int .i64 k1, .int .i64 v1, .slice ads1 ds1.length cds1, .int .i64 ctk1, .int .i64 ctv1, .slice actds1 ctds1.length cctds1, .slice actks1 ctks1.length cctks1, .slice aces1 ces1.length cces1]] w fun e w' => e = .returned (.bool (frOk n h (Fr.mk k1 v1 ds1 (Cl.mk (Co.mk ctk1 ctv1 ctds1 ctks1) ces1)))) ∧ Below w.heap.size w w' := by
  have hrc := RdS.subFr_c hr
  have hbk : Fr.bulk (Fr.mk k1 v1 ds1 (Cl.mk (Co.mk ctk1 ctv1 ctds1 ctks1) ces1)) = In.bulks ds1 + Cl.bulk (Cl.mk (Co.mk ctk1 ctv1 ctds1 ctks1) ces1) := rfl
  have hdl := In.bulks_length ds1
  have hMc : Cl.bulk (Cl.mk (Co.mk ctk1 ctv1 ctds1 ctks1) ces1) ≤ 1048576 := by omega
  have hds : ds1.length ≤ 1048576 := by omega
  have hB := ((Below.refl w.heap.size w).alloc (Nat.le_refl _) (.cells #[.slice ab n cb] 45)).alloc (by simp) (.cells #[.int .i64 k1, .int .i64 v1, .slice ads1 ds1.length cds1, .int .i64 ctk1, .int .i64 ctv1, .slice actds1 ctds1.length cctds1, .slice actks1 ctks1.length cctks1, .slice aces1 ces1.length cces1] 102)
  have hx0 := (((Boxes.nil w).alloc #[.slice ab n cb] 45 (0, 0)).alloc #[.int .i64 k1, .int .i64 v1, .slice ads1 ds1.length cds1, .int .i64 ctk1, .int .i64 ctv1, .slice actds1 ctds1.length cctds1, .slice actks1 ctks1.length cctks1, .slice aces1 ces1.length cces1] 102 (0, 0))
  generalize hw3 : (w.alloc (.cells #[.slice ab n cb] 45)).alloc (.cells #[.int .i64 k1, .int .i64 v1, .slice ads1 ds1.length cds1, .int .i64 ctk1, .int .i64 ctv1, .slice actds1 ctds1.length cctds1, .slice actks1 ctks1.length cctks1, .slice aces1 ces1.length cces1] 102) = w3 at hB hx0
  simp only [World.size_alloc] at hx0
  have HX0 := hid hx0
  have X6 := hid ((hB.cell (p := ⟨mb, mo + 6, none⟩) (World.block_lt_of_cell? _ _ x6)).trans x6)
  have XL := hid (World.block_lt_of_cell? _ _ X6.out)
  have hrc3 := hrc.below hB
  have hrd3 := hr.fFr.2.2.1.below hB
  have HNO := hid (impl_isBlank ctk1 ctv1 ctds1 ctks1 ces1 actds1 cctds1 actks1 cctks1 aces1 cces1 w3 hrc3)
  have HAD := hid (fun W (hW : Below w3.heap.size w3 W) => impl_isAddress mb mo h ahs chs v1 W hh ((hW.cell (p := ⟨mb, mo + 6, none⟩) XL.out).trans X6.out))
  have HCL := hid (fun W (hW : Below w3.heap.size w3 W) => impl_validClosure mb mo h ahs chs n ab cb ctk1 ctv1 ctds1 ctks1 ces1 actds1 cctds1 actks1 cctks1 aces1 cces1 W hn hh hMc ((hW.cell (p := ⟨mb, mo + 6, none⟩) XL.out).trans X6.out) (hrc3.below hW))
  have HDE := hid (fun W (hW : Below w3.heap.size w3 W) => impl_areDefs n ab cb ds1 ads1 cds1 W hn (hrd3.below hW))
  have hdr := hrd3.eIn
  have HB0 := hid hB
  subst hw3
  clear hr hrc hrc3 hrd3 hbk hdl hM hMc hB hx0 x6
  by_cases c3 : k1 = 3
  case pos =>
    have g3 : (k1 != 3) = false := by simp [c3]
    have g3b : (k1 == 3) = true := by simp [c3]
    have g31 : (k1 == 1) = false := by simp [c3]
    have g32 : (k1 == 2) = false := by simp [c3]
    have HE := hid (show frOk n h (Fr.mk k1 v1 ds1 (Cl.mk (Co.mk ctk1 ctv1 ctds1 ctks1) ces1)) = (inR v1 1 6 && (decide (ds1.length = 0) && clOk n h (Cl.mk (Co.mk ctk1 ctv1 ctds1 ctks1) ces1))) by rw [frOk, if_pos c3])
    have HC0 := hid (Below.refl ((w.alloc (.cells #[.slice ab n cb] 45)).alloc (.cells #[.int .i64 k1, .int .i64 v1, .slice ads1 ds1.length cds1, .int .i64 ctk1, .int .i64 ctv1, .slice actds1 ctds1.length cctds1, .slice actks1 ctks1.length cctks1, .slice aces1 ces1.length cces1] 102)).heap.size ((w.alloc (.cells #[.slice ab n cb] 45)).alloc (.cells #[.int .i64 k1, .int .i64 v1, .slice ads1 ds1.length cds1, .int .i64 ctk1, .int .i64 ctv1, .slice actds1 ctds1.length cctds1, .slice actks1 ctks1.length cctks1, .slice aces1 ces1.length cces1] 102)))
    have HBE := hid HB0.out
    clear c3 hdr
    by_cases e1 : inR v1 1 6 = true
    case neg =>
      have HF := hid (show frOk n h (Fr.mk k1 v1 ds1 (Cl.mk (Co.mk ctk1 ctv1 ctds1 ctks1) ces1)) = false by rw [HE.out]; simp [e1])
      have E1 := hid ((Bool.not_eq_true _).mp e1)
      clear e1
      go_enter Try.func64, Try.ntmps64
      go_wp2_with fail
      refine (impl_isOperator _ _).mono ?_
      rw [E1.out]
      rintro e w2 ⟨rfl, rfl⟩
      go_wp2_with fail
      go_ret
      exact ⟨ret_bool HF.out.symm, HBE.out⟩
    case pos =>
    have E1 := hid e1
    by_cases e2 : ds1.length = 0
    case neg =>
      have g2 : ((ds1.length : Int) == 0) = false := by simpa using e2
      have HF := hid (show frOk n h (Fr.mk k1 v1 ds1 (Cl.mk (Co.mk ctk1 ctv1 ctds1 ctks1) ces1)) = false by rw [HE.out]; simp [e2])
      clear e1 e2
      go_enter Try.func64, Try.ntmps64
      go_wp2_with fail
      refine (impl_isOperator _ _).mono ?_
      rw [E1.out]
      rintro e w2 ⟨rfl, rfl⟩
      go_wp2_with fail
      go_ret
      exact ⟨ret_bool HF.out.symm, HBE.out⟩
    case pos =>
      have g2 : ((ds1.length : Int) == 0) = true := by simpa using e2
      have HF := hid (show frOk n h (Fr.mk k1 v1 ds1 (Cl.mk (Co.mk ctk1 ctv1 ctds1 ctks1) ces1)) = clOk n h (Cl.mk (Co.mk ctk1 ctv1 ctds1 ctks1) ces1) by rw [HE.out]; simp [e1, e2])
      clear e1 e2
      go_enter Try.func64, Try.ntmps64
      go_wp2_with fail
      refine (impl_isOperator _ _).mono ?_
      rw [E1.out]
      rintro e w2 ⟨rfl, rfl⟩
      go_wp2_with fail
      refine (HCL.out _ HC0.out).mono ?_
      rintro e w3 ⟨rfl, hb⟩
      have HBF := hid (HBE.out.trans (hb.mono HBE.out.size))
      clear hb
      go_wp2_with fail
      go_ret
      exact ⟨ret_bool HF.out.symm, HBF.out⟩
  case neg =>
  have g3 : (k1 != 3) = true := by simp [c3]
  have g3b : (k1 == 3) = false := by simp [c3]
  have HE0 := hid (show frOk n h (Fr.mk k1 v1 ds1 (Cl.mk (Co.mk ctk1 ctv1 ctds1 ctks1) ces1)) = (clNone (Cl.mk (Co.mk ctk1 ctv1 ctds1 ctks1) ces1) && frRest n h k1 v1 ds1) by rw [frOk, if_neg c3])
  clear HCL
  by_cases e0 : clNone (Cl.mk (Co.mk ctk1 ctv1 ctds1 ctks1) ces1) = true
  case neg =>
    have HF := hid (show frOk n h (Fr.mk k1 v1 ds1 (Cl.mk (Co.mk ctk1 ctv1 ctds1 ctks1) ces1)) = false by rw [HE0.out]; simp [e0])
    have E0 := hid ((Bool.not_eq_true _).mp e0)
    clear e0 c3 hdr
    go_enter Try.func64, Try.ntmps64
    go_wp2_with fail
    refine HNO.out.mono ?_
    rw [E0.out]
    rintro e w1 ⟨rfl, hb⟩
    have HC0 := hid hb
    have HX1 := hid (HX0.out.below hb)
    have HBE := hid (HB0.out.trans (hb.mono HB0.out.size))
    clear hb
    have y0 := HX1.out.at 0 0 rfl rfl
    have y1 := HX1.out.at 0 1 rfl rfl
    have y2 := HX1.out.at 0 2 rfl rfl
    have y3 := HX1.out.at 0 3 rfl rfl
    have y4 := HX1.out.at 0 4 rfl rfl
    have y5 := HX1.out.at 0 5 rfl rfl
    have y6 := HX1.out.at 0 6 rfl rfl
    have y7 := HX1.out.at 0 7 rfl rfl
    have yb := HX1.out.at 1 0 rfl rfl
    go_wp2_with fail
    go_ret
    exact ⟨ret_bool HF.out.symm, HBE.out⟩
  case pos =>
  have HE1 := hid (show frOk n h (Fr.mk k1 v1 ds1 (Cl.mk (Co.mk ctk1 ctv1 ctds1 ctks1) ces1)) = frRest n h k1 v1 ds1 by rw [HE0.out, e0]; rfl)
  have E0 := hid e0
  clear e0 c3 HE0
  by_cases c1 : k1 = 1
  case pos =>
    have g1 : (k1 == 1) = true := by simp [c1]
    have HE := hid (show frOk n h (Fr.mk k1 v1 ds1 (Cl.mk (Co.mk ctk1 ctv1 ctds1 ctks1) ces1)) = (inR v1 0 ((h : Int) - 1) && decide (ds1.length = 0)) by rw [HE1.out, frRest, if_pos c1])
    clear c1 hdr
    by_cases e1 : inR v1 0 ((h : Int) - 1) = true
    case neg =>
      have HF := hid (show frOk n h (Fr.mk k1 v1 ds1 (Cl.mk (Co.mk ctk1 ctv1 ctds1 ctks1) ces1)) = false by rw [HE.out]; simp [e1])
      have E1 := hid ((Bool.not_eq_true _).mp e1)
      clear e1
      go_enter Try.func64, Try.ntmps64
      go_wp2_with fail
      refine HNO.out.mono ?_
      rw [E0.out]
      rintro e w1 ⟨rfl, hb⟩
      have HC0 := hid hb
      have HX1 := hid (HX0.out.below hb)
      have HBE := hid (HB0.out.trans (hb.mono HB0.out.size))
      clear hb
      have y0 := HX1.out.at 0 0 rfl rfl
      have y1 := HX1.out.at 0 1 rfl rfl
      have y2 := HX1.out.at 0 2 rfl rfl
      have y3 := HX1.out.at 0 3 rfl rfl
      have y4 := HX1.out.at 0 4 rfl rfl
      have y5 := HX1.out.at 0 5 rfl rfl
      have y6 := HX1.out.at 0 6 rfl rfl
      have y7 := HX1.out.at 0 7 rfl rfl
      have yb := HX1.out.at 1 0 rfl rfl
      go_wp2_with fail
      refine (HAD.out _ HC0.out).mono ?_
      rw [show upTo h v1 = _ from E1.out]
      rintro e w2 ⟨rfl, rfl⟩
      go_wp2_with fail
      go_ret
      exact ⟨ret_bool HF.out.symm, HBE.out⟩
    case pos =>
      have E1 := hid e1
      have HF := hid (show frOk n h (Fr.mk k1 v1 ds1 (Cl.mk (Co.mk ctk1 ctv1 ctds1 ctks1) ces1)) = decide (ds1.length = 0) by rw [HE.out, e1]; rfl)
      obtain ⟨bz, gz⟩ : ∃ b, decide (ds1.length = 0) = b := ⟨_, rfl⟩
      have gz2 : ((ds1.length : Int) == 0) = bz := by rw [← gz]; by_cases hz : ds1.length = 0 <;> simp [hz]
      rw [gz] at HF
      clear e1 gz
      go_enter Try.func64, Try.ntmps64
      go_wp2_with fail
      refine HNO.out.mono ?_
      rw [E0.out]
      rintro e w1 ⟨rfl, hb⟩
      have HC0 := hid hb
      have HX1 := hid (HX0.out.below hb)
      have HBE := hid (HB0.out.trans (hb.mono HB0.out.size))
      clear hb
      have y0 := HX1.out.at 0 0 rfl rfl
      have y1 := HX1.out.at 0 1 rfl rfl
      have y2 := HX1.out.at 0 2 rfl rfl
      have y3 := HX1.out.at 0 3 rfl rfl
      have y4 := HX1.out.at 0 4 rfl rfl
      have y5 := HX1.out.at 0 5 rfl rfl
      have y6 := HX1.out.at 0 6 rfl rfl
      have y7 := HX1.out.at 0 7 rfl rfl
      have yb := HX1.out.at 1 0 rfl rfl
      go_wp2_with fail
      refine (HAD.out _ HC0.out).mono ?_
      rw [show upTo h v1 = _ from E1.out]
      rintro e w2 ⟨rfl, rfl⟩
      go_wp2_with fail
      go_ret
      exact ⟨ret_bool HF.out.symm, HBE.out⟩
  case neg =>
  have g1 : (k1 == 1) = false := by simp [c1]
  by_cases c2 : k1 = 2
  case pos =>
    have g2 : (k1 == 2) = true := by simp [c2]
    have HE := hid (show frOk n h (Fr.mk k1 v1 ds1 (Cl.mk (Co.mk ctk1 ctv1 ctds1 ctks1) ces1)) = (inR v1 0 ((h : Int) - 1) && decide (ds1.length = 0)) by rw [HE1.out, frRest, if_neg c1, if_pos c2])
    clear c1 c2 hdr
    by_cases e1 : inR v1 0 ((h : Int) - 1) = true
    case neg =>
      have HF := hid (show frOk n h (Fr.mk k1 v1 ds1 (Cl.mk (Co.mk ctk1 ctv1 ctds1 ctks1) ces1)) = false by rw [HE.out]; simp [e1])
      have E1 := hid ((Bool.not_eq_true _).mp e1)
      clear e1
      go_enter Try.func64, Try.ntmps64
      go_wp2_with fail
      refine HNO.out.mono ?_
      rw [E0.out]
      rintro e w1 ⟨rfl, hb⟩
      have HC0 := hid hb
      have HX1 := hid (HX0.out.below hb)
      have HBE := hid (HB0.out.trans (hb.mono HB0.out.size))
      clear hb
      have y0 := HX1.out.at 0 0 rfl rfl
      have y1 := HX1.out.at 0 1 rfl rfl
      have y2 := HX1.out.at 0 2 rfl rfl
      have y3 := HX1.out.at 0 3 rfl rfl
      have y4 := HX1.out.at 0 4 rfl rfl
      have y5 := HX1.out.at 0 5 rfl rfl
      have y6 := HX1.out.at 0 6 rfl rfl
      have y7 := HX1.out.at 0 7 rfl rfl
      have yb := HX1.out.at 1 0 rfl rfl
      go_wp2_with fail
      refine (HAD.out _ HC0.out).mono ?_
      rw [show upTo h v1 = _ from E1.out]
      rintro e w2 ⟨rfl, rfl⟩
      go_wp2_with fail
      go_ret
      exact ⟨ret_bool HF.out.symm, HBE.out⟩
    case pos =>
      have E1 := hid e1
      have HF := hid (show frOk n h (Fr.mk k1 v1 ds1 (Cl.mk (Co.mk ctk1 ctv1 ctds1 ctks1) ces1)) = decide (ds1.length = 0) by rw [HE.out, e1]; rfl)
      obtain ⟨bz, gz⟩ : ∃ b, decide (ds1.length = 0) = b := ⟨_, rfl⟩
      have gz2 : ((ds1.length : Int) == 0) = bz := by rw [← gz]; by_cases hz : ds1.length = 0 <;> simp [hz]
      rw [gz] at HF
      clear e1 gz
      go_enter Try.func64, Try.ntmps64
      go_wp2_with fail
      refine HNO.out.mono ?_
      rw [E0.out]
      rintro e w1 ⟨rfl, hb⟩
      have HC0 := hid hb
      have HX1 := hid (HX0.out.below hb)
      have HBE := hid (HB0.out.trans (hb.mono HB0.out.size))
      clear hb
      have y0 := HX1.out.at 0 0 rfl rfl
      have y1 := HX1.out.at 0 1 rfl rfl
      have y2 := HX1.out.at 0 2 rfl rfl
      have y3 := HX1.out.at 0 3 rfl rfl
      have y4 := HX1.out.at 0 4 rfl rfl
      have y5 := HX1.out.at 0 5 rfl rfl
      have y6 := HX1.out.at 0 6 rfl rfl
      have y7 := HX1.out.at 0 7 rfl rfl
      have yb := HX1.out.at 1 0 rfl rfl
      go_wp2_with fail
      refine (HAD.out _ HC0.out).mono ?_
      rw [show upTo h v1 = _ from E1.out]
      rintro e w2 ⟨rfl, rfl⟩
      go_wp2_with fail
      go_ret
      exact ⟨ret_bool HF.out.symm, HBE.out⟩
  case neg =>
  have g2 : (k1 == 2) = false := by simp [c2]
  by_cases c4 : k1 = 4
  case pos =>
    have g4 : (k1 == 4) = true := by simp [c4]
    have HE := hid (show frOk n h (Fr.mk k1 v1 ds1 (Cl.mk (Co.mk ctk1 ctv1 ctds1 ctks1) ces1)) = (inR v1 1 6 && (decide (ds1.length = 1) && inR (ds1.headD 0) (-2147483648) 2147483647)) by rw [HE1.out, frRest, if_neg c1, if_neg c2, if_pos c4])
    clear c1 c2 c4
    by_cases e1 : inR v1 1 6 = true
    case neg =>
      have HF := hid (show frOk n h (Fr.mk k1 v1 ds1 (Cl.mk (Co.mk ctk1 ctv1 ctds1 ctks1) ces1)) = false by rw [HE.out]; simp [e1])
      have E1 := hid ((Bool.not_eq_true _).mp e1)
      clear e1 hdr
      go_enter Try.func64, Try.ntmps64
      go_wp2_with fail
      refine HNO.out.mono ?_
      rw [E0.out]
      rintro e w1 ⟨rfl, hb⟩
      have HC0 := hid hb
      have HX1 := hid (HX0.out.below hb)
      have HBE := hid (HB0.out.trans (hb.mono HB0.out.size))
      clear hb
      have y0 := HX1.out.at 0 0 rfl rfl
      have y1 := HX1.out.at 0 1 rfl rfl
      have y2 := HX1.out.at 0 2 rfl rfl
      have y3 := HX1.out.at 0 3 rfl rfl
      have y4 := HX1.out.at 0 4 rfl rfl
      have y5 := HX1.out.at 0 5 rfl rfl
      have y6 := HX1.out.at 0 6 rfl rfl
      have y7 := HX1.out.at 0 7 rfl rfl
      have yb := HX1.out.at 1 0 rfl rfl
      go_wp2_with fail
      refine (impl_isOperator _ _).mono ?_
      rw [E1.out]
      rintro e w2 ⟨rfl, rfl⟩
      go_wp2_with fail
      go_ret
      exact ⟨ret_bool HF.out.symm, HBE.out⟩
    case pos =>
    have E1 := hid e1
    by_cases e2 : ds1.length = 1
    case neg =>
      have g2 : ((ds1.length : Int) == 1) = false := by simp; omega
      have HF := hid (show frOk n h (Fr.mk k1 v1 ds1 (Cl.mk (Co.mk ctk1 ctv1 ctds1 ctks1) ces1)) = false by rw [HE.out]; simp [e2])
      clear e1 e2 hdr
      go_enter Try.func64, Try.ntmps64
      go_wp2_with fail
      refine HNO.out.mono ?_
      rw [E0.out]
      rintro e w1 ⟨rfl, hb⟩
      have HC0 := hid hb
      have HX1 := hid (HX0.out.below hb)
      have HBE := hid (HB0.out.trans (hb.mono HB0.out.size))
      clear hb
      have y0 := HX1.out.at 0 0 rfl rfl
      have y1 := HX1.out.at 0 1 rfl rfl
      have y2 := HX1.out.at 0 2 rfl rfl
      have y3 := HX1.out.at 0 3 rfl rfl
      have y4 := HX1.out.at 0 4 rfl rfl
      have y5 := HX1.out.at 0 5 rfl rfl
      have y6 := HX1.out.at 0 6 rfl rfl
      have y7 := HX1.out.at 0 7 rfl rfl
      have yb := HX1.out.at 1 0 rfl rfl
      go_wp2_with fail
      refine (impl_isOperator _ _).mono ?_
      rw [E1.out]
      rintro e w2 ⟨rfl, rfl⟩
      go_wp2_with fail
      go_ret
      exact ⟨ret_bool HF.out.symm, HBE.out⟩
    case pos =>
      have g2 : ((ds1.length : Int) == 1) = true := by simp; omega
      obtain ⟨_, _, e, h2, h3, h4⟩ := hdr
      simp only [Value.slice.injEq, true_and] at e
      obtain ⟨rfl, rfl⟩ := e
      obtain ⟨b, o, rfl, hbl, hall⟩ := h4 (by omega)
      obtain ⟨t, ht⟩ : ∃ t, ds1[0]? = some t := ⟨_, List.getElem?_eq_getElem (by omega)⟩
      have q0 := (hall 0 t ht).1
      rw [Nat.add_zero] at q0
      have Q0 := hid q0
      have QL := hid hbl
      have hth : ds1.headD 0 = t := by cases ds1 with | nil => simp at ht | cons a l => simpa using ht
      have HF := hid (show frOk n h (Fr.mk k1 v1 ds1 (Cl.mk (Co.mk ctk1 ctv1 ctds1 ctks1) ces1)) = inR t (-2147483648) 2147483647 by rw [HE.out, hth]; simp [e1, e2])
      have hl0 : (0 : Int) < ds1.length := by omega
      have hl1 : 0 < ds1.length := by omega
      clear e1 e2 h4 hall ht hth h2 h3 q0 hbl
      go_enter Try.func64, Try.ntmps64
      go_wp2_with fail
      refine HNO.out.mono ?_
      rw [E0.out]
      rintro e w1 ⟨rfl, hb⟩
      have HC0 := hid hb
      have HX1 := hid (HX0.out.below hb)
      have HBE := hid (HB0.out.trans (hb.mono HB0.out.size))
      clear hb
      have y0 := HX1.out.at 0 0 rfl rfl
      have y1 := HX1.out.at 0 1 rfl rfl
      have y2 := HX1.out.at 0 2 rfl rfl
      have y3 := HX1.out.at 0 3 rfl rfl
      have y4 := HX1.out.at 0 4 rfl rfl
      have y5 := HX1.out.at 0 5 rfl rfl
      have y6 := HX1.out.at 0 6 rfl rfl
      have y7 := HX1.out.at 0 7 rfl rfl
      have yb := HX1.out.at 1 0 rfl rfl
      go_wp2_with fail
      refine (impl_isOperator _ _).mono ?_
      rw [E1.out]
      rintro e w2 ⟨rfl, rfl⟩
      have p0 := (HC0.out.cell (p := ⟨b, o, none⟩) QL.out).trans Q0.out
      go_wp2_with fail
      refine (impl_isInt _ _).mono ?_
      rintro e w3 ⟨rfl, rfl⟩
      go_wp2_with fail
      go_ret
      exact ⟨ret_bool HF.out.symm, HBE.out⟩
  case neg =>
  have g4 : (k1 == 4) = false := by simp [c4]
  by_cases c5 : k1 = 5
  case pos =>
    have g5 : (k1 == 5) = true := by simp [c5]
    have HE := hid (show frOk n h (Fr.mk k1 v1 ds1 (Cl.mk (Co.mk ctk1 ctv1 ctds1 ctks1) ces1)) = (decide (v1 = 0) && (inR ds1.length 1 4 && ds1.all (upTo n))) by rw [HE1.out, frRest, if_neg c1, if_neg c2, if_neg c4, if_pos c5])
    clear c1 c2 c4 c5 hdr
    by_cases e1 : v1 = 0
    case neg =>
      have g1v : (v1 == 0) = false := by simp [e1]
      have HF := hid (show frOk n h (Fr.mk k1 v1 ds1 (Cl.mk (Co.mk ctk1 ctv1 ctds1 ctks1) ces1)) = false by rw [HE.out]; simp [e1])
      clear e1
      go_enter Try.func64, Try.ntmps64
      go_wp2_with fail
      refine HNO.out.mono ?_
      rw [E0.out]
      rintro e w1 ⟨rfl, hb⟩
      have HC0 := hid hb
      have HX1 := hid (HX0.out.below hb)
      have HBE := hid (HB0.out.trans (hb.mono HB0.out.size))
      clear hb
      have y0 := HX1.out.at 0 0 rfl rfl
      have y1 := HX1.out.at 0 1 rfl rfl
      have y2 := HX1.out.at 0 2 rfl rfl
      have y3 := HX1.out.at 0 3 rfl rfl
      have y4 := HX1.out.at 0 4 rfl rfl
      have y5 := HX1.out.at 0 5 rfl rfl
      have y6 := HX1.out.at 0 6 rfl rfl
      have y7 := HX1.out.at 0 7 rfl rfl
      have yb := HX1.out.at 1 0 rfl rfl
      go_wp2_with fail
      go_ret
      exact ⟨ret_bool HF.out.symm, HBE.out⟩
    case pos =>
    have g1v : (v1 == 0) = true := by simp [e1]
    by_cases e2 : 1 ≤ ds1.length
    case neg =>
      have g2 : decide ((1 : Int) ≤ ds1.length) = false := decide_eq_false (by omega)
      have HF := hid (show frOk n h (Fr.mk k1 v1 ds1 (Cl.mk (Co.mk ctk1 ctv1 ctds1 ctks1) ces1)) = false by rw [HE.out, inR_f (by omega)]; simp)
      clear e1 e2
      go_enter Try.func64, Try.ntmps64
      go_wp2_with fail
      refine HNO.out.mono ?_
      rw [E0.out]
      rintro e w1 ⟨rfl, hb⟩
      have HC0 := hid hb
      have HX1 := hid (HX0.out.below hb)
      have HBE := hid (HB0.out.trans (hb.mono HB0.out.size))
      clear hb
      have y0 := HX1.out.at 0 0 rfl rfl
      have y1 := HX1.out.at 0 1 rfl rfl
      have y2 := HX1.out.at 0 2 rfl rfl
      have y3 := HX1.out.at 0 3 rfl rfl
      have y4 := HX1.out.at 0 4 rfl rfl
      have y5 := HX1.out.at 0 5 rfl rfl
      have y6 := HX1.out.at 0 6 rfl rfl
      have y7 := HX1.out.at 0 7 rfl rfl
      have yb := HX1.out.at 1 0 rfl rfl
      go_wp2_with fail
      go_ret
      exact ⟨ret_bool HF.out.symm, HBE.out⟩
    case pos =>
    have g2 : decide ((1 : Int) ≤ ds1.length) = true := decide_eq_true (by omega)
    by_cases e3 : ds1.length ≤ 4
    case neg =>
      have g2b : decide ((ds1.length : Int) ≤ 4) = false := decide_eq_false (by omega)
      have HF := hid (show frOk n h (Fr.mk k1 v1 ds1 (Cl.mk (Co.mk ctk1 ctv1 ctds1 ctks1) ces1)) = false by rw [HE.out, inR_f (by omega)]; simp)
      clear e1 e2 e3
      go_enter Try.func64, Try.ntmps64
      go_wp2_with fail
      refine HNO.out.mono ?_
      rw [E0.out]
      rintro e w1 ⟨rfl, hb⟩
      have HC0 := hid hb
      have HX1 := hid (HX0.out.below hb)
      have HBE := hid (HB0.out.trans (hb.mono HB0.out.size))
      clear hb
      have y0 := HX1.out.at 0 0 rfl rfl
      have y1 := HX1.out.at 0 1 rfl rfl
      have y2 := HX1.out.at 0 2 rfl rfl
      have y3 := HX1.out.at 0 3 rfl rfl
      have y4 := HX1.out.at 0 4 rfl rfl
      have y5 := HX1.out.at 0 5 rfl rfl
      have y6 := HX1.out.at 0 6 rfl rfl
      have y7 := HX1.out.at 0 7 rfl rfl
      have yb := HX1.out.at 1 0 rfl rfl
      go_wp2_with fail
      go_ret
      exact ⟨ret_bool HF.out.symm, HBE.out⟩
    case pos =>
      have g2b : decide ((ds1.length : Int) ≤ 4) = true := decide_eq_true (by omega)
      have HF := hid (show frOk n h (Fr.mk k1 v1 ds1 (Cl.mk (Co.mk ctk1 ctv1 ctds1 ctks1) ces1)) = ds1.all (upTo n) by rw [HE.out, inR_t (by omega) (by omega)]; simp [e1])
      clear e1 e2 e3
      go_enter Try.func64, Try.ntmps64
      go_wp2_with fail
      refine HNO.out.mono ?_
      rw [E0.out]
      rintro e w1 ⟨rfl, hb⟩
      have HC0 := hid hb
      have HX1 := hid (HX0.out.below hb)
      have HBE := hid (HB0.out.trans (hb.mono HB0.out.size))
      clear hb
      have y0 := HX1.out.at 0 0 rfl rfl
      have y1 := HX1.out.at 0 1 rfl rfl
      have y2 := HX1.out.at 0 2 rfl rfl
      have y3 := HX1.out.at 0 3 rfl rfl
      have y4 := HX1.out.at 0 4 rfl rfl
      have y5 := HX1.out.at 0 5 rfl rfl
      have y6 := HX1.out.at 0 6 rfl rfl
      have y7 := HX1.out.at 0 7 rfl rfl
      have yb := HX1.out.at 1 0 rfl rfl
      go_wp2_with fail
      refine (HDE.out _ HC0.out).mono ?_
      rintro e w3 ⟨rfl, hb⟩
      have HBF := hid (HBE.out.trans (hb.mono HBE.out.size))
      clear hb
      go_wp2_with fail
      go_ret
      exact ⟨ret_bool HF.out.symm, HBF.out⟩
  case neg =>
  have g5 : (k1 == 5) = false := by simp [c5]
  by_cases c6 : k1 = 6
  case pos =>
    have g6 : (k1 == 6) = true := by simp [c6]
    have HE := hid (show frOk n h (Fr.mk k1 v1 ds1 (Cl.mk (Co.mk ctk1 ctv1 ctds1 ctks1) ces1)) = (decide (v1 = 0) && (decide (ds1.length = 2) && ds1.all (upTo n))) by rw [HE1.out, frRest, if_neg c1, if_neg c2, if_neg c4, if_neg c5, if_pos c6])
    clear c1 c2 c4 c5 c6 hdr
    by_cases e1 : v1 = 0
    case neg =>
      have g1v : (v1 == 0) = false := by simp [e1]
      have HF := hid (show frOk n h (Fr.mk k1 v1 ds1 (Cl.mk (Co.mk ctk1 ctv1 ctds1 ctks1) ces1)) = false by rw [HE.out]; simp [e1])
      clear e1
      go_enter Try.func64, Try.ntmps64
      go_wp2_with fail
      refine HNO.out.mono ?_
      rw [E0.out]
      rintro e w1 ⟨rfl, hb⟩
      have HC0 := hid hb
      have HX1 := hid (HX0.out.below hb)
      have HBE := hid (HB0.out.trans (hb.mono HB0.out.size))
      clear hb
      have y0 := HX1.out.at 0 0 rfl rfl
      have y1 := HX1.out.at 0 1 rfl rfl
      have y2 := HX1.out.at 0 2 rfl rfl
      have y3 := HX1.out.at 0 3 rfl rfl
      have y4 := HX1.out.at 0 4 rfl rfl
      have y5 := HX1.out.at 0 5 rfl rfl
      have y6 := HX1.out.at 0 6 rfl rfl
      have y7 := HX1.out.at 0 7 rfl rfl
      have yb := HX1.out.at 1 0 rfl rfl
      go_wp2_with fail
      go_ret
      exact ⟨ret_bool HF.out.symm, HBE.out⟩
    case pos =>
    have g1v : (v1 == 0) = true := by simp [e1]
    by_cases e2 : ds1.length = 2
    case neg =>
      have g2 : ((ds1.length : Int) == 2) = false := by simp; omega
      have HF := hid (show frOk n h (Fr.mk k1 v1 ds1 (Cl.mk (Co.mk ctk1 ctv1 ctds1 ctks1) ces1)) = false by rw [HE.out]; simp [e2])
      clear e1 e2
      go_enter Try.func64, Try.ntmps64
      go_wp2_with fail
      refine HNO.out.mono ?_
      rw [E0.out]
      rintro e w1 ⟨rfl, hb⟩
      have HC0 := hid hb
      have HX1 := hid (HX0.out.below hb)
      have HBE := hid (HB0.out.trans (hb.mono HB0.out.size))
      clear hb
      have y0 := HX1.out.at 0 0 rfl rfl
      have y1 := HX1.out.at 0 1 rfl rfl
      have y2 := HX1.out.at 0 2 rfl rfl
      have y3 := HX1.out.at 0 3 rfl rfl
      have y4 := HX1.out.at 0 4 rfl rfl
      have y5 := HX1.out.at 0 5 rfl rfl
      have y6 := HX1.out.at 0 6 rfl rfl
      have y7 := HX1.out.at 0 7 rfl rfl
      have yb := HX1.out.at 1 0 rfl rfl
      go_wp2_with fail
      go_ret
      exact ⟨ret_bool HF.out.symm, HBE.out⟩
    case pos =>
      have g2 : ((ds1.length : Int) == 2) = true := by simp; omega
      have HF := hid (show frOk n h (Fr.mk k1 v1 ds1 (Cl.mk (Co.mk ctk1 ctv1 ctds1 ctks1) ces1)) = ds1.all (upTo n) by rw [HE.out]; simp [e1, e2])
      clear e1 e2
      go_enter Try.func64, Try.ntmps64
      go_wp2_with fail
      refine HNO.out.mono ?_
      rw [E0.out]
      rintro e w1 ⟨rfl, hb⟩
      have HC0 := hid hb
      have HX1 := hid (HX0.out.below hb)
      have HBE := hid (HB0.out.trans (hb.mono HB0.out.size))
      clear hb
      have y0 := HX1.out.at 0 0 rfl rfl
      have y1 := HX1.out.at 0 1 rfl rfl
      have y2 := HX1.out.at 0 2 rfl rfl
      have y3 := HX1.out.at 0 3 rfl rfl
      have y4 := HX1.out.at 0 4 rfl rfl
      have y5 := HX1.out.at 0 5 rfl rfl
      have y6 := HX1.out.at 0 6 rfl rfl
      have y7 := HX1.out.at 0 7 rfl rfl
      have yb := HX1.out.at 1 0 rfl rfl
      go_wp2_with fail
      refine (HDE.out _ HC0.out).mono ?_
      rintro e w3 ⟨rfl, hb⟩
      have HBF := hid (HBE.out.trans (hb.mono HBE.out.size))
      clear hb
      go_wp2_with fail
      go_ret
      exact ⟨ret_bool HF.out.symm, HBF.out⟩
  case neg =>
    have g6 : (k1 == 6) = false := by simp [c6]
    have HF := hid (show frOk n h (Fr.mk k1 v1 ds1 (Cl.mk (Co.mk ctk1 ctv1 ctds1 ctks1) ces1)) = false by rw [HE1.out, frRest, if_neg c1, if_neg c2, if_neg c4, if_neg c5, if_neg c6])
    clear c1 c2 c4 c5 c6 hdr
    go_enter Try.func64, Try.ntmps64
    go_wp2_with fail
    refine HNO.out.mono ?_
    rw [E0.out]
    rintro e w1 ⟨rfl, hb⟩
    have HC0 := hid hb
    have HX1 := hid (HX0.out.below hb)
    have HBE := hid (HB0.out.trans (hb.mono HB0.out.size))
    clear hb
    have y0 := HX1.out.at 0 0 rfl rfl
    have y1 := HX1.out.at 0 1 rfl rfl
    have y2 := HX1.out.at 0 2 rfl rfl
    have y3 := HX1.out.at 0 3 rfl rfl
    have y4 := HX1.out.at 0 4 rfl rfl
    have y5 := HX1.out.at 0 5 rfl rfl
    have y6 := HX1.out.at 0 6 rfl rfl
    have y7 := HX1.out.at 0 7 rfl rfl
    have yb := HX1.out.at 1 0 rfl rfl
    go_wp2_with fail
    go_ret
    exact ⟨ret_bool HF.out.symm, HBE.out⟩
end Go.Proofs.Ytlbebnmhldolnaa
