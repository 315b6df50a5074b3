/- Walks: states of machines, in the reference. -/
import Derived.Test.YtlbebnmhldolnaaNdS2
namespace Go.Proofs.Ytlbebnmhldolnaa
open Go.ChangeShapes Go.WideShapes Go.ChangeAt Go.RowKit Go.BigFrame
open Go.Sort (grow)
set_option linter.unusedVariables false

theorem spec_l09Book (fs1 : List Co) (afs1 : Option Addr) (cfs1 : Nat) (b1 o1 : Nat) (w : World) (hM : Co.bulks fs1 ≤ 1048576) (x0 : w.cell? ⟨b1, o1, none⟩ = some (.slice afs1 fs1.length cfs1)) (hr : RdS w (Bk.d (.mk fs1)) [.slice afs1 fs1.length cfs1]) :
    Calls Try.prog 85 #[.pointer (some ⟨b1, o1, none⟩)] w fun e w' => e = .returned (.bool (bookEra fs1)) ∧ Below w.heap.size w w' := by
  have hc := spec_l06Book fs1 afs1 cfs1 b1 o1 w hM x0 hr
  by_cases hk : bookOk fs1 = true
  case neg =>
    have HF := hid (show bookEra fs1 = false by simp [bookEra, hk])
    rw [(Bool.not_eq_true _).mp hk] at hc
    have HC := hid hc
    clear hc hk hr x0
    go_enter Try.func85, Try.ntmps85
    go_wp2_with fail
    refine HC.out.mono ?_
    rintro e w2 ⟨rfl, hb⟩
    have HB := hid hb
    clear hb
    go_wp2_with fail
    go_ret
    exact ⟨ret_bool HF.out.symm, HB.out⟩
  case pos =>
  have HF := hid (show bookEra fs1 = fs1.all Co.era by simp [bookEra, hk])
  rw [hk] at hc
  have HC := hid hc
  obtain ⟨_, _, e, h2, h3, h4⟩ := hr.fBk.eCo
  simp only [Value.slice.injEq, true_and] at e
  obtain ⟨rfl, rfl⟩ := e
  have H4 := hid h4
  have XL := hid (World.block_lt_of_cell? _ _ x0)
  have X0 := hid x0
  have hlen := Co.bulks_length fs1
  clear hc hk hr h4 x0
  go_enter Try.func85, Try.ntmps85
  go_wp2_with fail
  refine HC.out.mono ?_
  rintro e w2 ⟨rfl, hb⟩
  have HB := hid hb
  clear hb HC
  go_wp2_with fail
  go_loopw [3] (fun i wr => ∃ (j : Nat), j ≤ fs1.length ∧ i = .int .i64 j ∧ Hid (∀ (i : Nat) t, i < j → fs1[i]? = some t → Co.era t = true) ∧ Below w.heap.size w wr) (fun i _ => fs1.length - (intOf i).toNat)
  case atStart => exact ⟨0, by omega, rfl, fun i t hi => absurd hi (by omega), HB.out⟩
  case round =>
    obtain ⟨j, hj, rfl, HJ, hb⟩ := hrel
    have z0 := (hb.cell (p := ⟨b1, o1, none⟩) XL.out).trans X0.out
    by_cases hlt : j < fs1.length
    case neg =>
      go_wp2_with fail
      go_ret
      exact ⟨ret_bool (by rw [HF.out, all_yes _ fs1 fun i t hti => HJ.out i t (by have := (List.getElem?_eq_some_iff.1 hti).1; omega) hti]), hb⟩
    case pos =>
      obtain ⟨b, o, rfl, hbl, hall⟩ := H4.out (by omega)
      obtain ⟨t, ht⟩ : ∃ t, fs1[j]? = some t := ⟨_, List.getElem?_eq_getElem hlt⟩
      obtain ⟨k3, v3, ds3, ks3⟩ := t
      obtain ⟨ads3, cds3, aks3, cks3, q0, q1, q2, q3, hrk⟩ := hall j k3 v3 ds3 ks3 ht
      have HT := hid ht
      have HBW := hid hb
      have hc := spec_era_all (Co.bulk (Co.mk k3 v3 ds3 ks3) + 1) k3 v3 ds3 ks3 ads3 cds3 aks3 cks3 b (o + j * 4) wr (by omega) ((hb.cell (p := ⟨b, o + j * 4, none⟩) hbl).trans q0) ((hb.cell (p := ⟨b, o + j * 4 + 1, none⟩) hbl).trans q1) ((hb.cell (p := ⟨b, o + j * 4 + 2, none⟩) hbl).trans q2) ((hb.cell (p := ⟨b, o + j * 4 + 3, none⟩) hbl).trans q3) (hrk.below hb)
      clear hall H4 ht hrk q0 q1 q2 q3 hb
      by_cases hq : Co.era (Co.mk k3 v3 ds3 ks3) = true
      case pos =>
        rw [hq] at hc
        have HC := hid hc
        have HQ := hid hq
        clear hc hq
        go_wp2_with fail
        refine HC.out.mono ?_
        rintro e w3 ⟨rfl, hb⟩
        have HB2 := hid (HBW.out.trans (hb.mono HBW.out.size))
        clear hb z0 HC
        go_wp2_with fail
        go_roundw
        case rel => exact ⟨j + 1, by omega, by go_num, fun i t hi hti => (Nat.lt_succ_iff_lt_or_eq.1 hi).elim (fun hi => HJ.out i t hi hti) (fun he => by subst he; obtain rfl := Option.some.inj (hti.symm.trans HT.out); exact HQ.out), HB2.out⟩
        case measure => simp [intOf]; omega
      case neg =>
        rw [(Bool.not_eq_true _).mp hq] at hc
        have HC := hid hc
        have HQ := hid ((Bool.not_eq_true _).mp hq)
        clear hc hq
        go_wp2_with fail
        refine HC.out.mono ?_
        rintro e w3 ⟨rfl, hb⟩
        have HB2 := hid (HBW.out.trans (hb.mono HBW.out.size))
        clear hb z0 HC
        go_wp2_with fail
        go_ret
        exact ⟨ret_bool (by rw [HF.out, all_no _ fs1 j _ HT.out HQ.out]), HB2.out⟩

set_option maxRecDepth 100000 in
set_option maxHeartbeats 4000000 in
theorem spec_l09Ok (fs1 : List Co) (afs1 : Option Addr) (cfs1 : Nat) (bb bo : Nat) (ctk1 : Int) (ctv1 : Int) (ctds1 : List Int) (ctks1 : List Co) (ces1 : List Int) (ss1 : List Fr) (hs1 : List Th) (actds1 : Option Addr) (cctds1 : Nat) (actks1 : Option Addr) (cctks1 : Nat) (aces1 : Option Addr) (cces1 : Nat) (ass1 : Option Addr) (css1 : Nat) (ahs1 : Option Addr) (chs1 : Nat) (b1 o1 : Nat) (w : World) (hMb : Co.bulks fs1 ≤ 1048576) (hM : Ne.bulk (Ne.mk (Cl.mk (Co.mk ctk1 ctv1 ctds1 ctks1) ces1) ss1 hs1) ≤ 1048576) (xb : w.cell? ⟨bb, bo, none⟩ = some (.slice afs1 fs1.length cfs1)) (x0 : w.cell? ⟨b1, o1, none⟩ = some (.int .i64 ctk1)) (x1 : w.cell? ⟨b1, o1 + 1, none⟩ = some (.int .i64 ctv1)) (x2 : w.cell? ⟨b1, o1 + 2, none⟩ = some (.slice actds1 ctds1.length cctds1)) (x3 : w.cell? ⟨b1, o1 + 3, none⟩ = some (.slice actks1 ctks1.length cctks1)) (x4 : w.cell? ⟨b1, o1 + 4, none⟩ = some (.slice aces1 ces1.length cces1)) (x5 : w.cell? ⟨b1, o1 + 5, none⟩ = some (.slice ass1 ss1.length css1)) (x6 : w.cell? ⟨b1, o1 + 6, none⟩ = some (.slice ahs1 hs1.length chs1)) (hrb : RdS w (Bk.d (.mk fs1)) [.slice afs1 fs1.length cfs1]) (hr : RdS w (Ne.d (Ne.mk (Cl.mk (Co.mk ctk1 ctv1 ctds1 ctks1) ces1) ss1 hs1)) [.int .i64 ctk1, .int .i64 ctv1, .slice actds1 ctds1.length cctds1, .slice actks1 ctks1.length cctks1, .slice aces1 ces1.length cces1, .slice ass1 ss1.length css1, .slice ahs1 hs1.length chs1]) :
    Calls Try.prog 55 #[.pointer (some ⟨bb, bo, none⟩), .pointer (some ⟨b1, o1, none⟩)] w fun e w' => e = .returned (.bool (needOk fs1 (Ne.mk (Cl.mk (Co.mk ctk1 ctv1 ctds1 ctks1) ces1) ss1 hs1))) ∧ Below w.heap.size w w' := by
  have HE := hid (show needOk fs1 (Ne.mk (Cl.mk (Co.mk ctk1 ctv1 ctds1 ctks1) ces1) ss1 hs1) = (bookEra fs1 && (decide (hs1.length ≤ 2000) && (decide (ss1.length ≤ 400) && (clOk fs1.length hs1.length (Cl.mk (Co.mk ctk1 ctv1 ctds1 ctks1) ces1) && (ss1.all (frOk fs1.length hs1.length) && hs1.all (thOk fs1.length hs1.length)))))) from rfl)
  have hfl := Co.bulks_length fs1
  have hhl := Th.bulks_length hs1
  have hsl := Fr.bulks_length ss1
  have hbk : Ne.bulk (Ne.mk (Cl.mk (Co.mk ctk1 ctv1 ctds1 ctks1) ces1) ss1 hs1) = Cl.bulk (Cl.mk (Co.mk ctk1 ctv1 ctds1 ctks1) ces1) + Fr.bulks ss1 + Th.bulks hs1 := rfl
  have hn : fs1.length ≤ 1048576 := by omega
  have hh : hs1.length ≤ 1048576 := by omega
  have hs : ss1.length ≤ 1048576 := by omega
  have hMc : Cl.bulk (Cl.mk (Co.mk ctk1 ctv1 ctds1 ctks1) ces1) ≤ 1048576 := by omega
  have HMF := hid (show Fr.bulks ss1 ≤ 1048576 by omega)
  have HMT := hid (show Th.bulks hs1 ≤ 1048576 by omega)
  have hf := hr.fNe
  have hrc := RdS.subNe_c hr
  have X0 := hid x0
  have X1 := hid x1
  have X2 := hid x2
  have X3 := hid x3
  have X4 := hid x4
  have X5 := hid x5
  have X6 := hid x6
  have XB := hid xb
  have XL := hid (World.block_lt_of_cell? _ _ x6)
  have XBL := hid (World.block_lt_of_cell? _ _ xb)
  have hb1 := spec_l09Book fs1 afs1 cfs1 bb bo w hMb xb hrb
  have hcl := fun W (hW : Below w.heap.size w W) => spec_l09Closure bb bo fs1.length afs1 cfs1 ctk1 ctv1 ctds1 ctks1 ces1 actds1 cctds1 actks1 cctks1 aces1 cces1 b1 o1 hs1.length W hn hh hMc ((hW.cell (p := ⟨bb, bo, none⟩) XBL.out).trans XB.out) ((hW.cell (p := ⟨b1, o1, none⟩) XL.out).trans X0.out) ((hW.cell (p := ⟨b1, o1 + 1, none⟩) XL.out).trans X1.out) ((hW.cell (p := ⟨b1, o1 + 2, none⟩) XL.out).trans X2.out) ((hW.cell (p := ⟨b1, o1 + 3, none⟩) XL.out).trans X3.out) ((hW.cell (p := ⟨b1, o1 + 4, none⟩) XL.out).trans X4.out) (hrc.below hW)
  obtain ⟨_, _, e, h2, h3, h4⟩ := hf.2.1.eFr
  simp only [Value.slice.injEq, true_and] at e
  obtain ⟨rfl, rfl⟩ := e
  have H4 := hid h4
  clear h2 h3 h4
  obtain ⟨_, _, e, h2, h3, h4⟩ := hf.2.2.eTh
  simp only [Value.slice.injEq, true_and] at e
  obtain ⟨rfl, rfl⟩ := e
  have H5 := hid h4
  clear h2 h3 h4 hf hr hrb hrc hM hMb hbk hMc x0 x1 x2 x3 x4 xb hfl hhl hsl
  by_cases e0 : bookEra fs1 = true
  case neg =>
    have HF := hid (show needOk fs1 (Ne.mk (Cl.mk (Co.mk ctk1 ctv1 ctds1 ctks1) ces1) ss1 hs1) = false by rw [HE.out]; simp [e0])
    rw [(Bool.not_eq_true _).mp e0] at hb1
    have HB1 := hid hb1
    clear hb1 hcl e0 H4 H5
    go_enter Try.func55, Try.ntmps55
    go_wp2_with fail
    refine HB1.out.mono ?_
    rintro e w2 ⟨rfl, hb⟩
    have HB := hid hb
    clear hb
    go_wp2_with fail
    go_ret
    exact ⟨ret_bool HF.out.symm, HB.out⟩
  case pos =>
  rw [e0] at hb1
  have HB1 := hid hb1
  clear hb1
  by_cases e1 : hs1.length ≤ 2000
  case neg =>
    have g1 : decide ((2000 : Int) < (hs1.length : Int)) = true := decide_eq_true (by omega)
    have HF := hid (show needOk fs1 (Ne.mk (Cl.mk (Co.mk ctk1 ctv1 ctds1 ctks1) ces1) ss1 hs1) = false by rw [HE.out]; simp [e1])
    clear hcl e0 e1 H4 H5
    go_enter Try.func55, Try.ntmps55
    go_wp2_with fail
    refine HB1.out.mono ?_
    rintro e w2 ⟨rfl, hb⟩
    have HB := hid hb
    clear hb
    go_wp2_with fail
    go_ret
    exact ⟨ret_bool HF.out.symm, HB.out⟩
  case pos =>
  have g1 : decide ((2000 : Int) < (hs1.length : Int)) = false := decide_eq_false (by omega)
  by_cases e2 : ss1.length ≤ 400
  case neg =>
    have g2 : decide ((400 : Int) < (ss1.length : Int)) = true := decide_eq_true (by omega)
    have HF := hid (show needOk fs1 (Ne.mk (Cl.mk (Co.mk ctk1 ctv1 ctds1 ctks1) ces1) ss1 hs1) = false by rw [HE.out]; simp [e2])
    clear hcl e0 e1 e2 H4 H5
    go_enter Try.func55, Try.ntmps55
    go_wp2_with fail
    refine HB1.out.mono ?_
    rintro e w2 ⟨rfl, hb⟩
    have HB := hid hb
    clear hb
    have z5 := (HB.out.cell (p := ⟨b1, o1 + 5, none⟩) XL.out).trans X5.out
    go_wp2_with fail
    go_ret
    exact ⟨ret_bool HF.out.symm, HB.out⟩
  case pos =>
  have g2 : decide ((400 : Int) < (ss1.length : Int)) = false := decide_eq_false (by omega)
  by_cases e3 : clOk fs1.length hs1.length (Cl.mk (Co.mk ctk1 ctv1 ctds1 ctks1) ces1) = true
  case neg =>
    have HF := hid (show needOk fs1 (Ne.mk (Cl.mk (Co.mk ctk1 ctv1 ctds1 ctks1) ces1) ss1 hs1) = false by rw [HE.out]; simp [e3])
    rw [(Bool.not_eq_true _).mp e3] at hcl
    have HCL := hid hcl
    clear hcl e0 e1 e2 e3 H4 H5
    go_enter Try.func55, Try.ntmps55
    go_wp2_with fail
    refine HB1.out.mono ?_
    rintro e w2 ⟨rfl, hb⟩
    have HB := hid hb
    clear hb
    have z5 := (HB.out.cell (p := ⟨b1, o1 + 5, none⟩) XL.out).trans X5.out
    go_wp2_with fail
    refine (HCL.out _ HB.out).mono ?_
    rintro e w3 ⟨rfl, hb⟩
    have HB2 := hid (HB.out.trans (hb.mono HB.out.size))
    clear hb z5
    go_wp2_with fail
    go_ret
    exact ⟨ret_bool HF.out.symm, HB2.out⟩
  case pos =>
  have HF := hid (show needOk fs1 (Ne.mk (Cl.mk (Co.mk ctk1 ctv1 ctds1 ctks1) ces1) ss1 hs1) = (ss1.all (frOk fs1.length hs1.length) && hs1.all (thOk fs1.length hs1.length)) by rw [HE.out]; simp [e0, e1, e2, e3])
  rw [e3] at hcl
  have HCL := hid hcl
  clear hcl e0 e1 e2 e3
  go_enter Try.func55, Try.ntmps55
  go_wp2_with fail
  refine HB1.out.mono ?_
  rintro e w2 ⟨rfl, hb⟩
  have HB := hid hb
  clear hb
  have z5 := (HB.out.cell (p := ⟨b1, o1 + 5, none⟩) XL.out).trans X5.out
  go_wp2_with fail
  refine (HCL.out _ HB.out).mono ?_
  rintro e w3 ⟨rfl, hb⟩
  have HB2 := hid (HB.out.trans (hb.mono HB.out.size))
  clear hb z5 x5 x6 HCL HB1
  go_wp2_with fail
  go_loopw [6] (fun i wr => ∃ (j : Nat), j ≤ ss1.length ∧ i = .int .i64 j ∧ Hid (∀ (i : Nat) t, i < j → ss1[i]? = some t → frOk fs1.length hs1.length t = true) ∧ Below w.heap.size w wr) (fun i _ => ss1.length - (intOf i).toNat)
  case atStart => exact ⟨0, by omega, rfl, fun i t hi => absurd hi (by omega), HB2.out⟩
  case round =>
    obtain ⟨j, hj, rfl, HJ, hb⟩ := hrel
    have z5 := (hb.cell (p := ⟨b1, o1 + 5, none⟩) XL.out).trans X5.out
    by_cases hlt : j < ss1.length
    case pos =>
      obtain ⟨b, o, rfl, hbl, hall⟩ := H4.out (by omega)
      obtain ⟨t, ht⟩ : ∃ t, ss1[j]? = some t := ⟨_, List.getElem?_eq_getElem hlt⟩
      obtain ⟨k3, v3, ds3, ⟨⟨ctk3, ctv3, ctds3, ctks3⟩, ces3⟩⟩ := t
      obtain ⟨ads3, cds3, actds3, cctds3, actks3, cctks3, aces3, cces3, q0, q1, q2, q3, q4, q5, q6, q7, hrk⟩ := hall j k3 v3 ds3 ctk3 ctv3 ctds3 ctks3 ces3 ht
      have HT := hid ht
      have HBW := hid hb
      have hbg := Fr.bulk_get ss1 j _ ht
      have hc := spec_l09Frame bb bo fs1.length afs1 cfs1 k3 v3 ds3 ctk3 ctv3 ctds3 ctks3 ces3 ads3 cds3 actds3 cctds3 actks3 cctks3 aces3 cces3 b (o + j * 8) hs1.length wr hn hh (by have := HMF.out; omega) ((hb.cell (p := ⟨bb, bo, none⟩) XBL.out).trans XB.out) ((hb.cell (p := ⟨b, o + j * 8, none⟩) hbl).trans q0) ((hb.cell (p := ⟨b, o + j * 8 + 1, none⟩) hbl).trans q1) ((hb.cell (p := ⟨b, o + j * 8 + 2, none⟩) hbl).trans q2) ((hb.cell (p := ⟨b, o + j * 8 + 3, none⟩) hbl).trans q3) ((hb.cell (p := ⟨b, o + j * 8 + 4, none⟩) hbl).trans q4) ((hb.cell (p := ⟨b, o + j * 8 + 5, none⟩) hbl).trans q5) ((hb.cell (p := ⟨b, o + j * 8 + 6, none⟩) hbl).trans q6) ((hb.cell (p := ⟨b, o + j * 8 + 7, none⟩) hbl).trans q7) (hrk.below hb)
      clear hall H4 ht hrk q0 q1 q2 q3 q4 q5 q6 q7 hb hbg
      by_cases hq : frOk fs1.length hs1.length (Fr.mk k3 v3 ds3 (Cl.mk (Co.mk ctk3 ctv3 ctds3 ctks3) ces3)) = true
      case pos =>
        rw [hq] at hc
        have HC := hid hc
        have HQ := hid hq
        clear hc hq
        go_wp2_with fail
        refine HC.out.mono ?_
        rintro e w4 ⟨rfl, hb⟩
        have HB3 := hid (HBW.out.trans (hb.mono HBW.out.size))
        clear hb
        clear z5 HC
        go_wp2_with fail
        go_roundw
        case rel => exact ⟨j + 1, by omega, by go_num, fun i t hi hti => (Nat.lt_succ_iff_lt_or_eq.1 hi).elim (fun hi => HJ.out i t hi hti) (fun he => by subst he; obtain rfl := Option.some.inj (hti.symm.trans HT.out); exact HQ.out), HB3.out⟩
        case measure => simp [intOf]; omega
      case neg =>
        rw [(Bool.not_eq_true _).mp hq] at hc
        have HC := hid hc
        have HQ := hid ((Bool.not_eq_true _).mp hq)
        clear hc hq
        go_wp2_with fail
        refine HC.out.mono ?_
        rintro e w4 ⟨rfl, hb⟩
        have HB3 := hid (HBW.out.trans (hb.mono HBW.out.size))
        clear hb
        clear z5 HC
        go_wp2_with fail
        go_ret
        exact ⟨ret_bool (by rw [HF.out, all_no _ ss1 j _ HT.out HQ.out]; rfl), HB3.out⟩
    case neg =>
    have HF2 := hid (show needOk fs1 (Ne.mk (Cl.mk (Co.mk ctk1 ctv1 ctds1 ctks1) ces1) ss1 hs1) = hs1.all (thOk fs1.length hs1.length) by rw [HF.out, all_yes _ ss1 fun i t hti => HJ.out i t (by have := (List.getElem?_eq_some_iff.1 hti).1; omega) hti]; rfl)
    have HBX := hid hb
    clear HJ hb HF
    go_wp2_with fail
    clear z5
    go_loopw [7, 8] (fun i _ wr => ∃ (j : Nat), j ≤ hs1.length ∧ i = .int .i64 j ∧ Hid (∀ (i : Nat) t, i < j → hs1[i]? = some t → thOk fs1.length hs1.length t = true) ∧ Below w.heap.size w wr) (fun i _ _ => hs1.length - (intOf i).toNat)
    case atStart => exact ⟨0, by omega, rfl, fun i t hi => absurd hi (by omega), HBX.out⟩
    case round =>
      obtain ⟨m, hm, rfl, HJ, hb⟩ := hrel
      have z6 := (hb.cell (p := ⟨b1, o1 + 6, none⟩) XL.out).trans X6.out
      by_cases hlt2 : m < hs1.length
      case neg =>
        go_wp2_with fail
        go_ret
        exact ⟨ret_bool (by rw [HF2.out, all_yes _ hs1 fun i t hti => HJ.out i t (by have := (List.getElem?_eq_some_iff.1 hti).1; omega) hti]), hb⟩
      case pos =>
        obtain ⟨b, o, rfl, hbl, hall⟩ := H5.out (by omega)
        obtain ⟨t, ht⟩ : ∃ t, hs1[m]? = some t := ⟨_, List.getElem?_eq_getElem hlt2⟩
        obtain ⟨dn3, ⟨⟨ctk3, ctv3, ctds3, ctks3⟩, ces3⟩⟩ := t
        obtain ⟨actds3, cctds3, actks3, cctks3, aces3, cces3, q0, q1, q2, q3, q4, q5, hrk⟩ := hall m dn3 ctk3 ctv3 ctds3 ctks3 ces3 ht
        have HT := hid ht
        have HBW := hid hb
        have hbg := Th.bulk_get hs1 m _ ht
        have hbt : Th.bulk (Th.mk dn3 (Cl.mk (Co.mk ctk3 ctv3 ctds3 ctks3) ces3)) = Cl.bulk (Cl.mk (Co.mk ctk3 ctv3 ctds3 ctks3) ces3) := rfl
        have hrkc := RdS.subTh_c hrk
        have HTE := hid (show thOk fs1.length hs1.length (Th.mk dn3 (Cl.mk (Co.mk ctk3 ctv3 ctds3 ctks3) ces3)) = (clOk fs1.length hs1.length (Cl.mk (Co.mk ctk3 ctv3 ctds3 ctks3) ces3) && (!dn3 || clVal (Cl.mk (Co.mk ctk3 ctv3 ctds3 ctks3) ces3))) from rfl)
        have hc := spec_l09Closure bb bo fs1.length afs1 cfs1 ctk3 ctv3 ctds3 ctks3 ces3 actds3 cctds3 actks3 cctks3 aces3 cces3 b (o + m * 6 + 1) hs1.length wr hn hh (by have := HMT.out; omega) ((hb.cell (p := ⟨bb, bo, none⟩) XBL.out).trans XB.out) ((hb.cell (p := ⟨b, o + m * 6 + 1, none⟩) hbl).trans q1) ((hb.cell (p := ⟨b, o + m * 6 + 1 + 1, none⟩) hbl).trans q2) ((hb.cell (p := ⟨b, o + m * 6 + 1 + 2, none⟩) hbl).trans q3) ((hb.cell (p := ⟨b, o + m * 6 + 1 + 3, none⟩) hbl).trans q4) ((hb.cell (p := ⟨b, o + m * 6 + 1 + 4, none⟩) hbl).trans q5) (hrkc.below hb)
        have hv := fun W (hW : Below w.heap.size w W) => spec_l09IsValue ctk3 ctv3 ctds3 ctks3 ces3 actds3 cctds3 actks3 cctks3 aces3 cces3 b (o + m * 6 + 1) W ((hW.cell (p := ⟨b, o + m * 6 + 1, none⟩) hbl).trans q1) ((hW.cell (p := ⟨b, o + m * 6 + 1 + 1, none⟩) hbl).trans q2) ((hW.cell (p := ⟨b, o + m * 6 + 1 + 2, none⟩) hbl).trans q3) ((hW.cell (p := ⟨b, o + m * 6 + 1 + 3, none⟩) hbl).trans q4) ((hW.cell (p := ⟨b, o + m * 6 + 1 + 4, none⟩) hbl).trans q5) (hrkc.below hW)
        have Q0 := hid (fun W (hW : Below w.heap.size w W) => (hW.cell (p := ⟨b, o + m * 6, none⟩) hbl).trans q0)
        clear hall H5 ht hrk hrkc q0 q1 q2 q3 q4 q5 hb hbg hbt
        by_cases hq : clOk fs1.length hs1.length (Cl.mk (Co.mk ctk3 ctv3 ctds3 ctks3) ces3) = true
        case neg =>
          rw [(Bool.not_eq_true _).mp hq] at hc
          have HC := hid hc
          have HQ := hid (show thOk fs1.length hs1.length (Th.mk dn3 (Cl.mk (Co.mk ctk3 ctv3 ctds3 ctks3) ces3)) = false by rw [HTE.out, (Bool.not_eq_true _).mp hq]; rfl)
          clear hc hv hq
          go_wp2_with fail
          refine HC.out.mono ?_
          rintro e w4 ⟨rfl, hb⟩
          have HB3 := hid (HBW.out.trans (hb.mono HBW.out.size))
          clear hb
          clear z6 HC
          go_wp2_with fail
          go_ret
          exact ⟨ret_bool (by rw [HF2.out, all_no _ hs1 m _ HT.out HQ.out]), HB3.out⟩
        case pos =>
        rw [hq] at hc
        have HC := hid hc
        clear hc
        cases dn3
        case false =>
          have HQ := hid (show thOk fs1.length hs1.length (Th.mk false (Cl.mk (Co.mk ctk3 ctv3 ctds3 ctks3) ces3)) = true by rw [HTE.out, hq]; rfl)
          clear hv hq
          go_wp2_with fail
          refine HC.out.mono ?_
          rintro e w4 ⟨rfl, hb⟩
          have HB3 := hid (HBW.out.trans (hb.mono HBW.out.size))
          clear hb
          have y0 := Q0.out _ HB3.out
          clear z6 HC
          go_wp2_with fail
          go_roundw
          case rel => exact ⟨m + 1, by omega, by go_num, fun i t hi hti => (Nat.lt_succ_iff_lt_or_eq.1 hi).elim (fun hi => HJ.out i t hi hti) (fun he => by subst he; obtain rfl := Option.some.inj (hti.symm.trans HT.out); exact HQ.out), HB3.out⟩
          case measure => simp [intOf]; omega
        case true =>
          by_cases hq2 : clVal (Cl.mk (Co.mk ctk3 ctv3 ctds3 ctks3) ces3) = true
          case pos =>
            have HQ := hid (show thOk fs1.length hs1.length (Th.mk true (Cl.mk (Co.mk ctk3 ctv3 ctds3 ctks3) ces3)) = true by rw [HTE.out, hq, hq2]; rfl)
            rw [hq2] at hv
            have HV := hid hv
            clear hv hq hq2
            go_wp2_with fail
            refine HC.out.mono ?_
            rintro e w4 ⟨rfl, hb⟩
            have HB3 := hid (HBW.out.trans (hb.mono HBW.out.size))
            clear hb
            have y0 := Q0.out _ HB3.out
            clear z6 HC
            go_wp2_with fail
            refine (HV.out _ HB3.out).mono ?_
            rintro e w5 ⟨rfl, hb⟩
            have HB4 := hid (HB3.out.trans (hb.mono HB3.out.size))
            clear hb y0
            go_wp2_with fail
            go_roundw
            case rel => exact ⟨m + 1, by omega, by go_num, fun i t hi hti => (Nat.lt_succ_iff_lt_or_eq.1 hi).elim (fun hi => HJ.out i t hi hti) (fun he => by subst he; obtain rfl := Option.some.inj (hti.symm.trans HT.out); exact HQ.out), HB4.out⟩
            case measure => simp [intOf]; omega
          case neg =>
            have HQ := hid (show thOk fs1.length hs1.length (Th.mk true (Cl.mk (Co.mk ctk3 ctv3 ctds3 ctks3) ces3)) = false by rw [HTE.out, hq, (Bool.not_eq_true _).mp hq2]; rfl)
            rw [(Bool.not_eq_true _).mp hq2] at hv
            have HV := hid hv
            clear hv hq hq2
            go_wp2_with fail
            refine HC.out.mono ?_
            rintro e w4 ⟨rfl, hb⟩
            have HB3 := hid (HBW.out.trans (hb.mono HBW.out.size))
            clear hb
            have y0 := Q0.out _ HB3.out
            clear z6 HC
            go_wp2_with fail
            refine (HV.out _ HB3.out).mono ?_
            rintro e w5 ⟨rfl, hb⟩
            have HB4 := hid (HB3.out.trans (hb.mono HB3.out.size))
            clear hb y0
            go_wp2_with fail
            go_ret
            exact ⟨ret_bool (by rw [HF2.out, all_no _ hs1 m _ HT.out HQ.out]), HB4.out⟩
theorem spec_l09Done (ctk1 : Int) (ctv1 : Int) (ctds1 : List Int) (ctks1 : List Co) (ces1 : List Int) (ss1 : List Fr) (hs1 : List Th) (actds1 : Option Addr) (cctds1 : Nat) (actks1 : Option Addr) (cctks1 : Nat) (aces1 : Option Addr) (cces1 : Nat) (ass1 : Option Addr) (css1 : Nat) (ahs1 : Option Addr) (chs1 : Nat) (b1 o1 : Nat) (w : World) (x0 : w.cell? ⟨b1, o1, none⟩ = some (.int .i64 ctk1)) (x1 : w.cell? ⟨b1, o1 + 1, none⟩ = some (.int .i64 ctv1)) (x2 : w.cell? ⟨b1, o1 + 2, none⟩ = some (.slice actds1 ctds1.length cctds1)) (x3 : w.cell? ⟨b1, o1 + 3, none⟩ = some (.slice actks1 ctks1.length cctks1)) (x4 : w.cell? ⟨b1, o1 + 4, none⟩ = some (.slice aces1 ces1.length cces1)) (x5 : w.cell? ⟨b1, o1 + 5, none⟩ = some (.slice ass1 ss1.length css1)) (x6 : w.cell? ⟨b1, o1 + 6, none⟩ = some (.slice ahs1 hs1.length chs1)) (hr : RdS w (Ne.d (Ne.mk (Cl.mk (Co.mk ctk1 ctv1 ctds1 ctks1) ces1) ss1 hs1)) [.int .i64 ctk1, .int .i64 ctv1, .slice actds1 ctds1.length cctds1, .slice actks1 ctks1.length cctks1, .slice aces1 ces1.length cces1, .slice ass1 ss1.length css1, .slice ahs1 hs1.length chs1]) :
    Calls Try.prog 65 #[.pointer (some ⟨b1, o1, none⟩)] w fun e w' => e = .returned (.bool (needDone (Ne.mk (Cl.mk (Co.mk ctk1 ctv1 ctds1 ctks1) ces1) ss1 hs1))) ∧ Below w.heap.size w w' := by
  have HE := hid (show needDone (Ne.mk (Cl.mk (Co.mk ctk1 ctv1 ctds1 ctks1) ces1) ss1 hs1) = (decide (ss1.length = 0) && clVal (Cl.mk (Co.mk ctk1 ctv1 ctds1 ctks1) ces1)) from rfl)
  have HV := hid (spec_l09IsValue ctk1 ctv1 ctds1 ctks1 ces1 actds1 cctds1 actks1 cctks1 aces1 cces1 b1 o1 w x0 x1 x2 x3 x4 (RdS.subNe_c hr))
  clear hr x0 x1 x2 x3 x4 x6
  by_cases e1 : ss1.length = 0
  case neg =>
    have g1 : ((ss1.length : Int) == 0) = false := by simpa using e1
    have HF := hid (show needDone (Ne.mk (Cl.mk (Co.mk ctk1 ctv1 ctds1 ctks1) ces1) ss1 hs1) = false by rw [HE.out]; simp [e1])
    clear e1
    go_enter Try.func65, Try.ntmps65
    go_wp2_with fail
    go_ret
    exact ⟨ret_bool HF.out.symm, Below.refl _ _⟩
  case pos =>
    have g1 : ((ss1.length : Int) == 0) = true := by simpa using e1
    have HF := hid (show needDone (Ne.mk (Cl.mk (Co.mk ctk1 ctv1 ctds1 ctks1) ces1) ss1 hs1) = clVal (Cl.mk (Co.mk ctk1 ctv1 ctds1 ctks1) ces1) by rw [HE.out]; simp [e1])
    clear e1
    go_enter Try.func65, Try.ntmps65
    go_wp2_with fail
    refine HV.out.mono ?_
    rintro e w2 ⟨rfl, hb⟩
    have HB := hid hb
    clear hb
    clear x5
    go_wp2_with fail
    go_ret
    exact ⟨ret_bool HF.out.symm, HB.out⟩
def needFin (fs : List Co) (m : Ne) : Bool := needOk fs m && needDone m
theorem spec_ValidNeed (fs1 : List Co) (afs1 : Option Addr) (cfs1 : Nat) (ctk1 : Int) (ctv1 : Int) (ctds1 : List Int) (ctks1 : List Co) (ces1 : List Int) (ss1 : List Fr) (hs1 : List Th) (actds1 : Option Addr) (cctds1 : Nat) (actks1 : Option Addr) (cctks1 : Nat) (aces1 : Option Addr) (cces1 : Nat) (ass1 : Option Addr) (css1 : Nat) (ahs1 : Option Addr) (chs1 : Nat) (w : World) (hMb : Co.bulks fs1 ≤ 1048576) (hM : Ne.bulk (Ne.mk (Cl.mk (Co.mk ctk1 ctv1 ctds1 ctks1) ces1) ss1 hs1) ≤ 1048576) (hrb : RdS w (Bk.d (.mk fs1)) [.slice afs1 fs1.length cfs1]) (hr : RdS w (Ne.d (Ne.mk (Cl.mk (Co.mk ctk1 ctv1 ctds1 ctks1) ces1) ss1 hs1)) [.int .i64 ctk1, .int .i64 ctv1, .slice actds1 ctds1.length cctds1, .slice actks1 ctks1.length cctks1, .slice aces1 ces1.length cces1, .slice ass1 ss1.length css1, .slice ahs1 hs1.length chs1]) :
    Calls Try.prog 23 #[.agg #[.slice afs1 fs1.length cfs1], .agg #[.int .i64 ctk1, .int .i64 ctv1, .slice actds1 ctds1.length cctds1, .slice actks1 ctks1.length cctks1, .slice aces1 ces1.length cces1, .slice ass1 ss1.length css1, .slice ahs1 hs1.length chs1]] w fun e w' => e = .returned (.bool (needOk fs1 (Ne.mk (Cl.mk (Co.mk ctk1 ctv1 ctds1 ctks1) ces1) ss1 hs1))) ∧ Below w.heap.size w w' := by
  have hB := ((Below.refl w.heap.size w).alloc (Nat.le_refl _) (.cells #[.slice afs1 fs1.length cfs1] 45)).alloc (by simp) (.cells #[.int .i64 ctk1, .int .i64 ctv1, .slice actds1 ctds1.length cctds1, .slice actks1 ctks1.length cctks1, .slice aces1 ces1.length cces1, .slice ass1 ss1.length css1, .slice ahs1 hs1.length chs1] 41)
  have HX0 := hid (((Boxes.nil w).alloc #[.slice afs1 fs1.length cfs1] 45 (0, 0)).alloc #[.int .i64 ctk1, .int .i64 ctv1, .slice actds1 ctds1.length cctds1, .slice actks1 ctks1.length cctks1, .slice aces1 ces1.length cces1, .slice ass1 ss1.length css1, .slice ahs1 hs1.length chs1] 41 (0, 0))
  have hz : ∀ i v, [.int .i64 ctk1, .int .i64 ctv1, .slice actds1 ctds1.length cctds1, .slice actks1 ctks1.length cctks1, .slice aces1 ces1.length cces1, .slice ass1 ss1.length css1, .slice ahs1 hs1.length chs1][i]? = some v → ((w.alloc (.cells #[.slice afs1 fs1.length cfs1] 45)).alloc (.cells #[.int .i64 ctk1, .int .i64 ctv1, .slice actds1 ctds1.length cctds1, .slice actks1 ctks1.length cctks1, .slice aces1 ces1.length cces1, .slice ass1 ss1.length css1, .slice ahs1 hs1.length chs1] 41)).cell? ⟨w.heap.size + 1, 0 + i, none⟩ = some v := by
    intro i v hi
    have := HX0.out.at 0 i rfl hi
    rw [World.size_alloc] at this
    rw [Nat.zero_add]
    exact this
  have HC := hid (spec_l09Ok fs1 afs1 cfs1 w.heap.size 0 ctk1 ctv1 ctds1 ctks1 ces1 ss1 hs1 actds1 cctds1 actks1 cctks1 aces1 cces1 ass1 css1 ahs1 chs1 (w.heap.size + 1) 0 _ hMb hM (HX0.out.at 1 0 rfl rfl) (hz 0 _ rfl) (hz 1 _ rfl) (hz 2 _ rfl) (hz 3 _ rfl) (hz 4 _ rfl) (hz 5 _ rfl) (hz 6 _ rfl) (hrb.below hB) (hr.below hB))
  have HB := hid hB
  clear hB hr hrb hM hMb HX0 hz
  go_enter Try.func23, Try.ntmps23
  go_wp2_with fail
  refine HC.out.mono ?_
  rintro e w1 ⟨rfl, hb⟩
  have HB1 := hid (HB.out.trans (hb.mono HB.out.size))
  clear hb
  go_wp2_with fail
  go_ret
  exact ⟨rfl, HB1.out⟩
theorem spec_IsFinished (fs1 : List Co) (afs1 : Option Addr) (cfs1 : Nat) (ctk1 : Int) (ctv1 : Int) (ctds1 : List Int) (ctks1 : List Co) (ces1 : List Int) (ss1 : List Fr) (hs1 : List Th) (actds1 : Option Addr) (cctds1 : Nat) (actks1 : Option Addr) (cctks1 : Nat) (aces1 : Option Addr) (cces1 : Nat) (ass1 : Option Addr) (css1 : Nat) (ahs1 : Option Addr) (chs1 : Nat) (w : World) (hMb : Co.bulks fs1 ≤ 1048576) (hM : Ne.bulk (Ne.mk (Cl.mk (Co.mk ctk1 ctv1 ctds1 ctks1) ces1) ss1 hs1) ≤ 1048576) (hrb : RdS w (Bk.d (.mk fs1)) [.slice afs1 fs1.length cfs1]) (hr : RdS w (Ne.d (Ne.mk (Cl.mk (Co.mk ctk1 ctv1 ctds1 ctks1) ces1) ss1 hs1)) [.int .i64 ctk1, .int .i64 ctv1, .slice actds1 ctds1.length cctds1, .slice actks1 ctks1.length cctks1, .slice aces1 ces1.length cces1, .slice ass1 ss1.length css1, .slice ahs1 hs1.length chs1]) :
    Calls Try.prog 26 #[.agg #[.slice afs1 fs1.length cfs1], .agg #[.int .i64 ctk1, .int .i64 ctv1, .slice actds1 ctds1.length cctds1, .slice actks1 ctks1.length cctks1, .slice aces1 ces1.length cces1, .slice ass1 ss1.length css1, .slice ahs1 hs1.length chs1]] w fun e w' => e = .returned (.bool (needFin fs1 (Ne.mk (Cl.mk (Co.mk ctk1 ctv1 ctds1 ctks1) ces1) ss1 hs1))) ∧ Below w.heap.size w w' := by
  have hB := ((Below.refl w.heap.size w).alloc (Nat.le_refl _) (.cells #[.slice afs1 fs1.length cfs1] 45)).alloc (by simp) (.cells #[.int .i64 ctk1, .int .i64 ctv1, .slice actds1 ctds1.length cctds1, .slice actks1 ctks1.length cctks1, .slice aces1 ces1.length cces1, .slice ass1 ss1.length css1, .slice ahs1 hs1.length chs1] 41)
  have HX0 := hid (((Boxes.nil w).alloc #[.slice afs1 fs1.length cfs1] 45 (0, 0)).alloc #[.int .i64 ctk1, .int .i64 ctv1, .slice actds1 ctds1.length cctds1, .slice actks1 ctks1.length cctks1, .slice aces1 ces1.length cces1, .slice ass1 ss1.length css1, .slice ahs1 hs1.length chs1] 41 (0, 0))
  have hz : ∀ i v, [.int .i64 ctk1, .int .i64 ctv1, .slice actds1 ctds1.length cctds1, .slice actks1 ctks1.length cctks1, .slice aces1 ces1.length cces1, .slice ass1 ss1.length css1, .slice ahs1 hs1.length chs1][i]? = some v → ((w.alloc (.cells #[.slice afs1 fs1.length cfs1] 45)).alloc (.cells #[.int .i64 ctk1, .int .i64 ctv1, .slice actds1 ctds1.length cctds1, .slice actks1 ctks1.length cctks1, .slice aces1 ces1.length cces1, .slice ass1 ss1.length css1, .slice ahs1 hs1.length chs1] 41)).cell? ⟨w.heap.size + 1, 0 + i, none⟩ = some v := by
    intro i v hi
    have := HX0.out.at 0 i rfl hi
    rw [World.size_alloc] at this
    rw [Nat.zero_add]
    exact this
  have hc := spec_l09Ok fs1 afs1 cfs1 w.heap.size 0 ctk1 ctv1 ctds1 ctks1 ces1 ss1 hs1 actds1 cctds1 actks1 cctks1 aces1 cces1 ass1 css1 ahs1 chs1 (w.heap.size + 1) 0 _ hMb hM (HX0.out.at 1 0 rfl rfl) (hz 0 _ rfl) (hz 1 _ rfl) (hz 2 _ rfl) (hz 3 _ rfl) (hz 4 _ rfl) (hz 5 _ rfl) (hz 6 _ rfl) (hrb.below hB) (hr.below hB)
  have hlt := World.block_lt_of_cell? _ _ (hz 0 _ rfl)
  have hd := fun W (hW : Below _ _ W) => spec_l09Done ctk1 ctv1 ctds1 ctks1 ces1 ss1 hs1 actds1 cctds1 actks1 cctks1 aces1 cces1 ass1 css1 ahs1 chs1 (w.heap.size + 1) 0 W ((hW.cell (p := ⟨w.heap.size + 1, 0 + 0, none⟩) hlt).trans (hz 0 _ rfl)) ((hW.cell (p := ⟨w.heap.size + 1, 0 + 1, none⟩) hlt).trans (hz 1 _ rfl)) ((hW.cell (p := ⟨w.heap.size + 1, 0 + 2, none⟩) hlt).trans (hz 2 _ rfl)) ((hW.cell (p := ⟨w.heap.size + 1, 0 + 3, none⟩) hlt).trans (hz 3 _ rfl)) ((hW.cell (p := ⟨w.heap.size + 1, 0 + 4, none⟩) hlt).trans (hz 4 _ rfl)) ((hW.cell (p := ⟨w.heap.size + 1, 0 + 5, none⟩) hlt).trans (hz 5 _ rfl)) ((hW.cell (p := ⟨w.heap.size + 1, 0 + 6, none⟩) hlt).trans (hz 6 _ rfl)) ((hr.below hB).below hW)
  have HB := hid hB
  by_cases hk : needOk fs1 (Ne.mk (Cl.mk (Co.mk ctk1 ctv1 ctds1 ctks1) ces1) ss1 hs1) = true
  case neg =>
    have HF := hid (show needFin fs1 (Ne.mk (Cl.mk (Co.mk ctk1 ctv1 ctds1 ctks1) ces1) ss1 hs1) = false by simp [needFin, hk])
    rw [(Bool.not_eq_true _).mp hk] at hc
    have HC := hid hc
    clear hB hr hrb hM hMb HX0 hz hc hd hlt hk
    go_enter Try.func26, Try.ntmps26
    go_wp2_with fail
    refine HC.out.mono ?_
    rintro e w1 ⟨rfl, hb⟩
    have HB1 := hid (HB.out.trans (hb.mono HB.out.size))
    clear hb
    go_wp2_with fail
    go_ret
    exact ⟨ret_bool HF.out.symm, HB1.out⟩
  case pos =>
    have HF := hid (show needFin fs1 (Ne.mk (Cl.mk (Co.mk ctk1 ctv1 ctds1 ctks1) ces1) ss1 hs1) = needDone (Ne.mk (Cl.mk (Co.mk ctk1 ctv1 ctds1 ctks1) ces1) ss1 hs1) by simp [needFin, hk])
    rw [hk] at hc
    have HC := hid hc
    have HD := hid hd
    clear hB hr hrb hM hMb HX0 hz hc hd hlt hk
    go_enter Try.func26, Try.ntmps26
    go_wp2_with fail
    refine HC.out.mono ?_
    rintro e w1 ⟨rfl, hb⟩
    have HB1 := hid (HB.out.trans (hb.mono HB.out.size))
    have HDD := hid (HD.out _ hb)
    clear hb HD
    go_wp2_with fail
    refine HDD.out.mono ?_
    rintro e w2 ⟨rfl, hb⟩
    have HB2 := hid (HB1.out.trans (hb.mono HB1.out.size))
    clear hb
    go_wp2_with fail
    go_ret
    exact ⟨ret_bool HF.out.symm, HB2.out⟩
end Go.Proofs.Ytlbebnmhldolnaa
