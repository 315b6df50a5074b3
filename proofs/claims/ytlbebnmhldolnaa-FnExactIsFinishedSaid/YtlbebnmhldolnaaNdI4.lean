/- Walks: ValidNeed and IsFinished, in the program. -/
import Derived.Test.YtlbebnmhldolnaaNdI3
import Derived.Test.YtlbebnmhldolnaaNdS3
namespace Go.Proofs.Ytlbebnmhldolnaa
open Go.ChangeShapes Go.WideShapes Go.ChangeAt Go.RowKit Go.BigFrame
open Go.Sort (grow)
set_option linter.unusedVariables false

def badFr (n h : Int) (f : Fr) : Bool := !frOk n h f
theorem impl_badFr (mb mo h : Nat) (ahs : Option Addr) (chs : Nat) (n : Nat) (ab : Option Addr) (cb : Nat) (k1 : Int) (v1 : Int) (ds1 : List Int) (ctk1 : Int) (ctv1 : Int) (ctds1 : List Int) (ctks1 : List Co) (ces1 : List Int) (ads1 : Option Addr) (cds1 : Nat) (actds1 : Option Addr) (cctds1 : Nat) (actks1 : Option Addr) (cctks1 : Nat) (aces1 : Option Addr) (cces1 : Nat) (q : Addr) (w : World) (hn : n ≤ 1048576) (hh : h ≤ 1048576) (hM : Fr.bulk (Fr.mk k1 v1 ds1 (Cl.mk (Co.mk ctk1 ctv1 ctds1 ctks1) ces1)) ≤ 1048576) (hq : w.cell? q = some (.slice ab n cb)) (x6 : w.cell? ⟨mb, mo + 6, none⟩ = some (.slice ahs h chs)) (hr : RdS w (Fr.d (Fr.mk k1 v1 ds1 (Cl.mk (Co.mk ctk1 ctv1 ctds1 ctks1) ces1))) [.int .i64 k1, .int .i64 v1, .slice ads1 ds1.length cds1, .int .i64 ctk1, .int .i64 ctv1, .slice actds1 ctds1.length cctds1, .slice actks1 ctks1.length cctks1, .slice aces1 ces1.length cces1]) :
    Calls Try.prog 63 #[.agg #[.int .i64 k1, .int .i64 v1, .slice ads1 ds1.length cds1, .int .i64 ctk1, .int .i64 ctv1, .slice actds1 ctds1.length cctds1, .slice actks1 ctks1.length cctks1, .slice aces1 ces1.length cces1], .pointer (some ⟨mb, mo, none⟩), .pointer (some q)] w fun e w' => e = .returned (.bool (badFr n h (Fr.mk k1 v1 ds1 (Cl.mk (Co.mk ctk1 ctv1 ctds1 ctks1) ces1)))) ∧ Below w.heap.size w w' := by
  have hB := (Below.refl w.heap.size w).alloc (Nat.le_refl _) (.cells #[.int .i64 k1, .int .i64 v1, .slice ads1 ds1.length cds1, .int .i64 ctk1, .int .i64 ctv1, .slice actds1 ctds1.length cctds1, .slice actks1 ctks1.length cctks1, .slice aces1 ces1.length cces1] 102)
  have Q0 := (hB.cell (p := q) (World.block_lt_of_cell? _ _ hq)).trans hq
  have X6 := (hB.cell (p := ⟨mb, mo + 6, none⟩) (World.block_lt_of_cell? _ _ x6)).trans x6
  have hc := impl_validFrame mb mo h ahs chs n ab cb k1 v1 ds1 ctk1 ctv1 ctds1 ctks1 ces1 ads1 cds1 actds1 cctds1 actks1 cctks1 aces1 cces1 (w.alloc (.cells #[.int .i64 k1, .int .i64 v1, .slice ads1 ds1.length cds1, .int .i64 ctk1, .int .i64 ctv1, .slice actds1 ctds1.length cctds1, .slice actks1 ctks1.length cctks1, .slice aces1 ces1.length cces1] 102)) hn hh hM X6 (hr.below hB)
  have HE := hid (show badFr n h (Fr.mk k1 v1 ds1 (Cl.mk (Co.mk ctk1 ctv1 ctds1 ctks1) ces1)) = !frOk n h (Fr.mk k1 v1 ds1 (Cl.mk (Co.mk ctk1 ctv1 ctds1 ctks1) ces1)) from rfl)
  generalize frOk n h (Fr.mk k1 v1 ds1 (Cl.mk (Co.mk ctk1 ctv1 ctds1 ctks1) ces1)) = r at hc HE
  have HC := hid hc
  have HB := hid hB
  clear hc hr hB hq hM x6 X6
  go_enter Try.func63, Try.ntmps63
  go_wp2_with fail
  refine HC.out.mono ?_
  rintro e w1 ⟨rfl, hb⟩
  have HB1 := hid (HB.out.trans (hb.mono HB.out.size))
  clear hb
  go_wp2_with fail
  go_ret
  exact ⟨ret_bool HE.out.symm, HB1.out⟩

set_option maxRecDepth 100000 in
set_option maxHeartbeats 4000000 in
theorem impl_ValidNeed (fs1 : List Co) (afs1 : Option Addr) (cfs1 : Nat) (ctk1 : Int) (ctv1 : Int) (ctds1 : List Int) (ctks1 : List Co) (ces1 : List Int) (ss1 : List Fr) (hs1 : List Th) (actds1 : Option Addr) (cctds1 : Nat) (actks1 : Option Addr) (cctks1 : Nat) (aces1 : Option Addr) (cces1 : Nat) (ass1 : Option Addr) (css1 : Nat) (ahs1 : Option Addr) (chs1 : Nat) (w : World) (hMb : Co.bulks fs1 ≤ 1048576) (hM : Ne.bulk (Ne.mk (Cl.mk (Co.mk ctk1 ctv1 ctds1 ctks1) ces1) ss1 hs1) ≤ 1048576) (hrb : RdS w (Bk.d (.mk fs1)) [.slice afs1 fs1.length cfs1]) (hr : RdS w (Ne.d (Ne.mk (Cl.mk (Co.mk ctk1 ctv1 ctds1 ctks1) ces1) ss1 hs1)) [.int .i64 ctk1, .int .i64 ctv1, .slice actds1 ctds1.length cctds1, .slice actks1 ctks1.length cctks1, .slice aces1 ces1.length cces1, .slice ass1 ss1.length css1, .slice ahs1 hs1.length chs1]) :
    Calls Try.prog 25 #[.agg #[.slice afs1 fs1.length cfs1], .agg #[.int .i64 ctk1, .int .i64 ctv1, .slice actds1 ctds1.length cctds1, .slice actks1 ctks1.length cctks1, .slice aces1 ces1.length cces1, .slice ass1 ss1.length css1, .slice ahs1 hs1.length chs1]] w fun e w' => e = .returned (.bool (needOk fs1 (Ne.mk (Cl.mk (Co.mk ctk1 ctv1 ctds1 ctks1) ces1) ss1 hs1))) ∧ Below w.heap.size w w' := by
  have HE := hid (show needOk fs1 (Ne.mk (Cl.mk (Co.mk ctk1 ctv1 ctds1 ctks1) ces1) ss1 hs1) = (bookEra fs1 && (decide (hs1.length ≤ 2000) && (decide (ss1.length ≤ 400) && (clOk fs1.length hs1.length (Cl.mk (Co.mk ctk1 ctv1 ctds1 ctks1) ces1) && (ss1.all (frOk fs1.length hs1.length) && hs1.all (thOk fs1.length hs1.length)))))) from rfl)
  have hfl := Co.bulks_length fs1
  have hhl := Th.bulks_length hs1
  have hsl := Fr.bulks_length ss1
  have hbk : Ne.bulk (Ne.mk (Cl.mk (Co.mk ctk1 ctv1 ctds1 ctks1) ces1) ss1 hs1) = Cl.bulk (Cl.mk (Co.mk ctk1 ctv1 ctds1 ctks1) ces1) + Fr.bulks ss1 + Th.bulks hs1 := rfl
  have hn : fs1.length ≤ 1048576 := by omega
  have hh : hs1.length ≤ 1048576 := by omega
  have hs : ss1.length ≤ 1048576 := by omega
  have hMc : Cl.bulk (Cl.mk (Co.mk ctk1 ctv1 ctds1 ctks1) ces1) ≤ 1048576 := by omega
  have HMT := hid (show Th.bulks hs1 ≤ 1048576 by omega)
  have hB := ((Below.refl w.heap.size w).alloc (Nat.le_refl _) (.cells #[.slice afs1 fs1.length cfs1] 45)).alloc (by simp) (.cells #[.int .i64 ctk1, .int .i64 ctv1, .slice actds1 ctds1.length cctds1, .slice actks1 ctks1.length cctks1, .slice aces1 ces1.length cces1, .slice ass1 ss1.length css1, .slice ahs1 hs1.length chs1] 41)
  have hx0 := (((Boxes.nil w).alloc #[.slice afs1 fs1.length cfs1] 45 (0, 0)).alloc #[.int .i64 ctk1, .int .i64 ctv1, .slice actds1 ctds1.length cctds1, .slice actks1 ctks1.length cctks1, .slice aces1 ces1.length cces1, .slice ass1 ss1.length css1, .slice ahs1 hs1.length chs1] 41 (0, 0))
  generalize hw3 : (w.alloc (.cells #[.slice afs1 fs1.length cfs1] 45)).alloc (.cells #[.int .i64 ctk1, .int .i64 ctv1, .slice actds1 ctds1.length cctds1, .slice actks1 ctks1.length cctks1, .slice aces1 ces1.length cces1, .slice ass1 ss1.length css1, .slice ahs1 hs1.length chs1] 41) = w3 at hB hx0
  simp only [World.size_alloc] at hx0
  have HX0 := hid hx0
  have hf := hr.fNe
  have hrc3 := (RdS.subNe_c hr).below hB
  have hss3 := hf.2.1.below hB
  have hhs3 := hf.2.2.below hB
  have hb1 := impl_isErasedBook fs1 afs1 cfs1 w3 hMb (hrb.below hB)
  have hcl := fun W (hW : Below w3.heap.size w3 W) => impl_validClosure (w.heap.size + 1) 0 hs1.length ahs1 chs1 fs1.length afs1 cfs1 ctk1 ctv1 ctds1 ctks1 ces1 actds1 cctds1 actks1 cctks1 aces1 cces1 W hn hh hMc ((HX0.out.below hW).at 0 6 rfl rfl) (hrc3.below hW)
  have hcf := fun W (hW : Below w3.heap.size w3 W) => contains_Fr_2 63 Try.call63 (.pointer (some ⟨w.heap.size + 1, 0, none⟩)) (.pointer (some ⟨w.heap.size, 0, none⟩)) (badFr fs1.length hs1.length) (fun V => V.cell? ⟨w.heap.size, 0, none⟩ = some (.slice afs1 fs1.length cfs1) ∧ V.cell? ⟨w.heap.size + 1, 0 + 6, none⟩ = some (.slice ahs1 hs1.length chs1)) (fun x y hab h => ⟨(hab.cell (p := ⟨w.heap.size, 0, none⟩) (World.block_lt_of_cell? _ _ h.1)).trans h.1, (hab.cell (p := ⟨w.heap.size + 1, 0 + 6, none⟩) (World.block_lt_of_cell? _ _ h.2)).trans h.2⟩) ss1 ass1 css1 W ⟨(HX0.out.below hW).at 1 0 rfl rfl, (HX0.out.below hW).at 0 6 rfl rfl⟩ (hss3.below hW)
    (fun k3 v3 ds3 ctk3 ctv3 ctds3 ctks3 ces3 ads3 cds3 actds3 cctds3 actks3 cctks3 aces3 cces3 j V hj hV hrw => impl_badFr (w.heap.size + 1) 0 hs1.length ahs1 chs1 fs1.length afs1 cfs1 k3 v3 ds3 ctk3 ctv3 ctds3 ctks3 ces3 ads3 cds3 actds3 cctds3 actks3 cctks3 aces3 cces3 _ V hn hh (by have := Fr.bulk_get ss1 j _ hj; omega) hV.1 hV.2 hrw)
  rw [show ss1.any (badFr fs1.length hs1.length) = !ss1.all (frOk fs1.length hs1.length) from any_not _ ss1] at hcf
  have HCLT := hid (fun W (hW : Below w3.heap.size w3 W) tk tv tds tks es atds ctds atks ctks aes ces hMx hrx => impl_validClosure (w.heap.size + 1) 0 hs1.length ahs1 chs1 fs1.length afs1 cfs1 tk tv tds tks es atds ctds atks ctks aes ces W hn hh hMx ((HX0.out.below hW).at 0 6 rfl rfl) hrx)
  obtain ⟨_, _, e, h2, h3, h4⟩ := hhs3.eTh
  simp only [Value.slice.injEq, true_and] at e
  obtain ⟨rfl, rfl⟩ := e
  have H5 := hid h4
  have HB0 := hid hB
  generalize ss1.all (frOk fs1.length hs1.length) = rs at hcf HE
  have HCF := hid hcf
  subst hw3
  clear hcf h2 h3 h4 hf hr hrb hrc3 hss3 hhs3 hM hMb hbk hMc hfl hhl hsl hB hx0
  by_cases e0 : bookEra fs1 = true
  case neg =>
    have HF := hid (show needOk fs1 (Ne.mk (Cl.mk (Co.mk ctk1 ctv1 ctds1 ctks1) ces1) ss1 hs1) = false by rw [HE.out]; simp [e0])
    rw [(Bool.not_eq_true _).mp e0] at hb1
    have HB1 := hid hb1
    clear hb1 hcl e0 H5 HCF
    go_enter Try.func25, Try.ntmps25
    go_wp2_with fail
    refine HB1.out.mono ?_
    rintro e w2 ⟨rfl, hb⟩
    have HB := hid (HB0.out.trans (hb.mono HB0.out.size))
    clear hb
    go_wp2_with fail
    go_ret
    exact ⟨ret_bool HF.out.symm, HB.out⟩
  case pos =>
  rw [e0] at hb1
  have HB1 := hid hb1
  clear hb1
  by_cases e1 : hs1.length ≤ 2000
  case neg =>
    have g1 : decide ((2000 : Int) < (hs1.length : Int)) = true := decide_eq_true (by omega)
    have HF := hid (show needOk fs1 (Ne.mk (Cl.mk (Co.mk ctk1 ctv1 ctds1 ctks1) ces1) ss1 hs1) = false by rw [HE.out]; simp [e1])
    clear hcl e0 e1 H5 HCF
    go_enter Try.func25, Try.ntmps25
    go_wp2_with fail
    refine HB1.out.mono ?_
    rintro e w2 ⟨rfl, hb⟩
    have HBA := hid hb
    have HX1 := hid (HX0.out.below hb)
    have HB := hid (HB0.out.trans (hb.mono HB0.out.size))
    clear hb
    have y0 := HX1.out.at 0 0 rfl rfl
    have y1 := HX1.out.at 0 1 rfl rfl
    have y2 := HX1.out.at 0 2 rfl rfl
    have y3 := HX1.out.at 0 3 rfl rfl
    have y4 := HX1.out.at 0 4 rfl rfl
    have y5 := HX1.out.at 0 5 rfl rfl
    have y6 := HX1.out.at 0 6 rfl rfl
    have yb := HX1.out.at 1 0 rfl rfl
    go_wp2_with fail
    go_ret
    exact ⟨ret_bool HF.out.symm, HB.out⟩
  case pos =>
  have g1 : decide ((2000 : Int) < (hs1.length : Int)) = false := decide_eq_false (by omega)
  by_cases e2 : ss1.length ≤ 400
  case neg =>
    have g2 : decide ((400 : Int) < (ss1.length : Int)) = true := decide_eq_true (by omega)
    have HF := hid (show needOk fs1 (Ne.mk (Cl.mk (Co.mk ctk1 ctv1 ctds1 ctks1) ces1) ss1 hs1) = false by rw [HE.out]; simp [e2])
    clear hcl e0 e1 e2 H5 HCF
    go_enter Try.func25, Try.ntmps25
    go_wp2_with fail
    refine HB1.out.mono ?_
    rintro e w2 ⟨rfl, hb⟩
    have HBA := hid hb
    have HX1 := hid (HX0.out.below hb)
    have HB := hid (HB0.out.trans (hb.mono HB0.out.size))
    clear hb
    have y0 := HX1.out.at 0 0 rfl rfl
    have y1 := HX1.out.at 0 1 rfl rfl
    have y2 := HX1.out.at 0 2 rfl rfl
    have y3 := HX1.out.at 0 3 rfl rfl
    have y4 := HX1.out.at 0 4 rfl rfl
    have y5 := HX1.out.at 0 5 rfl rfl
    have y6 := HX1.out.at 0 6 rfl rfl
    have yb := HX1.out.at 1 0 rfl rfl
    go_wp2_with fail
    go_ret
    exact ⟨ret_bool HF.out.symm, HB.out⟩
  case pos =>
  have g2 : decide ((400 : Int) < (ss1.length : Int)) = false := decide_eq_false (by omega)
  by_cases e3 : clOk fs1.length hs1.length (Cl.mk (Co.mk ctk1 ctv1 ctds1 ctks1) ces1) = true
  case neg =>
    have HF := hid (show needOk fs1 (Ne.mk (Cl.mk (Co.mk ctk1 ctv1 ctds1 ctks1) ces1) ss1 hs1) = false by rw [HE.out]; simp [e3])
    rw [(Bool.not_eq_true _).mp e3] at hcl
    have HCL := hid hcl
    clear hcl e0 e1 e2 e3 H5 HCF
    go_enter Try.func25, Try.ntmps25
    go_wp2_with fail
    refine HB1.out.mono ?_
    rintro e w2 ⟨rfl, hb⟩
    have HBA := hid hb
    have HX1 := hid (HX0.out.below hb)
    have HB := hid (HB0.out.trans (hb.mono HB0.out.size))
    clear hb
    have y0 := HX1.out.at 0 0 rfl rfl
    have y1 := HX1.out.at 0 1 rfl rfl
    have y2 := HX1.out.at 0 2 rfl rfl
    have y3 := HX1.out.at 0 3 rfl rfl
    have y4 := HX1.out.at 0 4 rfl rfl
    have y5 := HX1.out.at 0 5 rfl rfl
    have y6 := HX1.out.at 0 6 rfl rfl
    have yb := HX1.out.at 1 0 rfl rfl
    go_wp2_with fail
    refine (HCL.out _ HBA.out).mono ?_
    rintro e w3 ⟨rfl, hb⟩
    have HB2 := hid (HB.out.trans (hb.mono HB.out.size))
    clear hb y0 y1 y2 y3 y4 y5 y6 yb
    go_wp2_with fail
    go_ret
    exact ⟨ret_bool HF.out.symm, HB2.out⟩
  case pos =>
  have HF := hid (show needOk fs1 (Ne.mk (Cl.mk (Co.mk ctk1 ctv1 ctds1 ctks1) ces1) ss1 hs1) = (rs && hs1.all (thOk fs1.length hs1.length)) by rw [HE.out]; simp [e0, e1, e2, e3])
  rw [e3] at hcl
  have HCL := hid hcl
  clear hcl e0 e1 e2 e3
  go_enter Try.func25, Try.ntmps25
  go_wp2_with fail
  refine HB1.out.mono ?_
  rintro e w2 ⟨rfl, hb⟩
  have HBA := hid hb
  have HX1 := hid (HX0.out.below hb)
  have HB := hid (HB0.out.trans (hb.mono HB0.out.size))
  clear hb
  have y0 := HX1.out.at 0 0 rfl rfl
  have y1 := HX1.out.at 0 1 rfl rfl
  have y2 := HX1.out.at 0 2 rfl rfl
  have y3 := HX1.out.at 0 3 rfl rfl
  have y4 := HX1.out.at 0 4 rfl rfl
  have y5 := HX1.out.at 0 5 rfl rfl
  have y6 := HX1.out.at 0 6 rfl rfl
  have yb := HX1.out.at 1 0 rfl rfl
  go_wp2_with fail
  refine (HCL.out _ HBA.out).mono ?_
  rintro e w3 ⟨rfl, hb⟩
  have HBA2 := hid (HBA.out.trans (hb.mono HBA.out.size))
  have HX2 := hid (HX1.out.below hb)
  clear hb y0 y1 y2 y3 y4 y5 y6 yb HCL HB1
  have y6 := HX2.out.at 0 6 rfl rfl
  go_wp2_with fail
  clear y6
  go_loopw [32] (fun i wr => ∃ (j : Nat), j ≤ hs1.length ∧ i = .int .i64 j ∧ Hid (∀ (i : Nat) t, i < j → hs1[i]? = some t → thOk fs1.length hs1.length t = true) ∧ Below w3.heap.size w3 wr) (fun i _ => hs1.length - (intOf i).toNat)
  case atStart => exact ⟨0, by omega, rfl, fun i t hi => absurd hi (by omega), Below.refl _ _⟩
  case round =>
    obtain ⟨m, hm, rfl, HJ, hb0⟩ := hrel
    have HBR := hid (HBA2.out.trans (hb0.mono HBA2.out.size))
    have HBW := hid (HB0.out.trans (HBR.out.mono HB0.out.size))
    have HX3 := hid (HX2.out.below hb0)
    by_cases hlt2 : m < hs1.length
    case neg =>
      have HF2 := hid (show needOk fs1 (Ne.mk (Cl.mk (Co.mk ctk1 ctv1 ctds1 ctks1) ces1) ss1 hs1) = rs by rw [HF.out, all_yes _ hs1 fun i t hti => HJ.out i t (by have := (List.getElem?_eq_some_iff.1 hti).1; omega) hti]; simp)
      have y5 := HX3.out.at 0 5 rfl rfl
      have HCFF := hid (HCF.out _ HBR.out)
      clear HCF HF hb0
      go_wp2_with fail
      refine HCFF.out.mono ?_
      rintro e w5 ⟨rfl, hb⟩
      have HBZ := hid (HBW.out.trans (hb.mono HBW.out.size))
      clear hb y5
      go_wp2_with fail
      go_ret
      exact ⟨ret_bool (by rw [HF2.out]), HBZ.out⟩
    case pos =>
      obtain ⟨b, o, rfl, hbl, hall⟩ := H5.out (by omega)
      obtain ⟨t, ht⟩ : ∃ t, hs1[m]? = some t := ⟨_, List.getElem?_eq_getElem hlt2⟩
      obtain ⟨dn3, ⟨⟨ctk3, ctv3, ctds3, ctks3⟩, ces3⟩⟩ := t
      obtain ⟨actds3, cctds3, actks3, cctks3, aces3, cces3, q0, q1, q2, q3, q4, q5, hrk⟩ := hall m dn3 ctk3 ctv3 ctds3 ctks3 ces3 ht
      have HT := hid ht
      have hbg := Th.bulk_get hs1 m _ ht
      have hbt : Th.bulk (Th.mk dn3 (Cl.mk (Co.mk ctk3 ctv3 ctds3 ctks3) ces3)) = Cl.bulk (Cl.mk (Co.mk ctk3 ctv3 ctds3 ctks3) ces3) := rfl
      have hbk1 : Below wr.heap.size wr (wr.alloc (.cells #[.bool dn3, .int .i64 ctk3, .int .i64 ctv3, .slice actds3 ctds3.length cctds3, .slice actks3 ctks3.length cctks3, .slice aces3 ces3.length cces3] 98)) := (Below.refl _ _).alloc (Nat.le_refl _) _
      have HBX := hid hb0
      have HBK := hid hbk1
      have HBRK := hid (HBR.out.trans (hbk1.mono HBR.out.size))
      have HY := hid (HX3.out.alloc #[.bool dn3, .int .i64 ctk3, .int .i64 ctv3, .slice actds3 ctds3.length cctds3, .slice actks3 ctks3.length cctks3, .slice aces3 ces3.length cces3] 98 (0, 0))
      have hrkc := ((RdS.subTh_c hrk).below HBR.out).below hbk1
      have HTE := hid (show thOk fs1.length hs1.length (Th.mk dn3 (Cl.mk (Co.mk ctk3 ctv3 ctds3 ctks3) ces3)) = (clOk fs1.length hs1.length (Cl.mk (Co.mk ctk3 ctv3 ctds3 ctks3) ces3) && (!dn3 || clVal (Cl.mk (Co.mk ctk3 ctv3 ctds3 ctks3) ces3))) from rfl)
      have hc := HCLT.out _ HBRK.out ctk3 ctv3 ctds3 ctks3 ces3 actds3 cctds3 actks3 cctks3 aces3 cces3 (by have := HMT.out; omega) hrkc
      have hv := fun W (hW : Below (wr.alloc (.cells #[.bool dn3, .int .i64 ctk3, .int .i64 ctv3, .slice actds3 ctds3.length cctds3, .slice actks3 ctks3.length cctks3, .slice aces3 ces3.length cces3] 98)).heap.size (wr.alloc (.cells #[.bool dn3, .int .i64 ctk3, .int .i64 ctv3, .slice actds3 ctds3.length cctds3, .slice actks3 ctks3.length cctks3, .slice aces3 ces3.length cces3] 98)) W) => impl_isValue ctk3 ctv3 ctds3 ctks3 ces3 actds3 cctds3 actks3 cctks3 aces3 cces3 W (hrkc.below hW)
      have p0 := (HBR.out.cell (p := ⟨b, o + m * 6, none⟩) hbl).trans q0
      have p1 := (HBR.out.cell (p := ⟨b, o + m * 6 + 1, none⟩) hbl).trans q1
      have p2 := (HBR.out.cell (p := ⟨b, o + m * 6 + 2, none⟩) hbl).trans q2
      have p3 := (HBR.out.cell (p := ⟨b, o + m * 6 + 3, none⟩) hbl).trans q3
      have p4 := (HBR.out.cell (p := ⟨b, o + m * 6 + 4, none⟩) hbl).trans q4
      have p5 := (HBR.out.cell (p := ⟨b, o + m * 6 + 5, none⟩) hbl).trans q5
      have yb := HY.out.at 2 0 rfl rfl
      clear hall H5 ht hrk hrkc q0 q1 q2 q3 q4 q5 hb0 hbk1 hbg hbt
      by_cases hq : clOk fs1.length hs1.length (Cl.mk (Co.mk ctk3 ctv3 ctds3 ctks3) ces3) = true
      case neg =>
        rw [(Bool.not_eq_true _).mp hq] at hc
        have HC := hid hc
        have HQ := hid (show thOk fs1.length hs1.length (Th.mk dn3 (Cl.mk (Co.mk ctk3 ctv3 ctds3 ctks3) ces3)) = false by rw [HTE.out, (Bool.not_eq_true _).mp hq]; rfl)
        clear hc hv hq
        go_wp2_with fail
        refine HC.out.mono ?_
        rintro e w5 ⟨rfl, hb⟩
        have HBZ := hid (HBW.out.trans ((HBK.out.trans (hb.mono HBK.out.size)).mono HBW.out.size))
        clear hb yb p0 p1 p2 p3 p4 p5
        go_wp2_with fail
        go_ret
        exact ⟨ret_bool (by rw [HF.out, all_no _ hs1 m _ HT.out HQ.out]; simp), HBZ.out⟩
      case pos =>
      rw [hq] at hc
      have HC := hid hc
      clear hc
      cases dn3
      case false =>
        have HQ := hid (show thOk fs1.length hs1.length (Th.mk false (Cl.mk (Co.mk ctk3 ctv3 ctds3 ctks3) ces3)) = true by rw [HTE.out, hq]; rfl)
        clear hv hq
        go_wp2_with fail
        refine HC.out.mono ?_
        rintro e w5 ⟨rfl, hb⟩
        have HBN := hid (HBX.out.trans ((HBK.out.trans (hb.mono HBK.out.size)).mono HBX.out.size))
        have e0 := (HY.out.below hb).at 0 0 rfl rfl
        clear hb yb p0 p1 p2 p3 p4 p5
        go_wp2_with fail
        go_roundw
        case rel => exact ⟨m + 1, by omega, by go_num, fun i t hi hti => (Nat.lt_succ_iff_lt_or_eq.1 hi).elim (fun hi => HJ.out i t hi hti) (fun he => by subst he; obtain rfl := Option.some.inj (hti.symm.trans HT.out); exact HQ.out), HBN.out⟩
        case measure => simp [intOf]; omega
      case true =>
        by_cases hq2 : clVal (Cl.mk (Co.mk ctk3 ctv3 ctds3 ctks3) ces3) = true
        case pos =>
          have HQ := hid (show thOk fs1.length hs1.length (Th.mk true (Cl.mk (Co.mk ctk3 ctv3 ctds3 ctks3) ces3)) = true by rw [HTE.out, hq, hq2]; rfl)
          rw [hq2] at hv
          have HV := hid hv
          clear hv hq hq2
          go_wp2_with fail
          refine HC.out.mono ?_
          rintro e w5 ⟨rfl, hb⟩
          have HV5 := hid (HV.out _ hb)
          have HB5 := hid hb
          have HY5 := hid (HY.out.below hb)
          clear hb yb p0 p1 p2 p3 p4 p5 HV
          have e0 := HY5.out.at 0 0 rfl rfl
          have e1 := HY5.out.at 0 1 rfl rfl
          have e2 := HY5.out.at 0 2 rfl rfl
          have e3 := HY5.out.at 0 3 rfl rfl
          have e4 := HY5.out.at 0 4 rfl rfl
          have e5 := HY5.out.at 0 5 rfl rfl
          go_wp2_with fail
          refine HV5.out.mono ?_
          rintro e w6 ⟨rfl, hb⟩
          have HBN := hid (HBX.out.trans ((HBK.out.trans ((HB5.out.trans (hb.mono HB5.out.size)).mono HBK.out.size)).mono HBX.out.size))
          clear hb e0 e1 e2 e3 e4 e5
          go_wp2_with fail
          go_roundw
          case rel => exact ⟨m + 1, by omega, by go_num, fun i t hi hti => (Nat.lt_succ_iff_lt_or_eq.1 hi).elim (fun hi => HJ.out i t hi hti) (fun he => by subst he; obtain rfl := Option.some.inj (hti.symm.trans HT.out); exact HQ.out), HBN.out⟩
          case measure => simp [intOf]; omega
        case neg =>
          have HQ := hid (show thOk fs1.length hs1.length (Th.mk true (Cl.mk (Co.mk ctk3 ctv3 ctds3 ctks3) ces3)) = false by rw [HTE.out, hq, (Bool.not_eq_true _).mp hq2]; rfl)
          rw [(Bool.not_eq_true _).mp hq2] at hv
          have HV := hid hv
          clear hv hq hq2
          go_wp2_with fail
          refine HC.out.mono ?_
          rintro e w5 ⟨rfl, hb⟩
          have HV5 := hid (HV.out _ hb)
          have HB5 := hid hb
          have HY5 := hid (HY.out.below hb)
          clear hb yb p0 p1 p2 p3 p4 p5 HV
          have e0 := HY5.out.at 0 0 rfl rfl
          have e1 := HY5.out.at 0 1 rfl rfl
          have e2 := HY5.out.at 0 2 rfl rfl
          have e3 := HY5.out.at 0 3 rfl rfl
          have e4 := HY5.out.at 0 4 rfl rfl
          have e5 := HY5.out.at 0 5 rfl rfl
          go_wp2_with fail
          refine HV5.out.mono ?_
          rintro e w6 ⟨rfl, hb⟩
          have HBZ := hid (HBW.out.trans ((HBK.out.trans ((HB5.out.trans (hb.mono HB5.out.size)).mono HBK.out.size)).mono HBW.out.size))
          clear hb e0 e1 e2 e3 e4 e5
          go_wp2_with fail
          go_ret
          exact ⟨ret_bool (by rw [HF.out, all_no _ hs1 m _ HT.out HQ.out]; simp), HBZ.out⟩
theorem impl_finished (ctk1 : Int) (ctv1 : Int) (ctds1 : List Int) (ctks1 : List Co) (ces1 : List Int) (ss1 : List Fr) (hs1 : List Th) (actds1 : Option Addr) (cctds1 : Nat) (actks1 : Option Addr) (cctks1 : Nat) (aces1 : Option Addr) (cces1 : Nat) (ass1 : Option Addr) (css1 : Nat) (ahs1 : Option Addr) (chs1 : Nat) (b1 o1 : Nat) (w : World) (x0 : w.cell? ⟨b1, o1, none⟩ = some (.int .i64 ctk1)) (x1 : w.cell? ⟨b1, o1 + 1, none⟩ = some (.int .i64 ctv1)) (x2 : w.cell? ⟨b1, o1 + 2, none⟩ = some (.slice actds1 ctds1.length cctds1)) (x3 : w.cell? ⟨b1, o1 + 3, none⟩ = some (.slice actks1 ctks1.length cctks1)) (x4 : w.cell? ⟨b1, o1 + 4, none⟩ = some (.slice aces1 ces1.length cces1)) (x5 : w.cell? ⟨b1, o1 + 5, none⟩ = some (.slice ass1 ss1.length css1)) (x6 : w.cell? ⟨b1, o1 + 6, none⟩ = some (.slice ahs1 hs1.length chs1)) (hr : RdS w (Ne.d (Ne.mk (Cl.mk (Co.mk ctk1 ctv1 ctds1 ctks1) ces1) ss1 hs1)) [.int .i64 ctk1, .int .i64 ctv1, .slice actds1 ctds1.length cctds1, .slice actks1 ctks1.length cctks1, .slice aces1 ces1.length cces1, .slice ass1 ss1.length css1, .slice ahs1 hs1.length chs1]) :
    Calls Try.prog 66 #[.pointer (some ⟨b1, o1, none⟩)] w fun e w' => e = .returned (.bool (needDone (Ne.mk (Cl.mk (Co.mk ctk1 ctv1 ctds1 ctks1) ces1) ss1 hs1))) ∧ Below w.heap.size w w' := by
  have HE := hid (show needDone (Ne.mk (Cl.mk (Co.mk ctk1 ctv1 ctds1 ctks1) ces1) ss1 hs1) = (decide (ss1.length = 0) && clVal (Cl.mk (Co.mk ctk1 ctv1 ctds1 ctks1) ces1)) from rfl)
  have HV := hid (impl_isValue ctk1 ctv1 ctds1 ctks1 ces1 actds1 cctds1 actks1 cctks1 aces1 cces1 w (RdS.subNe_c hr))
  clear hr x6
  by_cases e1 : ss1.length = 0
  case neg =>
    have g1 : ((ss1.length : Int) == 0) = false := by simpa using e1
    have HF := hid (show needDone (Ne.mk (Cl.mk (Co.mk ctk1 ctv1 ctds1 ctks1) ces1) ss1 hs1) = false by rw [HE.out]; simp [e1])
    clear e1
    go_enter Try.func66, Try.ntmps66
    go_wp2_with fail
    go_ret
    exact ⟨ret_bool HF.out.symm, Below.refl _ _⟩
  case pos =>
    have g1 : ((ss1.length : Int) == 0) = true := by simpa using e1
    have HF := hid (show needDone (Ne.mk (Cl.mk (Co.mk ctk1 ctv1 ctds1 ctks1) ces1) ss1 hs1) = clVal (Cl.mk (Co.mk ctk1 ctv1 ctds1 ctks1) ces1) by rw [HE.out]; simp [e1])
    clear e1
    go_enter Try.func66, Try.ntmps66
    go_wp2_with fail
    refine HV.out.mono ?_
    rintro e w2 ⟨rfl, hb⟩
    have HB := hid hb
    clear hb
    clear x0 x1 x2 x3 x4 x5
    go_wp2_with fail
    go_ret
    exact ⟨ret_bool HF.out.symm, HB.out⟩
theorem impl_IsFinished (fs1 : List Co) (afs1 : Option Addr) (cfs1 : Nat) (ctk1 : Int) (ctv1 : Int) (ctds1 : List Int) (ctks1 : List Co) (ces1 : List Int) (ss1 : List Fr) (hs1 : List Th) (actds1 : Option Addr) (cctds1 : Nat) (actks1 : Option Addr) (cctks1 : Nat) (aces1 : Option Addr) (cces1 : Nat) (ass1 : Option Addr) (css1 : Nat) (ahs1 : Option Addr) (chs1 : Nat) (w : World) (hMb : Co.bulks fs1 ≤ 1048576) (hM : Ne.bulk (Ne.mk (Cl.mk (Co.mk ctk1 ctv1 ctds1 ctks1) ces1) ss1 hs1) ≤ 1048576) (hrb : RdS w (Bk.d (.mk fs1)) [.slice afs1 fs1.length cfs1]) (hr : RdS w (Ne.d (Ne.mk (Cl.mk (Co.mk ctk1 ctv1 ctds1 ctks1) ces1) ss1 hs1)) [.int .i64 ctk1, .int .i64 ctv1, .slice actds1 ctds1.length cctds1, .slice actks1 ctks1.length cctks1, .slice aces1 ces1.length cces1, .slice ass1 ss1.length css1, .slice ahs1 hs1.length chs1]) :
    Calls Try.prog 27 #[.agg #[.slice afs1 fs1.length cfs1], .agg #[.int .i64 ctk1, .int .i64 ctv1, .slice actds1 ctds1.length cctds1, .slice actks1 ctks1.length cctks1, .slice aces1 ces1.length cces1, .slice ass1 ss1.length css1, .slice ahs1 hs1.length chs1]] w fun e w' => e = .returned (.bool (needFin fs1 (Ne.mk (Cl.mk (Co.mk ctk1 ctv1 ctds1 ctks1) ces1) ss1 hs1))) ∧ Below w.heap.size w w' := by
  have hB := ((Below.refl w.heap.size w).alloc (Nat.le_refl _) (.cells #[.slice afs1 fs1.length cfs1] 45)).alloc (by simp) (.cells #[.int .i64 ctk1, .int .i64 ctv1, .slice actds1 ctds1.length cctds1, .slice actks1 ctks1.length cctks1, .slice aces1 ces1.length cces1, .slice ass1 ss1.length css1, .slice ahs1 hs1.length chs1] 41)
  have hx0 := (((Boxes.nil w).alloc #[.slice afs1 fs1.length cfs1] 45 (0, 0)).alloc #[.int .i64 ctk1, .int .i64 ctv1, .slice actds1 ctds1.length cctds1, .slice actks1 ctks1.length cctks1, .slice aces1 ces1.length cces1, .slice ass1 ss1.length css1, .slice ahs1 hs1.length chs1] 41 (0, 0))
  generalize hw3 : (w.alloc (.cells #[.slice afs1 fs1.length cfs1] 45)).alloc (.cells #[.int .i64 ctk1, .int .i64 ctv1, .slice actds1 ctds1.length cctds1, .slice actks1 ctks1.length cctks1, .slice aces1 ces1.length cces1, .slice ass1 ss1.length css1, .slice ahs1 hs1.length chs1] 41) = w3 at hB hx0
  simp only [World.size_alloc] at hx0
  have HX0 := hid hx0
  have hc := impl_ValidNeed fs1 afs1 cfs1 ctk1 ctv1 ctds1 ctks1 ces1 ss1 hs1 actds1 cctds1 actks1 cctks1 aces1 cces1 ass1 css1 ahs1 chs1 w3 hMb hM (hrb.below hB) (hr.below hB)
  have hr3 := hr.below hB
  have hd := fun W (hW : Below w3.heap.size w3 W) => impl_finished ctk1 ctv1 ctds1 ctks1 ces1 ss1 hs1 actds1 cctds1 actks1 cctks1 aces1 cces1 ass1 css1 ahs1 chs1 (w.heap.size + 1) 0 W ((HX0.out.below hW).at 0 0 rfl rfl) ((HX0.out.below hW).at 0 1 rfl rfl) ((HX0.out.below hW).at 0 2 rfl rfl) ((HX0.out.below hW).at 0 3 rfl rfl) ((HX0.out.below hW).at 0 4 rfl rfl) ((HX0.out.below hW).at 0 5 rfl rfl) ((HX0.out.below hW).at 0 6 rfl rfl) (hr3.below hW)
  have HB := hid hB
  subst hw3
  by_cases hk : needOk fs1 (Ne.mk (Cl.mk (Co.mk ctk1 ctv1 ctds1 ctks1) ces1) ss1 hs1) = true
  case neg =>
    have HF := hid (show needFin fs1 (Ne.mk (Cl.mk (Co.mk ctk1 ctv1 ctds1 ctks1) ces1) ss1 hs1) = false by simp [needFin, hk])
    rw [(Bool.not_eq_true _).mp hk] at hc
    have HC := hid hc
    clear hB hr hrb hM hMb hc hd hk hr3 hx0
    go_enter Try.func27, Try.ntmps27
    go_wp2_with fail
    refine HC.out.mono ?_
    rintro e w1 ⟨rfl, hb⟩
    have HB1 := hid (HB.out.trans (hb.mono HB.out.size))
    clear hb
    go_wp2_with fail
    go_ret
    exact ⟨ret_bool HF.out.symm, HB1.out⟩
  case pos =>
    have HF := hid (show needFin fs1 (Ne.mk (Cl.mk (Co.mk ctk1 ctv1 ctds1 ctks1) ces1) ss1 hs1) = needDone (Ne.mk (Cl.mk (Co.mk ctk1 ctv1 ctds1 ctks1) ces1) ss1 hs1) by simp [needFin, hk])
    rw [hk] at hc
    have HC := hid hc
    have HD := hid hd
    clear hB hr hrb hM hMb hc hd hk hr3 hx0
    go_enter Try.func27, Try.ntmps27
    go_wp2_with fail
    refine HC.out.mono ?_
    rintro e w1 ⟨rfl, hb⟩
    have HB1 := hid (HB.out.trans (hb.mono HB.out.size))
    have HDD := hid (HD.out _ hb)
    clear hb HD
    go_wp2_with fail
    refine HDD.out.mono ?_
    rintro e w2 ⟨rfl, hb⟩
    have HB2 := hid (HB1.out.trans (hb.mono HB1.out.size))
    clear hb
    go_wp2_with fail
    go_ret
    exact ⟨ret_bool HF.out.symm, HB2.out⟩
end Go.Proofs.Ytlbebnmhldolnaa
