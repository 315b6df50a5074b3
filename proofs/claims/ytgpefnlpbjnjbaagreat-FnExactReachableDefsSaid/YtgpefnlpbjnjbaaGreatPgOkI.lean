/- Walks: ValidProgram, in the program. -/
import Derived.Test.YtgpefnlpbjnjbaaGreatPgNamed
import Derived.Test.YtgpefnlpbjnjbaaGreatSzDf
import Derived.Test.YtgpefnlpbjnjbaaGreatDatOkI
import Derived.Test.YtgpefnlpbjnjbaaGreatTmFits
namespace Go.Proofs.YtgpefnlpbjnjbaaGreat
open Go.ChangeShapes Go.WideShapes Go.ChangeAt Go.RowKit Go.BigFrame
open Go.Sort (grow)
set_option linter.unusedVariables false

set_option maxRecDepth 100000 in
set_option maxHeartbeats 4000000 in
theorem impl_ValidProgram (ds1 : List Dat) (fs1 : List Df) (ads1 : Option Addr) (cds1 : Nat) (afs1 : Option Addr) (cfs1 : Nat) (w : World) (hM : Pg.bulk (Pg.mk ds1 fs1) ≤ 1048576) (hr : RdS w (Pg.d (Pg.mk ds1 fs1)) [.slice ads1 ds1.length cds1, .slice afs1 fs1.length cfs1]) :
    Calls Tryz.prog 32 #[.agg #[.slice ads1 ds1.length cds1, .slice afs1 fs1.length cfs1]] w fun e w' => e = .returned (.bool (progOk ds1 fs1)) ∧ Below w.heap.size w w' := by
  have hlen := Df.bulks_length fs1
  have hfl := hr.fPg.2
  have hdl := hr.fPg.1
  have hMd : Dat.bulks ds1 ≤ 1048576 := by simp only [Pg.bulk] at hM; omega
  have hMf : Df.bulks fs1 ≤ 1048576 := by simp only [Pg.bulk] at hM; omega
  have HFL := hid hfl
  have HMF := hid hMf
  obtain ⟨_, _, e, h2, h3, h4⟩ := hfl.eDf
  simp only [Value.slice.injEq, true_and] at e
  obtain ⟨rfl, rfl⟩ := e
  have H4 := hid h4
  have hlk : fs1.length ≤ 1048576 := by omega
  have hB := (Below.refl w.heap.size w).alloc (Nat.le_refl _) (.cells #[.slice ads1 ds1.length cds1, .slice afs1 fs1.length cfs1] 32)
  have HB0 := hid hB
  have HX0 := hid ((Boxes.nil w).alloc #[.slice ads1 ds1.length cds1, .slice afs1 fs1.length cfs1] 32 (0, 0))
  have hd := impl_ValidDatas ds1 ads1 cds1 (w.alloc (.cells #[.slice ads1 ds1.length cds1, .slice afs1 fs1.length cfs1] 32)) hMd (hdl.below hB)
  clear hr hfl hdl hM hMd hMf h4 h2 h3 hlen hB
  by_cases hdo : datasOk ds1 = true
  case neg =>
    have HF := hid (show progOk ds1 fs1 = false by simp [progOk, hdo])
    rw [(Bool.not_eq_true _).mp hdo] at hd
    have HD := hid hd
    clear hd hdo
    go_enter Tryz.func32, Tryz.ntmps32
    go_wp2_with fail
    refine HD.out.mono ?_
    rintro e w1 ⟨rfl, hb⟩
    have HB1 := hid (HB0.out.trans (hb.mono HB0.out.size))
    clear hb
    go_wp2_with fail
    go_ret
    exact ⟨ret_bool HF.out.symm, HB1.out⟩
  case pos =>
  have HF0 := hid (show progOk ds1 fs1 = (inR fs1.length 1 8 && dfsOk fs1 fs1 0) by rw [progOk, hdo]; rfl)
  rw [hdo] at hd
  have HD := hid hd
  clear hd hdo
  by_cases hl1 : fs1.length < 1
  case pos =>
    have HF := hid (show progOk ds1 fs1 = false by rw [HF0.out, inR_f (by omega)]; rfl)
    have g1 : decide ((fs1.length : Int) < 1) = true := decide_eq_true (by omega)
    clear hl1
    go_enter Tryz.func32, Tryz.ntmps32
    go_wp2_with fail
    refine HD.out.mono ?_
    rintro e w1 ⟨rfl, hb⟩
    have HB1 := hid (HB0.out.trans (hb.mono HB0.out.size))
    have x1 := (HX0.out.below hb).at 0 1 rfl rfl
    clear hb
    go_wp2_with fail
    go_ret
    exact ⟨ret_bool HF.out.symm, HB1.out⟩
  case neg =>
  have g1 : decide ((fs1.length : Int) < 1) = false := decide_eq_false (by omega)
  by_cases hl8 : 8 < fs1.length
  case pos =>
    have HF := hid (show progOk ds1 fs1 = false by rw [HF0.out, inR_f (by omega)]; rfl)
    have g8 : decide ((8 : Int) < (fs1.length : Int)) = true := decide_eq_true (by omega)
    clear hl8 hl1
    go_enter Tryz.func32, Tryz.ntmps32
    go_wp2_with fail
    refine HD.out.mono ?_
    rintro e w1 ⟨rfl, hb⟩
    have HB1 := hid (HB0.out.trans (hb.mono HB0.out.size))
    have x1 := (HX0.out.below hb).at 0 1 rfl rfl
    clear hb
    go_wp2_with fail
    go_ret
    exact ⟨ret_bool HF.out.symm, HB1.out⟩
  case neg =>
  have g8 : decide ((8 : Int) < (fs1.length : Int)) = false := decide_eq_false (by omega)
  have HF := hid (show progOk ds1 fs1 = dfsOk fs1 fs1 0 by rw [HF0.out, inR_t (by omega) (by omega)]; rfl)
  clear hl1 hl8
  go_enter Tryz.func32, Tryz.ntmps32
  go_wp2_with fail
  refine HD.out.mono ?_
  rintro e w1 ⟨rfl, hb⟩
  have HB1 := hid (HB0.out.trans (hb.mono HB0.out.size))
  have HX1 := hid (HX0.out.below hb)
  have x1 := HX1.out.at 0 1 rfl rfl
  clear hb HD
  go_wp2_with fail
  clear x1
  go_loopw [24] (fun i wr => ∃ (j : Nat), j ≤ fs1.length ∧ i = .int .i64 j ∧ Hid (∀ (i : Nat) t, i < j → fs1[i]? = some t → dfOk fs1 i t = true) ∧ Below w1.heap.size w1 wr) (fun i _ => fs1.length - (intOf i).toNat)
  case atStart => exact ⟨0, by omega, rfl, fun i t hi => absurd hi (by omega), Below.refl _ _⟩
  case round =>
    obtain ⟨j, hj, rfl, HJ, hb0⟩ := hrel
    by_cases hlt : j < fs1.length
    case neg =>
      go_wp2_with fail
      go_ret
      exact ⟨ret_bool (by rw [HF.out, dfsOk_yes fs1 fs1 0 fun i t hti => by rw [Nat.zero_add]; exact HJ.out i t (by have := (List.getElem?_eq_some_iff.1 hti).1; omega) hti]), (HB1.out.trans (hb0.mono HB1.out.size))⟩
    case pos =>
      obtain ⟨b, o, rfl, hbl, hall⟩ := H4.out (by omega)
      obtain ⟨t, ht⟩ : ∃ t, fs1[j]? = some t := ⟨_, List.getElem?_eq_getElem hlt⟩
      obtain ⟨n3, ⟨tk3, tn3, tks3⟩, ⟨bk3, bu3, bn3, ⟨btk3, btn3, btks3⟩, bns3, bks3⟩⟩ := t
      obtain ⟨atks3, ctks3, abtks3, cbtks3, abns3, cbns3, abks3, cbks3, q0, q1, q2, q3, q4, q5, q6, q7, q8, q9, q10, q11, hrk⟩ := hall j n3 tk3 tn3 tks3 bk3 bu3 bn3 btk3 btn3 btks3 bns3 bks3 ht
      clear hall H4
      have HT := hid ht
      have hbg := Df.bulk_get fs1 j _ ht
      have hbk : Df.bulk (Df.mk n3 (Ty.mk tk3 tn3 tks3) (Tm.mk bk3 bu3 bn3 (Ty.mk btk3 btn3 btks3) bns3 bks3)) = n3.size + Ty.bulk (Ty.mk tk3 tn3 tks3) + Tm.bulk (Tm.mk bk3 bu3 bn3 (Ty.mk btk3 btn3 btks3) bns3 bks3) := rfl
      have hMt : Ty.bulk (Ty.mk tk3 tn3 tks3) ≤ 1048576 := by have := HMF.out; omega
      have hMb : Tm.bulk (Tm.mk bk3 bu3 bn3 (Ty.mk btk3 btn3 btks3) bns3 bks3) ≤ 1048576 := by have := HMF.out; omega
      have HLE := hid (namedF_le fs1 j n3 (Ty.mk tk3 tn3 tks3) (Tm.mk bk3 bu3 bn3 (Ty.mk btk3 btn3 btks3) bns3 bks3) ht)
      have HB := hid (HB1.out.trans (hb0.mono HB1.out.size))
      have c0 := (HB.out.cell (p := ⟨b, o + j * 12, none⟩) hbl).trans q0
      have c1 := (HB.out.cell (p := ⟨b, o + j * 12 + 1, none⟩) hbl).trans q1
      have c2 := (HB.out.cell (p := ⟨b, o + j * 12 + 2, none⟩) hbl).trans q2
      have c3 := (HB.out.cell (p := ⟨b, o + j * 12 + 3, none⟩) hbl).trans q3
      have c4 := (HB.out.cell (p := ⟨b, o + j * 12 + 4, none⟩) hbl).trans q4
      have c5 := (HB.out.cell (p := ⟨b, o + j * 12 + 5, none⟩) hbl).trans q5
      have c6 := (HB.out.cell (p := ⟨b, o + j * 12 + 6, none⟩) hbl).trans q6
      have c7 := (HB.out.cell (p := ⟨b, o + j * 12 + 7, none⟩) hbl).trans q7
      have c8 := (HB.out.cell (p := ⟨b, o + j * 12 + 8, none⟩) hbl).trans q8
      have c9 := (HB.out.cell (p := ⟨b, o + j * 12 + 9, none⟩) hbl).trans q9
      have c10 := (HB.out.cell (p := ⟨b, o + j * 12 + 10, none⟩) hbl).trans q10
      have c11 := (HB.out.cell (p := ⟨b, o + j * 12 + 11, none⟩) hbl).trans q11
      have hbk1 : Below wr.heap.size wr (wr.alloc (.cells #[.string n3, .int .i64 tk3, .string tn3, .slice atks3 tks3.length ctks3, .int .i64 bk3, .int .i64 bu3, .string bn3, .int .i64 btk3, .string btn3, .slice abtks3 btks3.length cbtks3, .slice abns3 bns3.length cbns3, .slice abks3 bks3.length cbks3] 65)) := (Below.refl _ _).alloc (Nat.le_refl _) _
      have HBK := hid hbk1
      have HBX := hid hb0
      have HY := hid ((HX1.out.below hb0).alloc #[.string n3, .int .i64 tk3, .string tn3, .slice atks3 tks3.length ctks3, .int .i64 bk3, .int .i64 bu3, .string bn3, .int .i64 btk3, .string btn3, .slice abtks3 btks3.length cbtks3, .slice abns3 bns3.length cbns3, .slice abks3 bks3.length cbks3] 65 (0, 0))
      have hRT := ((RdS.subDf_t hrk).below HB.out).below hbk1
      have hRB := ((RdS.subDf_b hrk).below HB.out).below hbk1
      have hRF := (HFL.out.below HB.out).below hbk1
      have hv := fun W (_ : Below (wr.alloc (.cells #[.string n3, .int .i64 tk3, .string tn3, .slice atks3 tks3.length ctks3, .int .i64 bk3, .int .i64 bu3, .string bn3, .int .i64 btk3, .string btn3, .slice abtks3 btks3.length cbtks3, .slice abns3 bns3.length cbns3, .slice abks3 bks3.length cbks3] 65)).heap.size (wr.alloc (.cells #[.string n3, .int .i64 tk3, .string tn3, .slice atks3 tks3.length ctks3, .int .i64 bk3, .int .i64 bu3, .string bn3, .int .i64 btk3, .string btn3, .slice abtks3 btks3.length cbtks3, .slice abns3 bns3.length cbns3, .slice abks3 bks3.length cbks3] 65)) W) => impl_IsLower n3 W
      have hn := fun W (hW : Below (wr.alloc (.cells #[.string n3, .int .i64 tk3, .string tn3, .slice atks3 tks3.length ctks3, .int .i64 bk3, .int .i64 bu3, .string bn3, .int .i64 btk3, .string btn3, .slice abtks3 btks3.length cbtks3, .slice abns3 bns3.length cbns3, .slice abks3 bks3.length cbks3] 65)).heap.size (wr.alloc (.cells #[.string n3, .int .i64 tk3, .string tn3, .slice atks3 tks3.length ctks3, .int .i64 bk3, .int .i64 bu3, .string bn3, .int .i64 btk3, .string btn3, .slice abtks3 btks3.length cbtks3, .slice abns3 bns3.length cbns3, .slice abks3 bks3.length cbks3] 65)) W) => impl_findDef ds1 fs1 ads1 cds1 (some ⟨b, o, none⟩) cfs1 n3 W (hRF.below hW)
      have hvt := fun W (hW : Below (wr.alloc (.cells #[.string n3, .int .i64 tk3, .string tn3, .slice atks3 tks3.length ctks3, .int .i64 bk3, .int .i64 bu3, .string bn3, .int .i64 btk3, .string btn3, .slice abtks3 btks3.length cbtks3, .slice abns3 bns3.length cbns3, .slice abks3 bks3.length cbks3] 65)).heap.size (wr.alloc (.cells #[.string n3, .int .i64 tk3, .string tn3, .slice atks3 tks3.length ctks3, .int .i64 bk3, .int .i64 bu3, .string bn3, .int .i64 btk3, .string btn3, .slice abtks3 btks3.length cbtks3, .slice abns3 bns3.length cbns3, .slice abks3 bks3.length cbks3] 65)) W) => impl_ValidType tk3 tn3 tks3 atks3 ctks3 W hMt (hRT.below hW)
      have hvb := fun W (hW : Below (wr.alloc (.cells #[.string n3, .int .i64 tk3, .string tn3, .slice atks3 tks3.length ctks3, .int .i64 bk3, .int .i64 bu3, .string bn3, .int .i64 btk3, .string btn3, .slice abtks3 btks3.length cbtks3, .slice abns3 bns3.length cbns3, .slice abks3 bks3.length cbks3] 65)).heap.size (wr.alloc (.cells #[.string n3, .int .i64 tk3, .string tn3, .slice atks3 tks3.length ctks3, .int .i64 bk3, .int .i64 bu3, .string bn3, .int .i64 btk3, .string btn3, .slice abtks3 btks3.length cbtks3, .slice abns3 bns3.length cbns3, .slice abks3 bks3.length cbks3] 65)) W) => impl_ValidTerm bk3 bu3 bn3 btk3 btn3 btks3 bns3 bks3 abtks3 cbtks3 abns3 cbns3 abks3 cbks3 W hMb (hRB.below hW)
      generalize hr2 : namedF fs1 n3 = r at hn
      have HR2 := hid hr2
      clear ht hrk hbg hbk hMt hMb hr2 hb0 hbk1 hRT hRB hRF q0 q1 q2 q3 q4 q5 q6 q7 q8 q9 q10 q11
      by_cases t1 : isLowerB n3 = true
      case neg =>
        have HDF := hid (show dfOk fs1 j (Df.mk n3 (Ty.mk tk3 tn3 tks3) (Tm.mk bk3 bu3 bn3 (Ty.mk btk3 btn3 btks3) bns3 bks3)) = false by rw [dfOk_eq]; simp [t1])
        rw [(Bool.not_eq_true _).mp t1] at hv
        have HV := hid hv
        have HN := hid hn
        have HTY := hid hvt
        have HTM := hid hvb
        clear hv hn hvt hvb t1
        go_wp2_with fail
        refine (HV.out _ (Below.refl _ _)).mono ?_
        rintro e v0 ⟨rfl, hb⟩
        have HB0_ := hid hb
        have HY0 := hid (HY.out.below hb)
        clear hb c0 c1 c2 c3 c4 c5 c6 c7 c8 c9 c10 c11
        go_wp2_with fail
        have hbx := HBX.out.trans ((HBK.out.trans (HB0_.out.mono HBK.out.size)).mono HBX.out.size)
        have hbw := HB1.out.trans (hbx.mono HB1.out.size)
        go_ret
        exact ⟨ret_bool (by rw [HF.out, dfsOk_no fs1 fs1 0 j _ HT.out (by rw [Nat.zero_add]; exact HDF.out)]), hbw⟩
      case pos =>
      by_cases t2 : namedF fs1 n3 = j
      case neg =>
        have HDF := hid (show dfOk fs1 j (Df.mk n3 (Ty.mk tk3 tn3 tks3) (Tm.mk bk3 bu3 bn3 (Ty.mk btk3 btn3 btks3) bns3 bks3)) = false by rw [dfOk_eq]; simp [t1, t2])
        rw [t1] at hv
        have g2 : decide (r < (j : Int)) = true := by rw [← HR2.out]; simp only [decide_eq_true_eq]; have := HLE.out; omega
        have HV := hid hv
        have HN := hid hn
        have HTY := hid hvt
        have HTM := hid hvb
        clear hv hn hvt hvb t1 t2
        go_wp2_with fail
        refine (HV.out _ (Below.refl _ _)).mono ?_
        rintro e v0 ⟨rfl, hb⟩
        have HB0_ := hid hb
        have HY0 := hid (HY.out.below hb)
        clear hb c0 c1 c2 c3 c4 c5 c6 c7 c8 c9 c10 c11
        have e0 := HY0.out.at 1 0 rfl rfl
        have e1 := HY0.out.at 1 1 rfl rfl
        have f0 := HY0.out.at 0 0 rfl rfl
        have f1 := HY0.out.at 0 1 rfl rfl
        have f2 := HY0.out.at 0 2 rfl rfl
        have f3 := HY0.out.at 0 3 rfl rfl
        have f4 := HY0.out.at 0 4 rfl rfl
        have f5 := HY0.out.at 0 5 rfl rfl
        have f6 := HY0.out.at 0 6 rfl rfl
        have f7 := HY0.out.at 0 7 rfl rfl
        have f8 := HY0.out.at 0 8 rfl rfl
        have f9 := HY0.out.at 0 9 rfl rfl
        have f10 := HY0.out.at 0 10 rfl rfl
        have f11 := HY0.out.at 0 11 rfl rfl
        go_wp2_with fail
        refine (HN.out _ HB0_.out).mono ?_
        rintro e v1 ⟨rfl, hb⟩
        have HB1_ := hid (HB0_.out.trans (hb.mono HB0_.out.size))
        have HY1 := hid (HY0.out.below hb)
        clear hb e0 e1 f0 f1 f2 f3 f4 f5 f6 f7 f8 f9 f10 f11
        go_wp2_with fail
        have hbx := HBX.out.trans ((HBK.out.trans (HB1_.out.mono HBK.out.size)).mono HBX.out.size)
        have hbw := HB1.out.trans (hbx.mono HB1.out.size)
        go_ret
        exact ⟨ret_bool (by rw [HF.out, dfsOk_no fs1 fs1 0 j _ HT.out (by rw [Nat.zero_add]; exact HDF.out)]), hbw⟩
      case pos =>
      by_cases t3 : Ty.ok (Ty.mk tk3 tn3 tks3) = true
      case neg =>
        have HDF := hid (show dfOk fs1 j (Df.mk n3 (Ty.mk tk3 tn3 tks3) (Tm.mk bk3 bu3 bn3 (Ty.mk btk3 btn3 btks3) bns3 bks3)) = false by rw [dfOk_eq]; simp [t1, t2, t3])
        rw [t1] at hv
        rw [(Bool.not_eq_true _).mp t3] at hvt
        have g2 : decide (r < (j : Int)) = false := by rw [← HR2.out, t2]; simp
        have HV := hid hv
        have HN := hid hn
        have HTY := hid hvt
        have HTM := hid hvb
        clear hv hn hvt hvb t1 t2 t3
        go_wp2_with fail
        refine (HV.out _ (Below.refl _ _)).mono ?_
        rintro e v0 ⟨rfl, hb⟩
        have HB0_ := hid hb
        have HY0 := hid (HY.out.below hb)
        clear hb c0 c1 c2 c3 c4 c5 c6 c7 c8 c9 c10 c11
        have e0 := HY0.out.at 1 0 rfl rfl
        have e1 := HY0.out.at 1 1 rfl rfl
        have f0 := HY0.out.at 0 0 rfl rfl
        have f1 := HY0.out.at 0 1 rfl rfl
        have f2 := HY0.out.at 0 2 rfl rfl
        have f3 := HY0.out.at 0 3 rfl rfl
        have f4 := HY0.out.at 0 4 rfl rfl
        have f5 := HY0.out.at 0 5 rfl rfl
        have f6 := HY0.out.at 0 6 rfl rfl
        have f7 := HY0.out.at 0 7 rfl rfl
        have f8 := HY0.out.at 0 8 rfl rfl
        have f9 := HY0.out.at 0 9 rfl rfl
        have f10 := HY0.out.at 0 10 rfl rfl
        have f11 := HY0.out.at 0 11 rfl rfl
        go_wp2_with fail
        refine (HN.out _ HB0_.out).mono ?_
        rintro e v1 ⟨rfl, hb⟩
        have HB1_ := hid (HB0_.out.trans (hb.mono HB0_.out.size))
        have HY1 := hid (HY0.out.below hb)
        clear hb e0 e1 f0 f1 f2 f3 f4 f5 f6 f7 f8 f9 f10 f11
        have e0 := HY1.out.at 1 0 rfl rfl
        have e1 := HY1.out.at 1 1 rfl rfl
        have f0 := HY1.out.at 0 0 rfl rfl
        have f1 := HY1.out.at 0 1 rfl rfl
        have f2 := HY1.out.at 0 2 rfl rfl
        have f3 := HY1.out.at 0 3 rfl rfl
        have f4 := HY1.out.at 0 4 rfl rfl
        have f5 := HY1.out.at 0 5 rfl rfl
        have f6 := HY1.out.at 0 6 rfl rfl
        have f7 := HY1.out.at 0 7 rfl rfl
        have f8 := HY1.out.at 0 8 rfl rfl
        have f9 := HY1.out.at 0 9 rfl rfl
        have f10 := HY1.out.at 0 10 rfl rfl
        have f11 := HY1.out.at 0 11 rfl rfl
        go_wp2_with fail
        refine (HTY.out _ HB1_.out).mono ?_
        rintro e v2 ⟨rfl, hb⟩
        have HB2_ := hid (HB1_.out.trans (hb.mono HB1_.out.size))
        have HY2 := hid (HY1.out.below hb)
        clear hb e0 e1 f0 f1 f2 f3 f4 f5 f6 f7 f8 f9 f10 f11
        go_wp2_with fail
        have hbx := HBX.out.trans ((HBK.out.trans (HB2_.out.mono HBK.out.size)).mono HBX.out.size)
        have hbw := HB1.out.trans (hbx.mono HB1.out.size)
        go_ret
        exact ⟨ret_bool (by rw [HF.out, dfsOk_no fs1 fs1 0 j _ HT.out (by rw [Nat.zero_add]; exact HDF.out)]), hbw⟩
      case pos =>
      by_cases t4 : Tm.ok (Tm.mk bk3 bu3 bn3 (Ty.mk btk3 btn3 btks3) bns3 bks3) = true
      case neg =>
        have HDF := hid (show dfOk fs1 j (Df.mk n3 (Ty.mk tk3 tn3 tks3) (Tm.mk bk3 bu3 bn3 (Ty.mk btk3 btn3 btks3) bns3 bks3)) = false by rw [dfOk_eq]; simp [t1, t2, t3, t4])
        rw [t1] at hv
        rw [t3] at hvt
        rw [(Bool.not_eq_true _).mp t4] at hvb
        have g2 : decide (r < (j : Int)) = false := by rw [← HR2.out, t2]; simp
        have HV := hid hv
        have HN := hid hn
        have HTY := hid hvt
        have HTM := hid hvb
        clear hv hn hvt hvb t1 t2 t3 t4
        go_wp2_with fail
        refine (HV.out _ (Below.refl _ _)).mono ?_
        rintro e v0 ⟨rfl, hb⟩
        have HB0_ := hid hb
        have HY0 := hid (HY.out.below hb)
        clear hb c0 c1 c2 c3 c4 c5 c6 c7 c8 c9 c10 c11
        have e0 := HY0.out.at 1 0 rfl rfl
        have e1 := HY0.out.at 1 1 rfl rfl
        have f0 := HY0.out.at 0 0 rfl rfl
        have f1 := HY0.out.at 0 1 rfl rfl
        have f2 := HY0.out.at 0 2 rfl rfl
        have f3 := HY0.out.at 0 3 rfl rfl
        have f4 := HY0.out.at 0 4 rfl rfl
        have f5 := HY0.out.at 0 5 rfl rfl
        have f6 := HY0.out.at 0 6 rfl rfl
        have f7 := HY0.out.at 0 7 rfl rfl
        have f8 := HY0.out.at 0 8 rfl rfl
        have f9 := HY0.out.at 0 9 rfl rfl
        have f10 := HY0.out.at 0 10 rfl rfl
        have f11 := HY0.out.at 0 11 rfl rfl
        go_wp2_with fail
        refine (HN.out _ HB0_.out).mono ?_
        rintro e v1 ⟨rfl, hb⟩
        have HB1_ := hid (HB0_.out.trans (hb.mono HB0_.out.size))
        have HY1 := hid (HY0.out.below hb)
        clear hb e0 e1 f0 f1 f2 f3 f4 f5 f6 f7 f8 f9 f10 f11
        have e0 := HY1.out.at 1 0 rfl rfl
        have e1 := HY1.out.at 1 1 rfl rfl
        have f0 := HY1.out.at 0 0 rfl rfl
        have f1 := HY1.out.at 0 1 rfl rfl
        have f2 := HY1.out.at 0 2 rfl rfl
        have f3 := HY1.out.at 0 3 rfl rfl
        have f4 := HY1.out.at 0 4 rfl rfl
        have f5 := HY1.out.at 0 5 rfl rfl
        have f6 := HY1.out.at 0 6 rfl rfl
        have f7 := HY1.out.at 0 7 rfl rfl
        have f8 := HY1.out.at 0 8 rfl rfl
        have f9 := HY1.out.at 0 9 rfl rfl
        have f10 := HY1.out.at 0 10 rfl rfl
        have f11 := HY1.out.at 0 11 rfl rfl
        go_wp2_with fail
        refine (HTY.out _ HB1_.out).mono ?_
        rintro e v2 ⟨rfl, hb⟩
        have HB2_ := hid (HB1_.out.trans (hb.mono HB1_.out.size))
        have HY2 := hid (HY1.out.below hb)
        clear hb e0 e1 f0 f1 f2 f3 f4 f5 f6 f7 f8 f9 f10 f11
        have e0 := HY2.out.at 1 0 rfl rfl
        have e1 := HY2.out.at 1 1 rfl rfl
        have f0 := HY2.out.at 0 0 rfl rfl
        have f1 := HY2.out.at 0 1 rfl rfl
        have f2 := HY2.out.at 0 2 rfl rfl
        have f3 := HY2.out.at 0 3 rfl rfl
        have f4 := HY2.out.at 0 4 rfl rfl
        have f5 := HY2.out.at 0 5 rfl rfl
        have f6 := HY2.out.at 0 6 rfl rfl
        have f7 := HY2.out.at 0 7 rfl rfl
        have f8 := HY2.out.at 0 8 rfl rfl
        have f9 := HY2.out.at 0 9 rfl rfl
        have f10 := HY2.out.at 0 10 rfl rfl
        have f11 := HY2.out.at 0 11 rfl rfl
        go_wp2_with fail
        refine (HTM.out _ HB2_.out).mono ?_
        rintro e v3 ⟨rfl, hb⟩
        have HB3_ := hid (HB2_.out.trans (hb.mono HB2_.out.size))
        have HY3 := hid (HY2.out.below hb)
        clear hb e0 e1 f0 f1 f2 f3 f4 f5 f6 f7 f8 f9 f10 f11
        go_wp2_with fail
        have hbx := HBX.out.trans ((HBK.out.trans (HB3_.out.mono HBK.out.size)).mono HBX.out.size)
        have hbw := HB1.out.trans (hbx.mono HB1.out.size)
        go_ret
        exact ⟨ret_bool (by rw [HF.out, dfsOk_no fs1 fs1 0 j _ HT.out (by rw [Nat.zero_add]; exact HDF.out)]), hbw⟩
      case pos =>
      have HDF := hid (show dfOk fs1 j (Df.mk n3 (Ty.mk tk3 tn3 tks3) (Tm.mk bk3 bu3 bn3 (Ty.mk btk3 btn3 btks3) bns3 bks3)) = true by rw [dfOk_eq]; simp [t1, t2, t3, t4])
      rw [t1] at hv
      rw [t3] at hvt
      rw [t4] at hvb
      have g2 : decide (r < (j : Int)) = false := by rw [← HR2.out, t2]; simp
      have HV := hid hv
      have HN := hid hn
      have HTY := hid hvt
      have HTM := hid hvb
      clear hv hn hvt hvb t1 t2 t3 t4
      go_wp2_with fail
      refine (HV.out _ (Below.refl _ _)).mono ?_
      rintro e v0 ⟨rfl, hb⟩
      have HB0_ := hid hb
      have HY0 := hid (HY.out.below hb)
      clear hb c0 c1 c2 c3 c4 c5 c6 c7 c8 c9 c10 c11
      have e0 := HY0.out.at 1 0 rfl rfl
      have e1 := HY0.out.at 1 1 rfl rfl
      have f0 := HY0.out.at 0 0 rfl rfl
      have f1 := HY0.out.at 0 1 rfl rfl
      have f2 := HY0.out.at 0 2 rfl rfl
      have f3 := HY0.out.at 0 3 rfl rfl
      have f4 := HY0.out.at 0 4 rfl rfl
      have f5 := HY0.out.at 0 5 rfl rfl
      have f6 := HY0.out.at 0 6 rfl rfl
      have f7 := HY0.out.at 0 7 rfl rfl
      have f8 := HY0.out.at 0 8 rfl rfl
      have f9 := HY0.out.at 0 9 rfl rfl
      have f10 := HY0.out.at 0 10 rfl rfl
      have f11 := HY0.out.at 0 11 rfl rfl
      go_wp2_with fail
      refine (HN.out _ HB0_.out).mono ?_
      rintro e v1 ⟨rfl, hb⟩
      have HB1_ := hid (HB0_.out.trans (hb.mono HB0_.out.size))
      have HY1 := hid (HY0.out.below hb)
      clear hb e0 e1 f0 f1 f2 f3 f4 f5 f6 f7 f8 f9 f10 f11
      have e0 := HY1.out.at 1 0 rfl rfl
      have e1 := HY1.out.at 1 1 rfl rfl
      have f0 := HY1.out.at 0 0 rfl rfl
      have f1 := HY1.out.at 0 1 rfl rfl
      have f2 := HY1.out.at 0 2 rfl rfl
      have f3 := HY1.out.at 0 3 rfl rfl
      have f4 := HY1.out.at 0 4 rfl rfl
      have f5 := HY1.out.at 0 5 rfl rfl
      have f6 := HY1.out.at 0 6 rfl rfl
      have f7 := HY1.out.at 0 7 rfl rfl
      have f8 := HY1.out.at 0 8 rfl rfl
      have f9 := HY1.out.at 0 9 rfl rfl
      have f10 := HY1.out.at 0 10 rfl rfl
      have f11 := HY1.out.at 0 11 rfl rfl
      go_wp2_with fail
      refine (HTY.out _ HB1_.out).mono ?_
      rintro e v2 ⟨rfl, hb⟩
      have HB2_ := hid (HB1_.out.trans (hb.mono HB1_.out.size))
      have HY2 := hid (HY1.out.below hb)
      clear hb e0 e1 f0 f1 f2 f3 f4 f5 f6 f7 f8 f9 f10 f11
      have e0 := HY2.out.at 1 0 rfl rfl
      have e1 := HY2.out.at 1 1 rfl rfl
      have f0 := HY2.out.at 0 0 rfl rfl
      have f1 := HY2.out.at 0 1 rfl rfl
      have f2 := HY2.out.at 0 2 rfl rfl
      have f3 := HY2.out.at 0 3 rfl rfl
      have f4 := HY2.out.at 0 4 rfl rfl
      have f5 := HY2.out.at 0 5 rfl rfl
      have f6 := HY2.out.at 0 6 rfl rfl
      have f7 := HY2.out.at 0 7 rfl rfl
      have f8 := HY2.out.at 0 8 rfl rfl
      have f9 := HY2.out.at 0 9 rfl rfl
      have f10 := HY2.out.at 0 10 rfl rfl
      have f11 := HY2.out.at 0 11 rfl rfl
      go_wp2_with fail
      refine (HTM.out _ HB2_.out).mono ?_
      rintro e v3 ⟨rfl, hb⟩
      have HB3_ := hid (HB2_.out.trans (hb.mono HB2_.out.size))
      have HY3 := hid (HY2.out.below hb)
      clear hb e0 e1 f0 f1 f2 f3 f4 f5 f6 f7 f8 f9 f10 f11
      go_wp2_with fail
      have hbx := HBX.out.trans ((HBK.out.trans (HB3_.out.mono HBK.out.size)).mono HBX.out.size)
      have hbw := HB1.out.trans (hbx.mono HB1.out.size)
      go_roundw
      case rel => exact ⟨j + 1, by omega, by go_num, fun i t hi hti => (Nat.lt_succ_iff_lt_or_eq.1 hi).elim (fun hi => HJ.out i t hi hti) (fun he => by subst he; obtain rfl := Option.some.inj (hti.symm.trans HT.out); exact HDF.out), hbx⟩
      case measure => simp [intOf]; omega

end Go.Proofs.YtgpefnlpbjnjbaaGreat
