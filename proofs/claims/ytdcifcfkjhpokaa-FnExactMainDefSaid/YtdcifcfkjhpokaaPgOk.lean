/- Walks: ValidProgram, in the reference. -/
import Derived.Test.YtdcifcfkjhpokaaPgNamed
import Derived.Test.YtdcifcfkjhpokaaSzDf
import Derived.Test.YtdcifcfkjhpokaaDatOk
import Derived.Test.YtdcifcfkjhpokaaTmValid
namespace Go.Proofs.Ytdcifcfkjhpokaa
open Go.ChangeShapes Go.WideShapes Go.ChangeAt Go.RowKit Go.BigFrame
open Go.Sort (grow)
set_option linter.unusedVariables false

set_option maxRecDepth 100000 in
set_option maxHeartbeats 4000000 in
theorem spec_l03Program (ds1 : List Dat) (fs1 : List Df) (ads1 : Option Addr) (cds1 : Nat) (afs1 : Option Addr) (cfs1 : Nat) (b1 o1 : Nat) (w : World) (hM : Pg.bulk (Pg.mk ds1 fs1) ≤ 1048576) (x0 : w.cell? ⟨b1, o1, none⟩ = some (.slice ads1 ds1.length cds1)) (x1 : w.cell? ⟨b1, o1 + 1, none⟩ = some (.slice afs1 fs1.length cfs1)) (hr : RdS w (Pg.d (Pg.mk ds1 fs1)) [.slice ads1 ds1.length cds1, .slice afs1 fs1.length cfs1]) :
    Calls Try.prog 85 #[.pointer (some ⟨b1, o1, none⟩)] w fun e w' => e = .returned (.bool (progOk ds1 fs1)) ∧ Below w.heap.size w w' := by
  have hlen := Df.bulks_length fs1
  have hfl := hr.fPg.2
  have hdl := hr.fPg.1
  have hMd : Dat.bulks ds1 ≤ 1048576 := by simp only [Pg.bulk] at hM; omega
  have hMf : Df.bulks fs1 ≤ 1048576 := by simp only [Pg.bulk] at hM; omega
  have HFL := hid hfl
  have HMF := hid hMf
  obtain ⟨_, _, e, h2, h3, h4⟩ := hfl.eDf
  simp only [Value.slice.injEq, true_and] at e
  obtain ⟨rfl, rfl⟩ := e
  have H4 := hid h4
  have hlk : fs1.length ≤ 1048576 := by omega
  have XL := hid (World.block_lt_of_cell? _ _ x1)
  have X1 := hid x1
  have hd := spec_l02Ok ds1 ads1 cds1 w hMd hdl
  clear hr hfl hdl hM hMd hMf h4 h2 h3 hlen
  by_cases hdo : datasOk ds1 = true
  case neg =>
    have HF := hid (show progOk ds1 fs1 = false by simp [progOk, hdo])
    rw [(Bool.not_eq_true _).mp hdo] at hd
    have HD := hid hd
    clear hd hdo
    go_enter Try.func85, Try.ntmps85
    go_wp2_with fail
    refine HD.out.mono ?_
    rintro e w1 ⟨rfl, hb⟩
    have HB1 := hid hb
    clear hb x0 x1
    go_wp2_with fail
    go_ret
    exact ⟨ret_bool HF.out.symm, HB1.out⟩
  case pos =>
  have HF0 := hid (show progOk ds1 fs1 = (inR fs1.length 1 8 && dfsOk fs1 fs1 0) by rw [progOk, hdo]; rfl)
  rw [hdo] at hd
  have HD := hid hd
  clear hd hdo
  by_cases hin : inR fs1.length 1 8 = true
  case neg =>
    have HF := hid (show progOk ds1 fs1 = false by rw [HF0.out, (Bool.not_eq_true _).mp hin]; rfl)
    have HIN := hid ((Bool.not_eq_true _).mp hin)
    clear hin
    go_enter Try.func85, Try.ntmps85
    go_wp2_with fail
    refine HD.out.mono ?_
    rintro e w1 ⟨rfl, hb⟩
    have HB1 := hid hb
    have z1 := (hb.cell (p := ⟨b1, o1 + 1, none⟩) XL.out).trans X1.out
    clear hb x0 x1
    go_wp2_with fail
    refine (spec_In _ _ _ _).mono ?_
    rw [HIN.out]
    rintro e w2 ⟨rfl, rfl⟩
    go_wp2_with fail
    go_ret
    exact ⟨ret_bool HF.out.symm, HB1.out⟩
  case pos =>
  have HF := hid (show progOk ds1 fs1 = dfsOk fs1 fs1 0 by rw [HF0.out, hin]; rfl)
  have HIN := hid hin
  clear hin
  go_enter Try.func85, Try.ntmps85
  go_wp2_with fail
  refine HD.out.mono ?_
  rintro e w1 ⟨rfl, hb⟩
  have HB1 := hid hb
  have z1 := (hb.cell (p := ⟨b1, o1 + 1, none⟩) XL.out).trans X1.out
  clear hb x0 x1
  go_wp2_with fail
  refine (spec_In _ _ _ _).mono ?_
  rw [HIN.out]
  rintro e w2 ⟨rfl, rfl⟩
  clear HD
  go_wp2_with fail
  go_loopw [3] (fun i wr => ∃ (j : Nat), j ≤ fs1.length ∧ i = .int .i64 j ∧ Hid (∀ (i : Nat) t, i < j → fs1[i]? = some t → dfOk fs1 i t = true) ∧ Below w.heap.size w wr) (fun i _ => fs1.length - (intOf i).toNat)
  case atStart => exact ⟨0, by omega, rfl, fun i t hi => absurd hi (by omega), HB1.out⟩
  case round =>
    obtain ⟨j, hj, rfl, HJ, hb0⟩ := hrel
    have zr1 := (hb0.cell (p := ⟨b1, o1 + 1, none⟩) XL.out).trans X1.out
    have zq1 := cell_regrown zr1
    by_cases hlt : j < fs1.length
    case neg =>
      go_wp2_with fail
      go_ret
      exact ⟨ret_bool (by rw [HF.out, dfsOk_yes fs1 fs1 0 fun i t hti => by rw [Nat.zero_add]; exact HJ.out i t (by have := (List.getElem?_eq_some_iff.1 hti).1; omega) hti]), hb0⟩
    case pos =>
      obtain ⟨b, o, rfl, hbl, hall⟩ := H4.out (by omega)
      obtain ⟨t, ht⟩ : ∃ t, fs1[j]? = some t := ⟨_, List.getElem?_eq_getElem hlt⟩
      obtain ⟨n3, ⟨tk3, tn3, tks3⟩, ⟨bk3, bu3, bn3, ⟨btk3, btn3, btks3⟩, bns3, bks3⟩⟩ := t
      obtain ⟨atks3, ctks3, abtks3, cbtks3, abns3, cbns3, abks3, cbks3, q0, q1, q2, q3, q4, q5, q6, q7, q8, q9, q10, q11, hrk⟩ := hall j n3 tk3 tn3 tks3 bk3 bu3 bn3 btk3 btn3 btks3 bns3 bks3 ht
      clear hall H4
      have HT := hid ht
      have hbg := Df.bulk_get fs1 j _ ht
      have hbk : Df.bulk (Df.mk n3 (Ty.mk tk3 tn3 tks3) (Tm.mk bk3 bu3 bn3 (Ty.mk btk3 btn3 btks3) bns3 bks3)) = n3.size + Ty.bulk (Ty.mk tk3 tn3 tks3) + Tm.bulk (Tm.mk bk3 bu3 bn3 (Ty.mk btk3 btn3 btks3) bns3 bks3) := rfl
      have hMt : Ty.bulk (Ty.mk tk3 tn3 tks3) ≤ 1048576 := by have := HMF.out; omega
      have hMb : Tm.bulk (Tm.mk bk3 bu3 bn3 (Ty.mk btk3 btn3 btks3) bns3 bks3) ≤ 1048576 := by have := HMF.out; omega
      have HLE := hid (namedF_le fs1 j n3 (Ty.mk tk3 tn3 tks3) (Tm.mk bk3 bu3 bn3 (Ty.mk btk3 btn3 btks3) bns3 bks3) ht)
      have HB := hid hb0
      have q0r := cell_regrown ((HB.out.cell (p := ⟨b, o + j * 12, none⟩) hbl).trans q0)
      have q1r := cell_regrown ((HB.out.cell (p := ⟨b, o + j * 12 + 1, none⟩) hbl).trans q1)
      have q2r := cell_regrown ((HB.out.cell (p := ⟨b, o + j * 12 + 2, none⟩) hbl).trans q2)
      have q3r := cell_regrown ((HB.out.cell (p := ⟨b, o + j * 12 + 3, none⟩) hbl).trans q3)
      have q4r := cell_regrown ((HB.out.cell (p := ⟨b, o + j * 12 + 4, none⟩) hbl).trans q4)
      have q5r := cell_regrown ((HB.out.cell (p := ⟨b, o + j * 12 + 5, none⟩) hbl).trans q5)
      have q6r := cell_regrown ((HB.out.cell (p := ⟨b, o + j * 12 + 6, none⟩) hbl).trans q6)
      have q7r := cell_regrown ((HB.out.cell (p := ⟨b, o + j * 12 + 7, none⟩) hbl).trans q7)
      have q8r := cell_regrown ((HB.out.cell (p := ⟨b, o + j * 12 + 8, none⟩) hbl).trans q8)
      have q9r := cell_regrown ((HB.out.cell (p := ⟨b, o + j * 12 + 9, none⟩) hbl).trans q9)
      have q10r := cell_regrown ((HB.out.cell (p := ⟨b, o + j * 12 + 10, none⟩) hbl).trans q10)
      have q11r := cell_regrown ((HB.out.cell (p := ⟨b, o + j * 12 + 11, none⟩) hbl).trans q11)
      have hv := fun d os => Calls.regrown_of (spec_IsLower n3 (grow (redrawn wr d) os))
      have hn := fun d os => Calls.regrown_of (calls_below (spec_l03Named fs1 (some ⟨b, o, none⟩) cfs1 n3 (grow (redrawn wr d) os) ((HFL.out.below HB.out).below (below_regrown wr d os))))
      have hvt := fun d os => Calls.regrown_of (spec_ValidType tk3 tn3 tks3 atks3 ctks3 (grow (redrawn wr d) os) hMt (((RdS.subDf_t hrk).below HB.out).below (below_regrown wr d os)))
      have hvb := fun d os => Calls.regrown_of (spec_l03Ok bk3 bu3 bn3 btk3 btn3 btks3 bns3 bks3 abtks3 cbtks3 abns3 cbns3 abks3 cbks3 b (o + j * 12 + 4) (grow (redrawn wr d) os) hMb (q4r d os) (q5r d os) (q6r d os) (q7r d os) (q8r d os) (q9r d os) (q10r d os) (q11r d os) (((RdS.subDf_b hrk).below HB.out).below (below_regrown wr d os)))
      generalize hr2 : namedF fs1 n3 = r at hn
      have HR2 := hid hr2
      clear ht hrk hbg hbk hMt hMb hr2 hb0
      by_cases t1 : isLowerB n3 = true
      case neg =>
        have HDF := hid (show dfOk fs1 j (Df.mk n3 (Ty.mk tk3 tn3 tks3) (Tm.mk bk3 bu3 bn3 (Ty.mk btk3 btn3 btks3) bns3 bks3)) = false by rw [dfOk_eq]; simp [t1])
        rw [(Bool.not_eq_true _).mp t1] at hv
        have HV := hid hv
        have HN := hid hn
        have HTY := hid hvt
        have HTM := hid hvb
        clear hv hn hvt hvb t1
        go_wp2_with fail
        refine wp_region_quiet_below (by kernel_rfl) (by kernel_rfl) ?_
        repeat (go_big_quiet_step (first | exact HV.out _ _ | exact HN.out _ _ | exact HTY.out _ _ | exact HTM.out _ _))
        refine wpQuiet_nil ?_
        intro _ hw'
        obtain ⟨⟨dq, osq⟩, hw''⟩ := hw'
        subst hw''
        have hbw := HB.out.trans ((below_regrown wr dq osq).mono HB.out.size)
        clear HV HN HTY HTM zr1 zq1 q0r q1r q2r q3r q4r q5r q6r q7r q8r q9r q10r q11r q0 q1 q2 q3 q4 q5 q6 q7 q8 q9 q10 q11
        go_wp2_with fail
        go_ret
        exact ⟨ret_bool (by rw [HF.out, dfsOk_no fs1 fs1 0 j _ HT.out (by rw [Nat.zero_add]; exact HDF.out)]), hbw⟩
      case pos =>
      by_cases t2 : namedF fs1 n3 = j
      case neg =>
        have HDF := hid (show dfOk fs1 j (Df.mk n3 (Ty.mk tk3 tn3 tks3) (Tm.mk bk3 bu3 bn3 (Ty.mk btk3 btn3 btks3) bns3 bks3)) = false by rw [dfOk_eq]; simp [t1, t2])
        rw [t1] at hv
        have g2 : (r == (j : Int)) = false := by rw [← HR2.out]; simpa using t2
        have g2' : (r != (j : Int)) = true := by rw [← HR2.out]; simpa using t2
        have HV := hid hv
        have HN := hid hn
        have HTY := hid hvt
        have HTM := hid hvb
        clear hv hn hvt hvb t1 t2
        go_wp2_with fail
        refine wp_region_quiet_below (by kernel_rfl) (by kernel_rfl) ?_
        repeat (go_big_quiet_step (first | exact HV.out _ _ | exact HN.out _ _ | exact HTY.out _ _ | exact HTM.out _ _))
        refine wpQuiet_nil ?_
        intro _ hw'
        obtain ⟨⟨dq, osq⟩, hw''⟩ := hw'
        subst hw''
        have hbw := HB.out.trans ((below_regrown wr dq osq).mono HB.out.size)
        clear HV HN HTY HTM zr1 zq1 q0r q1r q2r q3r q4r q5r q6r q7r q8r q9r q10r q11r q0 q1 q2 q3 q4 q5 q6 q7 q8 q9 q10 q11
        go_wp2_with fail
        go_ret
        exact ⟨ret_bool (by rw [HF.out, dfsOk_no fs1 fs1 0 j _ HT.out (by rw [Nat.zero_add]; exact HDF.out)]), hbw⟩
      case pos =>
      by_cases t3 : Ty.ok (Ty.mk tk3 tn3 tks3) = true
      case neg =>
        have HDF := hid (show dfOk fs1 j (Df.mk n3 (Ty.mk tk3 tn3 tks3) (Tm.mk bk3 bu3 bn3 (Ty.mk btk3 btn3 btks3) bns3 bks3)) = false by rw [dfOk_eq]; simp [t1, t2, t3])
        rw [t1] at hv
        rw [(Bool.not_eq_true _).mp t3] at hvt
        have g2 : (r == (j : Int)) = true := by rw [← HR2.out, t2]; simp
        have g2' : (r != (j : Int)) = false := by rw [← HR2.out, t2]; simp
        have HV := hid hv
        have HN := hid hn
        have HTY := hid hvt
        have HTM := hid hvb
        clear hv hn hvt hvb t1 t2 t3
        go_wp2_with fail
        refine wp_region_quiet_below (by kernel_rfl) (by kernel_rfl) ?_
        repeat (go_big_quiet_step (first | exact HV.out _ _ | exact HN.out _ _ | exact HTY.out _ _ | exact HTM.out _ _))
        refine wpQuiet_nil ?_
        intro _ hw'
        obtain ⟨⟨dq, osq⟩, hw''⟩ := hw'
        subst hw''
        have hbw := HB.out.trans ((below_regrown wr dq osq).mono HB.out.size)
        clear HV HN HTY HTM zr1 zq1 q0r q1r q2r q3r q4r q5r q6r q7r q8r q9r q10r q11r q0 q1 q2 q3 q4 q5 q6 q7 q8 q9 q10 q11
        go_wp2_with fail
        go_ret
        exact ⟨ret_bool (by rw [HF.out, dfsOk_no fs1 fs1 0 j _ HT.out (by rw [Nat.zero_add]; exact HDF.out)]), hbw⟩
      case pos =>
      by_cases t4 : Tm.ok (Tm.mk bk3 bu3 bn3 (Ty.mk btk3 btn3 btks3) bns3 bks3) = true
      case neg =>
        have HDF := hid (show dfOk fs1 j (Df.mk n3 (Ty.mk tk3 tn3 tks3) (Tm.mk bk3 bu3 bn3 (Ty.mk btk3 btn3 btks3) bns3 bks3)) = false by rw [dfOk_eq]; simp [t1, t2, t3, t4])
        rw [t1] at hv
        rw [t3] at hvt
        rw [(Bool.not_eq_true _).mp t4] at hvb
        have g2 : (r == (j : Int)) = true := by rw [← HR2.out, t2]; simp
        have g2' : (r != (j : Int)) = false := by rw [← HR2.out, t2]; simp
        have HV := hid hv
        have HN := hid hn
        have HTY := hid hvt
        have HTM := hid hvb
        clear hv hn hvt hvb t1 t2 t3 t4
        go_wp2_with fail
        refine wp_region_quiet_below (by kernel_rfl) (by kernel_rfl) ?_
        repeat (go_big_quiet_step (first | exact HV.out _ _ | exact HN.out _ _ | exact HTY.out _ _ | exact HTM.out _ _))
        refine wpQuiet_nil ?_
        intro _ hw'
        obtain ⟨⟨dq, osq⟩, hw''⟩ := hw'
        subst hw''
        have hbw := HB.out.trans ((below_regrown wr dq osq).mono HB.out.size)
        clear HV HN HTY HTM zr1 zq1 q0r q1r q2r q3r q4r q5r q6r q7r q8r q9r q10r q11r q0 q1 q2 q3 q4 q5 q6 q7 q8 q9 q10 q11
        go_wp2_with fail
        go_ret
        exact ⟨ret_bool (by rw [HF.out, dfsOk_no fs1 fs1 0 j _ HT.out (by rw [Nat.zero_add]; exact HDF.out)]), hbw⟩
      case pos =>
      have HDF := hid (show dfOk fs1 j (Df.mk n3 (Ty.mk tk3 tn3 tks3) (Tm.mk bk3 bu3 bn3 (Ty.mk btk3 btn3 btks3) bns3 bks3)) = true by rw [dfOk_eq]; simp [t1, t2, t3, t4])
      rw [t1] at hv
      rw [t3] at hvt
      rw [t4] at hvb
      have g2 : (r == (j : Int)) = true := by rw [← HR2.out, t2]; simp
      have g2' : (r != (j : Int)) = false := by rw [← HR2.out, t2]; simp
      have HV := hid hv
      have HN := hid hn
      have HTY := hid hvt
      have HTM := hid hvb
      clear hv hn hvt hvb t1 t2 t3 t4
      go_wp2_with fail
      refine wp_region_quiet_below (by kernel_rfl) (by kernel_rfl) ?_
      repeat (go_big_quiet_step (first | exact HV.out _ _ | exact HN.out _ _ | exact HTY.out _ _ | exact HTM.out _ _))
      refine wpQuiet_nil ?_
      intro _ hw'
      obtain ⟨⟨dq, osq⟩, hw''⟩ := hw'
      subst hw''
      have hbw := HB.out.trans ((below_regrown wr dq osq).mono HB.out.size)
      clear HV HN HTY HTM zr1 zq1 q0r q1r q2r q3r q4r q5r q6r q7r q8r q9r q10r q11r q0 q1 q2 q3 q4 q5 q6 q7 q8 q9 q10 q11
      go_wp2_with fail
      go_roundw
      case rel => exact ⟨j + 1, by omega, by go_num, fun i t hi hti => (Nat.lt_succ_iff_lt_or_eq.1 hi).elim (fun hi => HJ.out i t hi hti) (fun he => by subst he; obtain rfl := Option.some.inj (hti.symm.trans HT.out); exact HDF.out), hbw⟩
      case measure => simp [intOf]; omega

theorem spec_ValidProgram (ds1 : List Dat) (fs1 : List Df) (ads1 : Option Addr) (cds1 : Nat) (afs1 : Option Addr) (cfs1 : Nat) (w : World) (hM : Pg.bulk (Pg.mk ds1 fs1) ≤ 1048576) (hr : RdS w (Pg.d (Pg.mk ds1 fs1)) [.slice ads1 ds1.length cds1, .slice afs1 fs1.length cfs1]) :
    Calls Try.prog 42 #[.agg #[.slice ads1 ds1.length cds1, .slice afs1 fs1.length cfs1]] w fun e w' => e = .returned (.bool (progOk ds1 fs1)) ∧ Below w.heap.size w w' := by
  have hB := (Below.refl w.heap.size w).alloc (Nat.le_refl _) (.cells #[.slice ads1 ds1.length cds1, .slice afs1 fs1.length cfs1] 61)
  have HX0 := hid ((Boxes.nil w).alloc #[.slice ads1 ds1.length cds1, .slice afs1 fs1.length cfs1] 61 (0, 0))
  have HC := hid (spec_l03Program ds1 fs1 ads1 cds1 afs1 cfs1 w.heap.size 0 (w.alloc (.cells #[.slice ads1 ds1.length cds1, .slice afs1 fs1.length cfs1] 61)) hM (HX0.out.at 0 0 rfl rfl) (HX0.out.at 0 1 rfl rfl) (hr.below hB))
  have HB := hid hB
  clear hB hr hM HX0
  go_enter Try.func42, Try.ntmps42
  go_wp2_with fail
  refine HC.out.mono ?_
  rintro e w1 ⟨rfl, hb⟩
  have HB1 := hid (HB.out.trans (hb.mono HB.out.size))
  clear hb
  go_wp2_with fail
  go_ret
  exact ⟨rfl, HB1.out⟩
end Go.Proofs.Ytdcifcfkjhpokaa
