/- Walks of the laws' helpers: the comparison of two copies of one Def. No condition. -/
import Derived.Test.YtdcifcfkjhpokaaSzDf
import Derived.Test.YtdcifcfkjhpokaaEqTm
import Derived.Test.YtdcifcfkjhpokaaEqTy
import Derived.Test.YtdcifcfkjhpokaaEqSc
namespace Go.Proofs.Ytdcifcfkjhpokaa
open Go.ChangeShapes Go.WideShapes Go.ChangeAt Go.RowKit
open Go.Sort (grow)
set_option linter.unusedVariables false

abbrev EqDf : Prop := ∀ (n : ByteArray) (tk : Int) (tn : ByteArray) (tks : List Ty) (bk : Int) (bu : Int) (bn : ByteArray) (btk : Int) (btn : ByteArray) (btks : List Ty) (bns : List ByteArray) (bks : List Tm) (atks : Option Addr) (ctks : Nat) (abtks : Option Addr) (cbtks : Nat) (abns : Option Addr) (cbns : Nat) (abks : Option Addr) (cbks : Nat) (atks' : Option Addr) (ctks' : Nat) (abtks' : Option Addr) (cbtks' : Nat) (abns' : Option Addr) (cbns' : Nat) (abks' : Option Addr) (cbks' : Nat) (w : World), RdS w (Df.d (Df.mk n (Ty.mk tk tn tks) (Tm.mk bk bu bn (Ty.mk btk btn btks) bns bks))) [.string n, .int .i64 tk, .string tn, .slice atks tks.length ctks, .int .i64 bk, .int .i64 bu, .string bn, .int .i64 btk, .string btn, .slice abtks btks.length cbtks, .slice abns bns.length cbns, .slice abks bks.length cbks] → RdS w (Df.d (Df.mk n (Ty.mk tk tn tks) (Tm.mk bk bu bn (Ty.mk btk btn btks) bns bks))) [.string n, .int .i64 tk, .string tn, .slice atks' tks.length ctks', .int .i64 bk, .int .i64 bu, .string bn, .int .i64 btk, .string btn, .slice abtks' btks.length cbtks', .slice abns' bns.length cbns', .slice abks' bks.length cbks'] →
  Calls Try.prog 123 #[.agg #[.string n, .int .i64 tk, .string tn, .slice atks tks.length ctks, .int .i64 bk, .int .i64 bu, .string bn, .int .i64 btk, .string btn, .slice abtks btks.length cbtks, .slice abns bns.length cbns, .slice abks bks.length cbks], .agg #[.string n, .int .i64 tk, .string tn, .slice atks' tks.length ctks', .int .i64 bk, .int .i64 bu, .string bn, .int .i64 btk, .string btn, .slice abtks' btks.length cbtks', .slice abns' bns.length cbns', .slice abks' bks.length cbks']] w fun e w' => e = .returned (.bool true) ∧ Below w.heap.size w w'
theorem eqDf : EqDf := by
  intro n tk tn tks bk bu bn btk btn btks bns bks atks ctks abtks cbtks abns cbns abks cbks atks' ctks' abtks' cbtks' abns' cbns' abks' cbks' w hr hr'
  have hbk : Df.bulk (Df.mk n (Ty.mk tk tn tks) (Tm.mk bk bu bn (Ty.mk btk btn btks) bns bks)) = n.size + Ty.bulk (Ty.mk tk tn tks) + Tm.bulk (Tm.mk bk bu bn (Ty.mk btk btn btks) bns bks) := rfl
  obtain ⟨zn, ⟨⟨lotk, hitk⟩, ztn, htks⟩, ⟨⟨lobk, hibk⟩, ⟨lobu, hibu⟩, zbn, ⟨⟨lobtk, hibtk⟩, zbtn, hbtks⟩, hbns, hbks⟩⟩ := hr.fDf
  obtain ⟨zn', ⟨⟨lotk', hitk'⟩, ztn', htks'⟩, ⟨⟨lobk', hibk'⟩, ⟨lobu', hibu'⟩, zbn', ⟨⟨lobtk', hibtk'⟩, zbtn', hbtks'⟩, hbns', hbks'⟩⟩ := hr'.fDf
  have hc1 := fun (W : World) (hb : Below w.heap.size w W) => eqTy tk tn tks atks ctks atks' ctks' W ((RdS.subDf_t hr).below hb) ((RdS.subDf_t hr').below hb)
  have hc2 := fun (W : World) (hb : Below w.heap.size w W) => eqTm bk bu bn btk btn btks bns bks abtks cbtks abns cbns abks cbks abtks' cbtks' abns' cbns' abks' cbks' W ((RdS.subDf_b hr).below hb) ((RdS.subDf_b hr').below hb)
  have HC1 := hid hc1
  have HC2 := hid hc2
  have HX0 := hid (((Boxes.nil w).alloc #[.string n, .int .i64 tk, .string tn, .slice atks tks.length ctks, .int .i64 bk, .int .i64 bu, .string bn, .int .i64 btk, .string btn, .slice abtks btks.length cbtks, .slice abns bns.length cbns, .slice abks bks.length cbks] 98 (0, 0)).alloc #[.string n, .int .i64 tk, .string tn, .slice atks' tks.length ctks', .int .i64 bk, .int .i64 bu, .string bn, .int .i64 btk, .string btn, .slice abtks' btks.length cbtks', .slice abns' bns.length cbns', .slice abks' bks.length cbks'] 98 (0, 0))
  have HB0 := hid (((Below.refl w.heap.size w).alloc (Nat.le_refl _) (.cells #[.string n, .int .i64 tk, .string tn, .slice atks tks.length ctks, .int .i64 bk, .int .i64 bu, .string bn, .int .i64 btk, .string btn, .slice abtks btks.length cbtks, .slice abns bns.length cbns, .slice abks bks.length cbks] 98)).alloc (by simp) (.cells #[.string n, .int .i64 tk, .string tn, .slice atks' tks.length ctks', .int .i64 bk, .int .i64 bu, .string bn, .int .i64 btk, .string btn, .slice abtks' btks.length cbtks', .slice abns' bns.length cbns', .slice abks' bks.length cbks'] 98))
  clear hr hr' hbk hc1 hc2 htks htks' hbtks hbtks' hbns hbns' hbks hbks'
  go_enter Try.func123, Try.ntmps123
  go_wp2_with fail
  refine (HC1.out _ HB0.out).mono ?_
  rintro e w1 ⟨rfl, hb1⟩
  have hbw1 := HB0.out.trans (hb1.mono (by simp; omega))
  have hx1 := HX0.out.below hb1
  have g1_4 := hx1.at 1 4 rfl rfl
  have k1_4 := hx1.at 0 4 rfl rfl
  have g1_5 := hx1.at 1 5 rfl rfl
  have k1_5 := hx1.at 0 5 rfl rfl
  have g1_6 := hx1.at 1 6 rfl rfl
  have k1_6 := hx1.at 0 6 rfl rfl
  have g1_7 := hx1.at 1 7 rfl rfl
  have k1_7 := hx1.at 0 7 rfl rfl
  have g1_8 := hx1.at 1 8 rfl rfl
  have k1_8 := hx1.at 0 8 rfl rfl
  have g1_9 := hx1.at 1 9 rfl rfl
  have k1_9 := hx1.at 0 9 rfl rfl
  have g1_10 := hx1.at 1 10 rfl rfl
  have k1_10 := hx1.at 0 10 rfl rfl
  have g1_11 := hx1.at 1 11 rfl rfl
  have k1_11 := hx1.at 0 11 rfl rfl
  simp only [World.size_alloc] at k1_4 k1_5 k1_6 k1_7 k1_8 k1_9 k1_10 k1_11
  have HX1 := hid hx1
  clear hx1 hb1 HC1
  go_wp2_with fail
  refine (HC2.out _ hbw1).mono ?_
  rintro e w2 ⟨rfl, hb2⟩
  have hbw2 := hbw1.trans (hb2.mono (by exact hbw1.size))
  have hx2 := HX1.out.below hb2
  have HX2 := hid hx2
  clear hx2 hb2 HC2
  go_wp2_with fail
  go_ret
  exact ⟨rfl, hbw2⟩

theorem eqDfs (ts : List Df) (a a' : Option Addr) (c c' : Nat) (w : World) (hr : RdL w (Df.ds ts) (.slice a ts.length c)) (hr' : RdL w (Df.ds ts) (.slice a' ts.length c')) :
    Calls Try.prog 84 #[.slice a ts.length c, .slice a' ts.length c'] w fun e w' => e = .returned (.bool true) ∧ Below w.heap.size w w' := by
  obtain ⟨_, _, e, h2, h3, h4⟩ := hr.eDf
  simp only [Value.slice.injEq, true_and] at e
  obtain ⟨rfl, rfl⟩ := e
  obtain ⟨_, _, e, h2', h3', h4'⟩ := hr'.eDf
  simp only [Value.slice.injEq, true_and] at e
  obtain ⟨rfl, rfl⟩ := e
  have H4 := hid h4
  have H4' := hid h4'
  clear hr h4 hr' h4'
  go_enter Try.func84, Try.ntmps84
  go_wp2_with fail
  go_loopw [5] (fun i wr => ∃ (j : Nat), j ≤ ts.length ∧ i = .int .i64 j ∧ Below w.heap.size w wr) (fun i _ => ts.length - (intOf i).toNat)
  case atStart => exact ⟨0, by omega, rfl, Below.refl _ _⟩
  case round =>
    obtain ⟨j, hj, rfl, hb⟩ := hrel
    by_cases hlt : j < ts.length
    · obtain ⟨b, o, rfl, hbl, hall⟩ := H4.out (by omega)
      obtain ⟨b', o', rfl, hbl', hall'⟩ := H4'.out (by omega)
      obtain ⟨t, ht⟩ : ∃ t, ts[j]? = some t := ⟨_, List.getElem?_eq_getElem hlt⟩
      obtain ⟨n1, ⟨tk1, tn1, tks1⟩, ⟨bk1, bu1, bn1, ⟨btk1, btn1, btks1⟩, bns1, bks1⟩⟩ := t
      obtain ⟨atks1, ctks1, abtks1, cbtks1, abns1, cbns1, abks1, cbks1, q0, q1, q2, q3, q4, q5, q6, q7, q8, q9, q10, q11, hrk⟩ := hall j n1 tk1 tn1 tks1 bk1 bu1 bn1 btk1 btn1 btks1 bns1 bks1 ht
      obtain ⟨atks2, ctks2, abtks2, cbtks2, abns2, cbns2, abks2, cbks2, p0, p1, p2, p3, p4, p5, p6, p7, p8, p9, p10, p11, hrk'⟩ := hall' j n1 tk1 tn1 tks1 bk1 bu1 bn1 btk1 btn1 btks1 bns1 bks1 ht
      clear hall H4 hall' H4'
      have d0 := cell_regrown ((hb.cell (p := ⟨b, o + j * 12, none⟩) hbl).trans q0)
      have d12 := cell_regrown ((hb.cell (p := ⟨b', o' + j * 12, none⟩) hbl').trans p0)
      have d1 := cell_regrown ((hb.cell (p := ⟨b, o + j * 12 + 1, none⟩) hbl).trans q1)
      have d13 := cell_regrown ((hb.cell (p := ⟨b', o' + j * 12 + 1, none⟩) hbl').trans p1)
      have d2 := cell_regrown ((hb.cell (p := ⟨b, o + j * 12 + 2, none⟩) hbl).trans q2)
      have d14 := cell_regrown ((hb.cell (p := ⟨b', o' + j * 12 + 2, none⟩) hbl').trans p2)
      have d3 := cell_regrown ((hb.cell (p := ⟨b, o + j * 12 + 3, none⟩) hbl).trans q3)
      have d15 := cell_regrown ((hb.cell (p := ⟨b', o' + j * 12 + 3, none⟩) hbl').trans p3)
      have d4 := cell_regrown ((hb.cell (p := ⟨b, o + j * 12 + 4, none⟩) hbl).trans q4)
      have d16 := cell_regrown ((hb.cell (p := ⟨b', o' + j * 12 + 4, none⟩) hbl').trans p4)
      have d5 := cell_regrown ((hb.cell (p := ⟨b, o + j * 12 + 5, none⟩) hbl).trans q5)
      have d17 := cell_regrown ((hb.cell (p := ⟨b', o' + j * 12 + 5, none⟩) hbl').trans p5)
      have d6 := cell_regrown ((hb.cell (p := ⟨b, o + j * 12 + 6, none⟩) hbl).trans q6)
      have d18 := cell_regrown ((hb.cell (p := ⟨b', o' + j * 12 + 6, none⟩) hbl').trans p6)
      have d7 := cell_regrown ((hb.cell (p := ⟨b, o + j * 12 + 7, none⟩) hbl).trans q7)
      have d19 := cell_regrown ((hb.cell (p := ⟨b', o' + j * 12 + 7, none⟩) hbl').trans p7)
      have d8 := cell_regrown ((hb.cell (p := ⟨b, o + j * 12 + 8, none⟩) hbl).trans q8)
      have d20 := cell_regrown ((hb.cell (p := ⟨b', o' + j * 12 + 8, none⟩) hbl').trans p8)
      have d9 := cell_regrown ((hb.cell (p := ⟨b, o + j * 12 + 9, none⟩) hbl).trans q9)
      have d21 := cell_regrown ((hb.cell (p := ⟨b', o' + j * 12 + 9, none⟩) hbl').trans p9)
      have d10 := cell_regrown ((hb.cell (p := ⟨b, o + j * 12 + 10, none⟩) hbl).trans q10)
      have d22 := cell_regrown ((hb.cell (p := ⟨b', o' + j * 12 + 10, none⟩) hbl').trans p10)
      have d11 := cell_regrown ((hb.cell (p := ⟨b, o + j * 12 + 11, none⟩) hbl).trans q11)
      have d23 := cell_regrown ((hb.cell (p := ⟨b', o' + j * 12 + 11, none⟩) hbl').trans p11)
      have hbg := Df.bulk_get ts j _ ht
      have hc := fun d os => Calls.regrown_of (eqDf n1 tk1 tn1 tks1 bk1 bu1 bn1 btk1 btn1 btks1 bns1 bks1 atks1 ctks1 abtks1 cbtks1 abns1 cbns1 abks1 cbks1 atks2 ctks2 abtks2 cbtks2 abns2 cbns2 abks2 cbks2 (grow (redrawn wr d) os) ((hrk.below hb).below (below_regrown wr d os)) ((hrk'.below hb).below (below_regrown wr d os)))
      have HC := hid hc
      clear ht hrk hrk' q0 q1 q2 q3 q4 q5 q6 q7 q8 q9 q10 q11 p0 p1 p2 p3 p4 p5 p6 p7 p8 p9 p10 p11 hc
      go_wp2_with fail
      refine wp_region_quiet_below (by kernel_rfl) (by kernel_rfl) ?_
      repeat (quiet_step (exact HC.out _ _))
      refine wpQuiet_nil ?_
      intro _ hw'
      obtain ⟨⟨dq, osq⟩, hw''⟩ := hw'
      subst hw''
      have hbq := hb.trans ((below_regrown wr dq osq).mono hb.size)
      clear HC d0 d1 d2 d3 d4 d5 d6 d7 d8 d9 d10 d11 d12 d13 d14 d15 d16 d17 d18 d19 d20 d21 d22 d23
      go_wp2_with fail
      go_roundw
      case rel => exact ⟨j + 1, by omega, by go_num, hbq⟩
      case measure => simp [intOf]; omega
    · go_wp2_with fail
      go_ret
      exact ⟨rfl, hb⟩

end Go.Proofs.Ytdcifcfkjhpokaa
