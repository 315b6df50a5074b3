/- Walks: a definition's place by its name. -/
import Derived.Test.YtgpefnlpbjnjbaaGreatPgPlain
import Derived.Test.YtgpefnlpbjnjbaaGreatAnyDf
import Derived.Lib.QuietBelow
import Derived.BigQuiet
namespace Go.Proofs.YtgpefnlpbjnjbaaGreat
open Go.ChangeShapes Go.WideShapes Go.ChangeAt Go.RowKit Go.BigFrame
open Go.Sort (grow)
set_option linter.unusedVariables false

theorem spec_l03Named (ts : List Df) (a : Option Addr) (c : Nat) (nm : ByteArray) (w : World) (hr : RdL w (Df.ds ts) (.slice a ts.length c)) :
    Calls Tryz.prog 46 #[.slice a ts.length c, .string nm] w fun e w' => e = .returned (.int .i64 (namedF ts nm)) ∧ w = w' := by
  obtain ⟨_, _, e, h2, h3, h4⟩ := hr.eDf
  simp only [Value.slice.injEq, true_and] at e
  obtain ⟨rfl, rfl⟩ := e
  have H4 := hid h4
  clear hr h4
  go_enter Tryz.func46, Tryz.ntmps46
  go_wp2_with fail
  go_loopw [5] (fun i wr => ∃ (j : Nat), j ≤ ts.length ∧ i = .int .i64 j ∧ Hid (∀ (i : Nat) t, i < j → ts[i]? = some t → dfIs nm t = false) ∧ w = wr) (fun i _ => ts.length - (intOf i).toNat)
  case atStart => exact ⟨0, by omega, rfl, fun i t hi => absurd hi (by omega), rfl⟩
  case round =>
    obtain ⟨j, hj, rfl, HJ, rfl⟩ := hrel
    by_cases hlt : j < ts.length
    case pos =>
      obtain ⟨b, o, rfl, hbl, hall⟩ := H4.out (by omega)
      obtain ⟨t, ht⟩ : ∃ t, ts[j]? = some t := ⟨_, List.getElem?_eq_getElem hlt⟩
      obtain ⟨n3, ⟨tk3, tn3, tks3⟩, ⟨bk3, bu3, bn3, ⟨btk3, btn3, btks3⟩, bns3, bks3⟩⟩ := t
      obtain ⟨atks3, ctks3, abtks3, cbtks3, abns3, cbns3, abks3, cbks3, q0, q1, q2, q3, q4, q5, q6, q7, q8, q9, q10, q11, hrk⟩ := hall j n3 tk3 tn3 tks3 bk3 bu3 bn3 btk3 btn3 btks3 bns3 bks3 ht
      clear hall H4
      have HT := hid ht
      by_cases hq : n3 = nm
      case pos =>
        have hb := bytes_eq hq
        have HQ := hid (show dfIs nm (Df.mk n3 (Ty.mk tk3 tn3 tks3) (Tm.mk bk3 bu3 bn3 (Ty.mk btk3 btn3 btks3) bns3 bks3)) = true by simp [dfIs, hq])
        clear hq ht hrk
        go_wp2_with fail
        go_ret
        exact ⟨ret_int (fstAt_yes _ ts j _ HT.out HQ.out HJ.out).symm, rfl⟩
      case neg =>
        have hb := bytes_ne hq
        have HQ := hid (show dfIs nm (Df.mk n3 (Ty.mk tk3 tn3 tks3) (Tm.mk bk3 bu3 bn3 (Ty.mk btk3 btn3 btks3) bns3 bks3)) = false by simp [dfIs, hq])
        clear hq ht hrk
        go_wp2_with fail
        go_roundw
        case rel => exact ⟨j + 1, by omega, by go_num, fun i t hi hti => (Nat.lt_succ_iff_lt_or_eq.1 hi).elim (fun hi => HJ.out i t hi hti) (fun he => by subst he; obtain rfl := Option.some.inj (hti.symm.trans HT.out); exact HQ.out), by first | rfl | trivial⟩
        case measure => simp [intOf]; omega
    case neg =>
      go_wp2_with fail
      go_ret
      exact ⟨ret_int (fstAt_no _ ts fun i t hti => HJ.out i t (by have := (List.getElem?_eq_some_iff.1 hti).1; omega) hti).symm, rfl⟩

theorem impl_dfIs (nm : ByteArray) (q : Addr) (n1 : ByteArray) (tk1 : Int) (tn1 : ByteArray) (tks1 : List Ty) (bk1 : Int) (bu1 : Int) (bn1 : ByteArray) (btk1 : Int) (btn1 : ByteArray) (btks1 : List Ty) (bns1 : List ByteArray) (bks1 : List Tm) (atks1 : Option Addr) (ctks1 : Nat) (abtks1 : Option Addr) (cbtks1 : Nat) (abns1 : Option Addr) (cbns1 : Nat) (abks1 : Option Addr) (cbks1 : Nat) (w : World) (hq : w.cell? q = some (.string nm)) :
    Calls Tryz.prog 94 #[.agg #[.string n1, .int .i64 tk1, .string tn1, .slice atks1 tks1.length ctks1, .int .i64 bk1, .int .i64 bu1, .string bn1, .int .i64 btk1, .string btn1, .slice abtks1 btks1.length cbtks1, .slice abns1 bns1.length cbns1, .slice abks1 bks1.length cbks1], .pointer (some q)] w fun e w' => e = .returned (.bool (dfIs nm (Df.mk n1 (Ty.mk tk1 tn1 tks1) (Tm.mk bk1 bu1 bn1 (Ty.mk btk1 btn1 btks1) bns1 bks1)))) ∧ Below w.heap.size w w' := by
  have hB := (Below.refl w.heap.size w).alloc (Nat.le_refl _) (.cells #[.string n1, .int .i64 tk1, .string tn1, .slice atks1 tks1.length ctks1, .int .i64 bk1, .int .i64 bu1, .string bn1, .int .i64 btk1, .string btn1, .slice abtks1 btks1.length cbtks1, .slice abns1 bns1.length cbns1, .slice abks1 bks1.length cbks1] 65)
  have z0 := (hB.cell (p := q) (World.block_lt_of_cell? _ _ hq)).trans hq
  have HB := hid hB
  clear hB hq
  by_cases h : n1 = nm
  case pos =>
    have hb := bytes_eq h
    have HF := hid (show dfIs nm (Df.mk n1 (Ty.mk tk1 tn1 tks1) (Tm.mk bk1 bu1 bn1 (Ty.mk btk1 btn1 btks1) bns1 bks1)) = true by simp [dfIs, h])
    clear h
    go_enter Tryz.func94, Tryz.ntmps94
    go_wp2_with fail
    go_ret
    exact ⟨ret_bool HF.out.symm, HB.out⟩
  case neg =>
    have hb := bytes_ne h
    have HF := hid (show dfIs nm (Df.mk n1 (Ty.mk tk1 tn1 tks1) (Tm.mk bk1 bu1 bn1 (Ty.mk btk1 btn1 btks1) bns1 bks1)) = false by simp [dfIs, h])
    clear h
    go_enter Tryz.func94, Tryz.ntmps94
    go_wp2_with fail
    go_ret
    exact ⟨ret_bool HF.out.symm, HB.out⟩
theorem impl_findDef (ds1 : List Dat) (ts : List Df) (ads1 : Option Addr) (cds1 : Nat) (a : Option Addr) (c : Nat) (nm : ByteArray) (w : World) (hr : RdL w (Df.ds ts) (.slice a ts.length c)) :
    Calls Tryz.prog 53 #[.agg #[.slice ads1 ds1.length cds1, .slice a ts.length c], .string nm] w fun e w' => e = .returned (.int .i64 (namedF ts nm)) ∧ Below w.heap.size w w' := by
  have hB := ((Below.refl w.heap.size w).alloc (Nat.le_refl _) (.cells #[.slice ads1 ds1.length cds1, .slice a ts.length c] 32)).alloc (by simp) (.cells #[.string nm] 9)
  have HX0 := hid (((Boxes.nil w).alloc #[.slice ads1 ds1.length cds1, .slice a ts.length c] 32 (0, 0)).alloc #[.string nm] 9 (0, 0))
  have hq := HX0.out.at 0 0 rfl rfl
  simp only [World.size_alloc] at hq
  have hc := indexFunc_Df_1 94 Tryz.call94 (.pointer (some ⟨w.heap.size + 1, 0, none⟩)) (dfIs nm) (fun W => W.cell? ⟨w.heap.size + 1, 0, none⟩ = some (.string nm)) (fun x y hab h => (hab.cell (p := ⟨w.heap.size + 1, 0, none⟩) (World.block_lt_of_cell? _ _ h)).trans h) ts a c _ hq (hr.below hB)
    (fun n3 tk3 tn3 tks3 bk3 bu3 bn3 btk3 btn3 btks3 bns3 bks3 atks3 ctks3 abtks3 cbtks3 abns3 cbns3 abks3 cbks3 j W _ hW hrw => impl_dfIs nm _ n3 tk3 tn3 tks3 bk3 bu3 bn3 btk3 btn3 btks3 bns3 bks3 atks3 ctks3 abtks3 cbtks3 abns3 cbns3 abks3 cbks3 W hW)
  have x0 := HX0.out.at 1 0 rfl rfl
  have x1 := HX0.out.at 1 1 rfl rfl
  have HC := hid hc
  have HB := hid hB
  clear hc hr hB HX0 hq
  go_enter Tryz.func53, Tryz.ntmps53
  go_wp2_with fail
  refine HC.out.mono ?_
  rintro e w1 ⟨rfl, hb⟩
  have HB1 := hid (HB.out.trans (hb.mono HB.out.size))
  clear hb x0 x1
  go_wp2_with fail
  go_ret
  exact ⟨rfl, HB1.out⟩
end Go.Proofs.YtgpefnlpbjnjbaaGreat
