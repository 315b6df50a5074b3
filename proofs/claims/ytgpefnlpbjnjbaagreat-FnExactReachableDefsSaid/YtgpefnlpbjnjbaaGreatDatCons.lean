/- Walks: constructors, in the reference. -/
import Derived.Test.YtgpefnlpbjnjbaaGreatDatKnown
namespace Go.Proofs.YtgpefnlpbjnjbaaGreat
open Go.ChangeShapes Go.WideShapes Go.ChangeAt Go.RowKit Go.BigFrame
open Go.Sort (grow)
set_option linter.unusedVariables false

set_option maxHeartbeats 2000000 in
theorem spec_Cons (ts : List Dat) (a : Option Addr) (c : Nat) (n1 : ByteArray) (fs1 : List Ty) (afs1 : Option Addr) (cfs1 : Nat) (w : World) (hM : Con.bulk (Con.mk n1 fs1) ≤ 1048576) (hd : RdL w (Dat.ds ts) (.slice a ts.length c)) (hr : RdS w (Con.d (Con.mk n1 fs1)) [.string n1, .slice afs1 fs1.length cfs1]) :
    Calls Tryz.prog 127 #[.slice a ts.length c, .agg #[.string n1, .slice afs1 fs1.length cfs1]] w fun e w' => e = .returned (.bool (conOk ts (Con.mk n1 fs1))) ∧ Below w.heap.size w w' := by
  have HE := hid (show conOk ts (Con.mk n1 fs1) = (isUpperB n1 && (decide (fs1.length ≤ 3) && fieldsOk ts fs1)) from rfl)
  have hbk : Con.bulk (Con.mk n1 fs1) = n1.size + Ty.bulks fs1 := rfl
  have hlen := Ty.bulks_length fs1
  have HX0 := hid ((Boxes.nil w).alloc #[.string n1, .slice afs1 fs1.length cfs1] 116 (0, 0))
  have HB0 := hid ((Below.refl w.heap.size w).alloc (Nat.le_refl _) (.cells #[.string n1, .slice afs1 fs1.length cfs1] 116))
  have HV := hid (spec_IsUpper n1 (w.alloc (.cells #[.string n1, .slice afs1 fs1.length cfs1] 116)))
  have hf := hr.fCon.2
  obtain ⟨_, _, e, h2, h3, h4⟩ := hf.eTy
  simp only [Value.slice.injEq, true_and] at e
  obtain ⟨rfl, rfl⟩ := e
  have H4 := hid h4
  have HM := hid (show Ty.bulks fs1 ≤ 1048576 by omega)
  have HD := hid hd
  have hl2 : fs1.length ≤ 1048576 := by omega
  clear hr hf h4 hbk hM hd hlen
  by_cases hu : isUpperB n1 = true
  case neg =>
    replace hu := (Bool.not_eq_true _).mp hu
    have HF := hid (show conOk ts (Con.mk n1 fs1) = false by rw [HE.out, hu]; rfl)
    have HU := hid hu
    clear hu HE H4
    go_enter Tryz.func127, Tryz.ntmps127
    go_wp2_with fail
    refine HV.out.mono ?_
    rw [HU.out]
    rintro e w1 ⟨rfl, hb⟩
    have HB1 := hid (HB0.out.trans (hb.mono HB0.out.size))
    clear hb
    go_wp2_with fail
    go_ret
    exact ⟨ret_bool HF.out.symm, HB1.out⟩
  case pos =>
    have HU := hid hu
    by_cases hl : 3 < fs1.length
    case pos =>
      have hlb : decide ((3 : Int) < fs1.length) = true := by simp; omega
      have HF := hid (show conOk ts (Con.mk n1 fs1) = false by rw [HE.out, show decide (fs1.length ≤ 3) = false from decide_eq_false (by omega)]; simp)
      clear hu HE H4 hl
      go_enter Tryz.func127, Tryz.ntmps127
      go_wp2_with fail
      refine HV.out.mono ?_
      rw [HU.out]
      rintro e w1 ⟨rfl, hb⟩
      have HB1 := hid (HB0.out.trans (hb.mono HB0.out.size))
      have HX1 := hid (HX0.out.below hb)
      have g1 := HX1.out.at 0 1 rfl rfl
      clear hb
      go_wp2_with fail
      go_ret
      exact ⟨ret_bool HF.out.symm, HB1.out⟩
    case neg =>
      have hlb : decide ((3 : Int) < fs1.length) = false := by simp; omega
      have HF := hid (show conOk ts (Con.mk n1 fs1) = fieldsOk ts fs1 by rw [HE.out, hu, show decide (fs1.length ≤ 3) = true from decide_eq_true (by omega)]; rfl)
      clear hu HE hl
      go_enter Tryz.func127, Tryz.ntmps127
      go_wp2_with fail
      refine HV.out.mono ?_
      rw [HU.out]
      rintro e w1 ⟨rfl, hb⟩
      have HB1 := hid (HB0.out.trans (hb.mono HB0.out.size))
      have HX1 := hid (HX0.out.below hb)
      have g1 := HX1.out.at 0 1 rfl rfl
      clear hb
      go_wp2_with fail
      clear g1
      go_loopw [5] (fun i wr => ∃ (j : Nat), j ≤ fs1.length ∧ i = .int .i64 j ∧ Hid (∀ (i : Nat) t, i < j → fs1[i]? = some t → fieldOk ts t = true) ∧ Below w1.heap.size w1 wr) (fun i _ => fs1.length - (intOf i).toNat)
      case atStart => exact ⟨0, by omega, rfl, fun i t hi => absurd hi (by omega), Below.refl _ _⟩
      case round =>
        obtain ⟨j, hj, rfl, HJ, hb0⟩ := hrel
        have hb : Below w.heap.size w wr := HB1.out.trans (hb0.mono HB1.out.size)
        have HXr := hid (HX1.out.below hb0)
        have z1 := HXr.out.at 0 1 rfl rfl
        by_cases hlt : j < fs1.length
        case pos =>
          obtain ⟨b, o, rfl, hbl, hall⟩ := H4.out (by omega)
          obtain ⟨t, ht⟩ : ∃ t, fs1[j]? = some t := ⟨_, List.getElem?_eq_getElem hlt⟩
          obtain ⟨k3, n3, ks3⟩ := t
          obtain ⟨aks3, cks3, q0, q1, q2, hrk⟩ := hall j k3 n3 ks3 ht
          clear hall H4
          have hbg := Ty.bulk_get fs1 j _ ht
          have hc1 := spec_ValidType k3 n3 ks3 aks3 cks3 wr (by have := HM.out; omega) (hrk.below hb)
          have hc2 := fun W (hw : Below wr.heap.size wr W) => spec_Known ts a c k3 n3 ks3 aks3 cks3 W ((HD.out.below hb).below hw) ((hrk.below hb).below hw)
          have d0 := (hb.cell (p := ⟨b, o + j * 3, none⟩) hbl).trans q0
          have d1 := (hb.cell (p := ⟨b, o + j * 3 + 1, none⟩) hbl).trans q1
          have d2 := (hb.cell (p := ⟨b, o + j * 3 + 2, none⟩) hbl).trans q2
          have EE0 := hid d0
          have EE1 := hid d1
          have EE2 := hid d2
          have bl2 : b < wr.heap.size := Nat.lt_of_lt_of_le hbl hb.size
          have HT := hid ht
          have HBW := hid hb
          have HB0W := hid hb0
          clear ht hrk q0 q1 q2
          by_cases hk : Ty.ok (.mk k3 n3 ks3) = true
          case neg =>
            replace hk := (Bool.not_eq_true _).mp hk
            have HG := hid (show fieldOk ts (.mk k3 n3 ks3) = false by rw [fieldOk, hk]; rfl)
            rw [hk] at hc1
            have HC1 := hid hc1
            clear hc1 hc2 hk
            go_wp2_with fail
            refine HC1.out.mono ?_
            rintro e w2 ⟨rfl, hb1⟩
            have hbw := HBW.out.trans (hb1.mono HBW.out.size)
            clear HC1 d0 d1 d2 z1 hb1
            go_wp2_with fail
            go_ret
            exact ⟨ret_bool (by rw [HF.out, fieldsOk_no ts fs1 j _ HT.out HG.out]), hbw⟩
          case pos =>
            have HG0 := hid (show fieldOk ts (.mk k3 n3 ks3) = Ty.known ts (.mk k3 n3 ks3) by rw [fieldOk, hk]; rfl)
            rw [hk] at hc1
            have HC1 := hid hc1
            by_cases hg : Ty.known ts (.mk k3 n3 ks3) = true
            all_goals
              first | rw [hg] at hc2 | rw [(Bool.not_eq_true _).mp hg] at hc2
              have HC2 := hid hc2
              have HG := hid hg
              clear hc1 hc2 hk hg
              go_wp2_with fail
              refine HC1.out.mono ?_
              rintro e w2 ⟨rfl, hb1⟩
              have y1 := (HXr.out.below hb1).at 0 1 rfl rfl
              have y2 := (hb1.cell (p := ⟨b, o + j * 3, none⟩) bl2).trans EE0.out
              have y3 := (hb1.cell (p := ⟨b, o + j * 3 + 1, none⟩) bl2).trans EE1.out
              have y4 := (hb1.cell (p := ⟨b, o + j * 3 + 2, none⟩) bl2).trans EE2.out
              have HB1W := hid hb1
              clear HC1 d0 d1 d2 z1 hb1
              go_wp2_with fail
              refine (HC2.out _ HB1W.out).mono ?_
              rintro e w3 ⟨rfl, hb2⟩
              have hbx := (HB0W.out.trans (HB1W.out.mono HB0W.out.size)).trans (hb2.mono (HB0W.out.trans (HB1W.out.mono HB0W.out.size)).size)
              have hbw := HB1.out.trans (hbx.mono HB1.out.size)
              clear HC2 y1 y2 y3 y4 hb2
              go_wp2_with fail
            · go_roundw
              case rel => exact ⟨j + 1, by omega, by go_num, fun i t hi hti => (Nat.lt_succ_iff_lt_or_eq.1 hi).elim (fun hi => HJ.out i t hi hti) (fun he => by subst he; obtain rfl := Option.some.inj (hti.symm.trans HT.out); exact HG0.out.trans HG.out), hbx⟩
              case measure => simp [intOf]; omega
            · go_ret
              exact ⟨ret_bool (by rw [HF.out, fieldsOk_no ts fs1 j _ HT.out (HG0.out.trans ((Bool.not_eq_true _).mp HG.out))]), hbw⟩
        case neg =>
          go_wp2_with fail
          go_ret
          exact ⟨ret_bool (by rw [HF.out, fieldsOk_yes ts fs1 fun i t hti => HJ.out i t (by have := (List.getElem?_eq_some_iff.1 hti).1; omega) hti]), hb⟩
end Go.Proofs.YtgpefnlpbjnjbaaGreat
