/- Merged texts: DatKnown DatCons DatOk DatImpl DatOkI PgOk PgOkI. No condition. -/
import Derived.Test.YtikhofcjkcbpbaaGreatDoorPgA
import Derived.Lib.QuietBelow
import Derived.BigQuiet
import Derived.Test.YtikhofcjkcbpbaaGreatDoorKeep
import Derived.Test.YtikhofcjkcbpbaaGreatDoorTake
import Derived.StringKeys
import Derived.Test.YtikhofcjkcbpbaaGreatDoorTmValid
import Derived.Test.YtikhofcjkcbpbaaGreatDoorTmFits
/- was: DatKnown -/
namespace Go.Proofs.YtikhofcjkcbpbaaGreatDoor
open Go.ChangeShapes Go.WideShapes Go.ChangeAt Go.RowKit Go.BigFrame
open Go.Sort (grow)
set_option linter.unusedVariables false

theorem spec_Named (ts : List Dat) (a : Option Addr) (c : Nat) (nm : ByteArray) (w : World) (hr : RdL w (Dat.ds ts) (.slice a ts.length c)) :
    Calls Tryz.prog 108 #[.slice a ts.length c, .string nm] w fun e w' => e = .returned (.int .i64 (named ts nm)) ∧ w = w' := by
  obtain ⟨_, _, e, h2, h3, h4⟩ := hr.eDat
  simp only [Value.slice.injEq, true_and] at e
  obtain ⟨rfl, rfl⟩ := e
  have H4 := hid h4
  clear hr h4
  go_enter Tryz.func108, Tryz.ntmps108
  go_wp2_with fail
  go_loopw [5] (fun i wr => ∃ (j : Nat), j ≤ ts.length ∧ i = .int .i64 j ∧ Hid (∀ (i : Nat) t, i < j → ts[i]? = some t → datIs nm t = false) ∧ w = wr) (fun i _ => ts.length - (intOf i).toNat)
  case atStart => exact ⟨0, by omega, rfl, fun i t hi => absurd hi (by omega), rfl⟩
  case round =>
    obtain ⟨j, hj, rfl, HJ, rfl⟩ := hrel
    by_cases hlt : j < ts.length
    case pos =>
      obtain ⟨b, o, rfl, hbl, hall⟩ := H4.out (by omega)
      obtain ⟨t, ht⟩ : ∃ t, ts[j]? = some t := ⟨_, List.getElem?_eq_getElem hlt⟩
      obtain ⟨n3, qs3⟩ := t
      obtain ⟨aqs3, cqs3, q0, q1, hrk⟩ := hall j n3 qs3 ht
      clear hall H4
      have HT := hid ht
      by_cases hq : n3 = nm
      case pos =>
        have hb := bytes_eq hq
        have HQ := hid (show datIs nm (.mk n3 qs3) = true by simp [datIs, hq])
        clear hq ht hrk
        go_wp2_with fail
        go_ret
        exact ⟨ret_int (fstAt_yes _ ts j _ HT.out HQ.out HJ.out).symm, rfl⟩
      case neg =>
        have hb := bytes_ne hq
        have HQ := hid (show datIs nm (.mk n3 qs3) = false by simp [datIs, hq])
        clear hq ht hrk
        go_wp2_with fail
        go_roundw
        case rel => exact ⟨j + 1, by omega, by go_num, fun i t hi hti => (Nat.lt_succ_iff_lt_or_eq.1 hi).elim (fun hi => HJ.out i t hi hti) (fun he => by subst he; obtain rfl := Option.some.inj (hti.symm.trans HT.out); exact HQ.out), by first | rfl | trivial⟩
        case measure => simp [intOf]; omega
    case neg =>
      go_wp2_with fail
      go_ret
      exact ⟨ret_int (fstAt_no _ ts fun i t hti => HJ.out i t (by have := (List.getElem?_eq_some_iff.1 hti).1; omega) hti).symm, rfl⟩

def KnW (ts : List Dat) (a : Option Addr) (c : Nat) (N : Nat) : Prop := ∀ (k1 : Int) (n1 : ByteArray) (ks1 : List Ty) (aks1 : Option Addr) (cks1 : Nat) (w : World), Ty.bulk (Ty.mk k1 n1 ks1) < N → RdL w (Dat.ds ts) (.slice a ts.length c) → RdS w (Ty.d (Ty.mk k1 n1 ks1)) [.int .i64 k1, .string n1, .slice aks1 ks1.length cks1] →
  Calls Tryz.prog 131 #[.slice a ts.length c, .agg #[.int .i64 k1, .string n1, .slice aks1 ks1.length cks1]] w fun e w' => e = .returned (.bool (Ty.known ts (Ty.mk k1 n1 ks1))) ∧ Below w.heap.size w w'
set_option maxHeartbeats 1000000 in
theorem kn_step (ts : List Dat) (a : Option Addr) (c : Nat) (N : Nat) (ih : KnW ts a c N) : KnW ts a c (N + 1) := by
  intro k1 n1 ks1 aks1 cks1 w hN hd hr
  have hbk : Ty.bulk (Ty.mk k1 n1 ks1) = n1.size + Ty.bulks ks1 := rfl
  have HE := hid (show Ty.known ts (Ty.mk k1 n1 ks1) = (if k1 = 2 then Ty.knows ts n1 else Ty.knowns ts ks1) from by rw [Ty.known])
  have HX0 := hid ((Boxes.nil w).alloc #[.int .i64 k1, .string n1, .slice aks1 ks1.length cks1] 33 (0, 0))
  have HB0 := hid ((Below.refl w.heap.size w).alloc (Nat.le_refl _) (.cells #[.int .i64 k1, .string n1, .slice aks1 ks1.length cks1] 33))
  by_cases h2 : k1 = 2
  case pos =>
    have HF := hid (show Ty.known ts (Ty.mk k1 n1 ks1) = Ty.knows ts n1 by rw [HE.out, if_pos h2])
    subst h2
    have HC := hid (spec_Named ts a c n1 _ (hd.below HB0.out))
    have hge := fstAt_ge (datIs n1) ts
    by_cases hk : 0 ≤ named ts n1
    all_goals
      have HK : Hid (Ty.knows ts n1 = decide (0 ≤ named ts n1)) := rfl
      have HH := hid hk
      first
        | have hkb : decide (0 ≤ named ts n1) = true := by simpa using hk
        | have hkb : decide (0 ≤ named ts n1) = false := by simpa using hk
      have HKB := hid hkb
      generalize named ts n1 = m at HC hkb HKB HK
      clear hr ih hN hbk hd hk hge HH HX0 HE
      go_enter Tryz.func131, Tryz.ntmps131
      go_wp2_with fail
      refine HC.out.mono ?_
      rintro e w1 ⟨rfl, rfl⟩
      go_wp2_with fail
      go_ret
      exact ⟨ret_bool (by rw [HF.out, HK.out]; exact HKB.out.symm), HB0.out⟩
  case neg =>
    have g2 : (k1 == 2) = false := by simp [h2]
    have HF := hid (show Ty.known ts (Ty.mk k1 n1 ks1) = Ty.knowns ts ks1 by rw [HE.out, if_neg h2])
    obtain ⟨_, _, e, h2', h3, h4⟩ := hr.fTy.2.2.eTy
    simp only [Value.slice.injEq, true_and] at e
    obtain ⟨rfl, rfl⟩ := e
    have IH := hid ih
    have H4 := hid h4
    have HK := hid hbk
    have HN := hid hN
    have HD := hid hd
    clear ih hr h4 hbk hN h2 HE hd
    go_enter Tryz.func131, Tryz.ntmps131
    go_wp2_with fail
    go_loopw [5] (fun i wr => ∃ (j : Nat), j ≤ ks1.length ∧ i = .int .i64 j ∧ Hid (∀ (i : Nat) t, i < j → ks1[i]? = some t → Ty.known ts t = true) ∧ Below (w.heap.size + 1) (w.alloc (.cells #[.int .i64 k1, .string n1, .slice aks1 ks1.length cks1] 33)) wr) (fun i _ => ks1.length - (intOf i).toNat)
    case atStart => exact ⟨0, by omega, rfl, fun i t hi => absurd hi (by omega), Below.refl _ _⟩
    case round =>
      obtain ⟨j, hj, rfl, HJ, hb0⟩ := hrel
      have hb : Below w.heap.size w wr := HB0.out.trans (hb0.mono (by omega))
      have HXr := hid (HX0.out.below (by simpa using hb0))
      have z2 := HXr.out.at 0 2 rfl rfl
      by_cases hlt : j < ks1.length
      case pos =>
        obtain ⟨b, o, rfl, hbl, hall⟩ := H4.out (by omega)
        obtain ⟨t, ht⟩ : ∃ t, ks1[j]? = some t := ⟨_, List.getElem?_eq_getElem hlt⟩
        obtain ⟨k3, n3, ks3⟩ := t
        obtain ⟨aks3, cks3, q0, q1, q2, hrk⟩ := hall j k3 n3 ks3 ht
        clear hall H4
        have hbg := Ty.bulk_get ks1 j _ ht
        have hc := IH.out k3 n3 ks3 aks3 cks3 wr (by have := HK.out; have := HN.out; omega) (HD.out.below hb) (hrk.below hb)
        have d0 := (hb.cell (p := ⟨b, o + j * 3, none⟩) hbl).trans q0
        have d1 := (hb.cell (p := ⟨b, o + j * 3 + 1, none⟩) hbl).trans q1
        have d2 := (hb.cell (p := ⟨b, o + j * 3 + 2, none⟩) hbl).trans q2
        have HT := hid ht
        by_cases hg : Ty.known ts (.mk k3 n3 ks3) = true
        all_goals
          first | rw [hg] at hc | rw [(Bool.not_eq_true _).mp hg] at hc
          have HC := hid hc
          have HG := hid hg
          clear ht hrk q0 q1 q2 hc hg
          go_wp2_with fail
          refine HC.out.mono ?_
          rintro e w1 ⟨rfl, hb1⟩
          have hbx := hb0.trans (hb1.mono (by have := hb0.size; simpa using this))
          have hbw := hb.trans (hb1.mono hb.size)
          clear HC d0 d1 d2 z2 hb1
          go_wp2_with fail
        · go_roundw
          case rel => exact ⟨j + 1, by omega, by go_num, fun i t hi hti => (Nat.lt_succ_iff_lt_or_eq.1 hi).elim (fun hi => HJ.out i t hi hti) (fun he => by subst he; obtain rfl := Option.some.inj (hti.symm.trans HT.out); exact HG.out), hbx⟩
          case measure => simp [intOf]; omega
        · go_ret
          exact ⟨ret_bool (by rw [HF.out, Ty.knowns_no ts ks1 j _ HT.out ((Bool.not_eq_true _).mp HG.out)]), hbw⟩
      case neg =>
        go_wp2_with fail
        go_ret
        exact ⟨ret_bool (by rw [HF.out, Ty.knowns_yes ts ks1 fun i t hti => HJ.out i t (by have := (List.getElem?_eq_some_iff.1 hti).1; omega) hti]), hb⟩
theorem kn_all (ts : List Dat) (a : Option Addr) (c : Nat) : ∀ N, KnW ts a c N
  | 0 => fun _ _ _ _ _ _  h => absurd h (by omega)
  | N + 1 => kn_step ts a c N (kn_all ts a c N)
theorem spec_Known (ts : List Dat) (a : Option Addr) (c : Nat) (k1 : Int) (n1 : ByteArray) (ks1 : List Ty) (aks1 : Option Addr) (cks1 : Nat) (w : World) (hd : RdL w (Dat.ds ts) (.slice a ts.length c)) (hr : RdS w (Ty.d (Ty.mk k1 n1 ks1)) [.int .i64 k1, .string n1, .slice aks1 ks1.length cks1]) :
    Calls Tryz.prog 131 #[.slice a ts.length c, .agg #[.int .i64 k1, .string n1, .slice aks1 ks1.length cks1]] w fun e w' => e = .returned (.bool (Ty.known ts (Ty.mk k1 n1 ks1))) ∧ Below w.heap.size w w' :=
  kn_all ts a c (Ty.bulk (Ty.mk k1 n1 ks1) + 1) k1 n1 ks1 aks1 cks1 w (by omega) hd hr
end Go.Proofs.YtikhofcjkcbpbaaGreatDoor
/- was: DatCons -/
namespace Go.Proofs.YtikhofcjkcbpbaaGreatDoor
open Go.ChangeShapes Go.WideShapes Go.ChangeAt Go.RowKit Go.BigFrame
open Go.Sort (grow)
set_option linter.unusedVariables false

set_option maxHeartbeats 2000000 in
theorem spec_Cons (ts : List Dat) (a : Option Addr) (c : Nat) (n1 : ByteArray) (fs1 : List Ty) (afs1 : Option Addr) (cfs1 : Nat) (w : World) (hM : Con.bulk (Con.mk n1 fs1) ≤ 1048576) (hd : RdL w (Dat.ds ts) (.slice a ts.length c)) (hr : RdS w (Con.d (Con.mk n1 fs1)) [.string n1, .slice afs1 fs1.length cfs1]) :
    Calls Tryz.prog 109 #[.slice a ts.length c, .agg #[.string n1, .slice afs1 fs1.length cfs1]] w fun e w' => e = .returned (.bool (conOk ts (Con.mk n1 fs1))) ∧ Below w.heap.size w w' := by
  have HE := hid (show conOk ts (Con.mk n1 fs1) = (isUpperB n1 && (decide (fs1.length ≤ 3) && fieldsOk ts fs1)) from rfl)
  have hbk : Con.bulk (Con.mk n1 fs1) = n1.size + Ty.bulks fs1 := rfl
  have hlen := Ty.bulks_length fs1
  have HX0 := hid ((Boxes.nil w).alloc #[.string n1, .slice afs1 fs1.length cfs1] 85 (0, 0))
  have HB0 := hid ((Below.refl w.heap.size w).alloc (Nat.le_refl _) (.cells #[.string n1, .slice afs1 fs1.length cfs1] 85))
  have HV := hid (spec_IsUpper n1 (w.alloc (.cells #[.string n1, .slice afs1 fs1.length cfs1] 85)))
  have hf := hr.fCon.2
  obtain ⟨_, _, e, h2, h3, h4⟩ := hf.eTy
  simp only [Value.slice.injEq, true_and] at e
  obtain ⟨rfl, rfl⟩ := e
  have H4 := hid h4
  have HM := hid (show Ty.bulks fs1 ≤ 1048576 by omega)
  have HD := hid hd
  have hl2 : fs1.length ≤ 1048576 := by omega
  clear hr hf h4 hbk hM hd hlen
  by_cases hu : isUpperB n1 = true
  case neg =>
    replace hu := (Bool.not_eq_true _).mp hu
    have HF := hid (show conOk ts (Con.mk n1 fs1) = false by rw [HE.out, hu]; rfl)
    have HU := hid hu
    clear hu HE H4
    go_enter Tryz.func109, Tryz.ntmps109
    go_wp2_with fail
    refine HV.out.mono ?_
    rw [HU.out]
    rintro e w1 ⟨rfl, hb⟩
    have HB1 := hid (HB0.out.trans (hb.mono HB0.out.size))
    clear hb
    go_wp2_with fail
    go_ret
    exact ⟨ret_bool HF.out.symm, HB1.out⟩
  case pos =>
    have HU := hid hu
    by_cases hl : 3 < fs1.length
    case pos =>
      have hlb : decide ((3 : Int) < fs1.length) = true := by simp; omega
      have HF := hid (show conOk ts (Con.mk n1 fs1) = false by rw [HE.out, show decide (fs1.length ≤ 3) = false from decide_eq_false (by omega)]; simp)
      clear hu HE H4 hl
      go_enter Tryz.func109, Tryz.ntmps109
      go_wp2_with fail
      refine HV.out.mono ?_
      rw [HU.out]
      rintro e w1 ⟨rfl, hb⟩
      have HB1 := hid (HB0.out.trans (hb.mono HB0.out.size))
      have HX1 := hid (HX0.out.below hb)
      have g1 := HX1.out.at 0 1 rfl rfl
      clear hb
      go_wp2_with fail
      go_ret
      exact ⟨ret_bool HF.out.symm, HB1.out⟩
    case neg =>
      have hlb : decide ((3 : Int) < fs1.length) = false := by simp; omega
      have HF := hid (show conOk ts (Con.mk n1 fs1) = fieldsOk ts fs1 by rw [HE.out, hu, show decide (fs1.length ≤ 3) = true from decide_eq_true (by omega)]; rfl)
      clear hu HE hl
      go_enter Tryz.func109, Tryz.ntmps109
      go_wp2_with fail
      refine HV.out.mono ?_
      rw [HU.out]
      rintro e w1 ⟨rfl, hb⟩
      have HB1 := hid (HB0.out.trans (hb.mono HB0.out.size))
      have HX1 := hid (HX0.out.below hb)
      have g1 := HX1.out.at 0 1 rfl rfl
      clear hb
      go_wp2_with fail
      clear g1
      go_loopw [5] (fun i wr => ∃ (j : Nat), j ≤ fs1.length ∧ i = .int .i64 j ∧ Hid (∀ (i : Nat) t, i < j → fs1[i]? = some t → fieldOk ts t = true) ∧ Below w1.heap.size w1 wr) (fun i _ => fs1.length - (intOf i).toNat)
      case atStart => exact ⟨0, by omega, rfl, fun i t hi => absurd hi (by omega), Below.refl _ _⟩
      case round =>
        obtain ⟨j, hj, rfl, HJ, hb0⟩ := hrel
        have hb : Below w.heap.size w wr := HB1.out.trans (hb0.mono HB1.out.size)
        have HXr := hid (HX1.out.below hb0)
        have z1 := HXr.out.at 0 1 rfl rfl
        by_cases hlt : j < fs1.length
        case pos =>
          obtain ⟨b, o, rfl, hbl, hall⟩ := H4.out (by omega)
          obtain ⟨t, ht⟩ : ∃ t, fs1[j]? = some t := ⟨_, List.getElem?_eq_getElem hlt⟩
          obtain ⟨k3, n3, ks3⟩ := t
          obtain ⟨aks3, cks3, q0, q1, q2, hrk⟩ := hall j k3 n3 ks3 ht
          clear hall H4
          have hbg := Ty.bulk_get fs1 j _ ht
          have hc1 := spec_ValidType k3 n3 ks3 aks3 cks3 wr (by have := HM.out; omega) (hrk.below hb)
          have hc2 := fun W (hw : Below wr.heap.size wr W) => spec_Known ts a c k3 n3 ks3 aks3 cks3 W ((HD.out.below hb).below hw) ((hrk.below hb).below hw)
          have d0 := (hb.cell (p := ⟨b, o + j * 3, none⟩) hbl).trans q0
          have d1 := (hb.cell (p := ⟨b, o + j * 3 + 1, none⟩) hbl).trans q1
          have d2 := (hb.cell (p := ⟨b, o + j * 3 + 2, none⟩) hbl).trans q2
          have EE0 := hid d0
          have EE1 := hid d1
          have EE2 := hid d2
          have bl2 : b < wr.heap.size := Nat.lt_of_lt_of_le hbl hb.size
          have HT := hid ht
          have HBW := hid hb
          have HB0W := hid hb0
          clear ht hrk q0 q1 q2
          by_cases hk : Ty.ok (.mk k3 n3 ks3) = true
          case neg =>
            replace hk := (Bool.not_eq_true _).mp hk
            have HG := hid (show fieldOk ts (.mk k3 n3 ks3) = false by rw [fieldOk, hk]; rfl)
            rw [hk] at hc1
            have HC1 := hid hc1
            clear hc1 hc2 hk
            go_wp2_with fail
            refine HC1.out.mono ?_
            rintro e w2 ⟨rfl, hb1⟩
            have hbw := HBW.out.trans (hb1.mono HBW.out.size)
            clear HC1 d0 d1 d2 z1 hb1
            go_wp2_with fail
            go_ret
            exact ⟨ret_bool (by rw [HF.out, fieldsOk_no ts fs1 j _ HT.out HG.out]), hbw⟩
          case pos =>
            have HG0 := hid (show fieldOk ts (.mk k3 n3 ks3) = Ty.known ts (.mk k3 n3 ks3) by rw [fieldOk, hk]; rfl)
            rw [hk] at hc1
            have HC1 := hid hc1
            by_cases hg : Ty.known ts (.mk k3 n3 ks3) = true
            all_goals
              first | rw [hg] at hc2 | rw [(Bool.not_eq_true _).mp hg] at hc2
              have HC2 := hid hc2
              have HG := hid hg
              clear hc1 hc2 hk hg
              go_wp2_with fail
              refine HC1.out.mono ?_
              rintro e w2 ⟨rfl, hb1⟩
              have y1 := (HXr.out.below hb1).at 0 1 rfl rfl
              have y2 := (hb1.cell (p := ⟨b, o + j * 3, none⟩) bl2).trans EE0.out
              have y3 := (hb1.cell (p := ⟨b, o + j * 3 + 1, none⟩) bl2).trans EE1.out
              have y4 := (hb1.cell (p := ⟨b, o + j * 3 + 2, none⟩) bl2).trans EE2.out
              have HB1W := hid hb1
              clear HC1 d0 d1 d2 z1 hb1
              go_wp2_with fail
              refine (HC2.out _ HB1W.out).mono ?_
              rintro e w3 ⟨rfl, hb2⟩
              have hbx := (HB0W.out.trans (HB1W.out.mono HB0W.out.size)).trans (hb2.mono (HB0W.out.trans (HB1W.out.mono HB0W.out.size)).size)
              have hbw := HB1.out.trans (hbx.mono HB1.out.size)
              clear HC2 y1 y2 y3 y4 hb2
              go_wp2_with fail
            · go_roundw
              case rel => exact ⟨j + 1, by omega, by go_num, fun i t hi hti => (Nat.lt_succ_iff_lt_or_eq.1 hi).elim (fun hi => HJ.out i t hi hti) (fun he => by subst he; obtain rfl := Option.some.inj (hti.symm.trans HT.out); exact HG0.out.trans HG.out), hbx⟩
              case measure => simp [intOf]; omega
            · go_ret
              exact ⟨ret_bool (by rw [HF.out, fieldsOk_no ts fs1 j _ HT.out (HG0.out.trans ((Bool.not_eq_true _).mp HG.out))]), hbw⟩
        case neg =>
          go_wp2_with fail
          go_ret
          exact ⟨ret_bool (by rw [HF.out, fieldsOk_yes ts fs1 fun i t hti => HJ.out i t (by have := (List.getElem?_eq_some_iff.1 hti).1; omega) hti]), hb⟩
end Go.Proofs.YtikhofcjkcbpbaaGreatDoor
/- was: DatOk -/
namespace Go.Proofs.YtikhofcjkcbpbaaGreatDoor
open Go.ChangeShapes Go.WideShapes Go.ChangeAt Go.RowKit Go.BigFrame
open Go.Sort (grow)
set_option linter.unusedVariables false

theorem infoStrD : (Tryz.prog.info? 9).map (fun i => (i.zero, i.size, i.bytes)) = some (some (.string ByteArray.empty), 1, 16) := by kernel_rfl
/-- Names in a row of the call's own. -/
def NamesAt (B : Nat) (sn : List ByteArray) (v : Value) (w : World) : Prop := w.ownsRow B 9 1 v sn.length (sn.map Value.string)
theorem NamesAt.open {B : Nat} {sn : List ByteArray} {v : Value} {w : World} (h : NamesAt B sn v w) : ∃ a c, v = .slice a sn.length c ∧ (0 < sn.length → ∃ g, a = some ⟨g, 0, none⟩ ∧ ∀ p t, sn[p]? = some t → w.cell? ⟨g, p, none⟩ = some (.string t)) := by
  have h0 := h
  rcases h.2 with ⟨rfl, hn⟩ | ⟨g, cap, cur, rfl, _⟩
  · exact ⟨none, 0, by rw [hn], fun hp => by omega⟩
  · refine ⟨some ⟨g, 0, none⟩, cap, rfl, fun _ => ⟨g, rfl, fun p t hp => ?_⟩⟩
    have := h0.cells (g := g) rfl p (.string t) (by rw [List.getElem?_map, hp]; rfl)
    rw [Addr.add_lit] at this
    simpa using this
theorem NamesAt.below {B : Nat} {sn : List ByteArray} {v : Value} {w w' : World} (h : NamesAt B sn v w) (hb : Below w.heap.size w w') : NamesAt B sn v w' := ownsRow.below h hb
theorem drop_get {α : Type} {l : List α} {j : Nat} {t : α} (h : l[j]? = some t) : l.drop j = t :: l.drop (j + 1) := by
  have hj : j < l.length := (List.getElem?_eq_some_iff.1 h).1
  have := (List.getElem?_eq_some_iff.1 h).2
  rw [List.drop_eq_getElem_cons hj, this]
theorem headOk_eq (ts : List Dat) (i : Nat) (n : ByteArray) (qs : List Con) : headOk ts i (.mk n qs) = (isUpperB n && (!(n.toList == [73, 110, 116]) && (decide (named ts n = i) && inR qs.length 1 4))) := rfl

set_option maxRecDepth 100000 in
set_option maxHeartbeats 4000000 in
theorem spec_l02Ok (ts : List Dat) (a : Option Addr) (c : Nat) (w : World) (hM : Dat.bulks ts ≤ 1048576) (hd : RdL w (Dat.ds ts) (.slice a ts.length c)) :
    Calls Tryz.prog 81 #[.slice a ts.length c] w fun e w' => e = .returned (.bool (datasOk ts)) ∧ Below w.heap.size w w' := by
  obtain ⟨i0, hi, hz0, hz1, hz2⟩ := info_parts infoStrD
  have HI := hid hi
  have hlen := Dat.bulks_length ts
  by_cases h4 : 4 < ts.length
  case pos =>
    have hb : decide ((4 : Int) < ts.length) = true := by simp; omega
    have HF := hid (show datasOk ts = false by rw [datasOk, show decide (ts.length ≤ 4) = false from decide_eq_false (by omega)]; rfl)
    clear h4 hd hM hlen hi hz0 hz1 hz2
    go_enter Tryz.func81, Tryz.ntmps81
    go_wp2_with fail
    go_ret
    exact ⟨ret_bool HF.out.symm, Below.refl _ _⟩
  case neg =>
  have hb : decide ((4 : Int) < ts.length) = false := by simp; omega
  have HF := hid (show datasOk ts = datsFrom ts ts 0 [] by rw [datasOk, show decide (ts.length ≤ 4) = true from decide_eq_true (by omega)]; rfl)
  have HD := hid hd
  obtain ⟨_, _, e, h2, h3, h4'⟩ := hd.eDat
  simp only [Value.slice.injEq, true_and] at e
  obtain ⟨rfl, rfl⟩ := e
  have H4 := hid h4'
  have HM := hid hM
  have hts4 : ts.length ≤ 4 := by omega
  clear hd h4' hM hlen h4 h2 h3 hi
  go_enter Tryz.func81, Tryz.ntmps81
  go_wp2_with fail
  go_loopw [3, 4] (fun v i wr => ∃ (j : Nat) (seen : List ByteArray) (sa : Option Addr) (sc : Nat), j ≤ ts.length ∧ i = .int .i64 j ∧ v = .slice sa seen.length sc ∧ seen.length ≤ 4 * j ∧ Hid (NamesAt w.heap.size seen (.slice sa seen.length sc) wr) ∧ Hid (datsFrom ts ts 0 [] = datsFrom ts (ts.drop j) j seen) ∧ Below w.heap.size w wr) (fun _ i _ => ts.length - (intOf i).toNat)
  case atStart => exact ⟨0, [], some ⟨w.heap.size, 0, none⟩, 0, by omega, rfl, rfl, by simp, World.ownsRow_made w #[] 0 (Nat.le_refl _) (by unfold maxLen; omega) rfl, rfl, (Below.refl _ _).alloc (Nat.le_refl _) _⟩
  case round =>
    obtain ⟨j, seen, sa, sc, hj, rfl, rfl, hsl, HOW, HJ, hbw0⟩ := hrel
    by_cases hlt : j < ts.length
    case neg =>
      go_wp2_with fail
      go_ret
      exact ⟨ret_bool (by rw [HF.out, HJ.out, List.drop_eq_nil_of_le (by omega), datsFrom]), hbw0⟩
    case pos =>
    obtain ⟨b, o, rfl, hbl, hall⟩ := H4.out (by omega)
    obtain ⟨t, ht⟩ : ∃ t, ts[j]? = some t := ⟨_, List.getElem?_eq_getElem hlt⟩
    obtain ⟨n1, qs1⟩ := t
    obtain ⟨aqs1, cqs1, q0, q1, hrk⟩ := hall j n1 qs1 ht
    clear hall H4
    have HT := hid ht
    have hbg := Dat.bulk_get ts j _ ht
    have hbk : Dat.bulk (.mk n1 qs1) = n1.size + Con.bulks qs1 := rfl
    have HMQ := hid (show Con.bulks qs1 ≤ 1048576 by have := HM.out; omega)
    have hql := Con.bulks_length qs1
    have hql2 : qs1.length ≤ 1048576 := by have := HM.out; omega
    have hqf := hrk.fDat.2
    obtain ⟨_, _, e, k2, k3, k4⟩ := hqf.eCon
    simp only [Value.slice.injEq, true_and] at e
    obtain ⟨rfl, rfl⟩ := e
    have HQ4 := hid k4
    have d0 := (hbw0.cell (p := ⟨b, o + j * 2, none⟩) hbl).trans q0
    have d1 := (hbw0.cell (p := ⟨b, o + j * 2 + 1, none⟩) hbl).trans q1
    have HBW0 := hid hbw0
    have HHD := hid (show datsFrom ts (ts.drop j) j seen = (headOk ts j (.mk n1 qs1) && (match consFrom ts qs1 seen with | some s => datsFrom ts (ts.drop (j + 1)) (j + 1) s | none => false)) by rw [drop_get ht, datsFrom]; rfl)
    have hHE := headOk_eq ts j n1 qs1
    -- the box of d
    have hbx : Below wr.heap.size wr (wr.alloc (.cells #[.string n1, .slice aqs1 qs1.length cqs1] 74)) := (Below.refl _ _).alloc (Nat.le_refl _) _
    have HX0 := hid ((Boxes.nil wr).alloc #[.string n1, .slice aqs1 qs1.length cqs1] 74 (0, 0))
    have HV := hid (spec_IsUpper n1 (wr.alloc (.cells #[.string n1, .slice aqs1 qs1.length cqs1] 74)))
    have hnm := fun W (hW : Below wr.heap.size wr W) => spec_Named ts (some ⟨b, o, none⟩) c n1 W ((HD.out.below HBW0.out).below hW)
    have HBX := hid hbx
    have HOW1 := hid (HOW.out.below hbx)
    clear hqf k2 k3 k4 hrk ht q0 q1 hbw0 hbg hbk hql hbx
    by_cases t1 : isUpperB n1 = true
    case neg =>
      replace t1 := (Bool.not_eq_true _).mp t1
      have HHF := hid (show headOk ts j (.mk n1 qs1) = false by rw [hHE, t1]; rfl)
      have HU := hid t1
      clear t1 hHE hnm
      go_wp2_with fail
      refine HV.out.mono ?_
      rw [HU.out]
      rintro e w1 ⟨rfl, hb1⟩
      have HBY := hid (HBX.out.trans (hb1.mono HBX.out.size))
      have HX1 := hid (HX0.out.below hb1)
      have HOW2 := hid (HOW1.out.below hb1)
      have HB1 := hid hb1
      clear hb1 d0 d1
      go_wp2_with fail
      go_ret
      exact ⟨ret_bool (by rw [HF.out, HJ.out, HHD.out, HHF.out]; rfl), HBW0.out.trans (HBY.out.mono HBW0.out.size)⟩
    case pos =>
    have HU := hid t1
    by_cases t2 : (n1.toList == [73, 110, 116]) = true
    case pos =>
      have HHF := hid (show headOk ts j (.mk n1 qs1) = false by rw [hHE, t2]; simp)
      clear t1 hHE hnm
      go_wp2_with fail
      refine HV.out.mono ?_
      rw [HU.out]
      rintro e w1 ⟨rfl, hb1⟩
      have HBY := hid (HBX.out.trans (hb1.mono HBX.out.size))
      have HX1 := hid (HX0.out.below hb1)
      have HOW2 := hid (HOW1.out.below hb1)
      have HB1 := hid hb1
      clear hb1 d0 d1
      have g0 := HX1.out.at 0 0 rfl rfl
      have g1 := HX1.out.at 0 1 rfl rfl
      go_wp2_with fail
      clear g0 g1
      go_ret
      exact ⟨ret_bool (by rw [HF.out, HJ.out, HHD.out, HHF.out]; rfl), HBW0.out.trans (HBY.out.mono HBW0.out.size)⟩
    case neg =>
    replace t2 := (Bool.not_eq_true _).mp t2
    have HNM := hid hnm
    clear hnm
    by_cases t3 : named ts n1 = (j : Int)
    case neg =>
      have HHF := hid (show headOk ts j (.mk n1 qs1) = false by rw [hHE]; simp [t3])
      have t3b : (named ts n1 != (j : Int)) = true := by simp [t3]
      generalize named ts n1 = m at HNM t3b
      clear t1 hHE t3
      go_wp2_with fail
      refine HV.out.mono ?_
      rw [HU.out]
      rintro e w1 ⟨rfl, hb1⟩
      have HBY := hid (HBX.out.trans (hb1.mono HBX.out.size))
      have HX1 := hid (HX0.out.below hb1)
      have HOW2 := hid (HOW1.out.below hb1)
      have HB1 := hid hb1
      clear hb1 d0 d1
      have g0 := HX1.out.at 0 0 rfl rfl
      have g1 := HX1.out.at 0 1 rfl rfl
      go_wp2_with fail
      refine (HNM.out _ HBY.out).mono ?_
      rintro e w2 ⟨rfl, rfl⟩
      go_wp2_with fail
      clear g0 g1
      go_ret
      exact ⟨ret_bool (by rw [HF.out, HJ.out, HHD.out, HHF.out]; rfl), HBW0.out.trans (HBY.out.mono HBW0.out.size)⟩
    case pos =>
    have HN3 := hid t3
    rw [t3] at HNM
    by_cases t4 : qs1.length < 1
    case pos =>
      have HHF := hid (show headOk ts j (.mk n1 qs1) = false by rw [hHE, inR_f (by omega)]; simp)
      have t4b : decide ((qs1.length : Int) < 1) = true := by simp <;> omega
      clear t1 hHE t3 t4
      go_wp2_with fail
      refine HV.out.mono ?_
      rw [HU.out]
      rintro e w1 ⟨rfl, hb1⟩
      have HBY := hid (HBX.out.trans (hb1.mono HBX.out.size))
      have HX1 := hid (HX0.out.below hb1)
      have HOW2 := hid (HOW1.out.below hb1)
      have HB1 := hid hb1
      clear hb1 d0 d1
      have g0 := HX1.out.at 0 0 rfl rfl
      have g1 := HX1.out.at 0 1 rfl rfl
      go_wp2_with fail
      refine (HNM.out _ HBY.out).mono ?_
      rintro e w2 ⟨rfl, rfl⟩
      go_wp2_with fail
      clear g0 g1
      go_ret
      exact ⟨ret_bool (by rw [HF.out, HJ.out, HHD.out, HHF.out]; rfl), HBW0.out.trans (HBY.out.mono HBW0.out.size)⟩
    case neg =>
    have t4b : decide ((qs1.length : Int) < 1) = false := by simp <;> omega
    by_cases t5 : 4 < qs1.length
    case pos =>
      have HHF := hid (show headOk ts j (.mk n1 qs1) = false by rw [hHE, inR_f (by omega)]; simp)
      have t5b : decide ((4 : Int) < qs1.length) = true := by simp <;> omega
      clear t1 hHE t3 t4 t5
      go_wp2_with fail
      refine HV.out.mono ?_
      rw [HU.out]
      rintro e w1 ⟨rfl, hb1⟩
      have HBY := hid (HBX.out.trans (hb1.mono HBX.out.size))
      have HX1 := hid (HX0.out.below hb1)
      have HOW2 := hid (HOW1.out.below hb1)
      have HB1 := hid hb1
      clear hb1 d0 d1
      have g0 := HX1.out.at 0 0 rfl rfl
      have g1 := HX1.out.at 0 1 rfl rfl
      go_wp2_with fail
      refine (HNM.out _ HBY.out).mono ?_
      rintro e w2 ⟨rfl, rfl⟩
      go_wp2_with fail
      clear g0 g1
      go_ret
      exact ⟨ret_bool (by rw [HF.out, HJ.out, HHD.out, HHF.out]; rfl), HBW0.out.trans (HBY.out.mono HBW0.out.size)⟩
    case neg =>
    have t5b : decide ((4 : Int) < qs1.length) = false := by simp <;> omega
    have HHT := hid (show headOk ts j (.mk n1 qs1) = true by rw [hHE, t1, t2, t3, inR_t (by omega) (by omega)]; simp)
    have hq4 : qs1.length ≤ 4 := by omega
    clear t1 hHE t3 t4 t5
    go_wp2_with fail
    refine HV.out.mono ?_
    rw [HU.out]
    rintro e w1 ⟨rfl, hb1⟩
    have HBY := hid (HBX.out.trans (hb1.mono HBX.out.size))
    have HX1 := hid (HX0.out.below hb1)
    have HOW2 := hid (HOW1.out.below hb1)
    have HB1 := hid hb1
    clear hb1 d0 d1
    have g0 := HX1.out.at 0 0 rfl rfl
    have g1 := HX1.out.at 0 1 rfl rfl
    go_wp2_with fail
    refine (HNM.out _ HBY.out).mono ?_
    rintro e w2 ⟨rfl, rfl⟩
    go_wp2_with fail
    clear g0 g1
    obtain ⟨wo, hwo⟩ : ∃ wo, wo = wr := ⟨_, rfl⟩
    subst wr
    go_loopw [3, 6] (fun v k wk => ∃ (m : Nat) (sn : List ByteArray) (na : Option Addr) (nc : Nat), m ≤ qs1.length ∧ k = .int .i64 m ∧ v = .slice na sn.length nc ∧ sn.length ≤ seen.length + m ∧ Hid (NamesAt w.heap.size sn (.slice na sn.length nc) wk) ∧ Hid (consFrom ts qs1 seen = consFrom ts (qs1.drop m) sn) ∧ Below w.heap.size w wk ∧ Hid (wk.heap[wo.heap.size]? = some (.cells #[.string n1, .slice aqs1 qs1.length cqs1] 74))) (fun _ k _ => qs1.length - (intOf k).toNat)
    case atStart =>
      exact ⟨0, seen, sa, sc, by omega, rfl, rfl, by omega, HOW2.out, rfl, HBW0.out.trans (HBY.out.mono HBW0.out.size), (HB1.out.block _ (by simp)).trans (heap_alloc_new wo _)⟩
    case round =>
      obtain ⟨m, sn, na, nc, hm, rfl, rfl, hsl2, HOK, HJ2, hbk, HBH⟩ := hrel
      have z0 := heap_cell (j := 0) HBH.out rfl
      have z1 := heap_cell (j := 1) HBH.out rfl
      by_cases hlk : m < qs1.length
      case neg =>
        have HJ3 := hid (show datsFrom ts ts 0 [] = datsFrom ts (ts.drop (j + 1)) (j + 1) sn by rw [HJ.out, HHD.out, HHT.out, HJ2.out, List.drop_eq_nil_of_le (by omega), consFrom]; rfl)
        go_wp2_with fail
        go_roundw
        case rel => exact ⟨j + 1, sn, na, nc, by omega, by go_num, rfl, by omega, HOK.out, HJ3.out, hbk⟩
        case measure => simp [intOf]; omega
      case pos =>
        obtain ⟨b2, o2, ea, hbl2, hall2⟩ := HQ4.out (by omega)
        subst ea
        obtain ⟨t, ht⟩ : ∃ t, qs1[m]? = some t := ⟨_, List.getElem?_eq_getElem hlk⟩
        obtain ⟨n3, fs3⟩ := t
        obtain ⟨afs3, cfs3, q0, q1, hrk3⟩ := hall2 m n3 fs3 ht
        have hbg3 := Con.bulk_get qs1 m _ ht
        have HCO := hid (show consFrom ts (qs1.drop m) sn = if conOk ts (.mk n3 fs3) && !hasStr sn n3 then consFrom ts (qs1.drop (m + 1)) (sn ++ [n3]) else none by rw [drop_get ht, consFrom]; rfl)
        have hc1 := spec_Cons ts (some ⟨b, o, none⟩) c n3 fs3 afs3 cfs3 wr (by have := HMQ.out; omega) (HD.out.below hbk) (hrk3.below hbk)
        have d0 := (hbk.cell (p := ⟨b2, o2 + m * 2, none⟩) hbl2).trans q0
        have d1 := (hbk.cell (p := ⟨b2, o2 + m * 2 + 1, none⟩) hbl2).trans q1
        have E0 := hid d0
        have bl3 : b2 < wr.heap.size := Nat.lt_of_lt_of_le hbl2 hbk.size
        have HBK := hid hbk
        have hwk : wo.heap.size < wr.heap.size := (Array.getElem?_eq_some_iff.1 HBH.out).1
        clear hall2 hrk3 q0 q1 ht hbg3 hbk
        by_cases hco : conOk ts (.mk n3 fs3) = true
        case neg =>
          replace hco := (Bool.not_eq_true _).mp hco
          have HNO := hid (show datsFrom ts ts 0 [] = false by rw [HJ.out, HHD.out, HHT.out, HJ2.out, HCO.out, hco]; rfl)
          rw [hco] at hc1
          have HC1 := hid hc1
          clear hc1 hco
          go_wp2_with fail
          refine HC1.out.mono ?_
          rintro e w4 ⟨rfl, hb4⟩
          have hbz := HBK.out.trans (hb4.mono HBK.out.size)
          clear hb4 d0 d1 z0 z1
          go_wp2_with fail
          go_ret
          exact ⟨ret_bool (by rw [HF.out, HNO.out]), hbz⟩
        case pos =>
          have HCT1 := hid hco
          rw [hco] at hc1
          have HC1 := hid hc1
          clear hc1 hco
          go_wp2_with fail
          refine HC1.out.mono ?_
          rintro e w4 ⟨rfl, hb4⟩
          have HOK4 := hid (HOK.out.below hb4)
          have HBH4 := hid ((hb4.block _ hwk).trans HBH.out)
          have E04 := hid ((hb4.cell (p := ⟨b2, o2 + m * 2, none⟩) bl3).trans E0.out)
          have HBK4 := hid (HBK.out.trans (hb4.mono HBK.out.size))
          have hwk4 : wo.heap.size < w4.heap.size := Nat.lt_of_lt_of_le hwk hb4.size
          have bl4 : b2 < w4.heap.size := Nat.lt_of_lt_of_le bl3 hb4.size
          clear hb4 d0 d1 z0 z1 HC1
          go_wp2_with fail
          go_loopw [7] (fun p wl => ∃ (x : Nat), x ≤ sn.length ∧ p = .int .i64 x ∧ Hid (∀ (i : Nat) t, i < x → sn[i]? = some t → t ≠ n3) ∧ Below w4.heap.size w4 wl) (fun p _ => sn.length - (intOf p).toNat)
          case atStart => exact ⟨0, by omega, rfl, fun i t hi => absurd hi (by omega), Below.refl _ _⟩
          case round =>
            obtain ⟨x, hx, rfl, HJX, hb5⟩ := hrel
            have HOK5 := hid (HOK4.out.below hb5)
            have HBH5 := hid ((hb5.block _ hwk4).trans HBH4.out)
            have z1 := heap_cell (j := 1) HBH5.out rfl
            have e0 := (hb5.cell (p := ⟨b2, o2 + m * 2, none⟩) bl4).trans E04.out
            have HBK5 := hid (HBK4.out.trans (hb5.mono HBK4.out.size))
            obtain ⟨na', nc', hna, hget⟩ := HOK5.out.open
            simp only [Value.slice.injEq, true_and] at hna
            obtain ⟨rfl, rfl⟩ := hna
            have HB5 := hid hb5
            clear hb5
            by_cases hlx : x < sn.length
            case pos =>
              obtain ⟨g, rfl, hcells⟩ := hget (by omega)
              obtain ⟨t, ht⟩ : ∃ t, sn[x]? = some t := ⟨_, List.getElem?_eq_getElem hlx⟩
              have r0 := cell_regrown (hcells x t ht)
              have r1 := cell_regrown z1
              have r2 := cell_regrown e0
              have HTX := hid ht
              clear hcells ht
              by_cases he : t = n3
              case pos =>
                have heb := bytes_eq he
                have HNO := hid (show datsFrom ts ts 0 [] = false by
                  rw [HJ.out, HHD.out, HHT.out, HJ2.out, HCO.out, HCT1.out, hasStr_yes (he ▸ HTX.out)]; rfl)
                clear he
                go_wp2_with fail
                refine wp_region_quiet_below (by kernel_rfl) (by kernel_rfl) ?_
                repeat (go_big_quiet_step (fail))
                refine wpQuiet_nil ?_
                intro _ hw'
                obtain ⟨⟨dq, osq⟩, hw''⟩ := hw'
                subst hw''
                have hbz := HBK5.out.trans ((below_regrown wr dq osq).mono HBK5.out.size)
                clear r0 r1 r2 z1 e0
                go_wp2_with fail
                go_ret
                exact ⟨ret_bool (by rw [HF.out, HNO.out]), hbz⟩
              case neg =>
                have heb := bytes_ne he
                have HNE := hid he
                clear he
                go_wp2_with fail
                refine wp_region_quiet_below (by kernel_rfl) (by kernel_rfl) ?_
                repeat (go_big_quiet_step (fail))
                refine wpQuiet_nil ?_
                intro _ hw'
                obtain ⟨⟨dq, osq⟩, hw''⟩ := hw'
                subst hw''
                have hbz := HB5.out.trans ((below_regrown wr dq osq).mono HB5.out.size)
                clear r0 r1 r2 z1 e0
                go_wp2_with fail
                go_roundw
                case rel => exact ⟨x + 1, by omega, by go_num, fun i t hi hti => (Nat.lt_succ_iff_lt_or_eq.1 hi).elim (fun hi => HJX.out i t hi hti) (fun he => by subst he; obtain rfl := Option.some.inj (hti.symm.trans HTX.out); exact HNE.out), hbz⟩
                case measure => simp [intOf]; omega
            case neg =>
              have hns : hasStr sn n3 = false := hasStr_no fun i t hti => HJX.out i t (by have := (List.getElem?_eq_some_iff.1 hti).1; omega) hti
              have HCN := hid (show consFrom ts qs1 seen = consFrom ts (qs1.drop (m + 1)) (sn ++ [n3]) by rw [HJ2.out, HCO.out, HCT1.out, hns]; rfl)
              have hszl : w.heap.size ≤ wr.heap.size := HBK5.out.size
              clear hget hns
              go_wp2_with (at_builtin; refine wpList_append_own _ rfl _ _ 25 rfl w.heap.size 9 i0 (.string ByteArray.empty) 1 16 Tryz.underlying25 HI.out hz0 hz1 hz2 rfl (by decide) _ _ _ rfl (HOK5.out.alloc _) ⟨wr.heap.size, 0, none⟩ 1 1 [.string n3] rfl rfl ?c1 ?c2 ?c3 ?c4 ?c5 ?_)
              case c1 => exact one_new wr _ _
              case c2 => intro y hy; simp at hy; subst hy; rfl
              case c3 => unfold maxLen; omega
              case c4 => omega
              case c5 => simp; omega
              intro v' w6 hown6 hgrow6 hnil6
              have hna6 : NamesAt w.heap.size (sn ++ [n3]) v' w6 := by unfold NamesAt; simpa using hown6
              obtain ⟨a6, c6, rfl, -⟩ := hna6.open
              have HNA6 := hid hna6
              have HBH6 := hid (KeepT.of_grown (HOK5.out.alloc _) hgrow6 _ _ _ _ ((Below.heap_alloc wr (.cells #[.string n3] 9) _ (Nat.lt_of_lt_of_le hwk4 HB5.out.size)).trans HBH5.out) (by decide))
              have HBK6 := hid ((HBK5.out.alloc hszl (.cells #[.string n3] 9)).grown hgrow6 (by simp; omega) (fun y hy => ((HOK5.out.alloc (.cells #[.string n3] 9)).lt y hy).1))
              clear hna6 hown6 hgrow6 hnil6 z1 e0
              go_wp2_with fail
              go_roundw
              case rel => exact ⟨m + 1, sn ++ [n3], a6, c6, by omega, by go_num, rfl, by simp; omega, HNA6.out, HCN.out, HBK6.out, HBH6.out⟩
              case measure => simp [intOf]; omega
end Go.Proofs.YtikhofcjkcbpbaaGreatDoor
/- was: DatImpl -/
namespace Go.Proofs.YtikhofcjkcbpbaaGreatDoor
open Go.ChangeShapes Go.WideShapes Go.ChangeAt Go.RowKit
set_option linter.unusedVariables false

theorem impl_datIs (nm : ByteArray) (q : Addr) (n1 : ByteArray) (qs1 : List Con) (aqs1 : Option Addr) (cqs1 : Nat) (w : World) (hq : w.cell? q = some (.string nm)) :
    Calls Tryz.prog 114 #[.agg #[.string n1, .slice aqs1 qs1.length cqs1], .pointer (some q)] w fun e w' => e = .returned (.bool (datIs nm (Dat.mk n1 qs1))) ∧ Below w.heap.size w w' := by
  have hB := (Below.refl w.heap.size w).alloc (Nat.le_refl _) (.cells #[.string n1, .slice aqs1 qs1.length cqs1] 74)
  have z0 := (hB.cell (p := q) (World.block_lt_of_cell? _ _ hq)).trans hq
  have HB := hid hB
  clear hB hq
  by_cases h : n1 = nm
  case pos =>
    have hb := bytes_eq h
    have HF := hid (show datIs nm (Dat.mk n1 qs1) = true by simp [datIs, h])
    clear h
    go_enter Tryz.func114, Tryz.ntmps114
    go_wp2_with fail
    go_ret
    exact ⟨ret_bool HF.out.symm, HB.out⟩
  case neg =>
    have hb := bytes_ne h
    have HF := hid (show datIs nm (Dat.mk n1 qs1) = false by simp [datIs, h])
    clear h
    go_enter Tryz.func114, Tryz.ntmps114
    go_wp2_with fail
    go_ret
    exact ⟨ret_bool HF.out.symm, HB.out⟩
theorem impl_findData (ts : List Dat) (a : Option Addr) (c : Nat) (nm : ByteArray) (w : World) (hr : RdL w (Dat.ds ts) (.slice a ts.length c)) :
    Calls Tryz.prog 89 #[.slice a ts.length c, .string nm] w fun e w' => e = .returned (.int .i64 (named ts nm)) ∧ Below w.heap.size w w' := by
  have hB := (Below.refl w.heap.size w).alloc (Nat.le_refl _) (.cells #[.string nm] 9)
  have HX0 := hid ((Boxes.nil w).alloc #[.string nm] 9 (0, 0))
  have hc := indexFunc_Dat_1 114 Tryz.call114 (.pointer (some ⟨w.heap.size, 0, none⟩)) (datIs nm) (fun W => W.cell? ⟨w.heap.size, 0, none⟩ = some (.string nm)) (fun x y hab h => (hab.cell (p := ⟨w.heap.size, 0, none⟩) (World.block_lt_of_cell? _ _ h)).trans h) ts a c _ (HX0.out.at 0 0 rfl rfl) (hr.below hB)
    (fun n1 qs1 aqs1 cqs1 j W _ hW hrw => impl_datIs nm _ n1 qs1 aqs1 cqs1 W hW)
  have HC := hid hc
  have HB := hid hB
  clear hc hr hB HX0
  go_enter Tryz.func89, Tryz.ntmps89
  go_wp2_with fail
  refine HC.out.mono ?_
  rintro e w1 ⟨rfl, hb⟩
  have HB1 := hid (HB.out.trans (hb.mono HB.out.size))
  clear hb
  go_wp2_with fail
  go_ret
  exact ⟨rfl, HB1.out⟩

def DeW (ts : List Dat) (a : Option Addr) (c : Nat) (N : Nat) : Prop := ∀ (k1 : Int) (n1 : ByteArray) (ks1 : List Ty) (aks1 : Option Addr) (cks1 : Nat) (w : World), Ty.bulk (Ty.mk k1 n1 ks1) < N → Ty.good (Ty.mk k1 n1 ks1) = true → RdL w (Dat.ds ts) (.slice a ts.length c) → RdS w (Ty.d (Ty.mk k1 n1 ks1)) [.int .i64 k1, .string n1, .slice aks1 ks1.length cks1] →
  Calls Tryz.prog 117 #[.slice a ts.length c, .agg #[.int .i64 k1, .string n1, .slice aks1 ks1.length cks1]] w fun e w' => e = .returned (.bool (Ty.known ts (Ty.mk k1 n1 ks1))) ∧ Below w.heap.size w w'
def unknownTy (ts : List Dat) (t : Ty) : Bool := !Ty.known ts t
theorem knowns_any (ts : List Dat) : ∀ us : List Ty, us.any (unknownTy ts) = !Ty.knowns ts us
  | [] => rfl
  | t :: us => by rw [List.any_cons, knowns_any ts us, Ty.knowns, unknownTy]; cases Ty.known ts t <;> rfl
theorem impl_undecl (ts : List Dat) (a : Option Addr) (c : Nat) (N : Nat) (ih : DeW ts a c N) (q : Addr) (k1 : Int) (n1 : ByteArray) (ks1 : List Ty) (aks1 : Option Addr) (cks1 : Nat) (w : World) (hN : Ty.bulk (Ty.mk k1 n1 ks1) < N) (hg : Ty.good (Ty.mk k1 n1 ks1) = true) (hq : w.cell? q = some (.slice a ts.length c)) (hd : RdL w (Dat.ds ts) (.slice a ts.length c)) (hr : RdS w (Ty.d (Ty.mk k1 n1 ks1)) [.int .i64 k1, .string n1, .slice aks1 ks1.length cks1]) :
    Calls Tryz.prog 136 #[.agg #[.int .i64 k1, .string n1, .slice aks1 ks1.length cks1], .pointer (some q)] w fun e w' => e = .returned (.bool (unknownTy ts (Ty.mk k1 n1 ks1))) ∧ Below w.heap.size w w' := by
  have hB := (Below.refl w.heap.size w).alloc (Nat.le_refl _) (.cells #[.int .i64 k1, .string n1, .slice aks1 ks1.length cks1] 33)
  have HC := hid (ih k1 n1 ks1 aks1 cks1 _ hN hg (hd.below hB) (hr.below hB))
  have z0 := (hB.cell (p := q) (World.block_lt_of_cell? _ _ hq)).trans hq
  have HB := hid hB
  have HF := hid (show unknownTy ts (Ty.mk k1 n1 ks1) = !Ty.known ts (Ty.mk k1 n1 ks1) from rfl)
  clear hB hr ih hq hd hN hg
  go_enter Tryz.func136, Tryz.ntmps136
  go_wp2_with fail
  refine HC.out.mono ?_
  rintro e w1 ⟨rfl, hb⟩
  have HB1 := hid (HB.out.trans (hb.mono HB.out.size))
  clear hb
  go_wp2_with fail
  go_ret
  exact ⟨ret_bool HF.out.symm, HB1.out⟩
set_option maxHeartbeats 1000000 in
theorem de_step (ts : List Dat) (a : Option Addr) (c : Nat) (N : Nat) (ih : DeW ts a c N) : DeW ts a c (N + 1) := by
  intro k1 n1 ks1 aks1 cks1 w hN hg hd hr
  have hbk : Ty.bulk (Ty.mk k1 n1 ks1) = n1.size + Ty.bulks ks1 := rfl
  have HE := hid (show Ty.known ts (Ty.mk k1 n1 ks1) = (if k1 = 2 then Ty.knows ts n1 else Ty.knowns ts ks1) from by rw [Ty.known])
  have hgd : Ty.good (Ty.mk k1 n1 ks1) = (Ty.goods ks1 && okNode k1 n1 ks1.length) := rfl
  rw [hgd, Bool.and_eq_true] at hg
  have HX0 := hid (((Boxes.nil w).alloc #[.slice a ts.length c] 46 (0, 0)).alloc #[.int .i64 k1, .string n1, .slice aks1 ks1.length cks1] 33 (0, 0))
  have hB : Below w.heap.size w ((w.alloc (.cells #[.slice a ts.length c] 46)).alloc (.cells #[.int .i64 k1, .string n1, .slice aks1 ks1.length cks1] 33)) := ((Below.refl _ _).alloc (Nat.le_refl _) _).alloc (by simp) _
  have HB0 := hid hB
  have hcf := fun W (hW : Below w.heap.size w W) => impl_findData ts a c n1 W (hd.below hW)
  have hct := fun W (hW : Below w.heap.size w W) (hq : W.cell? ⟨w.heap.size, 0, none⟩ = some (.slice a ts.length c)) =>
    contains_Ty_1 136 Tryz.call136 (.pointer (some ⟨w.heap.size, 0, none⟩)) (unknownTy ts) (fun U => Below w.heap.size w U ∧ U.cell? ⟨w.heap.size, 0, none⟩ = some (.slice a ts.length c))
      (fun x y hxy ⟨h1, h2⟩ => ⟨h1.trans (hxy.mono h1.size), (hxy.cell (p := ⟨w.heap.size, 0, none⟩) (World.block_lt_of_cell? _ _ h2)).trans h2⟩) ks1 aks1 cks1 W ⟨hW, hq⟩ (hr.fTy.2.2.below hW)
      (fun k3 n3 ks3 aks3 cks3 j U hj hU hru => impl_undecl ts a c N ih _ k3 n3 ks3 aks3 cks3 U (by have := Ty.bulk_get ks1 j _ hj; omega) (Ty.goods_get ks1 j _ hg.1 hj) hU.2 (hd.below hU.1) hru)
  rw [knowns_any] at hct
  have HCF := hid hcf
  have HKK := hid hct
  by_cases h2 : k1 = 2
  case pos =>
    have HF := hid (show Ty.known ts (Ty.mk k1 n1 ks1) = Ty.knows ts n1 by rw [HE.out, if_pos h2])
    have hks : ks1 = [] := by
      have h := hg.2
      rw [h2] at h
      simp [okNode] at h
      exact h.2.2
    subst h2
    have HKS := hid (show Ty.knowns ts ks1 = true by rw [hks]; rfl)
    by_cases hk : 0 ≤ named ts n1
    case neg =>
      have hkb : decide (named ts n1 < 0) = true := by simp; omega
      have HR := hid (show Ty.known ts (Ty.mk 2 n1 ks1) = false by rw [HF.out, Ty.knows]; simp; omega)
      generalize named ts n1 = m at HCF hkb
      clear hr ih hN hbk hd hk HE hcf hct HKK hg hgd hks hB
      go_enter Tryz.func117, Tryz.ntmps117
      go_wp2_with fail
      refine (HCF.out _ HB0.out).mono ?_
      rintro e w1 ⟨rfl, hb⟩
      have HB1 := hid (HB0.out.trans (hb.mono HB0.out.size))
      clear hb
      go_wp2_with fail
      go_ret
      exact ⟨ret_bool HR.out.symm, HB1.out⟩
    case pos =>
      have hkb : decide (named ts n1 < 0) = false := by simp; omega
      have HR := hid (show Ty.known ts (Ty.mk 2 n1 ks1) = true by rw [HF.out, Ty.knows]; simp; omega)
      generalize named ts n1 = m at HCF hkb
      clear hr ih hN hbk hd hk HE hcf hct hg hgd hks hB
      go_enter Tryz.func117, Tryz.ntmps117
      go_wp2_with fail
      refine (HCF.out _ HB0.out).mono ?_
      rintro e w1 ⟨rfl, hb⟩
      have HB1 := hid (HB0.out.trans (hb.mono HB0.out.size))
      have HX1 := hid (HX0.out.below hb)
      have g2 := HX1.out.at 0 2 rfl rfl
      have gq := HX1.out.at 1 0 rfl rfl
      simp only [World.size_alloc] at g2
      have GQ := hid gq
      clear hb gq
      go_wp2_with fail
      refine (HKK.out _ HB1.out GQ.out).mono ?_
      rintro e w2 ⟨rfl, hb⟩
      have HB2 := hid (HB1.out.trans (hb.mono HB1.out.size))
      clear hb
      go_wp2_with fail
      go_ret
      exact ⟨ret_bool (by rw [HR.out, HKS.out]), HB2.out⟩
  case neg =>
    have g2k : (k1 == 2) = false := by simp [h2]
    have HF := hid (show Ty.known ts (Ty.mk k1 n1 ks1) = Ty.knowns ts ks1 by rw [HE.out, if_neg h2])
    have gq := HX0.out.at 1 0 rfl rfl
    have GQ := hid gq
    clear hr ih hN hbk hd h2 HE hcf hct HCF hg hgd hB gq
    go_enter Tryz.func117, Tryz.ntmps117
    go_wp2_with fail
    refine (HKK.out _ HB0.out GQ.out).mono ?_
    rintro e w2 ⟨rfl, hb⟩
    have HB2 := hid (HB0.out.trans (hb.mono HB0.out.size))
    clear hb
    go_wp2_with fail
    go_ret
    exact ⟨ret_bool (by rw [HF.out]), HB2.out⟩
theorem de_all (ts : List Dat) (a : Option Addr) (c : Nat) : ∀ N, DeW ts a c N
  | 0 => fun _ _ _ _ _ _  h => absurd h (by omega)
  | N + 1 => de_step ts a c N (de_all ts a c N)
theorem impl_declared (ts : List Dat) (a : Option Addr) (c : Nat) (k1 : Int) (n1 : ByteArray) (ks1 : List Ty) (aks1 : Option Addr) (cks1 : Nat) (w : World) (hg : Ty.good (Ty.mk k1 n1 ks1) = true) (hd : RdL w (Dat.ds ts) (.slice a ts.length c)) (hr : RdS w (Ty.d (Ty.mk k1 n1 ks1)) [.int .i64 k1, .string n1, .slice aks1 ks1.length cks1]) :
    Calls Tryz.prog 117 #[.slice a ts.length c, .agg #[.int .i64 k1, .string n1, .slice aks1 ks1.length cks1]] w fun e w' => e = .returned (.bool (Ty.known ts (Ty.mk k1 n1 ks1))) ∧ Below w.heap.size w w' :=
  de_all ts a c (Ty.bulk (Ty.mk k1 n1 ks1) + 1) k1 n1 ks1 aks1 cks1 w (by omega) hg hd hr

def badField (ts : List Dat) (t : Ty) : Bool := !fieldOk ts t
theorem fieldsOk_any (ts : List Dat) : ∀ us : List Ty, us.any (badField ts) = !fieldsOk ts us
  | [] => rfl
  | t :: us => by rw [List.any_cons, fieldsOk_any ts us, fieldsOk, badField]; cases fieldOk ts t <;> rfl
theorem impl_badField (ts : List Dat) (a : Option Addr) (c : Nat) (q : Addr) (k1 : Int) (n1 : ByteArray) (ks1 : List Ty) (aks1 : Option Addr) (cks1 : Nat) (w : World) (hM : Ty.bulk (Ty.mk k1 n1 ks1) ≤ 1048576) (hq : w.cell? q = some (.slice a ts.length c)) (hd : RdL w (Dat.ds ts) (.slice a ts.length c)) (hr : RdS w (Ty.d (Ty.mk k1 n1 ks1)) [.int .i64 k1, .string n1, .slice aks1 ks1.length cks1]) :
    Calls Tryz.prog 116 #[.agg #[.int .i64 k1, .string n1, .slice aks1 ks1.length cks1], .pointer (some q)] w fun e w' => e = .returned (.bool (badField ts (Ty.mk k1 n1 ks1))) ∧ Below w.heap.size w w' := by
  have hB := (Below.refl w.heap.size w).alloc (Nat.le_refl _) (.cells #[.int .i64 k1, .string n1, .slice aks1 ks1.length cks1] 33)
  have HX0 := hid ((Boxes.nil w).alloc #[.int .i64 k1, .string n1, .slice aks1 ks1.length cks1] 33 (0, 0))
  have hv := impl_ValidType k1 n1 ks1 aks1 cks1 _ hM (hr.below hB)
  have Q0 := hid ((hB.cell (p := q) (World.block_lt_of_cell? _ _ hq)).trans hq)
  have hc := fun (hg : Ty.good (Ty.mk k1 n1 ks1) = true) W (hW : Below w.heap.size w W) => impl_declared ts a c k1 n1 ks1 aks1 cks1 W hg (hd.below hW) (hr.below hW)
  have HB := hid hB
  have HE := hid (show badField ts (Ty.mk k1 n1 ks1) = !(Ty.ok (Ty.mk k1 n1 ks1) && Ty.known ts (Ty.mk k1 n1 ks1)) from rfl)
  by_cases hk : Ty.ok (Ty.mk k1 n1 ks1) = true
  case neg =>
    replace hk := (Bool.not_eq_true _).mp hk
    have HF := hid (show badField ts (Ty.mk k1 n1 ks1) = true by rw [HE.out, hk]; rfl)
    rw [hk] at hv
    have HV := hid hv
    clear hv hc hk hr hd hB hq hM HX0
    go_enter Tryz.func116, Tryz.ntmps116
    go_wp2_with fail
    refine HV.out.mono ?_
    rintro e w1 ⟨rfl, hb⟩
    have HB1 := hid (HB.out.trans (hb.mono HB.out.size))
    clear hb
    go_wp2_with fail
    go_ret
    exact ⟨ret_bool HF.out.symm, HB1.out⟩
  case pos =>
    have HF := hid (show badField ts (Ty.mk k1 n1 ks1) = !Ty.known ts (Ty.mk k1 n1 ks1) by rw [HE.out, hk]; rfl)
    replace hc := hc (Ty.ok_good hk)
    rw [hk] at hv
    have HV := hid hv
    have HC := hid hc
    clear hv hc hk hr hd hB hq hM
    go_enter Tryz.func116, Tryz.ntmps116
    go_wp2_with fail
    refine HV.out.mono ?_
    rintro e w1 ⟨rfl, hb⟩
    have HB1 := hid (HB.out.trans (hb.mono HB.out.size))
    have HX1 := hid (HX0.out.below hb)
    have z0 := (hb.cell (p := q) (World.block_lt_of_cell? _ _ Q0.out)).trans Q0.out
    have g0 := HX1.out.at 0 0 rfl rfl
    have g1 := HX1.out.at 0 1 rfl rfl
    have g2 := HX1.out.at 0 2 rfl rfl
    clear hb
    go_wp2_with fail
    refine (HC.out _ HB1.out).mono ?_
    rintro e w2 ⟨rfl, hb⟩
    have HB2 := hid (HB1.out.trans (hb.mono HB1.out.size))
    clear hb
    go_wp2_with fail
    go_ret
    exact ⟨ret_bool HF.out.symm, HB2.out⟩
theorem impl_validCon (ts : List Dat) (a : Option Addr) (c : Nat) (n1 : ByteArray) (fs1 : List Ty) (afs1 : Option Addr) (cfs1 : Nat) (w : World) (hM : Con.bulk (Con.mk n1 fs1) ≤ 1048576) (hd : RdL w (Dat.ds ts) (.slice a ts.length c)) (hr : RdS w (Con.d (Con.mk n1 fs1)) [.string n1, .slice afs1 fs1.length cfs1]) :
    Calls Tryz.prog 90 #[.slice a ts.length c, .agg #[.string n1, .slice afs1 fs1.length cfs1]] w fun e w' => e = .returned (.bool (conOk ts (Con.mk n1 fs1))) ∧ Below w.heap.size w w' := by
  have HE := hid (show conOk ts (Con.mk n1 fs1) = (isUpperB n1 && (decide (fs1.length ≤ 3) && fieldsOk ts fs1)) from rfl)
  have hbk : Con.bulk (Con.mk n1 fs1) = n1.size + Ty.bulks fs1 := rfl
  have hlen := Ty.bulks_length fs1
  have HX0 := hid (((Boxes.nil w).alloc #[.slice a ts.length c] 46 (0, 0)).alloc #[.string n1, .slice afs1 fs1.length cfs1] 85 (0, 0))
  have hB : Below w.heap.size w ((w.alloc (.cells #[.slice a ts.length c] 46)).alloc (.cells #[.string n1, .slice afs1 fs1.length cfs1] 85)) := ((Below.refl _ _).alloc (Nat.le_refl _) _).alloc (by simp) _
  have HB0 := hid hB
  have HV := hid (impl_IsUpper n1 ((w.alloc (.cells #[.slice a ts.length c] 46)).alloc (.cells #[.string n1, .slice afs1 fs1.length cfs1] 85)))
  have hct := fun W (hW : Below w.heap.size w W) (hq : W.cell? ⟨w.heap.size, 0, none⟩ = some (.slice a ts.length c)) =>
    contains_Ty_1 116 Tryz.call116 (.pointer (some ⟨w.heap.size, 0, none⟩)) (badField ts) (fun U => Below w.heap.size w U ∧ U.cell? ⟨w.heap.size, 0, none⟩ = some (.slice a ts.length c))
      (fun x y hxy ⟨h1, h2⟩ => ⟨h1.trans (hxy.mono h1.size), (hxy.cell (p := ⟨w.heap.size, 0, none⟩) (World.block_lt_of_cell? _ _ h2)).trans h2⟩) fs1 afs1 cfs1 W ⟨hW, hq⟩ (hr.fCon.2.below hW)
      (fun k3 n3 ks3 aks3 cks3 j U hj hU hru => impl_badField ts a c _ k3 n3 ks3 aks3 cks3 U (by have := Ty.bulk_get fs1 j _ hj; omega) hU.2 (hd.below hU.1) hru)
  rw [fieldsOk_any] at hct
  have HKK := hid hct
  clear hct hr hd hB
  by_cases hu : isUpperB n1 = true
  case neg =>
    replace hu := (Bool.not_eq_true _).mp hu
    have HF := hid (show conOk ts (Con.mk n1 fs1) = false by rw [HE.out, hu]; rfl)
    have HU := hid hu
    clear hu HE HKK hbk hM hlen
    go_enter Tryz.func90, Tryz.ntmps90
    go_wp2_with fail
    refine HV.out.mono ?_
    rw [HU.out]
    rintro e w1 ⟨rfl, hb⟩
    have HB1 := hid (HB0.out.trans (hb.mono HB0.out.size))
    clear hb
    go_wp2_with fail
    go_ret
    exact ⟨ret_bool HF.out.symm, HB1.out⟩
  case pos =>
    have HU := hid hu
    by_cases hl : 3 < fs1.length
    case pos =>
      have hlb : decide ((3 : Int) < fs1.length) = true := by simp; omega
      have HF := hid (show conOk ts (Con.mk n1 fs1) = false by rw [HE.out, show decide (fs1.length ≤ 3) = false from decide_eq_false (by omega)]; simp)
      clear hu HE HKK hl hbk hM hlen
      go_enter Tryz.func90, Tryz.ntmps90
      go_wp2_with fail
      refine HV.out.mono ?_
      rw [HU.out]
      rintro e w1 ⟨rfl, hb⟩
      have HB1 := hid (HB0.out.trans (hb.mono HB0.out.size))
      have HX1 := hid (HX0.out.below hb)
      have g1 := HX1.out.at 0 1 rfl rfl
      simp only [World.size_alloc] at g1
      clear hb
      go_wp2_with fail
      go_ret
      exact ⟨ret_bool HF.out.symm, HB1.out⟩
    case neg =>
      have hlb : decide ((3 : Int) < fs1.length) = false := by simp; omega
      have HF := hid (show conOk ts (Con.mk n1 fs1) = fieldsOk ts fs1 by rw [HE.out, hu, show decide (fs1.length ≤ 3) = true from decide_eq_true (by omega)]; rfl)
      clear hu HE hl hbk hM hlen
      go_enter Tryz.func90, Tryz.ntmps90
      go_wp2_with fail
      refine HV.out.mono ?_
      rw [HU.out]
      rintro e w1 ⟨rfl, hb⟩
      have HB1 := hid (HB0.out.trans (hb.mono HB0.out.size))
      have HX1 := hid (HX0.out.below hb)
      have g1 := HX1.out.at 0 1 rfl rfl
      have gq := HX1.out.at 1 0 rfl rfl
      simp only [World.size_alloc] at g1
      have GQ := hid gq
      clear hb gq
      go_wp2_with fail
      refine (HKK.out _ HB1.out GQ.out).mono ?_
      rintro e w2 ⟨rfl, hb⟩
      have HB2 := hid (HB1.out.trans (hb.mono HB1.out.size))
      clear hb
      go_wp2_with fail
      go_ret
      exact ⟨ret_bool (by rw [HF.out]), HB2.out⟩
end Go.Proofs.YtikhofcjkcbpbaaGreatDoor
/- was: DatOkI -/
namespace Go.Proofs.YtikhofcjkcbpbaaGreatDoor
open Go.ChangeShapes Go.WideShapes Go.ChangeAt Go.RowKit Go.BigFrame
open Go.Sort (grow)
set_option linter.unusedVariables false

theorem fstAt_take {α : Type} (p : α → Bool) : ∀ (ts : List α) (j : Nat) (t : α), ts[j]? = some t → p t = true → decide (0 ≤ fstAt p (ts.take j)) = !decide (fstAt p ts = (j : Int))
  | [], j, t, h, _ => by simp at h
  | u :: ts, 0, t, h, hp => by simp at h; subst h; simp [fstAt, hp]
  | u :: ts, j + 1, t, h, hp => by
    have ih := fstAt_take p ts j t (by simpa using h) hp
    have g1 := fstAt_ge p ts
    have g2 := fstAt_ge p (ts.take j)
    rw [List.take_succ_cons, fstAt, fstAt]
    by_cases hu : p u = true
    · simp only [hu, if_true]; simp; omega
    · simp only [hu]
      by_cases h1 : 0 ≤ fstAt p (ts.take j)
      · rw [decide_eq_true h1] at ih
        have h2 : ¬ fstAt p ts = (j : Int) := by intro e; simp [e] at ih
        by_cases h3 : fstAt p ts < 0
        · have e1 : ¬ fstAt p (ts.take j) < 0 := by omega
          simp only [h3, e1, if_true, if_false]; rw [decide_eq_true (by omega), decide_eq_false (by omega)]; rfl
        · have e1 : ¬ fstAt p (ts.take j) < 0 := by omega
          simp only [h3, e1, if_false]; rw [decide_eq_true (by omega), decide_eq_false (by omega)]; rfl
      · rw [decide_eq_false h1] at ih
        have h2 : fstAt p ts = (j : Int) := by
          by_cases e : fstAt p ts = (j : Int)
          · exact e
          · simp [e] at ih
        have e1 : fstAt p (ts.take j) < 0 := by omega
        have e2 : ¬ fstAt p ts < 0 := by omega
        rw [if_neg (by simp), if_pos e1, if_neg (by simp), if_neg e2, decide_eq_false (show ¬ (0 : Int) ≤ -1 by omega), decide_eq_true (show fstAt p ts + 1 = ((j + 1 : Nat) : Int) by omega)]; rfl
theorem Dat.ds_take : ∀ (ts : List Dat) (i : Nat), Dat.ds (ts.take i) = (Dat.ds ts).take i
  | [], i => by simp [Dat.ds]
  | t :: ts, 0 => by simp [Dat.ds]
  | t :: ts, i + 1 => by rw [List.take_succ_cons, Dat.ds, Dat.ds, List.take_succ_cons, Dat.ds_take ts i]
def SeenAt (B : Nat) (sn : List ByteArray) (w : World) : Prop := w.ownsMap Tryz.prog 9 (plainElem (H := Unit) Tryz.prog 4) B sn.length (seenD sn)
theorem SeenAt.below {B : Nat} {sn : List ByteArray} {w w' : World} (h : SeenAt B sn w) (hb : Below w.heap.size w w') : SeenAt B sn w' := by
  have hlt := World.ownsMap.lt h
  obtain ⟨es, clock, h1, h2, h3, h4⟩ := h
  exact ⟨es, clock, (hb.block _ hlt).trans h1, h2, h3, h4⟩
theorem zeroBool (w : World) : (zeroValue 4).run Tryz.prog w = .ok (.bool false) w := by kernel_rfl
theorem SeenAt.look {B : Nat} {sn : List ByteArray} {w : World} (h : SeenAt B sn w) (s : ByteArray) (hs : s.size ≤ maxLen) : (Instr.lookup 136 (.map (some B)) (.string s) false).run Tryz.prog w = .ok (.bool (hasStr sn s)) w := by
  obtain ⟨v, ps, hrun, hv⟩ := World.ownsMap.lookup h (Go.Maps.string_keyed Tryz.underlying9) Tryz.underlying136 (zeroBool w) (plainElem_bool Tryz.underlying4 false) (WideMaps.keyOf_string_mk Tryz.underlying9 hs)
  rw [seen_at] at hv
  rw [hrun, plain_bool_inv Tryz.underlying4 hv]

set_option maxRecDepth 100000 in
set_option maxHeartbeats 4000000 in
theorem impl_ValidDatas (ts : List Dat) (a : Option Addr) (c : Nat) (w : World) (hM : Dat.bulks ts ≤ 1048576) (hd : RdL w (Dat.ds ts) (.slice a ts.length c)) :
    Calls Tryz.prog 64 #[.slice a ts.length c] w fun e w' => e = .returned (.bool (datasOk ts)) ∧ Below w.heap.size w w' := by
  have hmm := @run_makeMap Tryz.prog
  have hlen := Dat.bulks_length ts
  by_cases h4 : 4 < ts.length
  case pos =>
    have hb : decide ((4 : Int) < ts.length) = true := by simp; omega
    have HF := hid (show datasOk ts = false by rw [datasOk, show decide (ts.length ≤ 4) = false from decide_eq_false (by omega)]; rfl)
    clear h4 hd hM hlen
    go_enter Tryz.func64, Tryz.ntmps64
    go_wp2_with fail
    go_ret
    exact ⟨ret_bool HF.out.symm, Below.refl _ _⟩
  case neg =>
  have hb : decide ((4 : Int) < ts.length) = false := by simp; omega
  have HF := hid (show datasOk ts = datsFrom ts ts 0 [] by rw [datasOk, show decide (ts.length ≤ 4) = true from decide_eq_true (by omega)]; rfl)
  have HD := hid hd
  obtain ⟨_, _, e, h2, h3, h4'⟩ := hd.eDat
  simp only [Value.slice.injEq, true_and] at e
  obtain ⟨rfl, rfl⟩ := e
  have H4 := hid h4'
  have HM := hid hM
  have hts4 : ts.length ≤ 4 := by omega
  have hcap : ts.length ≤ c := by omega
  clear hd h4' hM hlen h4 h2 h3
  go_enter Tryz.func64, Tryz.ntmps64
  go_wp2_with fail
  go_loopw [14] (fun i wr => ∃ (j : Nat) (seen : List ByteArray), j ≤ ts.length ∧ i = .int .i64 j ∧ seen.length ≤ 4 * j ∧ Hid (SeenAt w.heap.size seen wr) ∧ Hid (datsFrom ts ts 0 [] = datsFrom ts (ts.drop j) j seen) ∧ Below w.heap.size w wr) (fun i _ => ts.length - (intOf i).toNat)
  case atStart => exact ⟨0, [], by omega, rfl, by simp, World.ownsMap_made _ _ _ _, rfl, (Below.refl _ _).alloc (Nat.le_refl _) _⟩
  case round =>
    obtain ⟨j, seen, hj, rfl, hsl, HOW, HJ, hbw0⟩ := hrel
    by_cases hlt : j < ts.length
    case neg =>
      go_wp2_with fail
      go_ret
      exact ⟨ret_bool (by rw [HF.out, HJ.out, List.drop_eq_nil_of_le (by omega), datsFrom]), hbw0⟩
    case pos =>
    obtain ⟨wo, hwo⟩ : ∃ wo, wo = wr := ⟨_, rfl⟩
    subst wr
    obtain ⟨b, o, rfl, hbl, hall⟩ := H4.out (by omega)
    obtain ⟨t, ht⟩ : ∃ t, ts[j]? = some t := ⟨_, List.getElem?_eq_getElem hlt⟩
    obtain ⟨n1, qs1⟩ := t
    obtain ⟨aqs1, cqs1, q0, q1, hrk⟩ := hall j n1 qs1 ht
    clear hall H4
    have HT := hid ht
    have hbg := Dat.bulk_get ts j _ ht
    have hbk : Dat.bulk (.mk n1 qs1) = n1.size + Con.bulks qs1 := rfl
    have HMQ := hid (show Con.bulks qs1 ≤ 1048576 by have := HM.out; omega)
    have hql := Con.bulks_length qs1
    have hql2 : qs1.length ≤ 1048576 := by have := HM.out; omega
    have hqf := hrk.fDat.2
    obtain ⟨_, _, e, k2, k3, k4⟩ := hqf.eCon
    simp only [Value.slice.injEq, true_and] at e
    obtain ⟨rfl, rfl⟩ := e
    have HQ4 := hid k4
    have d0 := (hbw0.cell (p := ⟨b, o + j * 2, none⟩) hbl).trans q0
    have d1 := (hbw0.cell (p := ⟨b, o + j * 2 + 1, none⟩) hbl).trans q1
    have HBW0 := hid hbw0
    have HHD := hid (show datsFrom ts (ts.drop j) j seen = (headOk ts j (.mk n1 qs1) && (match consFrom ts qs1 seen with | some s => datsFrom ts (ts.drop (j + 1)) (j + 1) s | none => false)) by rw [drop_get ht, datsFrom]; rfl)
    have hHE := headOk_eq ts j n1 qs1
    have hbx : Below wo.heap.size wo (wo.alloc (.cells #[.string n1, .slice aqs1 qs1.length cqs1] 74)) := (Below.refl _ _).alloc (Nat.le_refl _) _
    have hbx0 := hbw0.trans (hbx.mono hbw0.size)
    have HX0 := hid ((Boxes.nil wo).alloc #[.string n1, .slice aqs1 qs1.length cqs1] 74 (0, 0))
    have hv := fun d os => Calls.regrown_of (impl_IsUpper n1 (grow (redrawn (wo.alloc (.cells #[.string n1, .slice aqs1 qs1.length cqs1] 74)) d) os))
    have hfd := fun d os => Calls.regrown_of (impl_findData (ts.take j) (some ⟨b, o, none⟩) c n1 (grow (redrawn (wo.alloc (.cells #[.string n1, .slice aqs1 qs1.length cqs1] 74)) d) os) (by rw [Dat.ds_take, List.length_take, Nat.min_eq_left hj]; exact ((HD.out.takeD hj).below hbx0).below (below_regrown _ d os)))
    simp only [List.length_take, Nat.min_eq_left hj] at hfd
    have hft := fstAt_take (datIs n1) ts j (.mk n1 qs1) ht (by simp [datIs])
    have HBX := hid hbx
    have HBX0 := hid hbx0
    have HOW1 := hid (HOW.out.below hbx)
    have e0 := cell_regrown (HX0.out.at 0 0 rfl rfl)
    have e1 := cell_regrown (HX0.out.at 0 1 rfl rfl)
    clear hqf k2 k3 k4 hrk ht q0 q1 hbw0 hbg hbk hql hbx hbx0
    by_cases t1 : isUpperB n1 = true
    case neg =>
      replace t1 := (Bool.not_eq_true _).mp t1
      have HHF := hid (show headOk ts j (.mk n1 qs1) = false by rw [hHE, t1]; rfl)
      rw [t1] at hv
      have HV := hid hv
      have HFD := hid hfd
      clear t1 hHE hv hfd hft
      go_wp2_with fail
      refine wp_region_quiet_below (by kernel_rfl) (by kernel_rfl) ?_
      repeat (go_big_quiet_step (first | exact HV.out _ _ | exact HFD.out _ _))
      refine wpQuiet_nil ?_
      intro _ hw'
      obtain ⟨⟨dq, osq⟩, hw''⟩ := hw'
      subst hw''
      have hbr := below_regrown (wo.alloc (.cells #[.string n1, .slice aqs1 qs1.length cqs1] 74)) dq osq
      have HBZ := hid (HBX0.out.trans (hbr.mono HBX0.out.size))
      clear HV HFD hbr d0 d1 e0 e1
      go_wp2_with fail
      go_ret
      exact ⟨ret_bool (by rw [HF.out, HJ.out, HHD.out, HHF.out]; rfl), HBZ.out⟩
    case pos =>
    rw [t1] at hv
    have HV := hid hv
    clear hv
    by_cases t2 : (n1.toList == [73, 110, 116]) = true
    case pos =>
      have HHF := hid (show headOk ts j (.mk n1 qs1) = false by rw [hHE, t2]; simp)
      have HFD := hid hfd
      clear t1 hHE hfd hft
      go_wp2_with fail
      refine wp_region_quiet_below (by kernel_rfl) (by kernel_rfl) ?_
      repeat (go_big_quiet_step (first | exact HV.out _ _ | exact HFD.out _ _))
      refine wpQuiet_nil ?_
      intro _ hw'
      obtain ⟨⟨dq, osq⟩, hw''⟩ := hw'
      subst hw''
      have hbr := below_regrown (wo.alloc (.cells #[.string n1, .slice aqs1 qs1.length cqs1] 74)) dq osq
      have HBZ := hid (HBX0.out.trans (hbr.mono HBX0.out.size))
      clear HV HFD hbr d0 d1 e0 e1
      go_wp2_with fail
      go_ret
      exact ⟨ret_bool (by rw [HF.out, HJ.out, HHD.out, HHF.out]; rfl), HBZ.out⟩
    case neg =>
    replace t2 := (Bool.not_eq_true _).mp t2
    have hftn : decide (0 ≤ named (ts.take j) n1) = !decide (named ts n1 = (j : Int)) := hft
    clear hft
    by_cases t3 : named ts n1 = (j : Int)
    case neg =>
      have HHF := hid (show headOk ts j (.mk n1 qs1) = false by rw [hHE]; simp [t3])
      rw [decide_eq_false t3] at hftn
      generalize named (ts.take j) n1 = m at hfd hftn
      have t3b : decide (0 ≤ m) = true := hftn
      have HFD := hid hfd
      clear t1 hHE t3 hfd hftn
      go_wp2_with fail
      refine wp_region_quiet_below (by kernel_rfl) (by kernel_rfl) ?_
      repeat (go_big_quiet_step (first | exact HV.out _ _ | exact HFD.out _ _))
      refine wpQuiet_nil ?_
      intro _ hw'
      obtain ⟨⟨dq, osq⟩, hw''⟩ := hw'
      subst hw''
      have hbr := below_regrown (wo.alloc (.cells #[.string n1, .slice aqs1 qs1.length cqs1] 74)) dq osq
      have HBZ := hid (HBX0.out.trans (hbr.mono HBX0.out.size))
      clear HV HFD hbr d0 d1 e0 e1
      go_wp2_with fail
      go_ret
      exact ⟨ret_bool (by rw [HF.out, HJ.out, HHD.out, HHF.out]; rfl), HBZ.out⟩
    case pos =>
    rw [decide_eq_true t3] at hftn
    generalize named (ts.take j) n1 = m at hfd hftn
    have t3b : decide (0 ≤ m) = false := hftn
    have HFD := hid hfd
    clear hfd hftn
    by_cases t4 : qs1.length < 1
    case pos =>
      have HHF := hid (show headOk ts j (.mk n1 qs1) = false by rw [hHE, inR_f (by omega)]; simp)
      have t4b : decide ((qs1.length : Int) < 1) = true := by simp <;> omega
      clear t1 hHE t3 t4
      go_wp2_with fail
      refine wp_region_quiet_below (by kernel_rfl) (by kernel_rfl) ?_
      repeat (go_big_quiet_step (first | exact HV.out _ _ | exact HFD.out _ _))
      refine wpQuiet_nil ?_
      intro _ hw'
      obtain ⟨⟨dq, osq⟩, hw''⟩ := hw'
      subst hw''
      have hbr := below_regrown (wo.alloc (.cells #[.string n1, .slice aqs1 qs1.length cqs1] 74)) dq osq
      have HBZ := hid (HBX0.out.trans (hbr.mono HBX0.out.size))
      clear HV HFD hbr d0 d1 e0 e1
      go_wp2_with fail
      go_ret
      exact ⟨ret_bool (by rw [HF.out, HJ.out, HHD.out, HHF.out]; rfl), HBZ.out⟩
    case neg =>
    have t4b : decide ((qs1.length : Int) < 1) = false := by simp <;> omega
    by_cases t5 : 4 < qs1.length
    case pos =>
      have HHF := hid (show headOk ts j (.mk n1 qs1) = false by rw [hHE, inR_f (by omega)]; simp)
      have t5b : decide ((4 : Int) < qs1.length) = true := by simp <;> omega
      clear t1 hHE t3 t4 t5
      go_wp2_with fail
      refine wp_region_quiet_below (by kernel_rfl) (by kernel_rfl) ?_
      repeat (go_big_quiet_step (first | exact HV.out _ _ | exact HFD.out _ _))
      refine wpQuiet_nil ?_
      intro _ hw'
      obtain ⟨⟨dq, osq⟩, hw''⟩ := hw'
      subst hw''
      have hbr := below_regrown (wo.alloc (.cells #[.string n1, .slice aqs1 qs1.length cqs1] 74)) dq osq
      have HBZ := hid (HBX0.out.trans (hbr.mono HBX0.out.size))
      clear HV HFD hbr d0 d1 e0 e1
      go_wp2_with fail
      go_ret
      exact ⟨ret_bool (by rw [HF.out, HJ.out, HHD.out, HHF.out]; rfl), HBZ.out⟩
    case neg =>
    have t5b : decide ((4 : Int) < qs1.length) = false := by simp <;> omega
    have HHT := hid (show headOk ts j (.mk n1 qs1) = true by rw [hHE, t1, t2, t3, inR_t (by omega) (by omega)]; simp)
    have hq4 : qs1.length ≤ 4 := by omega
    clear t1 hHE t3 t4 t5
    go_wp2_with fail
    refine wp_region_quiet_below (by kernel_rfl) (by kernel_rfl) ?_
    repeat (go_big_quiet_step (first | exact HV.out _ _ | exact HFD.out _ _))
    refine wpQuiet_nil ?_
    intro _ hw'
    obtain ⟨⟨dq, osq⟩, hw''⟩ := hw'
    subst hw''
    have hbr := below_regrown (wo.alloc (.cells #[.string n1, .slice aqs1 qs1.length cqs1] 74)) dq osq
    have HBZ := hid (HBX0.out.trans (hbr.mono HBX0.out.size))
    have HXZ := hid (HX0.out.below hbr)
    have HOWZ := hid (HOW1.out.below hbr)
    clear HV HFD hbr d0 d1 e0 e1
    have g1 := HXZ.out.at 0 1 rfl rfl
    go_wp2_with fail
    clear g1
    go_loopw [52] (fun k wk => ∃ (m : Nat) (sn : List ByteArray), m ≤ qs1.length ∧ k = .int .i64 m ∧ sn.length ≤ seen.length + m ∧ Hid (SeenAt w.heap.size sn wk) ∧ Hid (consFrom ts qs1 seen = consFrom ts (qs1.drop m) sn) ∧ Below w.heap.size w wk) (fun k _ => qs1.length - (intOf k).toNat)
    case atStart => exact ⟨0, seen, by omega, rfl, by omega, HOWZ.out, rfl, HBZ.out⟩
    case round =>
      obtain ⟨m, sn, hm, rfl, hsl2, HOK, HJ2, hbk⟩ := hrel
      by_cases hlk : m < qs1.length
      case neg =>
        have HJ3 := hid (show datsFrom ts ts 0 [] = datsFrom ts (ts.drop (j + 1)) (j + 1) sn by rw [HJ.out, HHD.out, HHT.out, HJ2.out, List.drop_eq_nil_of_le (by omega), consFrom]; rfl)
        go_wp2_with fail
        go_roundw
        case rel => exact ⟨j + 1, sn, by omega, by go_num, by omega, HOK.out, HJ3.out, hbk⟩
        case measure => simp [intOf]; omega
      case pos =>
        obtain ⟨b2, o2, ea, hbl2, hall2⟩ := HQ4.out (by omega)
        subst ea
        obtain ⟨t, ht⟩ : ∃ t, qs1[m]? = some t := ⟨_, List.getElem?_eq_getElem hlk⟩
        obtain ⟨n3, fs3⟩ := t
        obtain ⟨afs3, cfs3, q0, q1, hrk3⟩ := hall2 m n3 fs3 ht
        have hbg3 := Con.bulk_get qs1 m _ ht
        have hbk3 : Con.bulk (.mk n3 fs3) = n3.size + Ty.bulks fs3 := rfl
        have HCO := hid (show consFrom ts (qs1.drop m) sn = if conOk ts (.mk n3 fs3) && !hasStr sn n3 then consFrom ts (qs1.drop (m + 1)) (sn ++ [n3]) else none by rw [drop_get ht, consFrom]; rfl)
        have hn3 : n3.size ≤ maxLen := by have := HMQ.out; unfold maxLen; omega
        have hbx : Below wr.heap.size wr (wr.alloc (.cells #[.string n3, .slice afs3 fs3.length cfs3] 85)) := (Below.refl _ _).alloc (Nat.le_refl _) _
        have hbx0 := hbk.trans (hbx.mono hbk.size)
        have hc1 := impl_validCon ts (some ⟨b, o, none⟩) c n3 fs3 afs3 cfs3 (wr.alloc (.cells #[.string n3, .slice afs3 fs3.length cfs3] 85)) (by have := HMQ.out; omega) (HD.out.below hbx0) ((hrk3.below hbk).below hbx)
        have d0 := (hbk.cell (p := ⟨b2, o2 + m * 2, none⟩) hbl2).trans q0
        have d1 := (hbk.cell (p := ⟨b2, o2 + m * 2 + 1, none⟩) hbl2).trans q1
        have HX3 := hid ((Boxes.nil wr).alloc #[.string n3, .slice afs3 fs3.length cfs3] 85 (0, 0))
        have HOK1 := hid (HOK.out.below hbx)
        have HBX1 := hid hbx0
        clear hall2 hrk3 q0 q1 ht hbg3 hbk3 hbk hbx hbx0
        by_cases hco : conOk ts (.mk n3 fs3) = true
        case neg =>
          replace hco := (Bool.not_eq_true _).mp hco
          have HNO := hid (show datsFrom ts ts 0 [] = false by rw [HJ.out, HHD.out, HHT.out, HJ2.out, HCO.out, hco]; rfl)
          rw [hco] at hc1
          have HC1 := hid hc1
          clear hc1 hco
          go_wp2_with fail
          refine HC1.out.mono ?_
          rintro e w4 ⟨rfl, hb4⟩
          have hbz := HBX1.out.trans (hb4.mono HBX1.out.size)
          clear hb4 d0 d1
          go_wp2_with fail
          go_ret
          exact ⟨ret_bool (by rw [HF.out, HNO.out]), hbz⟩
        case pos =>
          have HCT1 := hid hco
          rw [hco] at hc1
          have HC1 := hid hc1
          clear hc1 hco
          by_cases hns : hasStr sn n3 = true
          case pos =>
            have HNO := hid (show datsFrom ts ts 0 [] = false by rw [HJ.out, HHD.out, HHT.out, HJ2.out, HCO.out, HCT1.out, hns]; rfl)
            have HNS := hid hns
            clear hns
            go_wp2_with fail
            refine HC1.out.mono ?_
            rintro e w4 ⟨rfl, hb4⟩
            have hbz := HBX1.out.trans (hb4.mono HBX1.out.size)
            have z0 := (HX3.out.below hb4).at 0 0 rfl rfl
            have hlk4 := (HOK1.out.below hb4).look n3 hn3
            rw [HNS.out] at hlk4
            clear hb4 d0 d1
            go_wp2_with fail
            go_ret
            exact ⟨ret_bool (by rw [HF.out, HNO.out]), hbz⟩
          case neg =>
            replace hns := (Bool.not_eq_true _).mp hns
            have HCN := hid (show consFrom ts qs1 seen = consFrom ts (qs1.drop (m + 1)) (sn ++ [n3]) by rw [HJ2.out, HCO.out, HCT1.out, hns]; rfl)
            have HNS := hid hns
            clear hns
            have hkey : keyOf Tryz.prog 9 (.string n3) = some (.string n3.data.toList) := WideMaps.keyOf_string_mk Tryz.underlying9 hn3
            go_wp2_with fail
            refine HC1.out.mono ?_
            rintro e w4 ⟨rfl, hb4⟩
            have HBZ4 := hid (HBX1.out.trans (hb4.mono HBX1.out.size))
            have z0 := (HX3.out.below hb4).at 0 0 rfl rfl
            have HOK4 := hid (HOK1.out.below hb4)
            have hlk4 := HOK4.out.look n3 hn3
            rw [HNS.out] at hlk4
            clear hb4 d0 d1
            go_wp2_with (at_mapUpdate; refine wpList_mapUpdate_own _ rfl _ _ _ 136 rfl 9 4 (Go.Maps.string_keyed Tryz.underlying9) Tryz.underlying136 (plainElem (H := Unit) Tryz.prog 4) w.heap.size sn.length _ rfl HOK4.out (by unfold maxLen; omega) _ _ _ rfl rfl hkey _ [] (plainElem_bool Tryz.underlying4 true) ?_; intro w5 hown5 hgrow5)
            have hown6 : SeenAt w.heap.size (sn ++ [n3]) w5 := by unfold SeenAt; rw [← seen_put]; simpa using hown5
            have hbz := HBZ4.out.grown hgrow5 HBZ4.out.size (fun y hy => by cases hy; exact Nat.le_refl _)
            go_roundw
            case rel => exact ⟨m + 1, sn ++ [n3], by omega, by go_num, by simp; omega, hown6, HCN.out, hbz⟩
            case measure => simp [intOf]; omega
end Go.Proofs.YtikhofcjkcbpbaaGreatDoor
/- was: PgOk -/
namespace Go.Proofs.YtikhofcjkcbpbaaGreatDoor
open Go.ChangeShapes Go.WideShapes Go.ChangeAt Go.RowKit Go.BigFrame
open Go.Sort (grow)
set_option linter.unusedVariables false

set_option maxRecDepth 100000 in
set_option maxHeartbeats 4000000 in
theorem spec_l03Program (ds1 : List Dat) (fs1 : List Df) (ads1 : Option Addr) (cds1 : Nat) (afs1 : Option Addr) (cfs1 : Nat) (b1 o1 : Nat) (w : World) (hM : Pg.bulk (Pg.mk ds1 fs1) ≤ 1048576) (x0 : w.cell? ⟨b1, o1, none⟩ = some (.slice ads1 ds1.length cds1)) (x1 : w.cell? ⟨b1, o1 + 1, none⟩ = some (.slice afs1 fs1.length cfs1)) (hr : RdS w (Pg.d (Pg.mk ds1 fs1)) [.slice ads1 ds1.length cds1, .slice afs1 fs1.length cfs1]) :
    Calls Tryz.prog 58 #[.pointer (some ⟨b1, o1, none⟩)] w fun e w' => e = .returned (.bool (progOk ds1 fs1)) ∧ Below w.heap.size w w' := by
  have hlen := Df.bulks_length fs1
  have hfl := hr.fPg.2
  have hdl := hr.fPg.1
  have hMd : Dat.bulks ds1 ≤ 1048576 := by simp only [Pg.bulk] at hM; omega
  have hMf : Df.bulks fs1 ≤ 1048576 := by simp only [Pg.bulk] at hM; omega
  have HFL := hid hfl
  have HMF := hid hMf
  obtain ⟨_, _, e, h2, h3, h4⟩ := hfl.eDf
  simp only [Value.slice.injEq, true_and] at e
  obtain ⟨rfl, rfl⟩ := e
  have H4 := hid h4
  have hlk : fs1.length ≤ 1048576 := by omega
  have XL := hid (World.block_lt_of_cell? _ _ x1)
  have X1 := hid x1
  have hd := spec_l02Ok ds1 ads1 cds1 w hMd hdl
  clear hr hfl hdl hM hMd hMf h4 h2 h3 hlen
  by_cases hdo : datasOk ds1 = true
  case neg =>
    have HF := hid (show progOk ds1 fs1 = false by simp [progOk, hdo])
    rw [(Bool.not_eq_true _).mp hdo] at hd
    have HD := hid hd
    clear hd hdo
    go_enter Tryz.func58, Tryz.ntmps58
    go_wp2_with fail
    refine HD.out.mono ?_
    rintro e w1 ⟨rfl, hb⟩
    have HB1 := hid hb
    clear hb x0 x1
    go_wp2_with fail
    go_ret
    exact ⟨ret_bool HF.out.symm, HB1.out⟩
  case pos =>
  have HF0 := hid (show progOk ds1 fs1 = (inR fs1.length 1 8 && dfsOk fs1 fs1 0) by rw [progOk, hdo]; rfl)
  rw [hdo] at hd
  have HD := hid hd
  clear hd hdo
  by_cases hin : inR fs1.length 1 8 = true
  case neg =>
    have HF := hid (show progOk ds1 fs1 = false by rw [HF0.out, (Bool.not_eq_true _).mp hin]; rfl)
    have HIN := hid ((Bool.not_eq_true _).mp hin)
    clear hin
    go_enter Tryz.func58, Tryz.ntmps58
    go_wp2_with fail
    refine HD.out.mono ?_
    rintro e w1 ⟨rfl, hb⟩
    have HB1 := hid hb
    have z1 := (hb.cell (p := ⟨b1, o1 + 1, none⟩) XL.out).trans X1.out
    clear hb x0 x1
    go_wp2_with fail
    refine (spec_In _ _ _ _).mono ?_
    rw [HIN.out]
    rintro e w2 ⟨rfl, rfl⟩
    go_wp2_with fail
    go_ret
    exact ⟨ret_bool HF.out.symm, HB1.out⟩
  case pos =>
  have HF := hid (show progOk ds1 fs1 = dfsOk fs1 fs1 0 by rw [HF0.out, hin]; rfl)
  have HIN := hid hin
  clear hin
  go_enter Tryz.func58, Tryz.ntmps58
  go_wp2_with fail
  refine HD.out.mono ?_
  rintro e w1 ⟨rfl, hb⟩
  have HB1 := hid hb
  have z1 := (hb.cell (p := ⟨b1, o1 + 1, none⟩) XL.out).trans X1.out
  clear hb x0 x1
  go_wp2_with fail
  refine (spec_In _ _ _ _).mono ?_
  rw [HIN.out]
  rintro e w2 ⟨rfl, rfl⟩
  clear HD
  go_wp2_with fail
  go_loopw [3] (fun i wr => ∃ (j : Nat), j ≤ fs1.length ∧ i = .int .i64 j ∧ Hid (∀ (i : Nat) t, i < j → fs1[i]? = some t → dfOk fs1 i t = true) ∧ Below w.heap.size w wr) (fun i _ => fs1.length - (intOf i).toNat)
  case atStart => exact ⟨0, by omega, rfl, fun i t hi => absurd hi (by omega), HB1.out⟩
  case round =>
    obtain ⟨j, hj, rfl, HJ, hb0⟩ := hrel
    have zr1 := (hb0.cell (p := ⟨b1, o1 + 1, none⟩) XL.out).trans X1.out
    have zq1 := cell_regrown zr1
    by_cases hlt : j < fs1.length
    case neg =>
      go_wp2_with fail
      go_ret
      exact ⟨ret_bool (by rw [HF.out, dfsOk_yes fs1 fs1 0 fun i t hti => by rw [Nat.zero_add]; exact HJ.out i t (by have := (List.getElem?_eq_some_iff.1 hti).1; omega) hti]), hb0⟩
    case pos =>
      obtain ⟨b, o, rfl, hbl, hall⟩ := H4.out (by omega)
      obtain ⟨t, ht⟩ : ∃ t, fs1[j]? = some t := ⟨_, List.getElem?_eq_getElem hlt⟩
      obtain ⟨n3, ⟨tk3, tn3, tks3⟩, ⟨bk3, bu3, bn3, ⟨btk3, btn3, btks3⟩, bns3, bks3⟩⟩ := t
      obtain ⟨atks3, ctks3, abtks3, cbtks3, abns3, cbns3, abks3, cbks3, q0, q1, q2, q3, q4, q5, q6, q7, q8, q9, q10, q11, hrk⟩ := hall j n3 tk3 tn3 tks3 bk3 bu3 bn3 btk3 btn3 btks3 bns3 bks3 ht
      clear hall H4
      have HT := hid ht
      have hbg := Df.bulk_get fs1 j _ ht
      have hbk : Df.bulk (Df.mk n3 (Ty.mk tk3 tn3 tks3) (Tm.mk bk3 bu3 bn3 (Ty.mk btk3 btn3 btks3) bns3 bks3)) = n3.size + Ty.bulk (Ty.mk tk3 tn3 tks3) + Tm.bulk (Tm.mk bk3 bu3 bn3 (Ty.mk btk3 btn3 btks3) bns3 bks3) := rfl
      have hMt : Ty.bulk (Ty.mk tk3 tn3 tks3) ≤ 1048576 := by have := HMF.out; omega
      have hMb : Tm.bulk (Tm.mk bk3 bu3 bn3 (Ty.mk btk3 btn3 btks3) bns3 bks3) ≤ 1048576 := by have := HMF.out; omega
      have HLE := hid (namedF_le fs1 j n3 (Ty.mk tk3 tn3 tks3) (Tm.mk bk3 bu3 bn3 (Ty.mk btk3 btn3 btks3) bns3 bks3) ht)
      have HB := hid hb0
      have q0r := cell_regrown ((HB.out.cell (p := ⟨b, o + j * 12, none⟩) hbl).trans q0)
      have q1r := cell_regrown ((HB.out.cell (p := ⟨b, o + j * 12 + 1, none⟩) hbl).trans q1)
      have q2r := cell_regrown ((HB.out.cell (p := ⟨b, o + j * 12 + 2, none⟩) hbl).trans q2)
      have q3r := cell_regrown ((HB.out.cell (p := ⟨b, o + j * 12 + 3, none⟩) hbl).trans q3)
      have q4r := cell_regrown ((HB.out.cell (p := ⟨b, o + j * 12 + 4, none⟩) hbl).trans q4)
      have q5r := cell_regrown ((HB.out.cell (p := ⟨b, o + j * 12 + 5, none⟩) hbl).trans q5)
      have q6r := cell_regrown ((HB.out.cell (p := ⟨b, o + j * 12 + 6, none⟩) hbl).trans q6)
      have q7r := cell_regrown ((HB.out.cell (p := ⟨b, o + j * 12 + 7, none⟩) hbl).trans q7)
      have q8r := cell_regrown ((HB.out.cell (p := ⟨b, o + j * 12 + 8, none⟩) hbl).trans q8)
      have q9r := cell_regrown ((HB.out.cell (p := ⟨b, o + j * 12 + 9, none⟩) hbl).trans q9)
      have q10r := cell_regrown ((HB.out.cell (p := ⟨b, o + j * 12 + 10, none⟩) hbl).trans q10)
      have q11r := cell_regrown ((HB.out.cell (p := ⟨b, o + j * 12 + 11, none⟩) hbl).trans q11)
      have hv := fun d os => Calls.regrown_of (spec_IsLower n3 (grow (redrawn wr d) os))
      have hn := fun d os => Calls.regrown_of (calls_below (spec_l03Named fs1 (some ⟨b, o, none⟩) cfs1 n3 (grow (redrawn wr d) os) ((HFL.out.below HB.out).below (below_regrown wr d os))))
      have hvt := fun d os => Calls.regrown_of (spec_ValidType tk3 tn3 tks3 atks3 ctks3 (grow (redrawn wr d) os) hMt (((RdS.subDf_t hrk).below HB.out).below (below_regrown wr d os)))
      have hvb := fun d os => Calls.regrown_of (spec_l03Ok bk3 bu3 bn3 btk3 btn3 btks3 bns3 bks3 abtks3 cbtks3 abns3 cbns3 abks3 cbks3 b (o + j * 12 + 4) (grow (redrawn wr d) os) hMb (q4r d os) (q5r d os) (q6r d os) (q7r d os) (q8r d os) (q9r d os) (q10r d os) (q11r d os) (((RdS.subDf_b hrk).below HB.out).below (below_regrown wr d os)))
      generalize hr2 : namedF fs1 n3 = r at hn
      have HR2 := hid hr2
      clear ht hrk hbg hbk hMt hMb hr2 hb0
      by_cases t1 : isLowerB n3 = true
      case neg =>
        have HDF := hid (show dfOk fs1 j (Df.mk n3 (Ty.mk tk3 tn3 tks3) (Tm.mk bk3 bu3 bn3 (Ty.mk btk3 btn3 btks3) bns3 bks3)) = false by rw [dfOk_eq]; simp [t1])
        rw [(Bool.not_eq_true _).mp t1] at hv
        have HV := hid hv
        have HN := hid hn
        have HTY := hid hvt
        have HTM := hid hvb
        clear hv hn hvt hvb t1
        go_wp2_with fail
        refine wp_region_quiet_below (by kernel_rfl) (by kernel_rfl) ?_
        repeat (go_big_quiet_step (first | exact HV.out _ _ | exact HN.out _ _ | exact HTY.out _ _ | exact HTM.out _ _))
        refine wpQuiet_nil ?_
        intro _ hw'
        obtain ⟨⟨dq, osq⟩, hw''⟩ := hw'
        subst hw''
        have hbw := HB.out.trans ((below_regrown wr dq osq).mono HB.out.size)
        clear HV HN HTY HTM zr1 zq1 q0r q1r q2r q3r q4r q5r q6r q7r q8r q9r q10r q11r q0 q1 q2 q3 q4 q5 q6 q7 q8 q9 q10 q11
        go_wp2_with fail
        go_ret
        exact ⟨ret_bool (by rw [HF.out, dfsOk_no fs1 fs1 0 j _ HT.out (by rw [Nat.zero_add]; exact HDF.out)]), hbw⟩
      case pos =>
      by_cases t2 : namedF fs1 n3 = j
      case neg =>
        have HDF := hid (show dfOk fs1 j (Df.mk n3 (Ty.mk tk3 tn3 tks3) (Tm.mk bk3 bu3 bn3 (Ty.mk btk3 btn3 btks3) bns3 bks3)) = false by rw [dfOk_eq]; simp [t1, t2])
        rw [t1] at hv
        have g2 : (r == (j : Int)) = false := by rw [← HR2.out]; simpa using t2
        have g2' : (r != (j : Int)) = true := by rw [← HR2.out]; simpa using t2
        have HV := hid hv
        have HN := hid hn
        have HTY := hid hvt
        have HTM := hid hvb
        clear hv hn hvt hvb t1 t2
        go_wp2_with fail
        refine wp_region_quiet_below (by kernel_rfl) (by kernel_rfl) ?_
        repeat (go_big_quiet_step (first | exact HV.out _ _ | exact HN.out _ _ | exact HTY.out _ _ | exact HTM.out _ _))
        refine wpQuiet_nil ?_
        intro _ hw'
        obtain ⟨⟨dq, osq⟩, hw''⟩ := hw'
        subst hw''
        have hbw := HB.out.trans ((below_regrown wr dq osq).mono HB.out.size)
        clear HV HN HTY HTM zr1 zq1 q0r q1r q2r q3r q4r q5r q6r q7r q8r q9r q10r q11r q0 q1 q2 q3 q4 q5 q6 q7 q8 q9 q10 q11
        go_wp2_with fail
        go_ret
        exact ⟨ret_bool (by rw [HF.out, dfsOk_no fs1 fs1 0 j _ HT.out (by rw [Nat.zero_add]; exact HDF.out)]), hbw⟩
      case pos =>
      by_cases t3 : Ty.ok (Ty.mk tk3 tn3 tks3) = true
      case neg =>
        have HDF := hid (show dfOk fs1 j (Df.mk n3 (Ty.mk tk3 tn3 tks3) (Tm.mk bk3 bu3 bn3 (Ty.mk btk3 btn3 btks3) bns3 bks3)) = false by rw [dfOk_eq]; simp [t1, t2, t3])
        rw [t1] at hv
        rw [(Bool.not_eq_true _).mp t3] at hvt
        have g2 : (r == (j : Int)) = true := by rw [← HR2.out, t2]; simp
        have g2' : (r != (j : Int)) = false := by rw [← HR2.out, t2]; simp
        have HV := hid hv
        have HN := hid hn
        have HTY := hid hvt
        have HTM := hid hvb
        clear hv hn hvt hvb t1 t2 t3
        go_wp2_with fail
        refine wp_region_quiet_below (by kernel_rfl) (by kernel_rfl) ?_
        repeat (go_big_quiet_step (first | exact HV.out _ _ | exact HN.out _ _ | exact HTY.out _ _ | exact HTM.out _ _))
        refine wpQuiet_nil ?_
        intro _ hw'
        obtain ⟨⟨dq, osq⟩, hw''⟩ := hw'
        subst hw''
        have hbw := HB.out.trans ((below_regrown wr dq osq).mono HB.out.size)
        clear HV HN HTY HTM zr1 zq1 q0r q1r q2r q3r q4r q5r q6r q7r q8r q9r q10r q11r q0 q1 q2 q3 q4 q5 q6 q7 q8 q9 q10 q11
        go_wp2_with fail
        go_ret
        exact ⟨ret_bool (by rw [HF.out, dfsOk_no fs1 fs1 0 j _ HT.out (by rw [Nat.zero_add]; exact HDF.out)]), hbw⟩
      case pos =>
      by_cases t4 : Tm.ok (Tm.mk bk3 bu3 bn3 (Ty.mk btk3 btn3 btks3) bns3 bks3) = true
      case neg =>
        have HDF := hid (show dfOk fs1 j (Df.mk n3 (Ty.mk tk3 tn3 tks3) (Tm.mk bk3 bu3 bn3 (Ty.mk btk3 btn3 btks3) bns3 bks3)) = false by rw [dfOk_eq]; simp [t1, t2, t3, t4])
        rw [t1] at hv
        rw [t3] at hvt
        rw [(Bool.not_eq_true _).mp t4] at hvb
        have g2 : (r == (j : Int)) = true := by rw [← HR2.out, t2]; simp
        have g2' : (r != (j : Int)) = false := by rw [← HR2.out, t2]; simp
        have HV := hid hv
        have HN := hid hn
        have HTY := hid hvt
        have HTM := hid hvb
        clear hv hn hvt hvb t1 t2 t3 t4
        go_wp2_with fail
        refine wp_region_quiet_below (by kernel_rfl) (by kernel_rfl) ?_
        repeat (go_big_quiet_step (first | exact HV.out _ _ | exact HN.out _ _ | exact HTY.out _ _ | exact HTM.out _ _))
        refine wpQuiet_nil ?_
        intro _ hw'
        obtain ⟨⟨dq, osq⟩, hw''⟩ := hw'
        subst hw''
        have hbw := HB.out.trans ((below_regrown wr dq osq).mono HB.out.size)
        clear HV HN HTY HTM zr1 zq1 q0r q1r q2r q3r q4r q5r q6r q7r q8r q9r q10r q11r q0 q1 q2 q3 q4 q5 q6 q7 q8 q9 q10 q11
        go_wp2_with fail
        go_ret
        exact ⟨ret_bool (by rw [HF.out, dfsOk_no fs1 fs1 0 j _ HT.out (by rw [Nat.zero_add]; exact HDF.out)]), hbw⟩
      case pos =>
      have HDF := hid (show dfOk fs1 j (Df.mk n3 (Ty.mk tk3 tn3 tks3) (Tm.mk bk3 bu3 bn3 (Ty.mk btk3 btn3 btks3) bns3 bks3)) = true by rw [dfOk_eq]; simp [t1, t2, t3, t4])
      rw [t1] at hv
      rw [t3] at hvt
      rw [t4] at hvb
      have g2 : (r == (j : Int)) = true := by rw [← HR2.out, t2]; simp
      have g2' : (r != (j : Int)) = false := by rw [← HR2.out, t2]; simp
      have HV := hid hv
      have HN := hid hn
      have HTY := hid hvt
      have HTM := hid hvb
      clear hv hn hvt hvb t1 t2 t3 t4
      go_wp2_with fail
      refine wp_region_quiet_below (by kernel_rfl) (by kernel_rfl) ?_
      repeat (go_big_quiet_step (first | exact HV.out _ _ | exact HN.out _ _ | exact HTY.out _ _ | exact HTM.out _ _))
      refine wpQuiet_nil ?_
      intro _ hw'
      obtain ⟨⟨dq, osq⟩, hw''⟩ := hw'
      subst hw''
      have hbw := HB.out.trans ((below_regrown wr dq osq).mono HB.out.size)
      clear HV HN HTY HTM zr1 zq1 q0r q1r q2r q3r q4r q5r q6r q7r q8r q9r q10r q11r q0 q1 q2 q3 q4 q5 q6 q7 q8 q9 q10 q11
      go_wp2_with fail
      go_roundw
      case rel => exact ⟨j + 1, by omega, by go_num, fun i t hi hti => (Nat.lt_succ_iff_lt_or_eq.1 hi).elim (fun hi => HJ.out i t hi hti) (fun he => by subst he; obtain rfl := Option.some.inj (hti.symm.trans HT.out); exact HDF.out), hbw⟩
      case measure => simp [intOf]; omega

theorem spec_ValidProgram (ds1 : List Dat) (fs1 : List Df) (ads1 : Option Addr) (cds1 : Nat) (afs1 : Option Addr) (cfs1 : Nat) (w : World) (hM : Pg.bulk (Pg.mk ds1 fs1) ≤ 1048576) (hr : RdS w (Pg.d (Pg.mk ds1 fs1)) [.slice ads1 ds1.length cds1, .slice afs1 fs1.length cfs1]) :
    Calls Tryz.prog 31 #[.agg #[.slice ads1 ds1.length cds1, .slice afs1 fs1.length cfs1]] w fun e w' => e = .returned (.bool (progOk ds1 fs1)) ∧ Below w.heap.size w w' := by
  have hB := (Below.refl w.heap.size w).alloc (Nat.le_refl _) (.cells #[.slice ads1 ds1.length cds1, .slice afs1 fs1.length cfs1] 49)
  have HX0 := hid ((Boxes.nil w).alloc #[.slice ads1 ds1.length cds1, .slice afs1 fs1.length cfs1] 49 (0, 0))
  have HC := hid (spec_l03Program ds1 fs1 ads1 cds1 afs1 cfs1 w.heap.size 0 (w.alloc (.cells #[.slice ads1 ds1.length cds1, .slice afs1 fs1.length cfs1] 49)) hM (HX0.out.at 0 0 rfl rfl) (HX0.out.at 0 1 rfl rfl) (hr.below hB))
  have HB := hid hB
  clear hB hr hM HX0
  go_enter Tryz.func31, Tryz.ntmps31
  go_wp2_with fail
  refine HC.out.mono ?_
  rintro e w1 ⟨rfl, hb⟩
  have HB1 := hid (HB.out.trans (hb.mono HB.out.size))
  clear hb
  go_wp2_with fail
  go_ret
  exact ⟨rfl, HB1.out⟩
end Go.Proofs.YtikhofcjkcbpbaaGreatDoor
/- was: PgOkI -/
namespace Go.Proofs.YtikhofcjkcbpbaaGreatDoor
open Go.ChangeShapes Go.WideShapes Go.ChangeAt Go.RowKit Go.BigFrame
open Go.Sort (grow)
set_option linter.unusedVariables false

set_option maxRecDepth 100000 in
set_option maxHeartbeats 4000000 in
theorem impl_ValidProgram (ds1 : List Dat) (fs1 : List Df) (ads1 : Option Addr) (cds1 : Nat) (afs1 : Option Addr) (cfs1 : Nat) (w : World) (hM : Pg.bulk (Pg.mk ds1 fs1) ≤ 1048576) (hr : RdS w (Pg.d (Pg.mk ds1 fs1)) [.slice ads1 ds1.length cds1, .slice afs1 fs1.length cfs1]) :
    Calls Tryz.prog 36 #[.agg #[.slice ads1 ds1.length cds1, .slice afs1 fs1.length cfs1]] w fun e w' => e = .returned (.bool (progOk ds1 fs1)) ∧ Below w.heap.size w w' := by
  have hlen := Df.bulks_length fs1
  have hfl := hr.fPg.2
  have hdl := hr.fPg.1
  have hMd : Dat.bulks ds1 ≤ 1048576 := by simp only [Pg.bulk] at hM; omega
  have hMf : Df.bulks fs1 ≤ 1048576 := by simp only [Pg.bulk] at hM; omega
  have HFL := hid hfl
  have HMF := hid hMf
  obtain ⟨_, _, e, h2, h3, h4⟩ := hfl.eDf
  simp only [Value.slice.injEq, true_and] at e
  obtain ⟨rfl, rfl⟩ := e
  have H4 := hid h4
  have hlk : fs1.length ≤ 1048576 := by omega
  have hB := (Below.refl w.heap.size w).alloc (Nat.le_refl _) (.cells #[.slice ads1 ds1.length cds1, .slice afs1 fs1.length cfs1] 49)
  have HB0 := hid hB
  have HX0 := hid ((Boxes.nil w).alloc #[.slice ads1 ds1.length cds1, .slice afs1 fs1.length cfs1] 49 (0, 0))
  have hd := impl_ValidDatas ds1 ads1 cds1 (w.alloc (.cells #[.slice ads1 ds1.length cds1, .slice afs1 fs1.length cfs1] 49)) hMd (hdl.below hB)
  clear hr hfl hdl hM hMd hMf h4 h2 h3 hlen hB
  by_cases hdo : datasOk ds1 = true
  case neg =>
    have HF := hid (show progOk ds1 fs1 = false by simp [progOk, hdo])
    rw [(Bool.not_eq_true _).mp hdo] at hd
    have HD := hid hd
    clear hd hdo
    go_enter Tryz.func36, Tryz.ntmps36
    go_wp2_with fail
    refine HD.out.mono ?_
    rintro e w1 ⟨rfl, hb⟩
    have HB1 := hid (HB0.out.trans (hb.mono HB0.out.size))
    clear hb
    go_wp2_with fail
    go_ret
    exact ⟨ret_bool HF.out.symm, HB1.out⟩
  case pos =>
  have HF0 := hid (show progOk ds1 fs1 = (inR fs1.length 1 8 && dfsOk fs1 fs1 0) by rw [progOk, hdo]; rfl)
  rw [hdo] at hd
  have HD := hid hd
  clear hd hdo
  by_cases hl1 : fs1.length < 1
  case pos =>
    have HF := hid (show progOk ds1 fs1 = false by rw [HF0.out, inR_f (by omega)]; rfl)
    have g1 : decide ((fs1.length : Int) < 1) = true := decide_eq_true (by omega)
    clear hl1
    go_enter Tryz.func36, Tryz.ntmps36
    go_wp2_with fail
    refine HD.out.mono ?_
    rintro e w1 ⟨rfl, hb⟩
    have HB1 := hid (HB0.out.trans (hb.mono HB0.out.size))
    have x1 := (HX0.out.below hb).at 0 1 rfl rfl
    clear hb
    go_wp2_with fail
    go_ret
    exact ⟨ret_bool HF.out.symm, HB1.out⟩
  case neg =>
  have g1 : decide ((fs1.length : Int) < 1) = false := decide_eq_false (by omega)
  by_cases hl8 : 8 < fs1.length
  case pos =>
    have HF := hid (show progOk ds1 fs1 = false by rw [HF0.out, inR_f (by omega)]; rfl)
    have g8 : decide ((8 : Int) < (fs1.length : Int)) = true := decide_eq_true (by omega)
    clear hl8 hl1
    go_enter Tryz.func36, Tryz.ntmps36
    go_wp2_with fail
    refine HD.out.mono ?_
    rintro e w1 ⟨rfl, hb⟩
    have HB1 := hid (HB0.out.trans (hb.mono HB0.out.size))
    have x1 := (HX0.out.below hb).at 0 1 rfl rfl
    clear hb
    go_wp2_with fail
    go_ret
    exact ⟨ret_bool HF.out.symm, HB1.out⟩
  case neg =>
  have g8 : decide ((8 : Int) < (fs1.length : Int)) = false := decide_eq_false (by omega)
  have HF := hid (show progOk ds1 fs1 = dfsOk fs1 fs1 0 by rw [HF0.out, inR_t (by omega) (by omega)]; rfl)
  clear hl1 hl8
  go_enter Tryz.func36, Tryz.ntmps36
  go_wp2_with fail
  refine HD.out.mono ?_
  rintro e w1 ⟨rfl, hb⟩
  have HB1 := hid (HB0.out.trans (hb.mono HB0.out.size))
  have HX1 := hid (HX0.out.below hb)
  have x1 := HX1.out.at 0 1 rfl rfl
  clear hb HD
  go_wp2_with fail
  clear x1
  go_loopw [24] (fun i wr => ∃ (j : Nat), j ≤ fs1.length ∧ i = .int .i64 j ∧ Hid (∀ (i : Nat) t, i < j → fs1[i]? = some t → dfOk fs1 i t = true) ∧ Below w1.heap.size w1 wr) (fun i _ => fs1.length - (intOf i).toNat)
  case atStart => exact ⟨0, by omega, rfl, fun i t hi => absurd hi (by omega), Below.refl _ _⟩
  case round =>
    obtain ⟨j, hj, rfl, HJ, hb0⟩ := hrel
    by_cases hlt : j < fs1.length
    case neg =>
      go_wp2_with fail
      go_ret
      exact ⟨ret_bool (by rw [HF.out, dfsOk_yes fs1 fs1 0 fun i t hti => by rw [Nat.zero_add]; exact HJ.out i t (by have := (List.getElem?_eq_some_iff.1 hti).1; omega) hti]), (HB1.out.trans (hb0.mono HB1.out.size))⟩
    case pos =>
      obtain ⟨b, o, rfl, hbl, hall⟩ := H4.out (by omega)
      obtain ⟨t, ht⟩ : ∃ t, fs1[j]? = some t := ⟨_, List.getElem?_eq_getElem hlt⟩
      obtain ⟨n3, ⟨tk3, tn3, tks3⟩, ⟨bk3, bu3, bn3, ⟨btk3, btn3, btks3⟩, bns3, bks3⟩⟩ := t
      obtain ⟨atks3, ctks3, abtks3, cbtks3, abns3, cbns3, abks3, cbks3, q0, q1, q2, q3, q4, q5, q6, q7, q8, q9, q10, q11, hrk⟩ := hall j n3 tk3 tn3 tks3 bk3 bu3 bn3 btk3 btn3 btks3 bns3 bks3 ht
      clear hall H4
      have HT := hid ht
      have hbg := Df.bulk_get fs1 j _ ht
      have hbk : Df.bulk (Df.mk n3 (Ty.mk tk3 tn3 tks3) (Tm.mk bk3 bu3 bn3 (Ty.mk btk3 btn3 btks3) bns3 bks3)) = n3.size + Ty.bulk (Ty.mk tk3 tn3 tks3) + Tm.bulk (Tm.mk bk3 bu3 bn3 (Ty.mk btk3 btn3 btks3) bns3 bks3) := rfl
      have hMt : Ty.bulk (Ty.mk tk3 tn3 tks3) ≤ 1048576 := by have := HMF.out; omega
      have hMb : Tm.bulk (Tm.mk bk3 bu3 bn3 (Ty.mk btk3 btn3 btks3) bns3 bks3) ≤ 1048576 := by have := HMF.out; omega
      have HLE := hid (namedF_le fs1 j n3 (Ty.mk tk3 tn3 tks3) (Tm.mk bk3 bu3 bn3 (Ty.mk btk3 btn3 btks3) bns3 bks3) ht)
      have HB := hid (HB1.out.trans (hb0.mono HB1.out.size))
      have c0 := (HB.out.cell (p := ⟨b, o + j * 12, none⟩) hbl).trans q0
      have c1 := (HB.out.cell (p := ⟨b, o + j * 12 + 1, none⟩) hbl).trans q1
      have c2 := (HB.out.cell (p := ⟨b, o + j * 12 + 2, none⟩) hbl).trans q2
      have c3 := (HB.out.cell (p := ⟨b, o + j * 12 + 3, none⟩) hbl).trans q3
      have c4 := (HB.out.cell (p := ⟨b, o + j * 12 + 4, none⟩) hbl).trans q4
      have c5 := (HB.out.cell (p := ⟨b, o + j * 12 + 5, none⟩) hbl).trans q5
      have c6 := (HB.out.cell (p := ⟨b, o + j * 12 + 6, none⟩) hbl).trans q6
      have c7 := (HB.out.cell (p := ⟨b, o + j * 12 + 7, none⟩) hbl).trans q7
      have c8 := (HB.out.cell (p := ⟨b, o + j * 12 + 8, none⟩) hbl).trans q8
      have c9 := (HB.out.cell (p := ⟨b, o + j * 12 + 9, none⟩) hbl).trans q9
      have c10 := (HB.out.cell (p := ⟨b, o + j * 12 + 10, none⟩) hbl).trans q10
      have c11 := (HB.out.cell (p := ⟨b, o + j * 12 + 11, none⟩) hbl).trans q11
      have hbk1 : Below wr.heap.size wr (wr.alloc (.cells #[.string n3, .int .i64 tk3, .string tn3, .slice atks3 tks3.length ctks3, .int .i64 bk3, .int .i64 bu3, .string bn3, .int .i64 btk3, .string btn3, .slice abtks3 btks3.length cbtks3, .slice abns3 bns3.length cbns3, .slice abks3 bks3.length cbks3] 76)) := (Below.refl _ _).alloc (Nat.le_refl _) _
      have HBK := hid hbk1
      have HBX := hid hb0
      have HY := hid ((HX1.out.below hb0).alloc #[.string n3, .int .i64 tk3, .string tn3, .slice atks3 tks3.length ctks3, .int .i64 bk3, .int .i64 bu3, .string bn3, .int .i64 btk3, .string btn3, .slice abtks3 btks3.length cbtks3, .slice abns3 bns3.length cbns3, .slice abks3 bks3.length cbks3] 76 (0, 0))
      have hRT := ((RdS.subDf_t hrk).below HB.out).below hbk1
      have hRB := ((RdS.subDf_b hrk).below HB.out).below hbk1
      have hRF := (HFL.out.below HB.out).below hbk1
      have hv := fun W (_ : Below (wr.alloc (.cells #[.string n3, .int .i64 tk3, .string tn3, .slice atks3 tks3.length ctks3, .int .i64 bk3, .int .i64 bu3, .string bn3, .int .i64 btk3, .string btn3, .slice abtks3 btks3.length cbtks3, .slice abns3 bns3.length cbns3, .slice abks3 bks3.length cbks3] 76)).heap.size (wr.alloc (.cells #[.string n3, .int .i64 tk3, .string tn3, .slice atks3 tks3.length ctks3, .int .i64 bk3, .int .i64 bu3, .string bn3, .int .i64 btk3, .string btn3, .slice abtks3 btks3.length cbtks3, .slice abns3 bns3.length cbns3, .slice abks3 bks3.length cbks3] 76)) W) => impl_IsLower n3 W
      have hn := fun W (hW : Below (wr.alloc (.cells #[.string n3, .int .i64 tk3, .string tn3, .slice atks3 tks3.length ctks3, .int .i64 bk3, .int .i64 bu3, .string bn3, .int .i64 btk3, .string btn3, .slice abtks3 btks3.length cbtks3, .slice abns3 bns3.length cbns3, .slice abks3 bks3.length cbks3] 76)).heap.size (wr.alloc (.cells #[.string n3, .int .i64 tk3, .string tn3, .slice atks3 tks3.length ctks3, .int .i64 bk3, .int .i64 bu3, .string bn3, .int .i64 btk3, .string btn3, .slice abtks3 btks3.length cbtks3, .slice abns3 bns3.length cbns3, .slice abks3 bks3.length cbks3] 76)) W) => impl_findDef ds1 fs1 ads1 cds1 (some ⟨b, o, none⟩) cfs1 n3 W (hRF.below hW)
      have hvt := fun W (hW : Below (wr.alloc (.cells #[.string n3, .int .i64 tk3, .string tn3, .slice atks3 tks3.length ctks3, .int .i64 bk3, .int .i64 bu3, .string bn3, .int .i64 btk3, .string btn3, .slice abtks3 btks3.length cbtks3, .slice abns3 bns3.length cbns3, .slice abks3 bks3.length cbks3] 76)).heap.size (wr.alloc (.cells #[.string n3, .int .i64 tk3, .string tn3, .slice atks3 tks3.length ctks3, .int .i64 bk3, .int .i64 bu3, .string bn3, .int .i64 btk3, .string btn3, .slice abtks3 btks3.length cbtks3, .slice abns3 bns3.length cbns3, .slice abks3 bks3.length cbks3] 76)) W) => impl_ValidType tk3 tn3 tks3 atks3 ctks3 W hMt (hRT.below hW)
      have hvb := fun W (hW : Below (wr.alloc (.cells #[.string n3, .int .i64 tk3, .string tn3, .slice atks3 tks3.length ctks3, .int .i64 bk3, .int .i64 bu3, .string bn3, .int .i64 btk3, .string btn3, .slice abtks3 btks3.length cbtks3, .slice abns3 bns3.length cbns3, .slice abks3 bks3.length cbks3] 76)).heap.size (wr.alloc (.cells #[.string n3, .int .i64 tk3, .string tn3, .slice atks3 tks3.length ctks3, .int .i64 bk3, .int .i64 bu3, .string bn3, .int .i64 btk3, .string btn3, .slice abtks3 btks3.length cbtks3, .slice abns3 bns3.length cbns3, .slice abks3 bks3.length cbks3] 76)) W) => impl_ValidTerm bk3 bu3 bn3 btk3 btn3 btks3 bns3 bks3 abtks3 cbtks3 abns3 cbns3 abks3 cbks3 W hMb (hRB.below hW)
      generalize hr2 : namedF fs1 n3 = r at hn
      have HR2 := hid hr2
      clear ht hrk hbg hbk hMt hMb hr2 hb0 hbk1 hRT hRB hRF q0 q1 q2 q3 q4 q5 q6 q7 q8 q9 q10 q11
      by_cases t1 : isLowerB n3 = true
      case neg =>
        have HDF := hid (show dfOk fs1 j (Df.mk n3 (Ty.mk tk3 tn3 tks3) (Tm.mk bk3 bu3 bn3 (Ty.mk btk3 btn3 btks3) bns3 bks3)) = false by rw [dfOk_eq]; simp [t1])
        rw [(Bool.not_eq_true _).mp t1] at hv
        have HV := hid hv
        have HN := hid hn
        have HTY := hid hvt
        have HTM := hid hvb
        clear hv hn hvt hvb t1
        go_wp2_with fail
        refine (HV.out _ (Below.refl _ _)).mono ?_
        rintro e v0 ⟨rfl, hb⟩
        have HB0_ := hid hb
        have HY0 := hid (HY.out.below hb)
        clear hb c0 c1 c2 c3 c4 c5 c6 c7 c8 c9 c10 c11
        go_wp2_with fail
        have hbx := HBX.out.trans ((HBK.out.trans (HB0_.out.mono HBK.out.size)).mono HBX.out.size)
        have hbw := HB1.out.trans (hbx.mono HB1.out.size)
        go_ret
        exact ⟨ret_bool (by rw [HF.out, dfsOk_no fs1 fs1 0 j _ HT.out (by rw [Nat.zero_add]; exact HDF.out)]), hbw⟩
      case pos =>
      by_cases t2 : namedF fs1 n3 = j
      case neg =>
        have HDF := hid (show dfOk fs1 j (Df.mk n3 (Ty.mk tk3 tn3 tks3) (Tm.mk bk3 bu3 bn3 (Ty.mk btk3 btn3 btks3) bns3 bks3)) = false by rw [dfOk_eq]; simp [t1, t2])
        rw [t1] at hv
        have g2 : decide (r < (j : Int)) = true := by rw [← HR2.out]; simp only [decide_eq_true_eq]; have := HLE.out; omega
        have HV := hid hv
        have HN := hid hn
        have HTY := hid hvt
        have HTM := hid hvb
        clear hv hn hvt hvb t1 t2
        go_wp2_with fail
        refine (HV.out _ (Below.refl _ _)).mono ?_
        rintro e v0 ⟨rfl, hb⟩
        have HB0_ := hid hb
        have HY0 := hid (HY.out.below hb)
        clear hb c0 c1 c2 c3 c4 c5 c6 c7 c8 c9 c10 c11
        have e0 := HY0.out.at 1 0 rfl rfl
        have e1 := HY0.out.at 1 1 rfl rfl
        have f0 := HY0.out.at 0 0 rfl rfl
        have f1 := HY0.out.at 0 1 rfl rfl
        have f2 := HY0.out.at 0 2 rfl rfl
        have f3 := HY0.out.at 0 3 rfl rfl
        have f4 := HY0.out.at 0 4 rfl rfl
        have f5 := HY0.out.at 0 5 rfl rfl
        have f6 := HY0.out.at 0 6 rfl rfl
        have f7 := HY0.out.at 0 7 rfl rfl
        have f8 := HY0.out.at 0 8 rfl rfl
        have f9 := HY0.out.at 0 9 rfl rfl
        have f10 := HY0.out.at 0 10 rfl rfl
        have f11 := HY0.out.at 0 11 rfl rfl
        go_wp2_with fail
        refine (HN.out _ HB0_.out).mono ?_
        rintro e v1 ⟨rfl, hb⟩
        have HB1_ := hid (HB0_.out.trans (hb.mono HB0_.out.size))
        have HY1 := hid (HY0.out.below hb)
        clear hb e0 e1 f0 f1 f2 f3 f4 f5 f6 f7 f8 f9 f10 f11
        go_wp2_with fail
        have hbx := HBX.out.trans ((HBK.out.trans (HB1_.out.mono HBK.out.size)).mono HBX.out.size)
        have hbw := HB1.out.trans (hbx.mono HB1.out.size)
        go_ret
        exact ⟨ret_bool (by rw [HF.out, dfsOk_no fs1 fs1 0 j _ HT.out (by rw [Nat.zero_add]; exact HDF.out)]), hbw⟩
      case pos =>
      by_cases t3 : Ty.ok (Ty.mk tk3 tn3 tks3) = true
      case neg =>
        have HDF := hid (show dfOk fs1 j (Df.mk n3 (Ty.mk tk3 tn3 tks3) (Tm.mk bk3 bu3 bn3 (Ty.mk btk3 btn3 btks3) bns3 bks3)) = false by rw [dfOk_eq]; simp [t1, t2, t3])
        rw [t1] at hv
        rw [(Bool.not_eq_true _).mp t3] at hvt
        have g2 : decide (r < (j : Int)) = false := by rw [← HR2.out, t2]; simp
        have HV := hid hv
        have HN := hid hn
        have HTY := hid hvt
        have HTM := hid hvb
        clear hv hn hvt hvb t1 t2 t3
        go_wp2_with fail
        refine (HV.out _ (Below.refl _ _)).mono ?_
        rintro e v0 ⟨rfl, hb⟩
        have HB0_ := hid hb
        have HY0 := hid (HY.out.below hb)
        clear hb c0 c1 c2 c3 c4 c5 c6 c7 c8 c9 c10 c11
        have e0 := HY0.out.at 1 0 rfl rfl
        have e1 := HY0.out.at 1 1 rfl rfl
        have f0 := HY0.out.at 0 0 rfl rfl
        have f1 := HY0.out.at 0 1 rfl rfl
        have f2 := HY0.out.at 0 2 rfl rfl
        have f3 := HY0.out.at 0 3 rfl rfl
        have f4 := HY0.out.at 0 4 rfl rfl
        have f5 := HY0.out.at 0 5 rfl rfl
        have f6 := HY0.out.at 0 6 rfl rfl
        have f7 := HY0.out.at 0 7 rfl rfl
        have f8 := HY0.out.at 0 8 rfl rfl
        have f9 := HY0.out.at 0 9 rfl rfl
        have f10 := HY0.out.at 0 10 rfl rfl
        have f11 := HY0.out.at 0 11 rfl rfl
        go_wp2_with fail
        refine (HN.out _ HB0_.out).mono ?_
        rintro e v1 ⟨rfl, hb⟩
        have HB1_ := hid (HB0_.out.trans (hb.mono HB0_.out.size))
        have HY1 := hid (HY0.out.below hb)
        clear hb e0 e1 f0 f1 f2 f3 f4 f5 f6 f7 f8 f9 f10 f11
        have e0 := HY1.out.at 1 0 rfl rfl
        have e1 := HY1.out.at 1 1 rfl rfl
        have f0 := HY1.out.at 0 0 rfl rfl
        have f1 := HY1.out.at 0 1 rfl rfl
        have f2 := HY1.out.at 0 2 rfl rfl
        have f3 := HY1.out.at 0 3 rfl rfl
        have f4 := HY1.out.at 0 4 rfl rfl
        have f5 := HY1.out.at 0 5 rfl rfl
        have f6 := HY1.out.at 0 6 rfl rfl
        have f7 := HY1.out.at 0 7 rfl rfl
        have f8 := HY1.out.at 0 8 rfl rfl
        have f9 := HY1.out.at 0 9 rfl rfl
        have f10 := HY1.out.at 0 10 rfl rfl
        have f11 := HY1.out.at 0 11 rfl rfl
        go_wp2_with fail
        refine (HTY.out _ HB1_.out).mono ?_
        rintro e v2 ⟨rfl, hb⟩
        have HB2_ := hid (HB1_.out.trans (hb.mono HB1_.out.size))
        have HY2 := hid (HY1.out.below hb)
        clear hb e0 e1 f0 f1 f2 f3 f4 f5 f6 f7 f8 f9 f10 f11
        go_wp2_with fail
        have hbx := HBX.out.trans ((HBK.out.trans (HB2_.out.mono HBK.out.size)).mono HBX.out.size)
        have hbw := HB1.out.trans (hbx.mono HB1.out.size)
        go_ret
        exact ⟨ret_bool (by rw [HF.out, dfsOk_no fs1 fs1 0 j _ HT.out (by rw [Nat.zero_add]; exact HDF.out)]), hbw⟩
      case pos =>
      by_cases t4 : Tm.ok (Tm.mk bk3 bu3 bn3 (Ty.mk btk3 btn3 btks3) bns3 bks3) = true
      case neg =>
        have HDF := hid (show dfOk fs1 j (Df.mk n3 (Ty.mk tk3 tn3 tks3) (Tm.mk bk3 bu3 bn3 (Ty.mk btk3 btn3 btks3) bns3 bks3)) = false by rw [dfOk_eq]; simp [t1, t2, t3, t4])
        rw [t1] at hv
        rw [t3] at hvt
        rw [(Bool.not_eq_true _).mp t4] at hvb
        have g2 : decide (r < (j : Int)) = false := by rw [← HR2.out, t2]; simp
        have HV := hid hv
        have HN := hid hn
        have HTY := hid hvt
        have HTM := hid hvb
        clear hv hn hvt hvb t1 t2 t3 t4
        go_wp2_with fail
        refine (HV.out _ (Below.refl _ _)).mono ?_
        rintro e v0 ⟨rfl, hb⟩
        have HB0_ := hid hb
        have HY0 := hid (HY.out.below hb)
        clear hb c0 c1 c2 c3 c4 c5 c6 c7 c8 c9 c10 c11
        have e0 := HY0.out.at 1 0 rfl rfl
        have e1 := HY0.out.at 1 1 rfl rfl
        have f0 := HY0.out.at 0 0 rfl rfl
        have f1 := HY0.out.at 0 1 rfl rfl
        have f2 := HY0.out.at 0 2 rfl rfl
        have f3 := HY0.out.at 0 3 rfl rfl
        have f4 := HY0.out.at 0 4 rfl rfl
        have f5 := HY0.out.at 0 5 rfl rfl
        have f6 := HY0.out.at 0 6 rfl rfl
        have f7 := HY0.out.at 0 7 rfl rfl
        have f8 := HY0.out.at 0 8 rfl rfl
        have f9 := HY0.out.at 0 9 rfl rfl
        have f10 := HY0.out.at 0 10 rfl rfl
        have f11 := HY0.out.at 0 11 rfl rfl
        go_wp2_with fail
        refine (HN.out _ HB0_.out).mono ?_
        rintro e v1 ⟨rfl, hb⟩
        have HB1_ := hid (HB0_.out.trans (hb.mono HB0_.out.size))
        have HY1 := hid (HY0.out.below hb)
        clear hb e0 e1 f0 f1 f2 f3 f4 f5 f6 f7 f8 f9 f10 f11
        have e0 := HY1.out.at 1 0 rfl rfl
        have e1 := HY1.out.at 1 1 rfl rfl
        have f0 := HY1.out.at 0 0 rfl rfl
        have f1 := HY1.out.at 0 1 rfl rfl
        have f2 := HY1.out.at 0 2 rfl rfl
        have f3 := HY1.out.at 0 3 rfl rfl
        have f4 := HY1.out.at 0 4 rfl rfl
        have f5 := HY1.out.at 0 5 rfl rfl
        have f6 := HY1.out.at 0 6 rfl rfl
        have f7 := HY1.out.at 0 7 rfl rfl
        have f8 := HY1.out.at 0 8 rfl rfl
        have f9 := HY1.out.at 0 9 rfl rfl
        have f10 := HY1.out.at 0 10 rfl rfl
        have f11 := HY1.out.at 0 11 rfl rfl
        go_wp2_with fail
        refine (HTY.out _ HB1_.out).mono ?_
        rintro e v2 ⟨rfl, hb⟩
        have HB2_ := hid (HB1_.out.trans (hb.mono HB1_.out.size))
        have HY2 := hid (HY1.out.below hb)
        clear hb e0 e1 f0 f1 f2 f3 f4 f5 f6 f7 f8 f9 f10 f11
        have e0 := HY2.out.at 1 0 rfl rfl
        have e1 := HY2.out.at 1 1 rfl rfl
        have f0 := HY2.out.at 0 0 rfl rfl
        have f1 := HY2.out.at 0 1 rfl rfl
        have f2 := HY2.out.at 0 2 rfl rfl
        have f3 := HY2.out.at 0 3 rfl rfl
        have f4 := HY2.out.at 0 4 rfl rfl
        have f5 := HY2.out.at 0 5 rfl rfl
        have f6 := HY2.out.at 0 6 rfl rfl
        have f7 := HY2.out.at 0 7 rfl rfl
        have f8 := HY2.out.at 0 8 rfl rfl
        have f9 := HY2.out.at 0 9 rfl rfl
        have f10 := HY2.out.at 0 10 rfl rfl
        have f11 := HY2.out.at 0 11 rfl rfl
        go_wp2_with fail
        refine (HTM.out _ HB2_.out).mono ?_
        rintro e v3 ⟨rfl, hb⟩
        have HB3_ := hid (HB2_.out.trans (hb.mono HB2_.out.size))
        have HY3 := hid (HY2.out.below hb)
        clear hb e0 e1 f0 f1 f2 f3 f4 f5 f6 f7 f8 f9 f10 f11
        go_wp2_with fail
        have hbx := HBX.out.trans ((HBK.out.trans (HB3_.out.mono HBK.out.size)).mono HBX.out.size)
        have hbw := HB1.out.trans (hbx.mono HB1.out.size)
        go_ret
        exact ⟨ret_bool (by rw [HF.out, dfsOk_no fs1 fs1 0 j _ HT.out (by rw [Nat.zero_add]; exact HDF.out)]), hbw⟩
      case pos =>
      have HDF := hid (show dfOk fs1 j (Df.mk n3 (Ty.mk tk3 tn3 tks3) (Tm.mk bk3 bu3 bn3 (Ty.mk btk3 btn3 btks3) bns3 bks3)) = true by rw [dfOk_eq]; simp [t1, t2, t3, t4])
      rw [t1] at hv
      rw [t3] at hvt
      rw [t4] at hvb
      have g2 : decide (r < (j : Int)) = false := by rw [← HR2.out, t2]; simp
      have HV := hid hv
      have HN := hid hn
      have HTY := hid hvt
      have HTM := hid hvb
      clear hv hn hvt hvb t1 t2 t3 t4
      go_wp2_with fail
      refine (HV.out _ (Below.refl _ _)).mono ?_
      rintro e v0 ⟨rfl, hb⟩
      have HB0_ := hid hb
      have HY0 := hid (HY.out.below hb)
      clear hb c0 c1 c2 c3 c4 c5 c6 c7 c8 c9 c10 c11
      have e0 := HY0.out.at 1 0 rfl rfl
      have e1 := HY0.out.at 1 1 rfl rfl
      have f0 := HY0.out.at 0 0 rfl rfl
      have f1 := HY0.out.at 0 1 rfl rfl
      have f2 := HY0.out.at 0 2 rfl rfl
      have f3 := HY0.out.at 0 3 rfl rfl
      have f4 := HY0.out.at 0 4 rfl rfl
      have f5 := HY0.out.at 0 5 rfl rfl
      have f6 := HY0.out.at 0 6 rfl rfl
      have f7 := HY0.out.at 0 7 rfl rfl
      have f8 := HY0.out.at 0 8 rfl rfl
      have f9 := HY0.out.at 0 9 rfl rfl
      have f10 := HY0.out.at 0 10 rfl rfl
      have f11 := HY0.out.at 0 11 rfl rfl
      go_wp2_with fail
      refine (HN.out _ HB0_.out).mono ?_
      rintro e v1 ⟨rfl, hb⟩
      have HB1_ := hid (HB0_.out.trans (hb.mono HB0_.out.size))
      have HY1 := hid (HY0.out.below hb)
      clear hb e0 e1 f0 f1 f2 f3 f4 f5 f6 f7 f8 f9 f10 f11
      have e0 := HY1.out.at 1 0 rfl rfl
      have e1 := HY1.out.at 1 1 rfl rfl
      have f0 := HY1.out.at 0 0 rfl rfl
      have f1 := HY1.out.at 0 1 rfl rfl
      have f2 := HY1.out.at 0 2 rfl rfl
      have f3 := HY1.out.at 0 3 rfl rfl
      have f4 := HY1.out.at 0 4 rfl rfl
      have f5 := HY1.out.at 0 5 rfl rfl
      have f6 := HY1.out.at 0 6 rfl rfl
      have f7 := HY1.out.at 0 7 rfl rfl
      have f8 := HY1.out.at 0 8 rfl rfl
      have f9 := HY1.out.at 0 9 rfl rfl
      have f10 := HY1.out.at 0 10 rfl rfl
      have f11 := HY1.out.at 0 11 rfl rfl
      go_wp2_with fail
      refine (HTY.out _ HB1_.out).mono ?_
      rintro e v2 ⟨rfl, hb⟩
      have HB2_ := hid (HB1_.out.trans (hb.mono HB1_.out.size))
      have HY2 := hid (HY1.out.below hb)
      clear hb e0 e1 f0 f1 f2 f3 f4 f5 f6 f7 f8 f9 f10 f11
      have e0 := HY2.out.at 1 0 rfl rfl
      have e1 := HY2.out.at 1 1 rfl rfl
      have f0 := HY2.out.at 0 0 rfl rfl
      have f1 := HY2.out.at 0 1 rfl rfl
      have f2 := HY2.out.at 0 2 rfl rfl
      have f3 := HY2.out.at 0 3 rfl rfl
      have f4 := HY2.out.at 0 4 rfl rfl
      have f5 := HY2.out.at 0 5 rfl rfl
      have f6 := HY2.out.at 0 6 rfl rfl
      have f7 := HY2.out.at 0 7 rfl rfl
      have f8 := HY2.out.at 0 8 rfl rfl
      have f9 := HY2.out.at 0 9 rfl rfl
      have f10 := HY2.out.at 0 10 rfl rfl
      have f11 := HY2.out.at 0 11 rfl rfl
      go_wp2_with fail
      refine (HTM.out _ HB2_.out).mono ?_
      rintro e v3 ⟨rfl, hb⟩
      have HB3_ := hid (HB2_.out.trans (hb.mono HB2_.out.size))
      have HY3 := hid (HY2.out.below hb)
      clear hb e0 e1 f0 f1 f2 f3 f4 f5 f6 f7 f8 f9 f10 f11
      go_wp2_with fail
      have hbx := HBX.out.trans ((HBK.out.trans (HB3_.out.mono HBK.out.size)).mono HBX.out.size)
      have hbw := HB1.out.trans (hbx.mono HB1.out.size)
      go_roundw
      case rel => exact ⟨j + 1, by omega, by go_num, fun i t hi hti => (Nat.lt_succ_iff_lt_or_eq.1 hi).elim (fun hi => HJ.out i t hi hti) (fun he => by subst he; obtain rfl := Option.some.inj (hti.symm.trans HT.out); exact HDF.out), hbx⟩
      case measure => simp [intOf]; omega

end Go.Proofs.YtikhofcjkcbpbaaGreatDoor
