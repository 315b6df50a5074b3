/- Walks: the form, depth and size of a term, in the program. -/
import Derived.Test.YtikhofcjkcbpbaaGreatDoorTmNode
namespace Go.Proofs.YtikhofcjkcbpbaaGreatDoor
open Go.ChangeShapes Go.WideShapes Go.ChangeAt Go.RowKit Go.BigFrame
open Go.Sort (grow)
set_option linter.unusedVariables false

theorem Tm.isCase_mkI (k u : Int) (n : ByteArray) (t : Ty) (ns : List ByteArray) (ks : List Tm) : Tm.isCase (.mk k u n t ns ks) = (k == 10) := by rw [Tm.isCase]; by_cases h : k = 10 <;> simp [h]
def tmShapeV (t : Tm) : Value := if Tm.good t = true then .tuple #[.int .i64 (Tm.dep t : Nat), .int .i64 (Tm.cnt t : Nat), .bool true] else .tuple #[.int .i64 0, .int .i64 0, .bool false]
theorem tmShapeV_no {t : Tm} (h : ¬ Tm.good t = true) : tmShapeV t = .tuple #[.int .i64 0, .int .i64 0, .bool false] := if_neg h
theorem tmShapeV_yes {t : Tm} (h : Tm.good t = true) : tmShapeV t = .tuple #[.int .i64 (Tm.dep t : Nat), .int .i64 (Tm.cnt t : Nat), .bool true] := if_pos h
def TmShapeW (N : Nat) : Prop := ∀ (k1 : Int) (u1 : Int) (n1 : ByteArray) (tk1 : Int) (tn1 : ByteArray) (tks1 : List Ty) (ns1 : List ByteArray) (ks1 : List Tm) (atks1 : Option Addr) (ctks1 : Nat) (ans1 : Option Addr) (cns1 : Nat) (aks1 : Option Addr) (cks1 : Nat) (w : World), Tm.bulk (Tm.mk k1 u1 n1 (Ty.mk tk1 tn1 tks1) ns1 ks1) < N → Tm.bulk (Tm.mk k1 u1 n1 (Ty.mk tk1 tn1 tks1) ns1 ks1) ≤ 1048576 → RdS w (Tm.d (Tm.mk k1 u1 n1 (Ty.mk tk1 tn1 tks1) ns1 ks1)) [.int .i64 k1, .int .i64 u1, .string n1, .int .i64 tk1, .string tn1, .slice atks1 tks1.length ctks1, .slice ans1 ns1.length cns1, .slice aks1 ks1.length cks1] →
  Calls Tryz.prog 49 #[.agg #[.int .i64 k1, .int .i64 u1, .string n1, .int .i64 tk1, .string tn1, .slice atks1 tks1.length ctks1, .slice ans1 ns1.length cns1, .slice aks1 ks1.length cks1]] w fun e w' => e = .returned (tmShapeV (Tm.mk k1 u1 n1 (Ty.mk tk1 tn1 tks1) ns1 ks1)) ∧ Below w.heap.size w w'

set_option maxRecDepth 100000 in
set_option maxHeartbeats 4000000 in
theorem termShape_step (N : Nat) (ih : TmShapeW N) : TmShapeW (N + 1) := by
  intro k1 u1 n1 tk1 tn1 tks1 ns1 ks1 atks1 ctks1 ans1 cns1 aks1 cks1 w hN hM hr
  have hbk : Tm.bulks ks1 ≤ Tm.bulk (Tm.mk k1 u1 n1 (Ty.mk tk1 tn1 tks1) ns1 ks1) := by simp only [Tm.bulk]; omega
  have HGD := hid (show Tm.good (Tm.mk k1 u1 n1 (Ty.mk tk1 tn1 tks1) ns1 ks1) = (okTm k1 u1 n1 (Ty.mk tk1 tn1 tks1) ns1 ks1.length && (casesOk k1 0 ks1 && Tm.goods ks1)) by rw [Tm.good])
  have HDP := hid (show Tm.dep (Tm.mk k1 u1 n1 (Ty.mk tk1 tn1 tks1) ns1 ks1) = 1 + Tm.deps ks1 by rw [Tm.dep])
  have HCT := hid (show Tm.cnt (Tm.mk k1 u1 n1 (Ty.mk tk1 tn1 tks1) ns1 ks1) = 1 + Tm.cnts ks1 by rw [Tm.cnt])
  have hcl := Tm.cnts_le ks1
  have HX0 := hid ((Boxes.nil w).alloc #[.int .i64 k1, .int .i64 u1, .string n1, .int .i64 tk1, .string tn1, .slice atks1 tks1.length ctks1, .slice ans1 ns1.length cns1, .slice aks1 ks1.length cks1] 36 (0, 0))
  have HB0 := hid ((Below.refl w.heap.size w).alloc (Nat.le_refl _) (.cells #[.int .i64 k1, .int .i64 u1, .string n1, .int .i64 tk1, .string tn1, .slice atks1 tks1.length ctks1, .slice ans1 ns1.length cns1, .slice aks1 ks1.length cks1] 36))
  have HV := hid (fun W (hW : Below w.heap.size w W) => impl_validNode k1 u1 n1 tk1 tn1 tks1 ns1 ks1 atks1 ctks1 ans1 cns1 aks1 cks1 W hM (hr.below hW))
  obtain ⟨_, _, e, h2, h3, h4⟩ := hr.fTm.2.2.2.2.2.eTm
  simp only [Value.slice.injEq, true_and] at e
  obtain ⟨rfl, rfl⟩ := e
  have hbc := Tm.bulks_length ks1
  have hlk : ks1.length ≤ 1048576 := by omega
  have IH := hid ih
  have H4 := hid h4
  have HK := hid hbk
  have HM := hid hM
  have HN := hid hN
  clear ih hr h4 hbk hM hN
  by_cases hok : okTm k1 u1 n1 (Ty.mk tk1 tn1 tks1) ns1 ks1.length = true
  case neg =>
    have HOK := hid ((Bool.not_eq_true _).mp hok)
    clear hok
    go_enter Tryz.func49, Tryz.ntmps49
    go_wp2_with fail
    refine (HV.out _ HB0.out).mono ?_
    rw [HOK.out]
    rintro e w1 ⟨rfl, hb⟩
    have HB1 := hid (HB0.out.trans (hb.mono HB0.out.size))
    clear hb
    go_wp2_with fail
    go_ret3
    exact ⟨by rw [tmShapeV_no (by rw [HGD.out, HOK.out]; simp)]; rfl, HB1.out⟩
  case pos =>
  have HOK := hid hok
  clear hok
  go_enter Tryz.func49, Tryz.ntmps49
  go_wp2_with fail
  refine (HV.out _ HB0.out).mono ?_
  rw [HOK.out]
  rintro e w1 ⟨rfl, hb⟩
  have HB1 := hid (HB0.out.trans (hb.mono HB0.out.size))
  have HX1 := hid (HX0.out.below hb)
  have g7 := HX1.out.at 0 7 rfl rfl
  clear hb
  go_wp2_with fail
  clear g7
  go_loopw [2, 3, 4, 16] (fun d s g i wr => ∃ (j : Nat), j ≤ ks1.length ∧ i = .int .i64 j ∧ g = .bool false ∧ d = .int .i64 (1 + Tm.deps (ks1.take j) : Nat) ∧ s = .int .i64 (1 + Tm.cnts (ks1.take j) : Nat) ∧ Hid (∀ (i : Nat) t, i < j → ks1[i]? = some t → (Tm.isCase t == (decide (k1 = 9) && decide (0 < i))) = true ∧ Tm.good t = true) ∧
    Below w1.heap.size w1 wr) (fun _ _ _ i _ => ks1.length - (intOf i).toNat)
  case atStart => exact ⟨0, by omega, rfl, rfl, by simp [Tm.deps], by simp [Tm.cnts], fun i t hi => absurd hi (by omega), Below.refl _ _⟩
  case round =>
    obtain ⟨j, hj, rfl, rfl, rfl, rfl, HJ, hb0⟩ := hrel
    have hb : Below w.heap.size w wr := HB1.out.trans (hb0.mono HB1.out.size)
    by_cases hlt : j < ks1.length
    case pos =>
      obtain ⟨b, o, rfl, hbl, hall⟩ := H4.out (by omega)
      obtain ⟨t, ht⟩ : ∃ t, ks1[j]? = some t := ⟨_, List.getElem?_eq_getElem hlt⟩
      obtain ⟨k3, u3, n3, ⟨tk3, tn3, tks3⟩, ns3, ks3⟩ := t
      obtain ⟨atks3, ctks3, ans3, cns3, aks3, cks3, q0, q1, q2, q3, q4, q5, q6, q7, hrk⟩ := hall j k3 u3 n3 tk3 tn3 tks3 ns3 ks3 ht
      clear hall H4
      have g0 := ((HX1.out.below hb0).alloc #[.int .i64 k3, .int .i64 u3, .string n3, .int .i64 tk3, .string tn3, .slice atks3 tks3.length ctks3, .slice ans3 ns3.length cns3, .slice aks3 ks3.length cks3] 36 (0, 0)).at 1 0 rfl rfl
      have d0 := (hb.cell (p := ⟨b, o + j * 8, none⟩) hbl).trans q0
      have d1 := (hb.cell (p := ⟨b, o + j * 8 + 1, none⟩) hbl).trans q1
      have d2 := (hb.cell (p := ⟨b, o + j * 8 + 2, none⟩) hbl).trans q2
      have d3 := (hb.cell (p := ⟨b, o + j * 8 + 3, none⟩) hbl).trans q3
      have d4 := (hb.cell (p := ⟨b, o + j * 8 + 4, none⟩) hbl).trans q4
      have d5 := (hb.cell (p := ⟨b, o + j * 8 + 5, none⟩) hbl).trans q5
      have d6 := (hb.cell (p := ⟨b, o + j * 8 + 6, none⟩) hbl).trans q6
      have d7 := (hb.cell (p := ⟨b, o + j * 8 + 7, none⟩) hbl).trans q7
      have hbg := Tm.bulk_get ks1 j _ ht
      have hc := fun W hW => IH.out k3 u3 n3 tk3 tn3 tks3 ns3 ks3 atks3 ctks3 ans3 cns3 aks3 cks3 W (by have := HK.out; have := HN.out; omega) (by have := HK.out; have := HM.out; omega) ((hrk.below hb).below hW)
      have HT := hid ht
      have hct := Tm.cnts_take ks1 j _ ht
      have hdt := Tm.deps_take ks1 j _ ht
      have hle := Tm.cnts_take_le ks1 (j + 1)
      have hd1 := Tm.deps_le (ks1.take j)
      have hd2 := Tm.dep_le (Tm.mk k3 u3 n3 (Ty.mk tk3 tn3 tks3) ns3 ks3)
      have hct' : Tm.cnts (ks1.take j) + Tm.cnt (Tm.mk k3 u3 n3 (Ty.mk tk3 tn3 tks3) ns3 ks3) ≤ 1048576 := by have := HK.out; have := HM.out; omega
      have HIC := hid (Tm.isCase_mkI k3 u3 n3 (Ty.mk tk3 tn3 tks3) ns3 ks3)
      have hbx0 := hb0.alloc hb0.size (.cells #[.int .i64 k3, .int .i64 u3, .string n3, .int .i64 tk3, .string tn3, .slice atks3 tks3.length ctks3, .slice ans3 ns3.length cns3, .slice aks3 ks3.length cks3] 36)
      have HBX := hid hbx0
      clear hbx0
      by_cases k9 : k1 = 9
      case neg =>
        have g9 : (k1 == 9) = false := by simp [k9]
        have HCB := hid (show (decide (k1 = 9) && decide (0 < j)) = false by simp [k9])
        clear k9
        by_cases kc : k3 = 10
        case pos =>
          have gk : (k3 == 10) = true := by simp [kc]
          clear kc
          have hno : ¬ Tm.good (Tm.mk k1 u1 n1 (Ty.mk tk1 tn1 tks1) ns1 ks1) = true := by rw [HGD.out, casesOk_no k1 0 ks1 j _ HT.out (by rw [Nat.zero_add, HCB.out, HIC.out, gk]; rfl)]; simp
          have HNO := hid hno
          clear ht hrk q0 q1 q2 q3 q4 q5 q6 q7 hc hct hdt hno
          go_wp2_with fail
          go_ret3
          exact ⟨by rw [tmShapeV_no HNO.out]; rfl, HB1.out.trans (HBX.out.mono HB1.out.size)⟩
        case neg =>
          have gk : (k3 == 10) = false := by simp [kc]
          clear kc
          have HCA := hid (show (Tm.isCase (Tm.mk k3 u3 n3 (Ty.mk tk3 tn3 tks3) ns3 ks3) == (decide (k1 = 9) && decide (0 < j))) = true by rw [HCB.out, HIC.out, gk]; rfl)
          by_cases hg : Tm.good (Tm.mk k3 u3 n3 (Ty.mk tk3 tn3 tks3) ns3 ks3) = true
          case neg =>
            have hno : ¬ Tm.good (Tm.mk k1 u1 n1 (Ty.mk tk1 tn1 tks1) ns1 ks1) = true := by rw [HGD.out, Tm.goods_no ks1 j _ HT.out ((Bool.not_eq_true _).mp hg)]; simp
            have HNO := hid hno
            rw [tmShapeV_no hg] at hc
            have HC := hid hc
            clear ht hrk q0 q1 q2 q3 q4 q5 q6 q7 hc hct hdt hno hg
            go_wp2_with fail
            refine (HC.out _ ((Below.refl _ _).alloc (Nat.le_refl _) _)).mono ?_
            rintro e w2 ⟨rfl, hb1⟩
            have hbw := HBX.out.trans (hb1.mono (by have := hb0.size; simp; omega))
            clear hb1 HC
            go_wp2_with fail
            go_ret3
            exact ⟨by rw [tmShapeV_no HNO.out]; rfl, HB1.out.trans (hbw.mono HB1.out.size)⟩
          case pos =>
            rw [tmShapeV_yes hg] at hc
            have HG := hid hg
            have HC := hid hc
            have HCT1 := hid hct
            have HDT1 := hid hdt
            clear ht hrk q0 q1 q2 q3 q4 q5 q6 q7 hc hct hdt hg
            go_wp2_with fail
            refine (HC.out _ ((Below.refl _ _).alloc (Nat.le_refl _) _)).mono ?_
            rintro e w2 ⟨rfl, hb1⟩
            have hbw := HBX.out.trans (hb1.mono (by have := hb0.size; simp; omega))
            clear hb1 HC g0
            go_wp2_with fail
            go_roundw
            case rel =>
              refine ⟨j + 1, by omega, by go_num, rfl, congrArg (Value.int .i64) ?_, congrArg (Value.int .i64) ?_, fun i t hi hti => ?_, hbw⟩
              · have := HDT1.out; split <;> omega
              · have := HCT1.out; omega
              · exact (Nat.lt_succ_iff_lt_or_eq.1 hi).elim (fun hi => HJ.out i t hi hti) (fun he => by subst he; obtain rfl := Option.some.inj (hti.symm.trans HT.out); exact ⟨HCA.out, HG.out⟩)
            case measure => simp [intOf]; omega
      case pos =>
        have g9 : (k1 == 9) = true := by simp [k9]
        by_cases j0 : 0 < j
        case pos =>
          have e0 : decide (0 < j) = true := decide_eq_true j0
          have HCB := hid (show (decide (k1 = 9) && decide (0 < j)) = true by simp [k9, j0])
          clear k9
          by_cases kc : k3 = 10
          case pos =>
            have gk : (k3 == 10) = true := by simp [kc]
            clear kc
            have HCA := hid (show (Tm.isCase (Tm.mk k3 u3 n3 (Ty.mk tk3 tn3 tks3) ns3 ks3) == (decide (k1 = 9) && decide (0 < j))) = true by rw [HCB.out, HIC.out, gk]; rfl)
            by_cases hg : Tm.good (Tm.mk k3 u3 n3 (Ty.mk tk3 tn3 tks3) ns3 ks3) = true
            case neg =>
              have hno : ¬ Tm.good (Tm.mk k1 u1 n1 (Ty.mk tk1 tn1 tks1) ns1 ks1) = true := by rw [HGD.out, Tm.goods_no ks1 j _ HT.out ((Bool.not_eq_true _).mp hg)]; simp
              have HNO := hid hno
              rw [tmShapeV_no hg] at hc
              have HC := hid hc
              clear ht hrk q0 q1 q2 q3 q4 q5 q6 q7 hc hct hdt hno hg
              go_wp2_with fail
              refine (HC.out _ ((Below.refl _ _).alloc (Nat.le_refl _) _)).mono ?_
              rintro e w2 ⟨rfl, hb1⟩
              have hbw := HBX.out.trans (hb1.mono (by have := hb0.size; simp; omega))
              clear hb1 HC
              go_wp2_with fail
              go_ret3
              exact ⟨by rw [tmShapeV_no HNO.out]; rfl, HB1.out.trans (hbw.mono HB1.out.size)⟩
            case pos =>
              rw [tmShapeV_yes hg] at hc
              have HG := hid hg
              have HC := hid hc
              have HCT1 := hid hct
              have HDT1 := hid hdt
              clear ht hrk q0 q1 q2 q3 q4 q5 q6 q7 hc hct hdt hg
              go_wp2_with fail
              refine (HC.out _ ((Below.refl _ _).alloc (Nat.le_refl _) _)).mono ?_
              rintro e w2 ⟨rfl, hb1⟩
              have hbw := HBX.out.trans (hb1.mono (by have := hb0.size; simp; omega))
              clear hb1 HC g0
              go_wp2_with fail
              go_roundw
              case rel =>
                refine ⟨j + 1, by omega, by go_num, rfl, congrArg (Value.int .i64) ?_, congrArg (Value.int .i64) ?_, fun i t hi hti => ?_, hbw⟩
                · have := HDT1.out; split <;> omega
                · have := HCT1.out; omega
                · exact (Nat.lt_succ_iff_lt_or_eq.1 hi).elim (fun hi => HJ.out i t hi hti) (fun he => by subst he; obtain rfl := Option.some.inj (hti.symm.trans HT.out); exact ⟨HCA.out, HG.out⟩)
              case measure => simp [intOf]; omega
          case neg =>
            have gk : (k3 == 10) = false := by simp [kc]
            clear kc
            have hno : ¬ Tm.good (Tm.mk k1 u1 n1 (Ty.mk tk1 tn1 tks1) ns1 ks1) = true := by rw [HGD.out, casesOk_no k1 0 ks1 j _ HT.out (by rw [Nat.zero_add, HCB.out, HIC.out, gk]; rfl)]; simp
            have HNO := hid hno
            clear ht hrk q0 q1 q2 q3 q4 q5 q6 q7 hc hct hdt hno
            go_wp2_with fail
            go_ret3
            exact ⟨by rw [tmShapeV_no HNO.out]; rfl, HB1.out.trans (HBX.out.mono HB1.out.size)⟩
        case neg =>
          have e0 : decide (0 < j) = false := decide_eq_false j0
          have HCB := hid (show (decide (k1 = 9) && decide (0 < j)) = false by simp [j0])
          clear k9
          by_cases kc : k3 = 10
          case pos =>
            have gk : (k3 == 10) = true := by simp [kc]
            clear kc
            have hno : ¬ Tm.good (Tm.mk k1 u1 n1 (Ty.mk tk1 tn1 tks1) ns1 ks1) = true := by rw [HGD.out, casesOk_no k1 0 ks1 j _ HT.out (by rw [Nat.zero_add, HCB.out, HIC.out, gk]; rfl)]; simp
            have HNO := hid hno
            clear ht hrk q0 q1 q2 q3 q4 q5 q6 q7 hc hct hdt hno
            go_wp2_with fail
            go_ret3
            exact ⟨by rw [tmShapeV_no HNO.out]; rfl, HB1.out.trans (HBX.out.mono HB1.out.size)⟩
          case neg =>
            have gk : (k3 == 10) = false := by simp [kc]
            clear kc
            have HCA := hid (show (Tm.isCase (Tm.mk k3 u3 n3 (Ty.mk tk3 tn3 tks3) ns3 ks3) == (decide (k1 = 9) && decide (0 < j))) = true by rw [HCB.out, HIC.out, gk]; rfl)
            by_cases hg : Tm.good (Tm.mk k3 u3 n3 (Ty.mk tk3 tn3 tks3) ns3 ks3) = true
            case neg =>
              have hno : ¬ Tm.good (Tm.mk k1 u1 n1 (Ty.mk tk1 tn1 tks1) ns1 ks1) = true := by rw [HGD.out, Tm.goods_no ks1 j _ HT.out ((Bool.not_eq_true _).mp hg)]; simp
              have HNO := hid hno
              rw [tmShapeV_no hg] at hc
              have HC := hid hc
              clear ht hrk q0 q1 q2 q3 q4 q5 q6 q7 hc hct hdt hno hg
              go_wp2_with fail
              refine (HC.out _ ((Below.refl _ _).alloc (Nat.le_refl _) _)).mono ?_
              rintro e w2 ⟨rfl, hb1⟩
              have hbw := HBX.out.trans (hb1.mono (by have := hb0.size; simp; omega))
              clear hb1 HC
              go_wp2_with fail
              go_ret3
              exact ⟨by rw [tmShapeV_no HNO.out]; rfl, HB1.out.trans (hbw.mono HB1.out.size)⟩
            case pos =>
              rw [tmShapeV_yes hg] at hc
              have HG := hid hg
              have HC := hid hc
              have HCT1 := hid hct
              have HDT1 := hid hdt
              clear ht hrk q0 q1 q2 q3 q4 q5 q6 q7 hc hct hdt hg
              go_wp2_with fail
              refine (HC.out _ ((Below.refl _ _).alloc (Nat.le_refl _) _)).mono ?_
              rintro e w2 ⟨rfl, hb1⟩
              have hbw := HBX.out.trans (hb1.mono (by have := hb0.size; simp; omega))
              clear hb1 HC g0
              go_wp2_with fail
              go_roundw
              case rel =>
                refine ⟨j + 1, by omega, by go_num, rfl, congrArg (Value.int .i64) ?_, congrArg (Value.int .i64) ?_, fun i t hi hti => ?_, hbw⟩
                · have := HDT1.out; split <;> omega
                · have := HCT1.out; omega
                · exact (Nat.lt_succ_iff_lt_or_eq.1 hi).elim (fun hi => HJ.out i t hi hti) (fun he => by subst he; obtain rfl := Option.some.inj (hti.symm.trans HT.out); exact ⟨HCA.out, HG.out⟩)
              case measure => simp [intOf]; omega
    case neg =>
      obtain rfl : j = ks1.length := by omega
      rw [List.take_length]
      have HGO := hid (show Tm.good (Tm.mk k1 u1 n1 (Ty.mk tk1 tn1 tks1) ns1 ks1) = true by
        rw [HGD.out, HOK.out, Tm.goods_yes ks1 fun i t hti => (HJ.out i t (by have := (List.getElem?_eq_some_iff.1 hti).1; omega) hti).2, casesOk_yes k1 0 ks1 fun i t hti => by rw [Nat.zero_add]; exact (HJ.out i t (by have := (List.getElem?_eq_some_iff.1 hti).1; omega) hti).1]; rfl)
      go_wp2_with fail
      go_ret3
      exact ⟨by rw [tmShapeV_yes HGO.out, HDP.out, HCT.out]; rfl, hb⟩

theorem termShape_all : ∀ N, TmShapeW N
  | 0 => fun _ _ _ _ _ _ _ _ _ _ _ _ _ _ _  h => absurd h (by omega)
  | N + 1 => termShape_step N (termShape_all N)
theorem impl_termShape (k1 : Int) (u1 : Int) (n1 : ByteArray) (tk1 : Int) (tn1 : ByteArray) (tks1 : List Ty) (ns1 : List ByteArray) (ks1 : List Tm) (atks1 : Option Addr) (ctks1 : Nat) (ans1 : Option Addr) (cns1 : Nat) (aks1 : Option Addr) (cks1 : Nat) (w : World) (hM : Tm.bulk (Tm.mk k1 u1 n1 (Ty.mk tk1 tn1 tks1) ns1 ks1) ≤ 1048576) (hr : RdS w (Tm.d (Tm.mk k1 u1 n1 (Ty.mk tk1 tn1 tks1) ns1 ks1)) [.int .i64 k1, .int .i64 u1, .string n1, .int .i64 tk1, .string tn1, .slice atks1 tks1.length ctks1, .slice ans1 ns1.length cns1, .slice aks1 ks1.length cks1]) :
    Calls Tryz.prog 49 #[.agg #[.int .i64 k1, .int .i64 u1, .string n1, .int .i64 tk1, .string tn1, .slice atks1 tks1.length ctks1, .slice ans1 ns1.length cns1, .slice aks1 ks1.length cks1]] w fun e w' => e = .returned (tmShapeV (Tm.mk k1 u1 n1 (Ty.mk tk1 tn1 tks1) ns1 ks1)) ∧ Below w.heap.size w w' :=
  termShape_all (Tm.bulk (Tm.mk k1 u1 n1 (Ty.mk tk1 tn1 tks1) ns1 ks1) + 1) k1 u1 n1 tk1 tn1 tks1 ns1 ks1 atks1 ctks1 ans1 cns1 aks1 cks1 w (by omega) hM hr
end Go.Proofs.YtikhofcjkcbpbaaGreatDoor
