/- Walks: the nodes of a term, in the reference. -/
import Derived.Test.YtikhofcjkcbpbaaGreatDoorTmFields
namespace Go.Proofs.YtikhofcjkcbpbaaGreatDoor
open Go.ChangeShapes Go.WideShapes Go.ChangeAt Go.RowKit Go.BigFrame
open Go.Sort (grow)
set_option linter.unusedVariables false

theorem Tm.isCase_mk (k u : Int) (n : ByteArray) (t : Ty) (ns : List ByteArray) (ks : List Tm) : Tm.isCase (.mk k u n t ns ks) = (k == 10) := by rw [Tm.isCase]; by_cases h : k = 10 <;> simp [h]
def TmNodesW (N : Nat) : Prop := ∀ (k1 : Int) (u1 : Int) (n1 : ByteArray) (tk1 : Int) (tn1 : ByteArray) (tks1 : List Ty) (ns1 : List ByteArray) (ks1 : List Tm) (atks1 : Option Addr) (ctks1 : Nat) (ans1 : Option Addr) (cns1 : Nat) (aks1 : Option Addr) (cks1 : Nat) (b1 o1 : Nat) (c : Bool) (d l : Int) (w : World), Tm.bulk (Tm.mk k1 u1 n1 (Ty.mk tk1 tn1 tks1) ns1 ks1) < N → Tm.bulk (Tm.mk k1 u1 n1 (Ty.mk tk1 tn1 tks1) ns1 ks1) ≤ 1048576 → 0 ≤ d → d ≤ 1000 → 0 ≤ l → l ≤ 1000 → w.cell? ⟨b1, o1, none⟩ = some (.int .i64 k1) → w.cell? ⟨b1, o1 + 1, none⟩ = some (.int .i64 u1) → w.cell? ⟨b1, o1 + 2, none⟩ = some (.string n1) → w.cell? ⟨b1, o1 + 3, none⟩ = some (.int .i64 tk1) → w.cell? ⟨b1, o1 + 4, none⟩ = some (.string tn1) → w.cell? ⟨b1, o1 + 5, none⟩ = some (.slice atks1 tks1.length ctks1) → w.cell? ⟨b1, o1 + 6, none⟩ = some (.slice ans1 ns1.length cns1) → w.cell? ⟨b1, o1 + 7, none⟩ = some (.slice aks1 ks1.length cks1) → RdS w (Tm.d (Tm.mk k1 u1 n1 (Ty.mk tk1 tn1 tks1) ns1 ks1)) [.int .i64 k1, .int .i64 u1, .string n1, .int .i64 tk1, .string tn1, .slice atks1 tks1.length ctks1, .slice ans1 ns1.length cns1, .slice aks1 ks1.length cks1] →
  Calls Tryz.prog 73 #[.pointer (some ⟨b1, o1, none⟩), .int .i64 d, .bool c, .int .i64 l] w fun e w' => e = .returned (.int .i64 (Tm.nodes c (Tm.mk k1 u1 n1 (Ty.mk tk1 tn1 tks1) ns1 ks1) d l)) ∧ Below w.heap.size w w'

set_option maxRecDepth 100000 in
set_option maxHeartbeats 4000000 in
theorem l03Nodes_step (N : Nat) (ih : TmNodesW N) : TmNodesW (N + 1) := by
  intro k1 u1 n1 tk1 tn1 tks1 ns1 ks1 atks1 ctks1 ans1 cns1 aks1 cks1 b1 o1 c d l w hN hM hd0 hd1 hl0 hl1 x0 x1 x2 x3 x4 x5 x6 x7 hr
  have hgd : Tm.good (Tm.mk k1 u1 n1 (Ty.mk tk1 tn1 tks1) ns1 ks1) = (okTm k1 u1 n1 (Ty.mk tk1 tn1 tks1) ns1 ks1.length && (casesOk k1 0 ks1 && Tm.goods ks1)) := by rw [Tm.good]
  have hdp : Tm.dep (Tm.mk k1 u1 n1 (Ty.mk tk1 tn1 tks1) ns1 ks1) = 1 + Tm.deps ks1 := by rw [Tm.dep]
  have hct : Tm.cnt (Tm.mk k1 u1 n1 (Ty.mk tk1 tn1 tks1) ns1 ks1) = 1 + Tm.cnts ks1 := by rw [Tm.cnt]
  have hic := Tm.isCase_mk k1 u1 n1 (Ty.mk tk1 tn1 tks1) ns1 ks1
  have HDP1 := hid (Tm.dep_pos (Tm.mk k1 u1 n1 (Ty.mk tk1 tn1 tks1) ns1 ks1))
  have HCT1 := hid (Tm.cnt_pos (Tm.mk k1 u1 n1 (Ty.mk tk1 tn1 tks1) ns1 ks1))
  have hbk : Tm.bulks ks1 ≤ Tm.bulk (Tm.mk k1 u1 n1 (Ty.mk tk1 tn1 tks1) ns1 ks1) := by simp only [Tm.bulk]; omega
  have hfk := hr.fTm.2.2.2.2.2
  obtain ⟨_, _, e, h2, h3, h4⟩ := hfk.eTm
  simp only [Value.slice.injEq, true_and] at e
  obtain ⟨rfl, rfl⟩ := e
  have hbc := Tm.bulks_length ks1
  have SH := hid (spec_l03Kids k1)
  have hfl := spec_l03Fields k1 u1 n1 tk1 tn1 tks1 ns1 ks1 atks1 ctks1 ans1 cns1 aks1 cks1 b1 o1 w x0 x1 x2 x3 x4 x5 x6 x7 hM hr
  have hq : okTm k1 u1 n1 (Ty.mk tk1 tn1 tks1) ns1 ks1.length = (inR ks1.length (tmN k1).1 (tmN k1).2 && tmFields k1 u1 n1 (Ty.mk tk1 tn1 tks1) ns1) := rfl
  generalize hs0 : (tmN k1).1 = s0 at SH hq
  generalize hs1 : (tmN k1).2 = s1 at SH hq
  have IH := hid ih
  have H4 := hid h4
  have HK := hid hbk
  have HGD := hid hgd
  have HDP := hid hdp
  have HCT := hid hct
  have HIC := hid hic
  have HQ := hid hq
  have X0 := hid x0
  have X7 := hid x7
  have XL := hid (World.block_lt_of_cell? _ _ x7)
  have HM := hid hM
  have HN := hid hN
  clear ih h4 hbk hfk hr hgd hdp hct hq hic hs0 hs1 hM hN x1 x2 x3 x4 x5 x6
  by_cases hd : d < 1
  case pos =>
    rw [Tm.nodes_no (by have := HDP1.out; omega)]
    clear hfl
    go_enter Tryz.func73, Tryz.ntmps73
    go_wp2_with fail
    refine (SH.out _).mono ?_
    rintro e w2 ⟨rfl, rfl⟩
    go_wp2_with fail
    go_ret
    exact ⟨rfl, Below.refl _ _⟩
  case neg =>
  by_cases hl : l < 1
  case pos =>
    rw [Tm.nodes_no (by have := HCT1.out; omega)]
    clear hfl
    go_enter Tryz.func73, Tryz.ntmps73
    go_wp2_with fail
    refine (SH.out _).mono ?_
    rintro e w2 ⟨rfl, rfl⟩
    go_wp2_with fail
    go_ret
    exact ⟨rfl, Below.refl _ _⟩
  case neg =>
  by_cases hc0 : ((k1 == 10) == c) = true
  case neg =>
    have e10 : ((k1 == 10) == c) = false := (Bool.not_eq_true _).mp hc0
    have HNC := hid hc0
    rw [Tm.nodes_no (fun y => HNC.out (by rw [← HIC.out]; exact y.1))]
    clear hfl hc0
    go_enter Tryz.func73, Tryz.ntmps73
    go_wp2_with fail
    refine (SH.out _).mono ?_
    rintro e w2 ⟨rfl, rfl⟩
    go_wp2_with fail
    go_ret
    exact ⟨rfl, Below.refl _ _⟩
  case pos =>
  have e10 : ((k1 == 10) == c) = true := hc0
  have HC0 := hid hc0
  clear hc0
  by_cases t1 : (inR ks1.length s0 s1) = true
  case neg =>
    replace t1 := (Bool.not_eq_true _).mp t1
    have hno : ¬ Tm.good (Tm.mk k1 u1 n1 (Ty.mk tk1 tn1 tks1) ns1 ks1) = true := by rw [HGD.out, HQ.out, t1]; simp
    rw [Tm.nodes_no (fun y => hno y.2.1)]
    have Tt1 := hid t1
    clear hno t1 hfl
    go_enter Tryz.func73, Tryz.ntmps73
    go_wp2_with fail
    refine (SH.out _).mono ?_
    rintro e w2 ⟨rfl, rfl⟩
    go_wp2_with fail
    refine (spec_In _ _ _ _).mono ?_
    rw [Tt1.out]
    rintro e w2 ⟨rfl, rfl⟩
    go_wp2_with fail
    go_ret
    exact ⟨rfl, Below.refl _ _⟩
  case pos =>
  by_cases t2 : tmFields k1 u1 n1 (Ty.mk tk1 tn1 tks1) ns1 = true
  case neg =>
    replace t2 := (Bool.not_eq_true _).mp t2
    have hno : ¬ Tm.good (Tm.mk k1 u1 n1 (Ty.mk tk1 tn1 tks1) ns1 ks1) = true := by rw [HGD.out, HQ.out, t2]; simp
    rw [Tm.nodes_no (fun y => hno y.2.1)]
    rw [t2] at hfl
    have HFL := hid hfl
    have Tt1 := hid t1
    clear hno t1 t2 hfl
    go_enter Tryz.func73, Tryz.ntmps73
    go_wp2_with fail
    refine (SH.out _).mono ?_
    rintro e w2 ⟨rfl, rfl⟩
    go_wp2_with fail
    refine (spec_In _ _ _ _).mono ?_
    rw [Tt1.out]
    rintro e w2 ⟨rfl, rfl⟩
    go_wp2_with fail
    refine HFL.out.mono ?_
    rintro e w2 ⟨rfl, hb⟩
    have HB2 := hid hb
    clear hb
    go_wp2_with fail
    go_ret
    exact ⟨rfl, HB2.out⟩
  case pos =>
  have HOK := hid (show okTm k1 u1 n1 (Ty.mk tk1 tn1 tks1) ns1 ks1.length = true by rw [HQ.out, t1, t2]; rfl)
  rw [t2] at hfl
  have HFL := hid hfl
  have Tt1 := hid t1
  clear t1 t2 hfl
  go_enter Tryz.func73, Tryz.ntmps73
  go_wp2_with fail
  refine (SH.out _).mono ?_
  rintro e w2 ⟨rfl, rfl⟩
  go_wp2_with fail
  refine (spec_In _ _ _ _).mono ?_
  rw [Tt1.out]
  rintro e w2 ⟨rfl, rfl⟩
  go_wp2_with fail
  refine HFL.out.mono ?_
  rintro e w2 ⟨rfl, hb⟩
  have HB2 := hid hb
  clear hb x0 x7 HFL
  go_wp2_with fail
  go_loopw [11, 12, 13] (fun n i _ wr => ∃ (j : Nat), j ≤ ks1.length ∧ i = .int .i64 j ∧ n = .int .i64 (1 + Tm.cnts (ks1.take j) : Nat) ∧ Hid (∀ (i : Nat) t, i < j → ks1[i]? = some t → (Tm.isCase t == (decide (k1 = 9) && decide (0 < i))) = true ∧ Tm.good t = true ∧ (Tm.dep t : Int) ≤ d - 1) ∧ ((1 + Tm.cnts (ks1.take j) : Nat) : Int) ≤ l ∧ Below w.heap.size w wr) (fun _ i _ _ => ks1.length - (intOf i).toNat)
  case atStart => exact ⟨0, by omega, rfl, by simp [Tm.cnts], fun i t hi => absurd hi (by omega), by simp [Tm.cnts]; omega, HB2.out⟩
  case round =>
    obtain ⟨j, hj, rfl, rfl, HJ2, hle, hb⟩ := hrel
    have z0 := (hb.cell (p := ⟨b1, o1, none⟩) XL.out).trans X0.out
    have z7 := (hb.cell (p := ⟨b1, o1 + 7, none⟩) XL.out).trans X7.out
    by_cases hlt : j < ks1.length
    case pos =>
      obtain ⟨b, o, rfl, hbl, hall⟩ := H4.out (by omega)
      obtain ⟨t, ht⟩ : ∃ t, ks1[j]? = some t := ⟨_, List.getElem?_eq_getElem hlt⟩
      obtain ⟨k3, u3, n3, ⟨tk3, tn3, tks3⟩, ns3, ks3⟩ := t
      obtain ⟨atks3, ctks3, ans3, cns3, aks3, cks3, q0, q1, q2, q3, q4, q5, q6, q7, hrk⟩ := hall j k3 u3 n3 tk3 tn3 tks3 ns3 ks3 ht
      clear hall H4
      have hbg := Tm.bulk_get ks1 j _ ht
      have hcg := Tm.cnts_get ks1 j _ ht
      have hcx := Tm.cnts_take ks1 j _ ht
      have hdj := Tm.deps_get ks1 j _ ht
      have r0 := cell_regrown z0
      have r7 := cell_regrown z7
      have hc := fun d' os => Calls.regrown_of (IH.out k3 u3 n3 tk3 tn3 tks3 ns3 ks3 atks3 ctks3 ans3 cns3 aks3 cks3 b (o + j * 8) (decide (k1 = 9) && decide (0 < j)) (d - 1) (l - (1 + Tm.cnts (ks1.take j) : Nat)) (grow (redrawn wr d') os) (by have := HK.out; have := HN.out; omega) (by have := HK.out; have := HM.out; omega) (by omega) (by omega) (by omega) (by omega)
        (cell_regrown ((hb.cell (p := ⟨b, o + j * 8, none⟩) hbl).trans q0) d' os) (cell_regrown ((hb.cell (p := ⟨b, o + j * 8 + 1, none⟩) hbl).trans q1) d' os) (cell_regrown ((hb.cell (p := ⟨b, o + j * 8 + 2, none⟩) hbl).trans q2) d' os) (cell_regrown ((hb.cell (p := ⟨b, o + j * 8 + 3, none⟩) hbl).trans q3) d' os) (cell_regrown ((hb.cell (p := ⟨b, o + j * 8 + 4, none⟩) hbl).trans q4) d' os) (cell_regrown ((hb.cell (p := ⟨b, o + j * 8 + 5, none⟩) hbl).trans q5) d' os) (cell_regrown ((hb.cell (p := ⟨b, o + j * 8 + 6, none⟩) hbl).trans q6) d' os) (cell_regrown ((hb.cell (p := ⟨b, o + j * 8 + 7, none⟩) hbl).trans q7) d' os) ((hrk.below hb).below (below_regrown wr d' os)))
      have HT := hid ht
      have HB := hid hb
      by_cases k9 : k1 = 9
      case neg =>
        have g9 : (k1 == 9) = false := by simp [k9]
        have HCB := hid (show (decide (k1 = 9) && decide (0 < j)) = false by simp [k9])
        rw [HCB.out] at hc
        clear k9
        generalize hcb : (false : Bool) = cb at hc
        by_cases hg : (Tm.isCase (Tm.mk k3 u3 n3 (Ty.mk tk3 tn3 tks3) ns3 ks3) == cb) = true ∧ Tm.good (Tm.mk k3 u3 n3 (Ty.mk tk3 tn3 tks3) ns3 ks3) = true ∧ (Tm.dep (Tm.mk k3 u3 n3 (Ty.mk tk3 tn3 tks3) ns3 ks3) : Int) ≤ d - 1 ∧ (Tm.cnt (Tm.mk k3 u3 n3 (Ty.mk tk3 tn3 tks3) ns3 ks3) : Int) ≤ l - (1 + Tm.cnts (ks1.take j) : Nat)
        case pos =>
          rw [Tm.nodes_yes hg] at hc
          subst hcb
          have hle' := hg.2.2.2
          have hcn : (0 : Int) ≤ (Tm.cnt (Tm.mk k3 u3 n3 (Ty.mk tk3 tn3 tks3) ns3 ks3) : Int) := by omega
          have HC := hid hc
          have HG := hid hg
          have HCX := hid hcx
          clear ht hrk q0 q1 q2 q3 q4 q5 q6 q7 hc hg hcx hdj
          go_wp2_with fail
          refine wp_region_quiet_below (by kernel_rfl) (by kernel_rfl) ?_
          repeat (go_big_quiet_step (exact HC.out _ _))
          refine wpQuiet_nil ?_
          intro _ hw'
          obtain ⟨⟨dq, osq⟩, hw''⟩ := hw'
          subst hw''
          have hbw := HB.out.trans ((below_regrown wr dq osq).mono HB.out.size)
          clear HC hb z0 z7 r0 r7
          go_wp2_with fail
          go_roundw
          case rel =>
            refine ⟨j + 1, by omega, by go_num, congrArg (Value.int .i64) ?_, fun i t hi hti => ?_, ?_, hbw⟩
            · have := HCX.out; omega
            · rcases Nat.lt_succ_iff_lt_or_eq.1 hi with hi | rfl
              · exact HJ2.out i t hi hti
              · obtain rfl := Option.some.inj (hti.symm.trans HT.out)
                exact ⟨by rw [HCB.out]; exact HG.out.1, HG.out.2.1, HG.out.2.2.1⟩
            · have := HCX.out; omega
          case measure => simp [intOf]; omega
        case neg =>
          rw [Tm.nodes_no hg] at hc
          subst hcb
          have HC := hid hc
          have HG := hid hg
          have HDJ := hid hdj
          have HCG := hid hcg
          clear ht hrk q0 q1 q2 q3 q4 q5 q6 q7 hc hg hcx hdj
          go_wp2_with fail
          refine wp_region_quiet_below (by kernel_rfl) (by kernel_rfl) ?_
          repeat (go_big_quiet_step (exact HC.out _ _))
          refine wpQuiet_nil ?_
          intro _ hw'
          obtain ⟨⟨dq, osq⟩, hw''⟩ := hw'
          subst hw''
          have hbw := HB.out.trans ((below_regrown wr dq osq).mono HB.out.size)
          clear HC hb z0 z7 r0 r7
          go_wp2_with fail
          go_ret
          refine ⟨ret_int ?_, hbw⟩
          rw [Tm.nodes_no]
          rintro ⟨y0, y1, y2, y3⟩
          rw [HGD.out, Bool.and_eq_true, Bool.and_eq_true] at y1
          rw [HDP.out] at y2
          rw [HCT.out] at y3
          refine HG.out ⟨?_, Tm.goods_get ks1 j _ y1.2.2 HT.out, by have := HDJ.out; omega, by have := HCG.out; omega⟩
          by_cases hz : (Tm.isCase (Tm.mk k3 u3 n3 (Ty.mk tk3 tn3 tks3) ns3 ks3) == false) = true
          · exact hz
          · have := casesOk_no k1 0 ks1 j _ HT.out (by rw [Nat.zero_add, HCB.out]; exact (Bool.not_eq_true _).mp hz)
            rw [this] at y1; simp at y1
      case pos =>
        have g9 : (k1 == 9) = true := by simp [k9]
        by_cases j0 : 0 < j
        case pos =>
          have e0 : decide (0 < j) = true := decide_eq_true j0
          have HCB := hid (show (decide (k1 = 9) && decide (0 < j)) = true by simp [k9, j0])
          rw [HCB.out] at hc
          clear k9
          generalize hcb : (true : Bool) = cb at hc
          by_cases hg : (Tm.isCase (Tm.mk k3 u3 n3 (Ty.mk tk3 tn3 tks3) ns3 ks3) == cb) = true ∧ Tm.good (Tm.mk k3 u3 n3 (Ty.mk tk3 tn3 tks3) ns3 ks3) = true ∧ (Tm.dep (Tm.mk k3 u3 n3 (Ty.mk tk3 tn3 tks3) ns3 ks3) : Int) ≤ d - 1 ∧ (Tm.cnt (Tm.mk k3 u3 n3 (Ty.mk tk3 tn3 tks3) ns3 ks3) : Int) ≤ l - (1 + Tm.cnts (ks1.take j) : Nat)
          case pos =>
            rw [Tm.nodes_yes hg] at hc
            subst hcb
            have hle' := hg.2.2.2
            have hcn : (0 : Int) ≤ (Tm.cnt (Tm.mk k3 u3 n3 (Ty.mk tk3 tn3 tks3) ns3 ks3) : Int) := by omega
            have HC := hid hc
            have HG := hid hg
            have HCX := hid hcx
            clear ht hrk q0 q1 q2 q3 q4 q5 q6 q7 hc hg hcx hdj
            go_wp2_with fail
            refine wp_region_quiet_below (by kernel_rfl) (by kernel_rfl) ?_
            repeat (go_big_quiet_step (exact HC.out _ _))
            refine wpQuiet_nil ?_
            intro _ hw'
            obtain ⟨⟨dq, osq⟩, hw''⟩ := hw'
            subst hw''
            have hbw := HB.out.trans ((below_regrown wr dq osq).mono HB.out.size)
            clear HC hb z0 z7 r0 r7
            go_wp2_with fail
            go_roundw
            case rel =>
              refine ⟨j + 1, by omega, by go_num, congrArg (Value.int .i64) ?_, fun i t hi hti => ?_, ?_, hbw⟩
              · have := HCX.out; omega
              · rcases Nat.lt_succ_iff_lt_or_eq.1 hi with hi | rfl
                · exact HJ2.out i t hi hti
                · obtain rfl := Option.some.inj (hti.symm.trans HT.out)
                  exact ⟨by rw [HCB.out]; exact HG.out.1, HG.out.2.1, HG.out.2.2.1⟩
              · have := HCX.out; omega
            case measure => simp [intOf]; omega
          case neg =>
            rw [Tm.nodes_no hg] at hc
            subst hcb
            have HC := hid hc
            have HG := hid hg
            have HDJ := hid hdj
            have HCG := hid hcg
            clear ht hrk q0 q1 q2 q3 q4 q5 q6 q7 hc hg hcx hdj
            go_wp2_with fail
            refine wp_region_quiet_below (by kernel_rfl) (by kernel_rfl) ?_
            repeat (go_big_quiet_step (exact HC.out _ _))
            refine wpQuiet_nil ?_
            intro _ hw'
            obtain ⟨⟨dq, osq⟩, hw''⟩ := hw'
            subst hw''
            have hbw := HB.out.trans ((below_regrown wr dq osq).mono HB.out.size)
            clear HC hb z0 z7 r0 r7
            go_wp2_with fail
            go_ret
            refine ⟨ret_int ?_, hbw⟩
            rw [Tm.nodes_no]
            rintro ⟨y0, y1, y2, y3⟩
            rw [HGD.out, Bool.and_eq_true, Bool.and_eq_true] at y1
            rw [HDP.out] at y2
            rw [HCT.out] at y3
            refine HG.out ⟨?_, Tm.goods_get ks1 j _ y1.2.2 HT.out, by have := HDJ.out; omega, by have := HCG.out; omega⟩
            by_cases hz : (Tm.isCase (Tm.mk k3 u3 n3 (Ty.mk tk3 tn3 tks3) ns3 ks3) == true) = true
            · exact hz
            · have := casesOk_no k1 0 ks1 j _ HT.out (by rw [Nat.zero_add, HCB.out]; exact (Bool.not_eq_true _).mp hz)
              rw [this] at y1; simp at y1
        case neg =>
          have e0 : decide (0 < j) = false := decide_eq_false j0
          have HCB := hid (show (decide (k1 = 9) && decide (0 < j)) = false by simp [j0])
          rw [HCB.out] at hc
          clear k9
          generalize hcb : (false : Bool) = cb at hc
          by_cases hg : (Tm.isCase (Tm.mk k3 u3 n3 (Ty.mk tk3 tn3 tks3) ns3 ks3) == cb) = true ∧ Tm.good (Tm.mk k3 u3 n3 (Ty.mk tk3 tn3 tks3) ns3 ks3) = true ∧ (Tm.dep (Tm.mk k3 u3 n3 (Ty.mk tk3 tn3 tks3) ns3 ks3) : Int) ≤ d - 1 ∧ (Tm.cnt (Tm.mk k3 u3 n3 (Ty.mk tk3 tn3 tks3) ns3 ks3) : Int) ≤ l - (1 + Tm.cnts (ks1.take j) : Nat)
          case pos =>
            rw [Tm.nodes_yes hg] at hc
            subst hcb
            have hle' := hg.2.2.2
            have hcn : (0 : Int) ≤ (Tm.cnt (Tm.mk k3 u3 n3 (Ty.mk tk3 tn3 tks3) ns3 ks3) : Int) := by omega
            have HC := hid hc
            have HG := hid hg
            have HCX := hid hcx
            clear ht hrk q0 q1 q2 q3 q4 q5 q6 q7 hc hg hcx hdj
            go_wp2_with fail
            refine wp_region_quiet_below (by kernel_rfl) (by kernel_rfl) ?_
            repeat (go_big_quiet_step (exact HC.out _ _))
            refine wpQuiet_nil ?_
            intro _ hw'
            obtain ⟨⟨dq, osq⟩, hw''⟩ := hw'
            subst hw''
            have hbw := HB.out.trans ((below_regrown wr dq osq).mono HB.out.size)
            clear HC hb z0 z7 r0 r7
            go_wp2_with fail
            go_roundw
            case rel =>
              refine ⟨j + 1, by omega, by go_num, congrArg (Value.int .i64) ?_, fun i t hi hti => ?_, ?_, hbw⟩
              · have := HCX.out; omega
              · rcases Nat.lt_succ_iff_lt_or_eq.1 hi with hi | rfl
                · exact HJ2.out i t hi hti
                · obtain rfl := Option.some.inj (hti.symm.trans HT.out)
                  exact ⟨by rw [HCB.out]; exact HG.out.1, HG.out.2.1, HG.out.2.2.1⟩
              · have := HCX.out; omega
            case measure => simp [intOf]; omega
          case neg =>
            rw [Tm.nodes_no hg] at hc
            subst hcb
            have HC := hid hc
            have HG := hid hg
            have HDJ := hid hdj
            have HCG := hid hcg
            clear ht hrk q0 q1 q2 q3 q4 q5 q6 q7 hc hg hcx hdj
            go_wp2_with fail
            refine wp_region_quiet_below (by kernel_rfl) (by kernel_rfl) ?_
            repeat (go_big_quiet_step (exact HC.out _ _))
            refine wpQuiet_nil ?_
            intro _ hw'
            obtain ⟨⟨dq, osq⟩, hw''⟩ := hw'
            subst hw''
            have hbw := HB.out.trans ((below_regrown wr dq osq).mono HB.out.size)
            clear HC hb z0 z7 r0 r7
            go_wp2_with fail
            go_ret
            refine ⟨ret_int ?_, hbw⟩
            rw [Tm.nodes_no]
            rintro ⟨y0, y1, y2, y3⟩
            rw [HGD.out, Bool.and_eq_true, Bool.and_eq_true] at y1
            rw [HDP.out] at y2
            rw [HCT.out] at y3
            refine HG.out ⟨?_, Tm.goods_get ks1 j _ y1.2.2 HT.out, by have := HDJ.out; omega, by have := HCG.out; omega⟩
            by_cases hz : (Tm.isCase (Tm.mk k3 u3 n3 (Ty.mk tk3 tn3 tks3) ns3 ks3) == false) = true
            · exact hz
            · have := casesOk_no k1 0 ks1 j _ HT.out (by rw [Nat.zero_add, HCB.out]; exact (Bool.not_eq_true _).mp hz)
              rw [this] at y1; simp at y1
    case neg =>
      obtain rfl : j = ks1.length := by omega
      rw [List.take_length] at hle ⊢
      go_wp2_with fail
      go_ret
      refine ⟨ret_int ?_, hb⟩
      have hg : ∀ (i : Nat) t, ks1[i]? = some t → (Tm.isCase t == (decide (k1 = 9) && decide (0 < i))) = true ∧ Tm.good t = true ∧ (Tm.dep t : Int) ≤ d - 1 := fun i t hti => HJ2.out i t (by have := (List.getElem?_eq_some_iff.1 hti).1; omega) hti
      have y1 : Tm.goods ks1 = true := Tm.goods_yes ks1 fun i t hti => (hg i t hti).2.1
      have y0 : casesOk k1 0 ks1 = true := casesOk_yes k1 0 ks1 fun i t hti => by rw [Nat.zero_add]; exact (hg i t hti).1
      have y2 : (Tm.deps ks1 : Int) ≤ d - 1 := by
        have := Tm.deps_all ks1 (d - 1).toNat fun i t hti => by
          have := (hg i t hti).2.2
          omega
        omega
      rw [Tm.nodes_yes ⟨by rw [HIC.out]; exact HC0.out, by rw [HGD.out, HOK.out, y0, y1]; rfl, by rw [HDP.out]; omega, by rw [HCT.out]; omega⟩, HCT.out]

theorem l03Nodes_all : ∀ N, TmNodesW N
  | 0 => fun _ _ _ _ _ _ _ _ _ _ _ _ _ _ _ _ _ _ _ _  h => absurd h (by omega)
  | N + 1 => l03Nodes_step N (l03Nodes_all N)
theorem spec_l03Nodes (k1 : Int) (u1 : Int) (n1 : ByteArray) (tk1 : Int) (tn1 : ByteArray) (tks1 : List Ty) (ns1 : List ByteArray) (ks1 : List Tm) (atks1 : Option Addr) (ctks1 : Nat) (ans1 : Option Addr) (cns1 : Nat) (aks1 : Option Addr) (cks1 : Nat) (b1 o1 : Nat) (c : Bool) (d l : Int) (w : World) (z0 : Tm.bulk (Tm.mk k1 u1 n1 (Ty.mk tk1 tn1 tks1) ns1 ks1) ≤ 1048576) (z1 : 0 ≤ d) (z2 : d ≤ 1000) (z3 : 0 ≤ l) (z4 : l ≤ 1000) (x0 : w.cell? ⟨b1, o1, none⟩ = some (.int .i64 k1)) (x1 : w.cell? ⟨b1, o1 + 1, none⟩ = some (.int .i64 u1)) (x2 : w.cell? ⟨b1, o1 + 2, none⟩ = some (.string n1)) (x3 : w.cell? ⟨b1, o1 + 3, none⟩ = some (.int .i64 tk1)) (x4 : w.cell? ⟨b1, o1 + 4, none⟩ = some (.string tn1)) (x5 : w.cell? ⟨b1, o1 + 5, none⟩ = some (.slice atks1 tks1.length ctks1)) (x6 : w.cell? ⟨b1, o1 + 6, none⟩ = some (.slice ans1 ns1.length cns1)) (x7 : w.cell? ⟨b1, o1 + 7, none⟩ = some (.slice aks1 ks1.length cks1)) (hr : RdS w (Tm.d (Tm.mk k1 u1 n1 (Ty.mk tk1 tn1 tks1) ns1 ks1)) [.int .i64 k1, .int .i64 u1, .string n1, .int .i64 tk1, .string tn1, .slice atks1 tks1.length ctks1, .slice ans1 ns1.length cns1, .slice aks1 ks1.length cks1]) :
    Calls Tryz.prog 73 #[.pointer (some ⟨b1, o1, none⟩), .int .i64 d, .bool c, .int .i64 l] w fun e w' => e = .returned (.int .i64 (Tm.nodes c (Tm.mk k1 u1 n1 (Ty.mk tk1 tn1 tks1) ns1 ks1) d l)) ∧ Below w.heap.size w w' :=
  l03Nodes_all (Tm.bulk (Tm.mk k1 u1 n1 (Ty.mk tk1 tn1 tks1) ns1 ks1) + 1) k1 u1 n1 tk1 tn1 tks1 ns1 ks1 atks1 ctks1 ans1 cns1 aks1 cks1 b1 o1 c d l w (by omega) z0 z1 z2 z3 z4 x0 x1 x2 x3 x4 x5 x6 x7 hr
end Go.Proofs.YtikhofcjkcbpbaaGreatDoor
