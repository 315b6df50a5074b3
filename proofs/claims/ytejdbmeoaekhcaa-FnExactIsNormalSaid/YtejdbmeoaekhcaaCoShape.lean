/- Walks: the form, depth and size of a core, in the program. -/
import Derived.Test.YtejdbmeoaekhcaaCoNode
import Derived.Test.YtejdbmeoaekhcaaCoNodeB
namespace Go.Proofs.Ytejdbmeoaekhcaa
open Go.ChangeShapes Go.WideShapes Go.ChangeAt Go.RowKit Go.BigFrame
open Go.Sort (grow)
set_option linter.unusedVariables false

theorem impl_validCoreNode (k1 : Int) (v1 : Int) (ds1 : List Int) (ks1 : List Co) (ads1 : Option Addr) (cds1 : Nat) (aks1 : Option Addr) (cks1 : Nat) (w : World) (hM : Co.bulk (Co.mk k1 v1 ds1 ks1) ≤ 1048576) (hr : RdS w (Co.d (Co.mk k1 v1 ds1 ks1)) [.int .i64 k1, .int .i64 v1, .slice ads1 ds1.length cds1, .slice aks1 ks1.length cks1]) :
    Calls Try.prog 103 #[.agg #[.int .i64 k1, .int .i64 v1, .slice ads1 ds1.length cds1, .slice aks1 ks1.length cks1]] w fun e w' => e = .returned (.bool (okCo k1 v1 ds1 ks1.length)) ∧ Below w.heap.size w w' := by
  have hbk : Co.bulk (Co.mk k1 v1 ds1 ks1) = In.bulks ds1 + Co.bulks ks1 := rfl
  have hbd := In.bulks_length ds1
  have hbc := Co.bulks_length ks1
  by_cases h1 : k1 = 1
  · subst h1
    exact impl_node1 v1 ds1 ks1 ads1 cds1 aks1 cks1 w (by omega) (by omega) hr.fCo.2.2.1
  by_cases h2 : k1 = 2
  · subst h2
    exact impl_node2 v1 ds1 ks1 ads1 cds1 aks1 cks1 w (by omega) (by omega) hr.fCo.2.2.1
  by_cases h3 : k1 = 3
  · subst h3
    exact impl_node3 v1 ds1 ks1 ads1 cds1 aks1 cks1 w (by omega) (by omega) hr.fCo.2.2.1
  by_cases h4 : k1 = 4
  · subst h4
    exact impl_node4 v1 ds1 ks1 ads1 cds1 aks1 cks1 w (by omega) (by omega) hr.fCo.2.2.1
  by_cases h5 : k1 = 5
  · subst h5
    exact impl_node5 v1 ds1 ks1 ads1 cds1 aks1 cks1 w (by omega) (by omega) hr.fCo.2.2.1
  by_cases h6 : k1 = 6
  · subst h6
    exact impl_node6 v1 ds1 ks1 ads1 cds1 aks1 cks1 w (by omega) (by omega) hr.fCo.2.2.1
  by_cases h7 : k1 = 7
  · subst h7
    exact impl_node7 v1 ds1 ks1 ads1 cds1 aks1 cks1 w (by omega) (by omega) hr.fCo.2.2.1
  by_cases h8 : k1 = 8
  · subst h8
    exact impl_node8 v1 ds1 ks1 ads1 cds1 aks1 cks1 w (by omega) (by omega) hr.fCo.2.2.1
  by_cases h9 : k1 = 9
  · subst h9
    exact impl_node9 v1 ds1 ks1 ads1 cds1 aks1 cks1 w (by omega) (by omega) hr.fCo.2.2.1
  by_cases h10 : k1 = 10
  · subst h10
    exact impl_node10 v1 ds1 ks1 ads1 cds1 aks1 cks1 w (by omega) (by omega) hr.fCo.2.2.1
  by_cases h11 : k1 = 11
  · subst h11
    exact impl_node11 v1 ds1 ks1 ads1 cds1 aks1 cks1 w (by omega) (by omega) hr.fCo.2.2.1
  have g1 : (k1 == 1) = false := by simp [h1]
  have g2 : (k1 == 2) = false := by simp [h2]
  have g3 : (k1 == 3) = false := by simp [h3]
  have g4 : (k1 == 4) = false := by simp [h4]
  have g5 : (k1 == 5) = false := by simp [h5]
  have g6 : (k1 == 6) = false := by simp [h6]
  have g7 : (k1 == 7) = false := by simp [h7]
  have g8 : (k1 == 8) = false := by simp [h8]
  have g9 : (k1 == 9) = false := by simp [h9]
  have g10 : (k1 == 10) = false := by simp [h10]
  have g11 : (k1 == 11) = false := by simp [h11]
  have hn : okCo k1 v1 ds1 ks1.length = false := by simp [okCo, coN, inR, h1, h2, h3, h4, h5, h6, h7, h8, h9, h10, h11]; omega
  rw [hn]
  have HX0 := hid ((Boxes.nil w).alloc #[.int .i64 k1, .int .i64 v1, .slice ads1 ds1.length cds1, .slice aks1 ks1.length cks1] 36 (0, 0))
  have HB := hid ((Below.refl w.heap.size w).alloc (Nat.le_refl _) (.cells #[.int .i64 k1, .int .i64 v1, .slice ads1 ds1.length cds1, .slice aks1 ks1.length cks1] 36))
  have hL := hbc
  clear hn hr hM hbk hbd hbc hL h1 h2 h3 h4 h5 h6 h7 h8 h9 h10 h11
  go_enter Try.func103, Try.ntmps103
  go_wp2_with fail
  have e0 := cell_regrown (HX0.out.at 0 0 rfl rfl)
  have e1 := cell_regrown (HX0.out.at 0 1 rfl rfl)
  have e2 := cell_regrown (HX0.out.at 0 2 rfl rfl)
  have e3 := cell_regrown (HX0.out.at 0 3 rfl rfl)
  clear HX0
  refine wp_region_quiet_below (by kernel_rfl) (by kernel_rfl) ?_
  repeat (go_big_quiet_step (fail))
  refine wpQuiet_nil ?_
  intro _ hw'
  obtain ⟨⟨dq, osq⟩, hw''⟩ := hw'
  subst hw''
  have HB := hid (HB.out.trans ((below_regrown _ dq osq).mono HB.out.size))
  replace e0 := e0 dq osq
  replace e1 := e1 dq osq
  replace e2 := e2 dq osq
  replace e3 := e3 dq osq
  generalize grow (redrawn (w.alloc (.cells #[.int .i64 k1, .int .i64 v1, .slice ads1 ds1.length cds1, .slice aks1 ks1.length cks1] 36)) dq) osq = wz at HB e0 e1 e2 e3 ⊢
  go_wp2_with fail
  go_ret
  exact ⟨rfl, HB.out⟩

def coShapeV (t : Co) : Value := if Co.good (t) = true then .tuple #[.int .i64 (Co.dep (t) : Nat), .int .i64 (Co.cnt (t) : Nat), .bool true] else .tuple #[.int .i64 0, .int .i64 0, .bool false]
def coShapeVW (N : Nat) : Prop := ∀ (k1 : Int) (v1 : Int) (ds1 : List Int) (ks1 : List Co) (ads1 : Option Addr) (cds1 : Nat) (aks1 : Option Addr) (cks1 : Nat) (w : World), Co.bulk (Co.mk k1 v1 ds1 ks1) < N → Co.bulk (Co.mk k1 v1 ds1 ks1) ≤ 1048576 → RdS w (Co.d (Co.mk k1 v1 ds1 ks1)) [.int .i64 k1, .int .i64 v1, .slice ads1 ds1.length cds1, .slice aks1 ks1.length cks1] →
  Calls Try.prog 99 #[.agg #[.int .i64 k1, .int .i64 v1, .slice ads1 ds1.length cds1, .slice aks1 ks1.length cks1]] w fun e w' => e = .returned (coShapeV (Co.mk k1 v1 ds1 ks1)) ∧ Below w.heap.size w w'

set_option maxHeartbeats 2000000 in
theorem coreShape_step (N : Nat) (ih : coShapeVW N) : coShapeVW (N + 1) := by
  intro k1 v1 ds1 ks1 ads1 cds1 aks1 cks1 w hN hM hr
  have hbk : Co.bulk (Co.mk k1 v1 ds1 ks1) = In.bulks ds1 + Co.bulks ks1 := rfl
  have HGD := hid (show Co.good (Co.mk k1 v1 ds1 ks1) = (okCo k1 v1 ds1 ks1.length && Co.goods ks1) from rfl)
  have HDP := hid (show Co.dep (Co.mk k1 v1 ds1 ks1) = 1 + Co.deps ks1 from rfl)
  have HCT := hid (show Co.cnt (Co.mk k1 v1 ds1 ks1) = 1 + Co.cnts ks1 from rfl)
  have hcl := Co.cnts_le ks1
  have HX0 := hid ((Boxes.nil w).alloc #[.int .i64 k1, .int .i64 v1, .slice ads1 ds1.length cds1, .slice aks1 ks1.length cks1] 36 (0, 0))
  have HB0 := hid ((Below.refl w.heap.size w).alloc (Nat.le_refl _) (.cells #[.int .i64 k1, .int .i64 v1, .slice ads1 ds1.length cds1, .slice aks1 ks1.length cks1] 36))
  have HV := hid (fun W (hW : Below w.heap.size w W) => impl_validCoreNode k1 v1 ds1 ks1 ads1 cds1 aks1 cks1 W hM (hr.below hW))
  obtain ⟨_, _, e, h2, h3, h4⟩ := hr.fCo.2.2.2.eCo
  simp only [Value.slice.injEq, true_and] at e
  obtain ⟨rfl, rfl⟩ := e
  have IH := hid ih
  have H4 := hid h4
  have HK := hid hbk
  have HM := hid hM
  have HN := hid hN
  clear ih hr h4 hbk hM hN
  by_cases hok : okCo k1 v1 ds1 ks1.length = true
  case neg =>
    have HOK := hid ((Bool.not_eq_true _).mp hok)
    clear hok
    go_enter Try.func99, Try.ntmps99
    go_wp2_with fail
    refine (HV.out _ HB0.out).mono ?_
    rw [HOK.out]
    rintro e w1 ⟨rfl, hb⟩
    have HB1 := hid (HB0.out.trans (hb.mono HB0.out.size))
    clear hb
    go_wp2_with fail
    refine bodyPost_ret (v := .tuple #[.int .i64 0, .int .i64 0, .bool false]) (by simp [results, Try.results99, go_sem]) rfl ⟨?_, HB1.out⟩
    have hno : ¬ Co.good (Co.mk k1 v1 ds1 ks1) = true := by rw [HGD.out, HOK.out]; simp
    simp [coShapeV, hno]
  case pos =>
    have HOK := hid hok
    clear hok
    go_enter Try.func99, Try.ntmps99
    go_wp2_with fail
    refine (HV.out _ HB0.out).mono ?_
    rw [HOK.out]
    rintro e w1 ⟨rfl, hb⟩
    have HB1 := hid (HB0.out.trans (hb.mono HB0.out.size))
    have HX1 := hid (HX0.out.below hb)
    have g3 := HX1.out.at 0 3 rfl rfl
    clear hb
    go_wp2_with fail
    clear g3
    go_loopw [2, 3, 4, 16] (fun d s g i wr => ∃ (j : Nat), j ≤ ks1.length ∧ i = .int .i64 j ∧ g = .bool false ∧ d = .int .i64 (1 + Co.deps (ks1.take j) : Nat) ∧ s = .int .i64 (1 + Co.cnts (ks1.take j) : Nat) ∧ Hid (∀ (i : Nat) t, i < j → ks1[i]? = some t → Co.good t = true) ∧
      Below w.heap.size w wr) (fun _ _ _ i _ => ks1.length - (intOf i).toNat)
    case atStart => exact ⟨0, by omega, rfl, rfl, by simp [Co.deps], by simp [Co.cnts], fun i t hi => absurd hi (by omega), HB1.out⟩
    case round =>
      obtain ⟨j, hj, rfl, rfl, rfl, rfl, HJ, hb⟩ := hrel
      by_cases hlt : j < ks1.length
      case pos =>
        obtain ⟨b, o, rfl, hbl, hall⟩ := H4.out (by omega)
        obtain ⟨t, ht⟩ : ∃ t, ks1[j]? = some t := ⟨_, List.getElem?_eq_getElem hlt⟩
        obtain ⟨k3, v3, ds3, ks3⟩ := t
        obtain ⟨ads3, cds3, aks3, cks3, q0, q1, q2, q3, hrk⟩ := hall j k3 v3 ds3 ks3 ht
        clear hall H4
        have d0 := (hb.cell (p := ⟨b, o + j * 4, none⟩) hbl).trans q0
        have d1 := (hb.cell (p := ⟨b, o + j * 4 + 1, none⟩) hbl).trans q1
        have d2 := (hb.cell (p := ⟨b, o + j * 4 + 2, none⟩) hbl).trans q2
        have d3 := (hb.cell (p := ⟨b, o + j * 4 + 3, none⟩) hbl).trans q3
        have hbg := Co.bulk_get ks1 j _ ht
        have hc := fun W hW => IH.out k3 v3 ds3 ks3 ads3 cds3 aks3 cks3 W (by have := HK.out; have := HN.out; omega) (by have := HK.out; have := HM.out; omega) ((hrk.below hb).below hW)
        have HT := hid ht
        have hct := Co.cnts_take ks1 j _ ht
        have hdt := Co.deps_take ks1 j _ ht
        have hle := Co.cnts_take_le ks1 (j + 1)
        have hd1 := Co.deps_le (ks1.take j)
        have hd2 := Co.dep_le (.mk k3 v3 ds3 ks3)
        have hct' : Co.cnts (ks1.take j) + Co.cnt (.mk k3 v3 ds3 ks3) ≤ 1048576 := by have := HK.out; have := HM.out; omega
        by_cases hg : Co.good (.mk k3 v3 ds3 ks3) = true
        case neg =>
          have hs : coShapeV (.mk k3 v3 ds3 ks3) = .tuple #[.int .i64 0, .int .i64 0, .bool false] := by simp [coShapeV, hg]
          rw [hs] at hc
          have HC := hid hc
          have HG := hid hg
          clear ht hrk q0 q1 q2 q3 hc hct hdt hs hg
          go_wp2_with fail
          refine (HC.out _ ((Below.refl _ _).alloc (Nat.le_refl _) _)).mono ?_
          rintro e w2 ⟨rfl, hb1⟩
          have hbw : Below w.heap.size w w2 := (hb.alloc hb.size _).trans (hb1.mono (by have := hb.size; simp; omega))
          clear hb1 HC
          go_wp2_with fail
          refine bodyPost_ret (v := .tuple #[.int .i64 0, .int .i64 0, .bool false]) (by simp [results, Try.results99, go_sem]) rfl ⟨?_, hbw⟩
          have hno : ¬ Co.good (Co.mk k1 v1 ds1 ks1) = true := by
            rw [HGD.out, Co.goods_no ks1 j _ HT.out ((Bool.not_eq_true _).mp HG.out)]; simp
          simp [coShapeV, hno]
        case pos =>
          have hs : coShapeV (.mk k3 v3 ds3 ks3) = .tuple #[.int .i64 (Co.dep (.mk k3 v3 ds3 ks3) : Nat), .int .i64 (Co.cnt (.mk k3 v3 ds3 ks3) : Nat), .bool true] := by simp [coShapeV, hg]
          rw [hs] at hc
          have HG := hid hg
          clear hs hg
          have HC := hid hc
          have HCT1 := hid hct
          have HDT1 := hid hdt
          clear ht hrk q0 q1 q2 q3 hc hct hdt
          go_wp2_with fail
          refine (HC.out _ ((Below.refl _ _).alloc (Nat.le_refl _) _)).mono ?_
          rintro e w2 ⟨rfl, hb1⟩
          have hbw : Below w.heap.size w w2 := (hb.alloc hb.size _).trans (hb1.mono (by have := hb.size; simp; omega))
          clear hb1 HC
          go_wp2_with fail
          go_roundw
          case rel =>
            refine ⟨j + 1, by omega, by go_num, rfl, congrArg (Value.int .i64) ?_, congrArg (Value.int .i64) ?_, fun i t hi hti => ?_, hbw⟩
            · have := HDT1.out; split <;> omega
            · have := HCT1.out; omega
            · exact (Nat.lt_succ_iff_lt_or_eq.1 hi).elim (fun hi => HJ.out i t hi hti) (fun he => by subst he; obtain rfl := Option.some.inj (hti.symm.trans HT.out); exact HG.out)
          case measure => simp [intOf]; omega
      case neg =>
        obtain rfl : j = ks1.length := by omega
        rw [List.take_length]
        go_wp2_with fail
        refine bodyPost_ret (v := .tuple #[.int .i64 (1 + Co.deps ks1 : Nat), .int .i64 (1 + Co.cnts ks1 : Nat), .bool true]) (by simp [results, Try.results99, go_sem]) rfl ⟨?_, hb⟩
        have hg : Co.good (Co.mk k1 v1 ds1 ks1) = true := by
          rw [HGD.out, HOK.out, Co.goods_yes ks1 fun i t hti => HJ.out i t (by have := (List.getElem?_eq_some_iff.1 hti).1; omega) hti]; rfl
        simp only [coShapeV, hg, if_true, HDP.out, HCT.out]
theorem coreShape_all : ∀ N, coShapeVW N
  | 0 => fun _ _ _ _ _ _ _ _ _  h => absurd h (by omega)
  | N + 1 => coreShape_step N (coreShape_all N)

def coExtentV (t : Co) : Value := .tuple #[.int .i64 (Co.dep (t) : Nat), .int .i64 (Co.cnt (t) : Nat)]
def coExtentVW (N : Nat) : Prop := ∀ (k1 : Int) (v1 : Int) (ds1 : List Int) (ks1 : List Co) (ads1 : Option Addr) (cds1 : Nat) (aks1 : Option Addr) (cks1 : Nat) (w : World), Co.bulk (Co.mk k1 v1 ds1 ks1) < N → Co.bulk (Co.mk k1 v1 ds1 ks1) ≤ 1048576 → RdS w (Co.d (Co.mk k1 v1 ds1 ks1)) [.int .i64 k1, .int .i64 v1, .slice ads1 ds1.length cds1, .slice aks1 ks1.length cks1] →
  Calls Try.prog 104 #[.agg #[.int .i64 k1, .int .i64 v1, .slice ads1 ds1.length cds1, .slice aks1 ks1.length cks1]] w fun e w' => e = .returned (coExtentV (Co.mk k1 v1 ds1 ks1)) ∧ Below w.heap.size w w'

set_option maxHeartbeats 2000000 in
theorem coreExtent_step (N : Nat) (ih : coExtentVW N) : coExtentVW (N + 1) := by
  intro k1 v1 ds1 ks1 ads1 cds1 aks1 cks1 w hN hM hr
  have hbk : Co.bulk (Co.mk k1 v1 ds1 ks1) = In.bulks ds1 + Co.bulks ks1 := rfl
  have HGD := hid (show Co.good (Co.mk k1 v1 ds1 ks1) = (okCo k1 v1 ds1 ks1.length && Co.goods ks1) from rfl)
  have HDP := hid (show Co.dep (Co.mk k1 v1 ds1 ks1) = 1 + Co.deps ks1 from rfl)
  have HCT := hid (show Co.cnt (Co.mk k1 v1 ds1 ks1) = 1 + Co.cnts ks1 from rfl)
  have hcl := Co.cnts_le ks1
  have HX0 := hid ((Boxes.nil w).alloc #[.int .i64 k1, .int .i64 v1, .slice ads1 ds1.length cds1, .slice aks1 ks1.length cks1] 36 (0, 0))
  have HB0 := hid ((Below.refl w.heap.size w).alloc (Nat.le_refl _) (.cells #[.int .i64 k1, .int .i64 v1, .slice ads1 ds1.length cds1, .slice aks1 ks1.length cks1] 36))
  have HV := hid (fun W (hW : Below w.heap.size w W) => impl_validCoreNode k1 v1 ds1 ks1 ads1 cds1 aks1 cks1 W hM (hr.below hW))
  obtain ⟨_, _, e, h2, h3, h4⟩ := hr.fCo.2.2.2.eCo
  simp only [Value.slice.injEq, true_and] at e
  obtain ⟨rfl, rfl⟩ := e
  have IH := hid ih
  have H4 := hid h4
  have HK := hid hbk
  have HM := hid hM
  have HN := hid hN
  clear ih hr h4 hbk hM hN
  go_enter Try.func104, Try.ntmps104
  go_wp2_with fail
  go_loopw [2, 3, 11] (fun d s i wr => ∃ (j : Nat), j ≤ ks1.length ∧ i = .int .i64 j ∧ d = .int .i64 (1 + Co.deps (ks1.take j) : Nat) ∧ s = .int .i64 (1 + Co.cnts (ks1.take j) : Nat) ∧ Hid (∀ (i : Nat) t, i < j → ks1[i]? = some t → True) ∧
    Below w.heap.size w wr) (fun _ _ i _ => ks1.length - (intOf i).toNat)
  case atStart => exact ⟨0, by omega, rfl, by simp [Co.deps], by simp [Co.cnts], fun i t hi => absurd hi (by omega), HB0.out⟩
  case round =>
    obtain ⟨j, hj, rfl, rfl, rfl, HJ, hb⟩ := hrel
    by_cases hlt : j < ks1.length
    case pos =>
      obtain ⟨b, o, rfl, hbl, hall⟩ := H4.out (by omega)
      obtain ⟨t, ht⟩ : ∃ t, ks1[j]? = some t := ⟨_, List.getElem?_eq_getElem hlt⟩
      obtain ⟨k3, v3, ds3, ks3⟩ := t
      obtain ⟨ads3, cds3, aks3, cks3, q0, q1, q2, q3, hrk⟩ := hall j k3 v3 ds3 ks3 ht
      clear hall H4
      have d0 := (hb.cell (p := ⟨b, o + j * 4, none⟩) hbl).trans q0
      have d1 := (hb.cell (p := ⟨b, o + j * 4 + 1, none⟩) hbl).trans q1
      have d2 := (hb.cell (p := ⟨b, o + j * 4 + 2, none⟩) hbl).trans q2
      have d3 := (hb.cell (p := ⟨b, o + j * 4 + 3, none⟩) hbl).trans q3
      have hbg := Co.bulk_get ks1 j _ ht
      have hc := fun W hW => IH.out k3 v3 ds3 ks3 ads3 cds3 aks3 cks3 W (by have := HK.out; have := HN.out; omega) (by have := HK.out; have := HM.out; omega) ((hrk.below hb).below hW)
      have HT := hid ht
      have hct := Co.cnts_take ks1 j _ ht
      have hdt := Co.deps_take ks1 j _ ht
      have hle := Co.cnts_take_le ks1 (j + 1)
      have hd1 := Co.deps_le (ks1.take j)
      have hd2 := Co.dep_le (.mk k3 v3 ds3 ks3)
      have hct' : Co.cnts (ks1.take j) + Co.cnt (.mk k3 v3 ds3 ks3) ≤ 1048576 := by have := HK.out; have := HM.out; omega
      rw [show coExtentV (.mk k3 v3 ds3 ks3) = .tuple #[.int .i64 (Co.dep (.mk k3 v3 ds3 ks3) : Nat), .int .i64 (Co.cnt (.mk k3 v3 ds3 ks3) : Nat)] from rfl] at hc
      have HC := hid hc
      have HCT1 := hid hct
      have HDT1 := hid hdt
      clear ht hrk q0 q1 q2 q3 hc hct hdt
      go_wp2_with fail
      refine (HC.out _ ((Below.refl _ _).alloc (Nat.le_refl _) _)).mono ?_
      rintro e w2 ⟨rfl, hb1⟩
      have hbw : Below w.heap.size w w2 := (hb.alloc hb.size _).trans (hb1.mono (by have := hb.size; simp; omega))
      clear hb1 HC
      go_wp2_with fail
      go_roundw
      case rel =>
        refine ⟨j + 1, by omega, by go_num, congrArg (Value.int .i64) ?_, congrArg (Value.int .i64) ?_, fun i t hi hti => ?_, hbw⟩
        · have := HDT1.out; split <;> omega
        · have := HCT1.out; omega
        · exact True.intro
      case measure => simp [intOf]; omega
    case neg =>
      obtain rfl : j = ks1.length := by omega
      rw [List.take_length]
      go_wp2_with fail
      refine bodyPost_ret (v := .tuple #[.int .i64 (1 + Co.deps ks1 : Nat), .int .i64 (1 + Co.cnts ks1 : Nat)]) (by simp [results, Try.results104, go_sem]) rfl ⟨?_, hb⟩
      simp only [coExtentV, HDP.out, HCT.out]
theorem coreExtent_all : ∀ N, coExtentVW N
  | 0 => fun _ _ _ _ _ _ _ _ _  h => absurd h (by omega)
  | N + 1 => coreExtent_step N (coreExtent_all N)

end Go.Proofs.Ytejdbmeoaekhcaa
