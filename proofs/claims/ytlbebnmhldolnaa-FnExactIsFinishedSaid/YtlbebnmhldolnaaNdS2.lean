/- Walks: closures, frames and states of machines, in the reference. -/
import Derived.Test.YtlbebnmhldolnaaNdS
import Derived.Test.YtlbebnmhldolnaaSzBk
namespace Go.Proofs.Ytlbebnmhldolnaa
open Go.ChangeShapes Go.WideShapes Go.ChangeAt Go.RowKit Go.BigFrame
open Go.Sort (grow)
set_option linter.unusedVariables false

set_option maxRecDepth 100000 in
set_option maxHeartbeats 4000000 in
theorem spec_l09Closure (bb bo n : Nat) (ab : Option Addr) (cb : Nat) (tk1 : Int) (tv1 : Int) (tds1 : List Int) (tks1 : List Co) (es1 : List Int) (atds1 : Option Addr) (ctds1 : Nat) (atks1 : Option Addr) (ctks1 : Nat) (aes1 : Option Addr) (ces1 : Nat) (b1 o1 h : Nat) (w : World) (hn : n ≤ 1048576) (hh : h ≤ 1048576) (hM : Cl.bulk (Cl.mk (Co.mk tk1 tv1 tds1 tks1) es1) ≤ 1048576) (xb : w.cell? ⟨bb, bo, none⟩ = some (.slice ab n cb)) (x0 : w.cell? ⟨b1, o1, none⟩ = some (.int .i64 tk1)) (x1 : w.cell? ⟨b1, o1 + 1, none⟩ = some (.int .i64 tv1)) (x2 : w.cell? ⟨b1, o1 + 2, none⟩ = some (.slice atds1 tds1.length ctds1)) (x3 : w.cell? ⟨b1, o1 + 3, none⟩ = some (.slice atks1 tks1.length ctks1)) (x4 : w.cell? ⟨b1, o1 + 4, none⟩ = some (.slice aes1 es1.length ces1)) (hr : RdS w (Cl.d (Cl.mk (Co.mk tk1 tv1 tds1 tks1) es1)) [.int .i64 tk1, .int .i64 tv1, .slice atds1 tds1.length ctds1, .slice atks1 tks1.length ctks1, .slice aes1 es1.length ces1]) :
    Calls Try.prog 86 #[.pointer (some ⟨bb, bo, none⟩), .pointer (some ⟨b1, o1, none⟩), .int .i64 h] w fun e w' => e = .returned (.bool (clOk n h (Cl.mk (Co.mk tk1 tv1 tds1 tks1) es1))) ∧ Below w.heap.size w w' := by
  have hrt := RdS.subCl_t hr
  have hbk : Cl.bulk (Cl.mk (Co.mk tk1 tv1 tds1 tks1) es1) = Co.bulk (Co.mk tk1 tv1 tds1 tks1) + In.bulks es1 := rfl
  have hel := In.bulks_length es1
  have hMt : Co.bulk (Co.mk tk1 tv1 tds1 tks1) ≤ 1048576 := by omega
  have hes : es1.length ≤ 1048576 := by omega
  obtain ⟨_, _, e, h2, h3, h4⟩ := hr.fCl.2.eIn
  simp only [Value.slice.injEq, true_and] at e
  obtain ⟨rfl, rfl⟩ := e
  have H4 := hid h4
  have hv1 := fun d os => Calls.regrown_of (spec_l06Ok tk1 tv1 tds1 tks1 atds1 ctds1 atks1 ctks1 b1 o1 (grow (redrawn w d) os) hMt (cell_regrown x0 d os) (cell_regrown x1 d os) (cell_regrown x2 d os) (cell_regrown x3 d os) (hrt.below (below_regrown w d os)))
  have hv2 := fun d os => Calls.regrown_of (spec_era_all (Co.bulk (Co.mk tk1 tv1 tds1 tks1) + 1) tk1 tv1 tds1 tks1 atds1 ctds1 atks1 ctks1 b1 o1 (grow (redrawn w d) os) (by omega) (cell_regrown x0 d os) (cell_regrown x1 d os) (cell_regrown x2 d os) (cell_regrown x3 d os) (hrt.below (below_regrown w d os)))
  have hv3 := fun d os => Calls.regrown_of (ref_all (Co.bulk (Co.mk tk1 tv1 tds1 tks1) + 1) tk1 tv1 tds1 tks1 atds1 ctds1 atks1 ctks1 b1 o1 n (grow (redrawn w d) os) (by omega) (cell_regrown x0 d os) (cell_regrown x1 d os) (cell_regrown x2 d os) (cell_regrown x3 d os) (hrt.below (below_regrown w d os)))
  have hv4 := fun hg d os => Calls.regrown_of (above_all (Co.bulk (Co.mk tk1 tv1 tds1 tks1) + 1) tk1 tv1 tds1 tks1 atds1 ctds1 atks1 ctks1 b1 o1 es1.length (grow (redrawn w d) os) (by omega) (by omega) (by omega) hg (cell_regrown x0 d os) (cell_regrown x1 d os) (cell_regrown x2 d os) (cell_regrown x3 d os) (hrt.below (below_regrown w d os)))
  have X4 := hid x4
  have XL := hid (World.block_lt_of_cell? _ _ x4)
  have y4 := cell_regrown x4
  have yb := cell_regrown xb
  have HE := hid (clOk_mk n h (Co.mk tk1 tv1 tds1 tks1) es1)
  clear hr hrt hbk hel h4 x0 x1 x2 x3 x4 xb hM h2 h3
  by_cases t1 : Co.ok (Co.mk tk1 tv1 tds1 tks1) = true
  case neg =>
    rw [(Bool.not_eq_true _).mp t1] at hv1
    have HV1 := hid hv1
    have HF := hid (show clOk n h (Cl.mk (Co.mk tk1 tv1 tds1 tks1) es1) = false by rw [HE.out]; simp [t1])
    clear t1 hv1 hv2 hv3 hv4 
    go_enter Try.func86, Try.ntmps86
    go_wp2_with fail
    refine wp_region_quiet_below (by kernel_rfl) (by kernel_rfl) ?_
    repeat (go_big_quiet_step (exact HV1.out _ _))
    refine wpQuiet_nil ?_
    intro _ hw'
    obtain ⟨⟨dq, osq⟩, hw''⟩ := hw'
    subst hw''
    have HBQ := hid (below_regrown w dq osq)
    clear HV1 y4 yb
    go_wp2_with fail
    go_ret
    exact ⟨ret_bool HF.out.symm, HBQ.out⟩
  case pos =>
  by_cases t2 : Co.era (Co.mk tk1 tv1 tds1 tks1) = true
  case neg =>
    rw [t1] at hv1
    have HV1 := hid hv1
    rw [(Bool.not_eq_true _).mp t2] at hv2
    have HV2 := hid hv2
    have HF := hid (show clOk n h (Cl.mk (Co.mk tk1 tv1 tds1 tks1) es1) = false by rw [HE.out]; simp [t1, t2])
    clear t1 t2 hv1 hv2 hv3 hv4 
    go_enter Try.func86, Try.ntmps86
    go_wp2_with fail
    refine wp_region_quiet_below (by kernel_rfl) (by kernel_rfl) ?_
    repeat (go_big_quiet_step (first | exact HV1.out _ _ | exact HV2.out _ _))
    refine wpQuiet_nil ?_
    intro _ hw'
    obtain ⟨⟨dq, osq⟩, hw''⟩ := hw'
    subst hw''
    have HBQ := hid (below_regrown w dq osq)
    clear HV1 HV2 y4 yb
    go_wp2_with fail
    go_ret
    exact ⟨ret_bool HF.out.symm, HBQ.out⟩
  case pos =>
  by_cases t3 : Co.refs (Co.mk tk1 tv1 tds1 tks1) n = true
  case neg =>
    rw [t1] at hv1
    have HV1 := hid hv1
    rw [t2] at hv2
    have HV2 := hid hv2
    rw [(Bool.not_eq_true _).mp t3] at hv3
    have HV3 := hid hv3
    have HF := hid (show clOk n h (Cl.mk (Co.mk tk1 tv1 tds1 tks1) es1) = false by rw [HE.out]; simp [t1, t2, t3])
    clear t1 t2 t3 hv1 hv2 hv3 hv4 
    go_enter Try.func86, Try.ntmps86
    go_wp2_with fail
    refine wp_region_quiet_below (by kernel_rfl) (by kernel_rfl) ?_
    repeat (go_big_quiet_step (first | exact HV1.out _ _ | exact HV2.out _ _ | exact HV3.out _ _))
    refine wpQuiet_nil ?_
    intro _ hw'
    obtain ⟨⟨dq, osq⟩, hw''⟩ := hw'
    subst hw''
    have HBQ := hid (below_regrown w dq osq)
    clear HV1 HV2 HV3 y4 yb
    go_wp2_with fail
    go_ret
    exact ⟨ret_bool HF.out.symm, HBQ.out⟩
  case pos =>
  by_cases t4 : Co.clo (Co.mk tk1 tv1 tds1 tks1) es1.length = true
  case neg =>
    rw [t1] at hv1
    have HV1 := hid hv1
    rw [t2] at hv2
    have HV2 := hid hv2
    rw [t3] at hv3
    have HV3 := hid hv3
    have hv4' := hv4 (Co.ok_good' t1)
    rw [(Bool.not_eq_true _).mp t4, Bool.not_false] at hv4'
    have HV4 := hid hv4'
    have HF := hid (show clOk n h (Cl.mk (Co.mk tk1 tv1 tds1 tks1) es1) = false by rw [HE.out]; simp [t1, t2, t3, t4])
    clear t1 t2 t3 t4 hv1 hv2 hv3 hv4 hv4'
    go_enter Try.func86, Try.ntmps86
    go_wp2_with fail
    refine wp_region_quiet_below (by kernel_rfl) (by kernel_rfl) ?_
    repeat (go_big_quiet_step (first | exact HV1.out _ _ | exact HV2.out _ _ | exact HV3.out _ _ | exact HV4.out _ _))
    refine wpQuiet_nil ?_
    intro _ hw'
    obtain ⟨⟨dq, osq⟩, hw''⟩ := hw'
    subst hw''
    have HBQ := hid (below_regrown w dq osq)
    clear HV1 HV2 HV3 HV4 y4 yb
    go_wp2_with fail
    go_ret
    exact ⟨ret_bool HF.out.symm, HBQ.out⟩
  case pos =>
  by_cases t5 : es1.length ≤ 256
  case neg =>
    rw [t1] at hv1
    have HV1 := hid hv1
    rw [t2] at hv2
    have HV2 := hid hv2
    rw [t3] at hv3
    have HV3 := hid hv3
    have hv4' := hv4 (Co.ok_good' t1)
    rw [t4, Bool.not_true] at hv4'
    have HV4 := hid hv4'
    have g5 : decide ((256 : Int) < es1.length) = true := decide_eq_true (by omega)
    have HF := hid (show clOk n h (Cl.mk (Co.mk tk1 tv1 tds1 tks1) es1) = false by rw [HE.out]; simp [t1, t2, t3, t4, t5])
    clear t1 t2 t3 t4 t5 hv1 hv2 hv3 hv4 hv4'
    go_enter Try.func86, Try.ntmps86
    go_wp2_with fail
    refine wp_region_quiet_below (by kernel_rfl) (by kernel_rfl) ?_
    repeat (go_big_quiet_step (first | exact HV1.out _ _ | exact HV2.out _ _ | exact HV3.out _ _ | exact HV4.out _ _))
    refine wpQuiet_nil ?_
    intro _ hw'
    obtain ⟨⟨dq, osq⟩, hw''⟩ := hw'
    subst hw''
    have HBQ := hid (below_regrown w dq osq)
    clear HV1 HV2 HV3 HV4 y4 yb
    go_wp2_with fail
    go_ret
    exact ⟨ret_bool HF.out.symm, HBQ.out⟩
  case pos =>
  rw [t1] at hv1
  have HV1 := hid hv1
  rw [t2] at hv2
  have HV2 := hid hv2
  rw [t3] at hv3
  have HV3 := hid hv3
  have hv4' := hv4 (Co.ok_good' t1)
  rw [t4, Bool.not_true] at hv4'
  have HV4 := hid hv4'
  have g5 : decide ((256 : Int) < es1.length) = false := decide_eq_false (by omega)
  have HF := hid (show clOk n h (Cl.mk (Co.mk tk1 tv1 tds1 tks1) es1) = es1.all (upTo h) by rw [HE.out]; simp [t1, t2, t3, t4, t5])
  clear t1 t2 t3 t4 t5 hv1 hv2 hv3 hv4 hv4'
  go_enter Try.func86, Try.ntmps86
  go_wp2_with fail
  refine wp_region_quiet_below (by kernel_rfl) (by kernel_rfl) ?_
  repeat (go_big_quiet_step (first | exact HV1.out _ _ | exact HV2.out _ _ | exact HV3.out _ _ | exact HV4.out _ _))
  refine wpQuiet_nil ?_
  intro _ hw'
  obtain ⟨⟨dq, osq⟩, hw''⟩ := hw'
  subst hw''
  have HBQ := hid (below_regrown w dq osq)
  clear HV1 HV2 HV3 HV4 y4 yb
  go_wp2_with fail
  go_loopw [7] (fun i wr => ∃ (j : Nat), j ≤ es1.length ∧ i = .int .i64 j ∧ Hid (∀ (i : Nat) t, i < j → es1[i]? = some t → upTo h t = true) ∧ Below w.heap.size w wr) (fun i _ => es1.length - (intOf i).toNat)
  case atStart => exact ⟨0, by omega, rfl, fun i t hi => absurd hi (by omega), HBQ.out⟩
  case round =>
    obtain ⟨j, hj, rfl, HJ, hb⟩ := hrel
    have z4 := (hb.cell (p := ⟨b1, o1 + 4, none⟩) XL.out).trans X4.out
    by_cases hlt : j < es1.length
    case neg =>
      go_wp2_with fail
      go_ret
      exact ⟨ret_bool (by rw [HF.out, all_yes _ es1 fun i t hti => HJ.out i t (by have := (List.getElem?_eq_some_iff.1 hti).1; omega) hti]), hb⟩
    case pos =>
      obtain ⟨b, o, rfl, hbl, hall⟩ := H4.out (by omega)
      obtain ⟨t, ht⟩ : ∃ t, es1[j]? = some t := ⟨_, List.getElem?_eq_getElem hlt⟩
      have q0 := (hb.cell (p := ⟨b, o + j, none⟩) hbl).trans (hall j t ht).1
      have HT := hid ht
      have hc := spec_In t 0 ((h : Int) - 1)
      clear hall H4 ht
      by_cases hq : upTo h t = true
      case pos =>
        rw [show inR t 0 ((h : Int) - 1) = true from hq] at hc
        have HC := hid hc
        have HQ := hid hq
        clear hc hq
        go_wp2_with fail
        refine (HC.out _).mono ?_
        rintro e w2 ⟨rfl, rfl⟩
        go_wp2_with fail
        go_roundw
        case rel => exact ⟨j + 1, by omega, by go_num, fun i t hi hti => (Nat.lt_succ_iff_lt_or_eq.1 hi).elim (fun hi => HJ.out i t hi hti) (fun he => by subst he; obtain rfl := Option.some.inj (hti.symm.trans HT.out); exact HQ.out), hb⟩
        case measure => simp [intOf]; omega
      case neg =>
        rw [show inR t 0 ((h : Int) - 1) = false from (Bool.not_eq_true _).mp hq] at hc
        have HC := hid hc
        have HQ := hid ((Bool.not_eq_true _).mp hq)
        clear hc hq
        go_wp2_with fail
        refine (HC.out _).mono ?_
        rintro e w2 ⟨rfl, rfl⟩
        go_wp2_with fail
        go_ret
        exact ⟨ret_bool (by rw [HF.out, all_no _ es1 j t HT.out HQ.out]), hb⟩

set_option maxRecDepth 100000 in
set_option maxHeartbeats 4000000 in
theorem spec_l09Frame (bb bo n : Nat) (ab : Option Addr) (cb : Nat) (k1 : Int) (v1 : Int) (ds1 : List Int) (ctk1 : Int) (ctv1 : Int) (ctds1 : List Int) (ctks1 : List Co) (ces1 : List Int) (ads1 : Option Addr) (cds1 : Nat) (actds1 : Option Addr) (cctds1 : Nat) (actks1 : Option Addr) (cctks1 : Nat) (aces1 : Option Addr) (cces1 : Nat) (b1 o1 h : Nat) (w : World) (hn : n ≤ 1048576) (hh : h ≤ 1048576) (hM : Fr.bulk (Fr.mk k1 v1 ds1 (Cl.mk (Co.mk ctk1 ctv1 ctds1 ctks1) ces1)) ≤ 1048576) (xb : w.cell? ⟨bb, bo, none⟩ = some (.slice ab n cb)) (x0 : w.cell? ⟨b1, o1, none⟩ = some (.int .i64 k1)) (x1 : w.cell? ⟨b1, o1 + 1, none⟩ = some (.int .i64 v1)) (x2 : w.cell? ⟨b1, o1 + 2, none⟩ = some (.slice ads1 ds1.length cds1)) (x3 : w.cell? ⟨b1, o1 + 3, none⟩ = some (.int .i64 ctk1)) (x4 : w.cell? ⟨b1, o1 + 4, none⟩ = some (.int .i64 ctv1)) (x5 : w.cell? ⟨b1, o1 + 5, none⟩ = some (.slice actds1 ctds1.length cctds1)) (x6 : w.cell? ⟨b1, o1 + 6, none⟩ = some (.slice actks1 ctks1.length cctks1)) (x7 : w.cell? ⟨b1, o1 + 7, none⟩ = some (.slice aces1 ces1.length cces1)) (hr : RdS w (Fr.d (Fr.mk k1 v1 ds1 (Cl.mk (Co.mk ctk1 ctv1 ctds1 ctks1) ces1))) [.int .i64 k1, .int .i64 v1, .slice ads1 ds1.length cds1, .int .i64 ctk1, .int .i64 ctv1, .slice actds1 ctds1.length cctds1, .slice actks1 ctks1.length cctks1, .slice aces1 ces1.length cces1]) :
    Calls Try.prog 87 #[.pointer (some ⟨bb, bo, none⟩), .pointer (some ⟨b1, o1, none⟩), .int .i64 h] w fun e w' => e = .returned (.bool (frOk n h (Fr.mk k1 v1 ds1 (Cl.mk (Co.mk ctk1 ctv1 ctds1 ctks1) ces1)))) ∧ Below w.heap.size w w' := by
  have hrc := RdS.subFr_c hr
  have hbk : Fr.bulk (Fr.mk k1 v1 ds1 (Cl.mk (Co.mk ctk1 ctv1 ctds1 ctks1) ces1)) = In.bulks ds1 + Cl.bulk (Cl.mk (Co.mk ctk1 ctv1 ctds1 ctks1) ces1) := rfl
  have hdl := In.bulks_length ds1
  have hMc : Cl.bulk (Cl.mk (Co.mk ctk1 ctv1 ctds1 ctks1) ces1) ≤ 1048576 := by omega
  have hds : ds1.length ≤ 1048576 := by omega
  have HCL := hid (spec_l09Closure bb bo n ab cb ctk1 ctv1 ctds1 ctks1 ces1 actds1 cctds1 actks1 cctks1 aces1 cces1 b1 (o1 + 3) h w hn hh hMc xb x3 x4 x5 x6 x7 hrc)
  have HNO := hid (spec_l09NoClosure ctk1 ctv1 ctds1 ctks1 ces1 actds1 cctds1 actks1 cctks1 aces1 cces1 b1 (o1 + 3) w x3 x4 x5 x6 x7 hrc)
  have HDE := hid (spec_l09Defs bb bo n ab cb ds1 ads1 cds1 w hn xb hr.fFr.2.2.1)
  have hdr := hr.fFr.2.2.1.eIn
  clear hr hrc hbk hdl hM hMc x3 x4 x5 x6 x7 xb
  by_cases c3 : k1 = 3
  case pos =>
    have g3 : (k1 == 3) = true := by simp [c3]
    have HE := hid (show frOk n h (Fr.mk k1 v1 ds1 (Cl.mk (Co.mk ctk1 ctv1 ctds1 ctks1) ces1)) = (inR v1 1 6 && (decide (ds1.length = 0) && clOk n h (Cl.mk (Co.mk ctk1 ctv1 ctds1 ctks1) ces1))) by rw [frOk, if_pos c3])
    clear c3 hdr
    by_cases e1 : inR v1 1 6 = true
    case neg =>
      have HF := hid (show frOk n h (Fr.mk k1 v1 ds1 (Cl.mk (Co.mk ctk1 ctv1 ctds1 ctks1) ces1)) = false by rw [HE.out]; simp [e1])
      have E1 := hid ((Bool.not_eq_true _).mp e1)
      clear e1
      go_enter Try.func87, Try.ntmps87
      go_wp2_with fail
      refine (spec_In _ _ _ _).mono ?_
      rw [E1.out]
      rintro e w2 ⟨rfl, rfl⟩
      go_wp2_with fail
      go_ret
      exact ⟨ret_bool HF.out.symm, Below.refl _ _⟩
    case pos =>
    have E1 := hid e1
    by_cases e2 : ds1.length = 0
    case neg =>
      have g2 : ((ds1.length : Int) == 0) = false := by simpa using e2
      have HF := hid (show frOk n h (Fr.mk k1 v1 ds1 (Cl.mk (Co.mk ctk1 ctv1 ctds1 ctks1) ces1)) = false by rw [HE.out]; simp [e2])
      clear e1 e2
      go_enter Try.func87, Try.ntmps87
      go_wp2_with fail
      refine (spec_In _ _ _ _).mono ?_
      rw [E1.out]
      rintro e w2 ⟨rfl, rfl⟩
      go_wp2_with fail
      go_ret
      exact ⟨ret_bool HF.out.symm, Below.refl _ _⟩
    case pos =>
      have g2 : ((ds1.length : Int) == 0) = true := by simpa using e2
      have HF := hid (show frOk n h (Fr.mk k1 v1 ds1 (Cl.mk (Co.mk ctk1 ctv1 ctds1 ctks1) ces1)) = clOk n h (Cl.mk (Co.mk ctk1 ctv1 ctds1 ctks1) ces1) by rw [HE.out]; simp [e1, e2])
      clear e1 e2
      go_enter Try.func87, Try.ntmps87
      go_wp2_with fail
      refine (spec_In _ _ _ _).mono ?_
      rw [E1.out]
      rintro e w2 ⟨rfl, rfl⟩
      go_wp2_with fail
      refine HCL.out.mono ?_
      rintro e w3 ⟨rfl, hb⟩
      have HB := hid hb
      clear hb x0 x1 x2
      go_wp2_with fail
      go_ret
      exact ⟨ret_bool HF.out.symm, HB.out⟩
  case neg =>
  have g3 : (k1 == 3) = false := by simp [c3]
  have HE0 := hid (show frOk n h (Fr.mk k1 v1 ds1 (Cl.mk (Co.mk ctk1 ctv1 ctds1 ctks1) ces1)) = (clNone (Cl.mk (Co.mk ctk1 ctv1 ctds1 ctks1) ces1) && frRest n h k1 v1 ds1) by rw [frOk, if_neg c3])
  clear HCL
  by_cases e0 : clNone (Cl.mk (Co.mk ctk1 ctv1 ctds1 ctks1) ces1) = true
  case neg =>
    have HF := hid (show frOk n h (Fr.mk k1 v1 ds1 (Cl.mk (Co.mk ctk1 ctv1 ctds1 ctks1) ces1)) = false by rw [HE0.out]; simp [e0])
    have E0 := hid ((Bool.not_eq_true _).mp e0)
    clear e0 c3 hdr
    go_enter Try.func87, Try.ntmps87
    go_wp2_with fail
    refine HNO.out.mono ?_
    rw [E0.out]
    rintro e w1 ⟨rfl, rfl⟩
    go_wp2_with fail
    go_ret
    exact ⟨ret_bool HF.out.symm, Below.refl _ _⟩
  case pos =>
  have HE1 := hid (show frOk n h (Fr.mk k1 v1 ds1 (Cl.mk (Co.mk ctk1 ctv1 ctds1 ctks1) ces1)) = frRest n h k1 v1 ds1 by rw [HE0.out, e0]; rfl)
  have E0 := hid e0
  clear e0 c3 HE0
  by_cases c1 : k1 = 1
  case pos =>
    have g1 : (k1 == 1) = true := by simp [c1]
    have HE := hid (show frOk n h (Fr.mk k1 v1 ds1 (Cl.mk (Co.mk ctk1 ctv1 ctds1 ctks1) ces1)) = (inR v1 0 ((h : Int) - 1) && decide (ds1.length = 0)) by rw [HE1.out, frRest, if_pos c1])
    clear c1 hdr
    by_cases e1 : inR v1 0 ((h : Int) - 1) = true
    case neg =>
      have HF := hid (show frOk n h (Fr.mk k1 v1 ds1 (Cl.mk (Co.mk ctk1 ctv1 ctds1 ctks1) ces1)) = false by rw [HE.out]; simp [e1])
      have E1 := hid ((Bool.not_eq_true _).mp e1)
      clear e1
      go_enter Try.func87, Try.ntmps87
      go_wp2_with fail
      refine HNO.out.mono ?_
      rw [E0.out]
      rintro e w1 ⟨rfl, rfl⟩
      go_wp2_with fail
      refine (spec_In _ _ _ _).mono ?_
      rw [E1.out]
      rintro e w2 ⟨rfl, rfl⟩
      go_wp2_with fail
      go_ret
      exact ⟨ret_bool HF.out.symm, Below.refl _ _⟩
    case pos =>
      have E1 := hid e1
      have HF := hid (show frOk n h (Fr.mk k1 v1 ds1 (Cl.mk (Co.mk ctk1 ctv1 ctds1 ctks1) ces1)) = decide (ds1.length = 0) by rw [HE.out, e1]; rfl)
      obtain ⟨bz, gz⟩ : ∃ b, decide (ds1.length = 0) = b := ⟨_, rfl⟩
      have gz2 : ((ds1.length : Int) == 0) = bz := by rw [← gz]; by_cases hz : ds1.length = 0 <;> simp [hz]
      rw [gz] at HF
      clear e1 gz
      go_enter Try.func87, Try.ntmps87
      go_wp2_with fail
      refine HNO.out.mono ?_
      rw [E0.out]
      rintro e w1 ⟨rfl, rfl⟩
      go_wp2_with fail
      refine (spec_In _ _ _ _).mono ?_
      rw [E1.out]
      rintro e w2 ⟨rfl, rfl⟩
      go_wp2_with fail
      go_ret
      exact ⟨ret_bool HF.out.symm, Below.refl _ _⟩
  case neg =>
  have g1 : (k1 == 1) = false := by simp [c1]
  by_cases c2 : k1 = 2
  case pos =>
    have g2 : (k1 == 2) = true := by simp [c2]
    have HE := hid (show frOk n h (Fr.mk k1 v1 ds1 (Cl.mk (Co.mk ctk1 ctv1 ctds1 ctks1) ces1)) = (inR v1 0 ((h : Int) - 1) && decide (ds1.length = 0)) by rw [HE1.out, frRest, if_neg c1, if_pos c2])
    clear c1 c2 hdr
    by_cases e1 : inR v1 0 ((h : Int) - 1) = true
    case neg =>
      have HF := hid (show frOk n h (Fr.mk k1 v1 ds1 (Cl.mk (Co.mk ctk1 ctv1 ctds1 ctks1) ces1)) = false by rw [HE.out]; simp [e1])
      have E1 := hid ((Bool.not_eq_true _).mp e1)
      clear e1
      go_enter Try.func87, Try.ntmps87
      go_wp2_with fail
      refine HNO.out.mono ?_
      rw [E0.out]
      rintro e w1 ⟨rfl, rfl⟩
      go_wp2_with fail
      refine (spec_In _ _ _ _).mono ?_
      rw [E1.out]
      rintro e w2 ⟨rfl, rfl⟩
      go_wp2_with fail
      go_ret
      exact ⟨ret_bool HF.out.symm, Below.refl _ _⟩
    case pos =>
      have E1 := hid e1
      have HF := hid (show frOk n h (Fr.mk k1 v1 ds1 (Cl.mk (Co.mk ctk1 ctv1 ctds1 ctks1) ces1)) = decide (ds1.length = 0) by rw [HE.out, e1]; rfl)
      obtain ⟨bz, gz⟩ : ∃ b, decide (ds1.length = 0) = b := ⟨_, rfl⟩
      have gz2 : ((ds1.length : Int) == 0) = bz := by rw [← gz]; by_cases hz : ds1.length = 0 <;> simp [hz]
      rw [gz] at HF
      clear e1 gz
      go_enter Try.func87, Try.ntmps87
      go_wp2_with fail
      refine HNO.out.mono ?_
      rw [E0.out]
      rintro e w1 ⟨rfl, rfl⟩
      go_wp2_with fail
      refine (spec_In _ _ _ _).mono ?_
      rw [E1.out]
      rintro e w2 ⟨rfl, rfl⟩
      go_wp2_with fail
      go_ret
      exact ⟨ret_bool HF.out.symm, Below.refl _ _⟩
  case neg =>
  have g2 : (k1 == 2) = false := by simp [c2]
  by_cases c4 : k1 = 4
  case pos =>
    have g4 : (k1 == 4) = true := by simp [c4]
    have HE := hid (show frOk n h (Fr.mk k1 v1 ds1 (Cl.mk (Co.mk ctk1 ctv1 ctds1 ctks1) ces1)) = (inR v1 1 6 && (decide (ds1.length = 1) && inR (ds1.headD 0) (-2147483648) 2147483647)) by rw [HE1.out, frRest, if_neg c1, if_neg c2, if_pos c4])
    clear c1 c2 c4
    by_cases e1 : inR v1 1 6 = true
    case neg =>
      have HF := hid (show frOk n h (Fr.mk k1 v1 ds1 (Cl.mk (Co.mk ctk1 ctv1 ctds1 ctks1) ces1)) = false by rw [HE.out]; simp [e1])
      have E1 := hid ((Bool.not_eq_true _).mp e1)
      clear e1 hdr
      go_enter Try.func87, Try.ntmps87
      go_wp2_with fail
      refine HNO.out.mono ?_
      rw [E0.out]
      rintro e w1 ⟨rfl, rfl⟩
      go_wp2_with fail
      refine (spec_In _ _ _ _).mono ?_
      rw [E1.out]
      rintro e w2 ⟨rfl, rfl⟩
      go_wp2_with fail
      go_ret
      exact ⟨ret_bool HF.out.symm, Below.refl _ _⟩
    case pos =>
    have E1 := hid e1
    by_cases e2 : ds1.length = 1
    case neg =>
      have g2 : ((ds1.length : Int) == 1) = false := by simp; omega
      have HF := hid (show frOk n h (Fr.mk k1 v1 ds1 (Cl.mk (Co.mk ctk1 ctv1 ctds1 ctks1) ces1)) = false by rw [HE.out]; simp [e2])
      clear e1 e2 hdr
      go_enter Try.func87, Try.ntmps87
      go_wp2_with fail
      refine HNO.out.mono ?_
      rw [E0.out]
      rintro e w1 ⟨rfl, rfl⟩
      go_wp2_with fail
      refine (spec_In _ _ _ _).mono ?_
      rw [E1.out]
      rintro e w2 ⟨rfl, rfl⟩
      go_wp2_with fail
      go_ret
      exact ⟨ret_bool HF.out.symm, Below.refl _ _⟩
    case pos =>
      have g2 : ((ds1.length : Int) == 1) = true := by simp; omega
      obtain ⟨_, _, e, h2, h3, h4⟩ := hdr
      simp only [Value.slice.injEq, true_and] at e
      obtain ⟨rfl, rfl⟩ := e
      obtain ⟨b, o, rfl, hbl, hall⟩ := h4 (by omega)
      obtain ⟨t, ht⟩ : ∃ t, ds1[0]? = some t := ⟨_, List.getElem?_eq_getElem (by omega)⟩
      have q0 := (hall 0 t ht).1
      rw [Nat.add_zero] at q0
      have hth : ds1.headD 0 = t := by cases ds1 with | nil => simp at ht | cons a l => simpa using ht
      have HF := hid (show frOk n h (Fr.mk k1 v1 ds1 (Cl.mk (Co.mk ctk1 ctv1 ctds1 ctks1) ces1)) = inR t (-2147483648) 2147483647 by rw [HE.out, hth]; simp [e1, e2])
      have hl0 : (0 : Int) < ds1.length := by omega
      have hl1 : 0 < ds1.length := by omega
      clear e1 e2 h4 hall ht hth h2 h3
      go_enter Try.func87, Try.ntmps87
      go_wp2_with fail
      refine HNO.out.mono ?_
      rw [E0.out]
      rintro e w1 ⟨rfl, rfl⟩
      go_wp2_with fail
      refine (spec_In _ _ _ _).mono ?_
      rw [E1.out]
      rintro e w2 ⟨rfl, rfl⟩
      go_wp2_with fail
      refine (spec_In _ _ _ _).mono ?_
      rintro e w3 ⟨rfl, rfl⟩
      go_wp2_with fail
      go_ret
      exact ⟨ret_bool HF.out.symm, Below.refl _ _⟩
  case neg =>
  have g4 : (k1 == 4) = false := by simp [c4]
  by_cases c5 : k1 = 5
  case pos =>
    have g5 : (k1 == 5) = true := by simp [c5]
    have HE := hid (show frOk n h (Fr.mk k1 v1 ds1 (Cl.mk (Co.mk ctk1 ctv1 ctds1 ctks1) ces1)) = (decide (v1 = 0) && (inR ds1.length 1 4 && ds1.all (upTo n))) by rw [HE1.out, frRest, if_neg c1, if_neg c2, if_neg c4, if_pos c5])
    clear c1 c2 c4 c5 hdr
    by_cases e1 : v1 = 0
    case neg =>
      have g1v : (v1 == 0) = false := by simp [e1]
      have HF := hid (show frOk n h (Fr.mk k1 v1 ds1 (Cl.mk (Co.mk ctk1 ctv1 ctds1 ctks1) ces1)) = false by rw [HE.out]; simp [e1])
      clear e1
      go_enter Try.func87, Try.ntmps87
      go_wp2_with fail
      refine HNO.out.mono ?_
      rw [E0.out]
      rintro e w1 ⟨rfl, rfl⟩
      go_wp2_with fail
      go_ret
      exact ⟨ret_bool HF.out.symm, Below.refl _ _⟩
    case pos =>
    have g1v : (v1 == 0) = true := by simp [e1]
    by_cases e2 : inR ds1.length 1 4 = true
    case neg =>
      have HF := hid (show frOk n h (Fr.mk k1 v1 ds1 (Cl.mk (Co.mk ctk1 ctv1 ctds1 ctks1) ces1)) = false by rw [HE.out]; simp [e2])
      have E1 := hid ((Bool.not_eq_true _).mp e2)
      clear e1 e2
      go_enter Try.func87, Try.ntmps87
      go_wp2_with fail
      refine HNO.out.mono ?_
      rw [E0.out]
      rintro e w1 ⟨rfl, rfl⟩
      go_wp2_with fail
      refine (spec_In _ _ _ _).mono ?_
      rw [E1.out]
      rintro e w2 ⟨rfl, rfl⟩
      go_wp2_with fail
      go_ret
      exact ⟨ret_bool HF.out.symm, Below.refl _ _⟩
    case pos =>
      have HF := hid (show frOk n h (Fr.mk k1 v1 ds1 (Cl.mk (Co.mk ctk1 ctv1 ctds1 ctks1) ces1)) = ds1.all (upTo n) by rw [HE.out]; simp [e1, e2])
      have E1 := hid e2
      clear e1 e2
      go_enter Try.func87, Try.ntmps87
      go_wp2_with fail
      refine HNO.out.mono ?_
      rw [E0.out]
      rintro e w1 ⟨rfl, rfl⟩
      go_wp2_with fail
      refine (spec_In _ _ _ _).mono ?_
      rw [E1.out]
      rintro e w2 ⟨rfl, rfl⟩
      go_wp2_with fail
      refine HDE.out.mono ?_
      rintro e w3 ⟨rfl, hb⟩
      have HB := hid hb
      clear hb x0 x1 x2
      go_wp2_with fail
      go_ret
      exact ⟨ret_bool HF.out.symm, HB.out⟩
  case neg =>
  have g5 : (k1 == 5) = false := by simp [c5]
  by_cases c6 : k1 = 6
  case pos =>
    have g6 : (k1 == 6) = true := by simp [c6]
    have HE := hid (show frOk n h (Fr.mk k1 v1 ds1 (Cl.mk (Co.mk ctk1 ctv1 ctds1 ctks1) ces1)) = (decide (v1 = 0) && (decide (ds1.length = 2) && ds1.all (upTo n))) by rw [HE1.out, frRest, if_neg c1, if_neg c2, if_neg c4, if_neg c5, if_pos c6])
    clear c1 c2 c4 c5 c6 hdr
    by_cases e1 : v1 = 0
    case neg =>
      have g1v : (v1 == 0) = false := by simp [e1]
      have HF := hid (show frOk n h (Fr.mk k1 v1 ds1 (Cl.mk (Co.mk ctk1 ctv1 ctds1 ctks1) ces1)) = false by rw [HE.out]; simp [e1])
      clear e1
      go_enter Try.func87, Try.ntmps87
      go_wp2_with fail
      refine HNO.out.mono ?_
      rw [E0.out]
      rintro e w1 ⟨rfl, rfl⟩
      go_wp2_with fail
      go_ret
      exact ⟨ret_bool HF.out.symm, Below.refl _ _⟩
    case pos =>
    have g1v : (v1 == 0) = true := by simp [e1]
    by_cases e2 : ds1.length = 2
    case neg =>
      have g2 : ((ds1.length : Int) == 2) = false := by simp; omega
      have HF := hid (show frOk n h (Fr.mk k1 v1 ds1 (Cl.mk (Co.mk ctk1 ctv1 ctds1 ctks1) ces1)) = false by rw [HE.out]; simp [e2])
      clear e1 e2
      go_enter Try.func87, Try.ntmps87
      go_wp2_with fail
      refine HNO.out.mono ?_
      rw [E0.out]
      rintro e w1 ⟨rfl, rfl⟩
      go_wp2_with fail
      go_ret
      exact ⟨ret_bool HF.out.symm, Below.refl _ _⟩
    case pos =>
      have g2 : ((ds1.length : Int) == 2) = true := by simp; omega
      have HF := hid (show frOk n h (Fr.mk k1 v1 ds1 (Cl.mk (Co.mk ctk1 ctv1 ctds1 ctks1) ces1)) = ds1.all (upTo n) by rw [HE.out]; simp [e1, e2])
      clear e1 e2
      go_enter Try.func87, Try.ntmps87
      go_wp2_with fail
      refine HNO.out.mono ?_
      rw [E0.out]
      rintro e w1 ⟨rfl, rfl⟩
      go_wp2_with fail
      refine HDE.out.mono ?_
      rintro e w3 ⟨rfl, hb⟩
      have HB := hid hb
      clear hb x0 x1 x2
      go_wp2_with fail
      go_ret
      exact ⟨ret_bool HF.out.symm, HB.out⟩
  case neg =>
    have g6 : (k1 == 6) = false := by simp [c6]
    have HF := hid (show frOk n h (Fr.mk k1 v1 ds1 (Cl.mk (Co.mk ctk1 ctv1 ctds1 ctks1) ces1)) = false by rw [HE1.out, frRest, if_neg c1, if_neg c2, if_neg c4, if_neg c5, if_neg c6])
    clear c1 c2 c4 c5 c6 hdr
    go_enter Try.func87, Try.ntmps87
    go_wp2_with fail
    refine HNO.out.mono ?_
    rw [E0.out]
    rintro e w1 ⟨rfl, rfl⟩
    go_wp2_with fail
    go_ret
    exact ⟨ret_bool HF.out.symm, Below.refl _ _⟩
end Go.Proofs.Ytlbebnmhldolnaa
