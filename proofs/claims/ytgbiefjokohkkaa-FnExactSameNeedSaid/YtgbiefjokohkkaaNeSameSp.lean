/- Walks: SameNeed, in the reference. -/
import Derived.Test.YtgbiefjokohkkaaNeSame
import Derived.BigQuiet
import Derived.Lib.QuietBelow
namespace Go.Proofs.Ytgbiefjokohkkaa
open Go.ChangeShapes Go.WideShapes Go.ChangeAt Go.RowKit Go.BigFrame
open Go.Sort (grow)
set_option linter.unusedVariables false

set_option maxHeartbeats 1000000 in
theorem spec_l09SameClosure (tk1 : Int) (tv1 : Int) (tds1 : List Int) (tks1 : List Co) (es1 : List Int) (atds1 : Option Addr) (ctds1 : Nat) (atks1 : Option Addr) (ctks1 : Nat) (aes1 : Option Addr) (ces1 : Nat) (tk2 : Int) (tv2 : Int) (tds2 : List Int) (tks2 : List Co) (es2 : List Int) (atds2 : Option Addr) (ctds2 : Nat) (atks2 : Option Addr) (ctks2 : Nat) (aes2 : Option Addr) (ces2 : Nat) (b1 o1 b2 o2 : Nat) (w : World) (x0 : w.cell? ⟨b1, o1, none⟩ = some (.int .i64 tk1)) (x1 : w.cell? ⟨b1, o1 + 1, none⟩ = some (.int .i64 tv1)) (x2 : w.cell? ⟨b1, o1 + 2, none⟩ = some (.slice atds1 tds1.length ctds1)) (x3 : w.cell? ⟨b1, o1 + 3, none⟩ = some (.slice atks1 tks1.length ctks1)) (x4 : w.cell? ⟨b1, o1 + 4, none⟩ = some (.slice aes1 es1.length ces1)) (y0 : w.cell? ⟨b2, o2, none⟩ = some (.int .i64 tk2)) (y1 : w.cell? ⟨b2, o2 + 1, none⟩ = some (.int .i64 tv2)) (y2 : w.cell? ⟨b2, o2 + 2, none⟩ = some (.slice atds2 tds2.length ctds2)) (y3 : w.cell? ⟨b2, o2 + 3, none⟩ = some (.slice atks2 tks2.length ctks2)) (y4 : w.cell? ⟨b2, o2 + 4, none⟩ = some (.slice aes2 es2.length ces2)) (hr : RdS w (Cl.d (Cl.mk (Co.mk tk1 tv1 tds1 tks1) es1)) [.int .i64 tk1, .int .i64 tv1, .slice atds1 tds1.length ctds1, .slice atks1 tks1.length ctks1, .slice aes1 es1.length ces1]) (hr' : RdS w (Cl.d (Cl.mk (Co.mk tk2 tv2 tds2 tks2) es2)) [.int .i64 tk2, .int .i64 tv2, .slice atds2 tds2.length ctds2, .slice atks2 tks2.length ctks2, .slice aes2 es2.length ces2]) :
    Calls Try.prog 119 #[.pointer (some ⟨b1, o1, none⟩), .pointer (some ⟨b2, o2, none⟩)] w fun e w' => e = .returned (.bool (Cl.eqb (Cl.mk (Co.mk tk1 tv1 tds1 tks1) es1) (Cl.mk (Co.mk tk2 tv2 tds2 tks2) es2))) ∧ Below w.heap.size w w' := by
  have HE := hid (show Cl.eqb (Cl.mk (Co.mk tk1 tv1 tds1 tks1) es1) (Cl.mk (Co.mk tk2 tv2 tds2 tks2) es2) = (Co.eqb (Co.mk tk1 tv1 tds1 tks1) (Co.mk tk2 tv2 tds2 tks2) && decide (es1 = es2)) from rfl)
  have hc0 := fun d os => Calls.regrown_of (spec_l06Same tk1 tv1 tds1 tks1 atds1 ctds1 atks1 ctks1 tk2 tv2 tds2 tks2 atds2 ctds2 atks2 ctks2 b1 o1 b2 o2 (grow (redrawn w d) os) (cell_regrown x0 d os) (cell_regrown x1 d os) (cell_regrown x2 d os) (cell_regrown x3 d os) (cell_regrown y0 d os) (cell_regrown y1 d os) (cell_regrown y2 d os) (cell_regrown y3 d os) (hr.subCl_t.below (below_regrown w d os)) (hr'.subCl_t.below (below_regrown w d os)))
  have hc1 := fun d os => Calls.regrown_of (spec_sameIn es1 es2 aes1 aes2 ces1 ces2 (grow (redrawn w d) os) (hr.fCl.2.below (below_regrown w d os)) (hr'.fCl.2.below (below_regrown w d os)))
  have e0 := cell_regrown x0
  have d0 := cell_regrown y0
  have e1 := cell_regrown x1
  have d1 := cell_regrown y1
  have e2 := cell_regrown x2
  have d2 := cell_regrown y2
  have e3 := cell_regrown x3
  have d3 := cell_regrown y3
  have e4 := cell_regrown x4
  have d4 := cell_regrown y4
  clear hr hr' x0 y0 x1 y1 x2 y2 x3 y3 x4 y4
  by_cases h0 : (Co.eqb (Co.mk tk1 tv1 tds1 tks1) (Co.mk tk2 tv2 tds2 tks2)) = true
  case neg =>
    replace h0 := (Bool.not_eq_true _).mp h0
    have HF := hid (show Cl.eqb (Cl.mk (Co.mk tk1 tv1 tds1 tks1) es1) (Cl.mk (Co.mk tk2 tv2 tds2 tks2) es2) = false by rw [HE.out, h0]; rfl)
    rw [h0] at hc0
    have HC0 := hid hc0
    clear hc0 hc1 h0 HE
    go_enter Try.func119, Try.ntmps119
    go_wp2_with fail
    refine wp_region_quiet_below (by kernel_rfl) (by kernel_rfl) ?_
    repeat (go_big_quiet_step (exact HC0.out _ _))
    refine wpQuiet_nil ?_
    intro _ hw'
    obtain ⟨⟨dq, osq⟩, hw''⟩ := hw'
    subst hw''
    have hbq := below_regrown w dq osq
    clear e0 d0 e1 d1 e2 d2 e3 d3 e4 d4
    go_wp2_with fail
    go_ret
    exact ⟨ret_bool HF.out.symm, hbq⟩
  case pos =>
    have HF := hid (show Cl.eqb (Cl.mk (Co.mk tk1 tv1 tds1 tks1) es1) (Cl.mk (Co.mk tk2 tv2 tds2 tks2) es2) = decide (es1 = es2) by rw [HE.out, h0]; rfl)
    rw [h0] at hc0
    have HC0 := hid hc0
    have HC1 := hid hc1
    clear hc0 hc1 h0 HE
    go_enter Try.func119, Try.ntmps119
    go_wp2_with fail
    refine wp_region_quiet_below (by kernel_rfl) (by kernel_rfl) ?_
    repeat (go_big_quiet_step (first | exact HC0.out _ _ | exact HC1.out _ _))
    refine wpQuiet_nil ?_
    intro _ hw'
    obtain ⟨⟨dq, osq⟩, hw''⟩ := hw'
    subst hw''
    have hbq := below_regrown w dq osq
    clear e0 d0 e1 d1 e2 d2 e3 d3 e4 d4
    go_wp2_with fail
    go_ret
    exact ⟨ret_bool HF.out.symm, hbq⟩

set_option maxRecDepth 100000 in
set_option maxHeartbeats 4000000 in
theorem spec_l09Same (ctk1 : Int) (ctv1 : Int) (ctds1 : List Int) (ctks1 : List Co) (ces1 : List Int) (ss1 : List Fr) (hs1 : List Th) (actds1 : Option Addr) (cctds1 : Nat) (actks1 : Option Addr) (cctks1 : Nat) (aces1 : Option Addr) (cces1 : Nat) (ass1 : Option Addr) (css1 : Nat) (ahs1 : Option Addr) (chs1 : Nat) (ctk2 : Int) (ctv2 : Int) (ctds2 : List Int) (ctks2 : List Co) (ces2 : List Int) (ss2 : List Fr) (hs2 : List Th) (actds2 : Option Addr) (cctds2 : Nat) (actks2 : Option Addr) (cctks2 : Nat) (aces2 : Option Addr) (cces2 : Nat) (ass2 : Option Addr) (css2 : Nat) (ahs2 : Option Addr) (chs2 : Nat) (b1 o1 b2 o2 : Nat) (w : World) (x0 : w.cell? ⟨b1, o1, none⟩ = some (.int .i64 ctk1)) (x1 : w.cell? ⟨b1, o1 + 1, none⟩ = some (.int .i64 ctv1)) (x2 : w.cell? ⟨b1, o1 + 2, none⟩ = some (.slice actds1 ctds1.length cctds1)) (x3 : w.cell? ⟨b1, o1 + 3, none⟩ = some (.slice actks1 ctks1.length cctks1)) (x4 : w.cell? ⟨b1, o1 + 4, none⟩ = some (.slice aces1 ces1.length cces1)) (x5 : w.cell? ⟨b1, o1 + 5, none⟩ = some (.slice ass1 ss1.length css1)) (x6 : w.cell? ⟨b1, o1 + 6, none⟩ = some (.slice ahs1 hs1.length chs1)) (y0 : w.cell? ⟨b2, o2, none⟩ = some (.int .i64 ctk2)) (y1 : w.cell? ⟨b2, o2 + 1, none⟩ = some (.int .i64 ctv2)) (y2 : w.cell? ⟨b2, o2 + 2, none⟩ = some (.slice actds2 ctds2.length cctds2)) (y3 : w.cell? ⟨b2, o2 + 3, none⟩ = some (.slice actks2 ctks2.length cctks2)) (y4 : w.cell? ⟨b2, o2 + 4, none⟩ = some (.slice aces2 ces2.length cces2)) (y5 : w.cell? ⟨b2, o2 + 5, none⟩ = some (.slice ass2 ss2.length css2)) (y6 : w.cell? ⟨b2, o2 + 6, none⟩ = some (.slice ahs2 hs2.length chs2)) (hr : RdS w (Ne.d (Ne.mk (Cl.mk (Co.mk ctk1 ctv1 ctds1 ctks1) ces1) ss1 hs1)) [.int .i64 ctk1, .int .i64 ctv1, .slice actds1 ctds1.length cctds1, .slice actks1 ctks1.length cctks1, .slice aces1 ces1.length cces1, .slice ass1 ss1.length css1, .slice ahs1 hs1.length chs1]) (hr' : RdS w (Ne.d (Ne.mk (Cl.mk (Co.mk ctk2 ctv2 ctds2 ctks2) ces2) ss2 hs2)) [.int .i64 ctk2, .int .i64 ctv2, .slice actds2 ctds2.length cctds2, .slice actks2 ctks2.length cctks2, .slice aces2 ces2.length cces2, .slice ass2 ss2.length css2, .slice ahs2 hs2.length chs2]) :
    Calls Try.prog 80 #[.pointer (some ⟨b1, o1, none⟩), .pointer (some ⟨b2, o2, none⟩)] w fun e w' => e = .returned (.bool (Ne.eqb (Ne.mk (Cl.mk (Co.mk ctk1 ctv1 ctds1 ctks1) ces1) ss1 hs1) (Ne.mk (Cl.mk (Co.mk ctk2 ctv2 ctds2 ctks2) ces2) ss2 hs2))) ∧ Below w.heap.size w w' := by
  have HE := hid (show Ne.eqb (Ne.mk (Cl.mk (Co.mk ctk1 ctv1 ctds1 ctks1) ces1) ss1 hs1) (Ne.mk (Cl.mk (Co.mk ctk2 ctv2 ctds2 ctks2) ces2) ss2 hs2) = (Cl.eqb (Cl.mk (Co.mk ctk1 ctv1 ctds1 ctks1) ces1) (Cl.mk (Co.mk ctk2 ctv2 ctds2 ctks2) ces2) && (eqBy Fr.eqb ss1 ss2 && eqBy Th.eqb hs1 hs2)) from rfl)
  obtain ⟨_, _, e, h2, h3, s4⟩ := hr.fNe.2.1.eFr
  simp only [Value.slice.injEq, true_and] at e
  obtain ⟨rfl, rfl⟩ := e
  have S4 := hid s4
  have nss1 := Nat.le_trans h2 h3
  clear s4 h2 h3
  obtain ⟨_, _, e, h2, h3, s4'⟩ := hr'.fNe.2.1.eFr
  simp only [Value.slice.injEq, true_and] at e
  obtain ⟨rfl, rfl⟩ := e
  have S4' := hid s4'
  have nss2 := Nat.le_trans h2 h3
  clear s4' h2 h3
  obtain ⟨_, _, e, h2, h3, h4⟩ := hr.fNe.2.2.eTh
  simp only [Value.slice.injEq, true_and] at e
  obtain ⟨rfl, rfl⟩ := e
  have H4 := hid h4
  have nhs1 := Nat.le_trans h2 h3
  clear h4 h2 h3
  obtain ⟨_, _, e, h2, h3, h4'⟩ := hr'.fNe.2.2.eTh
  simp only [Value.slice.injEq, true_and] at e
  obtain ⟨rfl, rfl⟩ := e
  have H4' := hid h4'
  have nhs2 := Nat.le_trans h2 h3
  clear h4' h2 h3
  have hc0 := fun d os => Calls.regrown_of (spec_l09SameClosure ctk1 ctv1 ctds1 ctks1 ces1 actds1 cctds1 actks1 cctks1 aces1 cces1 ctk2 ctv2 ctds2 ctks2 ces2 actds2 cctds2 actks2 cctks2 aces2 cces2 b1 o1 b2 o2 (grow (redrawn w d) os) (cell_regrown x0 d os) (cell_regrown x1 d os) (cell_regrown x2 d os) (cell_regrown x3 d os) (cell_regrown x4 d os) (cell_regrown y0 d os) (cell_regrown y1 d os) (cell_regrown y2 d os) (cell_regrown y3 d os) (cell_regrown y4 d os) (hr.subNe_c.below (below_regrown w d os)) (hr'.subNe_c.below (below_regrown w d os)))
  have X5 := hid x5
  have Y5 := hid y5
  have X6 := hid x6
  have Y6 := hid y6
  have XL := hid (World.block_lt_of_cell? _ _ x5)
  have YL := hid (World.block_lt_of_cell? _ _ y5)
  have e5 := cell_regrown x5
  have d5 := cell_regrown y5
  have e6 := cell_regrown x6
  have d6 := cell_regrown y6
  clear hr hr' x0 y0 x1 y1 x2 y2 x3 y3 x4 y4 x5 y5 x6 y6
  by_cases h0 : (Cl.eqb (Cl.mk (Co.mk ctk1 ctv1 ctds1 ctks1) ces1) (Cl.mk (Co.mk ctk2 ctv2 ctds2 ctks2) ces2)) = true
  case neg =>
    replace h0 := (Bool.not_eq_true _).mp h0
    have HF := hid (show Ne.eqb (Ne.mk (Cl.mk (Co.mk ctk1 ctv1 ctds1 ctks1) ces1) ss1 hs1) (Ne.mk (Cl.mk (Co.mk ctk2 ctv2 ctds2 ctks2) ces2) ss2 hs2) = false by rw [HE.out, h0]; rfl)
    rw [h0] at hc0
    have HC0 := hid hc0
    clear hc0 h0 HE S4 S4' H4 H4'
    go_enter Try.func80, Try.ntmps80
    go_wp2_with fail
    refine wp_region_quiet_below (by kernel_rfl) (by kernel_rfl) ?_
    repeat (go_big_quiet_step (exact HC0.out _ _))
    refine wpQuiet_nil ?_
    intro _ hw'
    obtain ⟨⟨dq, osq⟩, hw''⟩ := hw'
    subst hw''
    have hbq := below_regrown w dq osq
    clear e5 d5 e6 d6 HC0
    go_wp2_with fail
    go_ret
    exact ⟨ret_bool HF.out.symm, hbq⟩
  case pos =>
  rw [h0] at hc0
  have HC0 := hid hc0
  have HE1 := hid (show Ne.eqb (Ne.mk (Cl.mk (Co.mk ctk1 ctv1 ctds1 ctks1) ces1) ss1 hs1) (Ne.mk (Cl.mk (Co.mk ctk2 ctv2 ctds2 ctks2) ces2) ss2 hs2) = (eqBy Fr.eqb ss1 ss2 && eqBy Th.eqb hs1 hs2) by rw [HE.out, h0]; rfl)
  clear hc0 h0 HE
  by_cases lss : ss1.length = ss2.length
  case neg =>
    have HF := hid (show Ne.eqb (Ne.mk (Cl.mk (Co.mk ctk1 ctv1 ctds1 ctks1) ces1) ss1 hs1) (Ne.mk (Cl.mk (Co.mk ctk2 ctv2 ctds2 ctks2) ces2) ss2 hs2) = false by rw [HE1.out, eqBy_len Fr.eqb ss1 ss2 lss]; simp)
    have bss : ((ss1.length : Int) != (ss2.length : Int)) = true := by simp; omega
    clear lss HE1 S4 S4' H4 H4'
    go_enter Try.func80, Try.ntmps80
    go_wp2_with fail
    refine wp_region_quiet_below (by kernel_rfl) (by kernel_rfl) ?_
    repeat (go_big_quiet_step (exact HC0.out _ _))
    refine wpQuiet_nil ?_
    intro _ hw'
    obtain ⟨⟨dq, osq⟩, hw''⟩ := hw'
    subst hw''
    have hbq := below_regrown w dq osq
    clear e5 d5 e6 d6 HC0
    go_wp2_with fail
    go_ret
    exact ⟨ret_bool HF.out.symm, hbq⟩
  case pos =>
  have bss : ((ss1.length : Int) != (ss2.length : Int)) = false := by simp [lss]
  have Lss := hid lss
  by_cases lhs : hs1.length = hs2.length
  case neg =>
    have HF := hid (show Ne.eqb (Ne.mk (Cl.mk (Co.mk ctk1 ctv1 ctds1 ctks1) ces1) ss1 hs1) (Ne.mk (Cl.mk (Co.mk ctk2 ctv2 ctds2 ctks2) ces2) ss2 hs2) = false by rw [HE1.out, eqBy_len Th.eqb hs1 hs2 lhs]; simp)
    have bhs : ((hs1.length : Int) != (hs2.length : Int)) = true := by simp; omega
    clear lhs HE1 S4 S4' H4 H4' lss
    go_enter Try.func80, Try.ntmps80
    go_wp2_with fail
    refine wp_region_quiet_below (by kernel_rfl) (by kernel_rfl) ?_
    repeat (go_big_quiet_step (exact HC0.out _ _))
    refine wpQuiet_nil ?_
    intro _ hw'
    obtain ⟨⟨dq, osq⟩, hw''⟩ := hw'
    subst hw''
    have hbq := below_regrown w dq osq
    clear e5 d5 e6 d6 HC0
    go_wp2_with fail
    go_ret
    exact ⟨ret_bool HF.out.symm, hbq⟩
  case pos =>
  have bhs : ((hs1.length : Int) != (hs2.length : Int)) = false := by simp [lhs]
  have Lhs := hid lhs
  clear lss lhs
  go_enter Try.func80, Try.ntmps80
  go_wp2_with fail
  refine wp_region_quiet_below (by kernel_rfl) (by kernel_rfl) ?_
  repeat (go_big_quiet_step (exact HC0.out _ _))
  refine wpQuiet_nil ?_
  intro _ hw'
  obtain ⟨⟨dq, osq⟩, hw''⟩ := hw'
  subst hw''
  have hbq := below_regrown w dq osq
  clear e5 d5 e6 d6 HC0
  go_wp2_with fail
  go_loopw [5, 6, 7] (fun i _ _ wr => ∃ (j : Nat), j ≤ ss1.length ∧ i = .int .i64 j ∧ Hid (∀ (i : Nat) t u, i < j → ss1[i]? = some t → ss2[i]? = some u → Fr.eqb t u = true) ∧ Below w.heap.size w wr) (fun i _ _ _ => ss1.length - (intOf i).toNat)
  case atStart => exact ⟨0, by omega, rfl, fun i t u hi => absurd hi (by omega), hbq⟩
  case round =>
    obtain ⟨j, hj, rfl, HJss, hb⟩ := hrel
    have z5 := (hb.cell (p := ⟨b1, o1 + 5, none⟩) XL.out).trans X5.out
    have v5 := (hb.cell (p := ⟨b2, o2 + 5, none⟩) YL.out).trans Y5.out
    have z6 := (hb.cell (p := ⟨b1, o1 + 6, none⟩) XL.out).trans X6.out
    have v6 := (hb.cell (p := ⟨b2, o2 + 6, none⟩) YL.out).trans Y6.out
    by_cases hlt : j < ss1.length
    case pos =>
      have hlt' : j < ss2.length := by have := Lss.out; omega
      obtain ⟨b, o, rfl, hbl, hall⟩ := S4.out (by omega)
      obtain ⟨b', o', rfl, hbl', hall'⟩ := S4'.out (by omega)
      obtain ⟨t, ht⟩ : ∃ t, ss1[j]? = some t := ⟨_, List.getElem?_eq_getElem hlt⟩
      obtain ⟨t', ht'⟩ : ∃ t, ss2[j]? = some t := ⟨_, List.getElem?_eq_getElem hlt'⟩
      obtain ⟨k3, v3, ds3, ⟨⟨ctk3, ctv3, ctds3, ctks3⟩, ces3⟩⟩ := t
      obtain ⟨k4, v4, ds4, ⟨⟨ctk4, ctv4, ctds4, ctks4⟩, ces4⟩⟩ := t'
      obtain ⟨ads3, cds3, actds3, cctds3, actks3, cctks3, aces3, cces3, q0, q1, q2, q3, q4, q5, q6, q7, hrk⟩ := hall j k3 v3 ds3 ctk3 ctv3 ctds3 ctks3 ces3 ht
      obtain ⟨ads4, cds4, actds4, cctds4, actks4, cctks4, aces4, cces4, p0, p1, p2, p3, p4, p5, p6, p7, hrk'⟩ := hall' j k4 v4 ds4 ctk4 ctv4 ctds4 ctks4 ces4 ht'
      clear hall hall' S4 S4'
      have qr0 := cell_regrown ((hb.cell (p := ⟨b, o + j * 8, none⟩) hbl).trans q0)
      have qr1 := cell_regrown ((hb.cell (p := ⟨b, o + j * 8 + 1, none⟩) hbl).trans q1)
      have qr2 := cell_regrown ((hb.cell (p := ⟨b, o + j * 8 + 2, none⟩) hbl).trans q2)
      have qr3 := cell_regrown ((hb.cell (p := ⟨b, o + j * 8 + 3, none⟩) hbl).trans q3)
      have qr4 := cell_regrown ((hb.cell (p := ⟨b, o + j * 8 + 4, none⟩) hbl).trans q4)
      have qr5 := cell_regrown ((hb.cell (p := ⟨b, o + j * 8 + 5, none⟩) hbl).trans q5)
      have qr6 := cell_regrown ((hb.cell (p := ⟨b, o + j * 8 + 6, none⟩) hbl).trans q6)
      have qr7 := cell_regrown ((hb.cell (p := ⟨b, o + j * 8 + 7, none⟩) hbl).trans q7)
      have pr0 := cell_regrown ((hb.cell (p := ⟨b', o' + j * 8, none⟩) hbl').trans p0)
      have pr1 := cell_regrown ((hb.cell (p := ⟨b', o' + j * 8 + 1, none⟩) hbl').trans p1)
      have pr2 := cell_regrown ((hb.cell (p := ⟨b', o' + j * 8 + 2, none⟩) hbl').trans p2)
      have pr3 := cell_regrown ((hb.cell (p := ⟨b', o' + j * 8 + 3, none⟩) hbl').trans p3)
      have pr4 := cell_regrown ((hb.cell (p := ⟨b', o' + j * 8 + 4, none⟩) hbl').trans p4)
      have pr5 := cell_regrown ((hb.cell (p := ⟨b', o' + j * 8 + 5, none⟩) hbl').trans p5)
      have pr6 := cell_regrown ((hb.cell (p := ⟨b', o' + j * 8 + 6, none⟩) hbl').trans p6)
      have pr7 := cell_regrown ((hb.cell (p := ⟨b', o' + j * 8 + 7, none⟩) hbl').trans p7)
      have zr5 := cell_regrown z5
      have vr5 := cell_regrown v5
      have HT := hid ht
      have HT' := hid ht'
      have HE3 := hid (show Fr.eqb (Fr.mk k3 v3 ds3 (Cl.mk (Co.mk ctk3 ctv3 ctds3 ctks3) ces3)) (Fr.mk k4 v4 ds4 (Cl.mk (Co.mk ctk4 ctv4 ctds4 ctks4) ces4)) = (decide (k3 = k4) && (decide (v3 = v4) && (decide (ds3 = ds4) && Cl.eqb (Cl.mk (Co.mk ctk3 ctv3 ctds3 ctks3) ces3) (Cl.mk (Co.mk ctk4 ctv4 ctds4 ctks4) ces4)))) from rfl)
      have hk0 := fun d os => Calls.regrown_of (spec_sameIn ds3 ds4 ads3 ads4 cds3 cds4 (grow (redrawn wr d) os) ((hrk.fFr.2.2.1.below hb).below (below_regrown wr d os)) ((hrk'.fFr.2.2.1.below hb).below (below_regrown wr d os)))
      have HK0 := hid hk0
      clear hk0
      have hk1 := fun d os => Calls.regrown_of (spec_l09SameClosure ctk3 ctv3 ctds3 ctks3 ces3 actds3 cctds3 actks3 cctks3 aces3 cces3 ctk4 ctv4 ctds4 ctks4 ces4 actds4 cctds4 actks4 cctks4 aces4 cces4 b (o + j * 8 + 3) b' (o' + j * 8 + 3) (grow (redrawn wr d) os) (qr3 d os) (qr4 d os) (qr5 d os) (qr6 d os) (qr7 d os) (pr3 d os) (pr4 d os) (pr5 d os) (pr6 d os) (pr7 d os) ((hrk.subFr_c.below hb).below (below_regrown wr d os)) ((hrk'.subFr_c.below hb).below (below_regrown wr d os)))
      have HK1 := hid hk1
      clear hk1
      clear ht ht' hrk hrk' q0 p0 q1 p1 q2 p2 q3 p3 q4 p4 q5 p5 q6 p6 q7 p7
      by_cases u0 : k3 = k4
      case neg =>
        have HQ := hid (show Fr.eqb (Fr.mk k3 v3 ds3 (Cl.mk (Co.mk ctk3 ctv3 ctds3 ctks3) ces3)) (Fr.mk k4 v4 ds4 (Cl.mk (Co.mk ctk4 ctv4 ctds4 ctks4) ces4)) = false by rw [HE3.out]; simp [u0])
        have ub0 : ((k3 != k4)) = true := by simp [u0]
        clear HE3 u0
        go_wp2_with fail
        refine wp_region_quiet_below (by kernel_rfl) (by kernel_rfl) ?_
        repeat (go_big_quiet_step (first | exact HK0.out _ _ | exact HK1.out _ _))
        refine wpQuiet_nil ?_
        intro _ hw'
        obtain ⟨⟨dq, osq⟩, hw''⟩ := hw'
        subst hw''
        have hbw := hb.trans ((below_regrown wr dq osq).mono hb.size)
        clear zr5 vr5 z5 v5 z6 v6 qr0 pr0 qr1 pr1 qr2 pr2 qr3 pr3 qr4 pr4 qr5 pr5 qr6 pr6 qr7 pr7
        go_wp2_with fail
        go_ret
        exact ⟨ret_bool (by rw [HE1.out, eqBy_no Fr.eqb ss1 ss2 j _ _ HT.out HT'.out HQ.out] <;> rfl), hbw⟩
      case pos =>
      have ub0 : ((k3 != k4)) = false := by simp [u0]
      by_cases u1 : v3 = v4
      case neg =>
        have HQ := hid (show Fr.eqb (Fr.mk k3 v3 ds3 (Cl.mk (Co.mk ctk3 ctv3 ctds3 ctks3) ces3)) (Fr.mk k4 v4 ds4 (Cl.mk (Co.mk ctk4 ctv4 ctds4 ctks4) ces4)) = false by rw [HE3.out]; simp [u1])
        have ub1 : ((v3 != v4)) = true := by simp [u1]
        clear HE3 u0 u1
        go_wp2_with fail
        refine wp_region_quiet_below (by kernel_rfl) (by kernel_rfl) ?_
        repeat (go_big_quiet_step (first | exact HK0.out _ _ | exact HK1.out _ _))
        refine wpQuiet_nil ?_
        intro _ hw'
        obtain ⟨⟨dq, osq⟩, hw''⟩ := hw'
        subst hw''
        have hbw := hb.trans ((below_regrown wr dq osq).mono hb.size)
        clear zr5 vr5 z5 v5 z6 v6 qr0 pr0 qr1 pr1 qr2 pr2 qr3 pr3 qr4 pr4 qr5 pr5 qr6 pr6 qr7 pr7
        go_wp2_with fail
        go_ret
        exact ⟨ret_bool (by rw [HE1.out, eqBy_no Fr.eqb ss1 ss2 j _ _ HT.out HT'.out HQ.out] <;> rfl), hbw⟩
      case pos =>
      have ub1 : ((v3 != v4)) = false := by simp [u1]
      by_cases u2 : (decide (ds3 = ds4)) = true
      case neg =>
        replace u2 := (Bool.not_eq_true _).mp u2
        have HQ := hid (show Fr.eqb (Fr.mk k3 v3 ds3 (Cl.mk (Co.mk ctk3 ctv3 ctds3 ctks3) ces3)) (Fr.mk k4 v4 ds4 (Cl.mk (Co.mk ctk4 ctv4 ctds4 ctks4) ces4)) = false by rw [HE3.out]; simp only [u2, Bool.false_and, Bool.and_false])
        have hx := HK0.out
        rw [u2] at hx
        have HK0 := hid hx
        clear hx HE3 u0 u1 u2
        go_wp2_with fail
        refine wp_region_quiet_below (by kernel_rfl) (by kernel_rfl) ?_
        repeat (go_big_quiet_step (first | exact HK0.out _ _ | exact HK1.out _ _))
        refine wpQuiet_nil ?_
        intro _ hw'
        obtain ⟨⟨dq, osq⟩, hw''⟩ := hw'
        subst hw''
        have hbw := hb.trans ((below_regrown wr dq osq).mono hb.size)
        clear zr5 vr5 z5 v5 z6 v6 qr0 pr0 qr1 pr1 qr2 pr2 qr3 pr3 qr4 pr4 qr5 pr5 qr6 pr6 qr7 pr7
        go_wp2_with fail
        go_ret
        exact ⟨ret_bool (by rw [HE1.out, eqBy_no Fr.eqb ss1 ss2 j _ _ HT.out HT'.out HQ.out] <;> rfl), hbw⟩
      case pos =>
      have hx := HK0.out
      rw [u2] at hx
      have HK0 := hid hx
      clear hx
      by_cases u3 : (Cl.eqb (Cl.mk (Co.mk ctk3 ctv3 ctds3 ctks3) ces3) (Cl.mk (Co.mk ctk4 ctv4 ctds4 ctks4) ces4)) = true
      case neg =>
        replace u3 := (Bool.not_eq_true _).mp u3
        have HQ := hid (show Fr.eqb (Fr.mk k3 v3 ds3 (Cl.mk (Co.mk ctk3 ctv3 ctds3 ctks3) ces3)) (Fr.mk k4 v4 ds4 (Cl.mk (Co.mk ctk4 ctv4 ctds4 ctks4) ces4)) = false by rw [HE3.out]; simp only [u3, Bool.and_false])
        have hx := HK1.out
        rw [u3] at hx
        have HK1 := hid hx
        clear hx HE3 u0 u1 u2 u3
        go_wp2_with fail
        refine wp_region_quiet_below (by kernel_rfl) (by kernel_rfl) ?_
        repeat (go_big_quiet_step (first | exact HK0.out _ _ | exact HK1.out _ _))
        refine wpQuiet_nil ?_
        intro _ hw'
        obtain ⟨⟨dq, osq⟩, hw''⟩ := hw'
        subst hw''
        have hbw := hb.trans ((below_regrown wr dq osq).mono hb.size)
        clear zr5 vr5 z5 v5 z6 v6 qr0 pr0 qr1 pr1 qr2 pr2 qr3 pr3 qr4 pr4 qr5 pr5 qr6 pr6 qr7 pr7
        go_wp2_with fail
        go_ret
        exact ⟨ret_bool (by rw [HE1.out, eqBy_no Fr.eqb ss1 ss2 j _ _ HT.out HT'.out HQ.out] <;> rfl), hbw⟩
      case pos =>
      have hx := HK1.out
      rw [u3] at hx
      have HK1 := hid hx
      clear hx
      have HQ := hid (show Fr.eqb (Fr.mk k3 v3 ds3 (Cl.mk (Co.mk ctk3 ctv3 ctds3 ctks3) ces3)) (Fr.mk k4 v4 ds4 (Cl.mk (Co.mk ctk4 ctv4 ctds4 ctks4) ces4)) = true by rw [HE3.out]; simp only [u0, u1, u2, u3, decide_true, Bool.and_true])
      clear HE3 u0 u1 u2 u3
      go_wp2_with fail
      refine wp_region_quiet_below (by kernel_rfl) (by kernel_rfl) ?_
      repeat (go_big_quiet_step (first | exact HK0.out _ _ | exact HK1.out _ _))
      refine wpQuiet_nil ?_
      intro _ hw'
      obtain ⟨⟨dq, osq⟩, hw''⟩ := hw'
      subst hw''
      have hbw := hb.trans ((below_regrown wr dq osq).mono hb.size)
      clear zr5 vr5 z5 v5 z6 v6 qr0 pr0 qr1 pr1 qr2 pr2 qr3 pr3 qr4 pr4 qr5 pr5 qr6 pr6 qr7 pr7
      go_wp2_with fail
      go_roundw
      case rel =>
        refine ⟨j + 1, by omega, by go_num, fun i t u hi h1 h2 => ?_, hbw⟩
        rcases Nat.lt_succ_iff_lt_or_eq.1 hi with hi | rfl
        · exact HJss.out i t u hi h1 h2
        · obtain rfl := Option.some.inj (h1.symm.trans HT.out)
          obtain rfl := Option.some.inj (h2.symm.trans HT'.out)
          exact HQ.out
      case measure => simp [intOf]; omega
    case neg =>
      have HE2 := hid (show Ne.eqb (Ne.mk (Cl.mk (Co.mk ctk1 ctv1 ctds1 ctks1) ces1) ss1 hs1) (Ne.mk (Cl.mk (Co.mk ctk2 ctv2 ctds2 ctks2) ces2) ss2 hs2) = eqBy Th.eqb hs1 hs2 by rw [HE1.out, eqBy_yes Fr.eqb ss1 ss2 Lss.out (fun i t u h1 h2 => HJss.out i t u (by have := (List.getElem?_eq_some_iff.1 h1).1; omega) h1 h2)]; rfl)
      have HBA := hid hb
      go_wp2_with fail
      clear z5 v5 z6 v6 hb hlt hj
      go_loopw [8] (fun i wr => ∃ (j : Nat), j ≤ hs1.length ∧ i = .int .i64 j ∧ Hid (∀ (i : Nat) t u, i < j → hs1[i]? = some t → hs2[i]? = some u → Th.eqb t u = true) ∧ Below w.heap.size w wr) (fun i _ => hs1.length - (intOf i).toNat)
      case atStart => exact ⟨0, by omega, rfl, fun i t u hi => absurd hi (by omega), HBA.out⟩
      case round =>
        obtain ⟨j, hj, rfl, HJhs, hb⟩ := hrel
        have z6 := (hb.cell (p := ⟨b1, o1 + 6, none⟩) XL.out).trans X6.out
        have v6 := (hb.cell (p := ⟨b2, o2 + 6, none⟩) YL.out).trans Y6.out
        by_cases hlt : j < hs1.length
        case pos =>
          have hlt' : j < hs2.length := by have := Lhs.out; omega
          obtain ⟨b, o, rfl, hbl, hall⟩ := H4.out (by omega)
          obtain ⟨b', o', rfl, hbl', hall'⟩ := H4'.out (by omega)
          obtain ⟨t, ht⟩ : ∃ t, hs1[j]? = some t := ⟨_, List.getElem?_eq_getElem hlt⟩
          obtain ⟨t', ht'⟩ : ∃ t, hs2[j]? = some t := ⟨_, List.getElem?_eq_getElem hlt'⟩
          obtain ⟨dn3, ⟨⟨ctk3, ctv3, ctds3, ctks3⟩, ces3⟩⟩ := t
          obtain ⟨dn4, ⟨⟨ctk4, ctv4, ctds4, ctks4⟩, ces4⟩⟩ := t'
          obtain ⟨actds3, cctds3, actks3, cctks3, aces3, cces3, q0, q1, q2, q3, q4, q5, hrk⟩ := hall j dn3 ctk3 ctv3 ctds3 ctks3 ces3 ht
          obtain ⟨actds4, cctds4, actks4, cctks4, aces4, cces4, p0, p1, p2, p3, p4, p5, hrk'⟩ := hall' j dn4 ctk4 ctv4 ctds4 ctks4 ces4 ht'
          clear hall hall' H4 H4'
          have qr0 := cell_regrown ((hb.cell (p := ⟨b, o + j * 6, none⟩) hbl).trans q0)
          have qr1 := cell_regrown ((hb.cell (p := ⟨b, o + j * 6 + 1, none⟩) hbl).trans q1)
          have qr2 := cell_regrown ((hb.cell (p := ⟨b, o + j * 6 + 2, none⟩) hbl).trans q2)
          have qr3 := cell_regrown ((hb.cell (p := ⟨b, o + j * 6 + 3, none⟩) hbl).trans q3)
          have qr4 := cell_regrown ((hb.cell (p := ⟨b, o + j * 6 + 4, none⟩) hbl).trans q4)
          have qr5 := cell_regrown ((hb.cell (p := ⟨b, o + j * 6 + 5, none⟩) hbl).trans q5)
          have pr0 := cell_regrown ((hb.cell (p := ⟨b', o' + j * 6, none⟩) hbl').trans p0)
          have pr1 := cell_regrown ((hb.cell (p := ⟨b', o' + j * 6 + 1, none⟩) hbl').trans p1)
          have pr2 := cell_regrown ((hb.cell (p := ⟨b', o' + j * 6 + 2, none⟩) hbl').trans p2)
          have pr3 := cell_regrown ((hb.cell (p := ⟨b', o' + j * 6 + 3, none⟩) hbl').trans p3)
          have pr4 := cell_regrown ((hb.cell (p := ⟨b', o' + j * 6 + 4, none⟩) hbl').trans p4)
          have pr5 := cell_regrown ((hb.cell (p := ⟨b', o' + j * 6 + 5, none⟩) hbl').trans p5)
          have zr6 := cell_regrown z6
          have vr6 := cell_regrown v6
          have HT := hid ht
          have HT' := hid ht'
          have HE3 := hid (show Th.eqb (Th.mk dn3 (Cl.mk (Co.mk ctk3 ctv3 ctds3 ctks3) ces3)) (Th.mk dn4 (Cl.mk (Co.mk ctk4 ctv4 ctds4 ctks4) ces4)) = (decide (dn3 = dn4) && Cl.eqb (Cl.mk (Co.mk ctk3 ctv3 ctds3 ctks3) ces3) (Cl.mk (Co.mk ctk4 ctv4 ctds4 ctks4) ces4)) from rfl)
          have hk0 := fun d os => Calls.regrown_of (spec_l09SameClosure ctk3 ctv3 ctds3 ctks3 ces3 actds3 cctds3 actks3 cctks3 aces3 cces3 ctk4 ctv4 ctds4 ctks4 ces4 actds4 cctds4 actks4 cctks4 aces4 cces4 b (o + j * 6 + 1) b' (o' + j * 6 + 1) (grow (redrawn wr d) os) (qr1 d os) (qr2 d os) (qr3 d os) (qr4 d os) (qr5 d os) (pr1 d os) (pr2 d os) (pr3 d os) (pr4 d os) (pr5 d os) ((hrk.subTh_c.below hb).below (below_regrown wr d os)) ((hrk'.subTh_c.below hb).below (below_regrown wr d os)))
          have HK0 := hid hk0
          clear hk0
          clear ht ht' hrk hrk' q0 p0 q1 p1 q2 p2 q3 p3 q4 p4 q5 p5
          by_cases u0 : dn3 = dn4
          case neg =>
            have HQ := hid (show Th.eqb (Th.mk dn3 (Cl.mk (Co.mk ctk3 ctv3 ctds3 ctks3) ces3)) (Th.mk dn4 (Cl.mk (Co.mk ctk4 ctv4 ctds4 ctks4) ces4)) = false by rw [HE3.out]; simp [u0])
            obtain rfl : dn4 = !dn3 := by cases dn3 <;> cases dn4 <;> simp_all
            clear HE3 u0
            go_wp2_with fail
            refine wp_region_quiet_below (by kernel_rfl) (by kernel_rfl) ?_
            repeat (go_big_quiet_step (first | exact HK0.out _ _))
            refine wpQuiet_nil ?_
            intro _ hw'
            obtain ⟨⟨dq, osq⟩, hw''⟩ := hw'
            subst hw''
            have hbw := hb.trans ((below_regrown wr dq osq).mono hb.size)
            clear zr6 vr6 z6 v6 qr0 pr0 qr1 pr1 qr2 pr2 qr3 pr3 qr4 pr4 qr5 pr5
            go_wp2_with fail
            go_ret
            exact ⟨ret_bool (by rw [HE2.out, eqBy_no Th.eqb hs1 hs2 j _ _ HT.out HT'.out HQ.out]), hbw⟩
          case pos =>
          subst u0
          by_cases u1 : (Cl.eqb (Cl.mk (Co.mk ctk3 ctv3 ctds3 ctks3) ces3) (Cl.mk (Co.mk ctk4 ctv4 ctds4 ctks4) ces4)) = true
          case neg =>
            replace u1 := (Bool.not_eq_true _).mp u1
            have HQ := hid (show Th.eqb (Th.mk dn3 (Cl.mk (Co.mk ctk3 ctv3 ctds3 ctks3) ces3)) (Th.mk dn3 (Cl.mk (Co.mk ctk4 ctv4 ctds4 ctks4) ces4)) = false by rw [HE3.out]; simp only [u1, Bool.and_false])
            have hx := HK0.out
            rw [u1] at hx
            have HK0 := hid hx
            clear hx HE3 u1
            go_wp2_with fail
            refine wp_region_quiet_below (by kernel_rfl) (by kernel_rfl) ?_
            repeat (go_big_quiet_step (first | exact HK0.out _ _))
            refine wpQuiet_nil ?_
            intro _ hw'
            obtain ⟨⟨dq, osq⟩, hw''⟩ := hw'
            subst hw''
            have hbw := hb.trans ((below_regrown wr dq osq).mono hb.size)
            clear zr6 vr6 z6 v6 qr0 pr0 qr1 pr1 qr2 pr2 qr3 pr3 qr4 pr4 qr5 pr5
            go_wp2_with fail
            go_ret
            exact ⟨ret_bool (by rw [HE2.out, eqBy_no Th.eqb hs1 hs2 j _ _ HT.out HT'.out HQ.out]), hbw⟩
          case pos =>
          have hx := HK0.out
          rw [u1] at hx
          have HK0 := hid hx
          clear hx
          have HQ := hid (show Th.eqb (Th.mk dn3 (Cl.mk (Co.mk ctk3 ctv3 ctds3 ctks3) ces3)) (Th.mk dn3 (Cl.mk (Co.mk ctk4 ctv4 ctds4 ctks4) ces4)) = true by rw [HE3.out]; simp [u1])
          clear HE3 u1
          go_wp2_with fail
          refine wp_region_quiet_below (by kernel_rfl) (by kernel_rfl) ?_
          repeat (go_big_quiet_step (first | exact HK0.out _ _))
          refine wpQuiet_nil ?_
          intro _ hw'
          obtain ⟨⟨dq, osq⟩, hw''⟩ := hw'
          subst hw''
          have hbw := hb.trans ((below_regrown wr dq osq).mono hb.size)
          clear zr6 vr6 z6 v6 qr0 pr0 qr1 pr1 qr2 pr2 qr3 pr3 qr4 pr4 qr5 pr5
          go_wp2_with fail
          go_roundw
          case rel =>
            refine ⟨j + 1, by omega, by go_num, fun i t u hi h1 h2 => ?_, hbw⟩
            rcases Nat.lt_succ_iff_lt_or_eq.1 hi with hi | rfl
            · exact HJhs.out i t u hi h1 h2
            · obtain rfl := Option.some.inj (h1.symm.trans HT.out)
              obtain rfl := Option.some.inj (h2.symm.trans HT'.out)
              exact HQ.out
          case measure => simp [intOf]; omega
        case neg =>
          go_wp2_with fail
          go_ret
          exact ⟨ret_bool (by rw [HE2.out, eqBy_yes Th.eqb hs1 hs2 Lhs.out (fun i t u h1 h2 => HJhs.out i t u (by have := (List.getElem?_eq_some_iff.1 h1).1; omega) h1 h2)]), hb⟩

theorem spec_SameNeed (ctk1 : Int) (ctv1 : Int) (ctds1 : List Int) (ctks1 : List Co) (ces1 : List Int) (ss1 : List Fr) (hs1 : List Th) (actds1 : Option Addr) (cctds1 : Nat) (actks1 : Option Addr) (cctks1 : Nat) (aces1 : Option Addr) (cces1 : Nat) (ass1 : Option Addr) (css1 : Nat) (ahs1 : Option Addr) (chs1 : Nat) (ctk2 : Int) (ctv2 : Int) (ctds2 : List Int) (ctks2 : List Co) (ces2 : List Int) (ss2 : List Fr) (hs2 : List Th) (actds2 : Option Addr) (cctds2 : Nat) (actks2 : Option Addr) (cctks2 : Nat) (aces2 : Option Addr) (cces2 : Nat) (ass2 : Option Addr) (css2 : Nat) (ahs2 : Option Addr) (chs2 : Nat) (w : World) (hr : RdS w (Ne.d (Ne.mk (Cl.mk (Co.mk ctk1 ctv1 ctds1 ctks1) ces1) ss1 hs1)) [.int .i64 ctk1, .int .i64 ctv1, .slice actds1 ctds1.length cctds1, .slice actks1 ctks1.length cctks1, .slice aces1 ces1.length cces1, .slice ass1 ss1.length css1, .slice ahs1 hs1.length chs1]) (hr' : RdS w (Ne.d (Ne.mk (Cl.mk (Co.mk ctk2 ctv2 ctds2 ctks2) ces2) ss2 hs2)) [.int .i64 ctk2, .int .i64 ctv2, .slice actds2 ctds2.length cctds2, .slice actks2 ctks2.length cctks2, .slice aces2 ces2.length cces2, .slice ass2 ss2.length css2, .slice ahs2 hs2.length chs2]) :
    Calls Try.prog 41 #[.agg #[.int .i64 ctk1, .int .i64 ctv1, .slice actds1 ctds1.length cctds1, .slice actks1 ctks1.length cctks1, .slice aces1 ces1.length cces1, .slice ass1 ss1.length css1, .slice ahs1 hs1.length chs1], .agg #[.int .i64 ctk2, .int .i64 ctv2, .slice actds2 ctds2.length cctds2, .slice actks2 ctks2.length cctks2, .slice aces2 ces2.length cces2, .slice ass2 ss2.length css2, .slice ahs2 hs2.length chs2]] w fun e w' => e = .returned (.bool (Ne.eqb (Ne.mk (Cl.mk (Co.mk ctk1 ctv1 ctds1 ctks1) ces1) ss1 hs1) (Ne.mk (Cl.mk (Co.mk ctk2 ctv2 ctds2 ctks2) ces2) ss2 hs2))) ∧ Below w.heap.size w w' := by
  have HX0 := hid (((Boxes.nil w).alloc #[.int .i64 ctk1, .int .i64 ctv1, .slice actds1 ctds1.length cctds1, .slice actks1 ctks1.length cctks1, .slice aces1 ces1.length cces1, .slice ass1 ss1.length css1, .slice ahs1 hs1.length chs1] 63 (0, 0)).alloc #[.int .i64 ctk2, .int .i64 ctv2, .slice actds2 ctds2.length cctds2, .slice actks2 ctks2.length cctks2, .slice aces2 ces2.length cces2, .slice ass2 ss2.length css2, .slice ahs2 hs2.length chs2] 63 (0, 0))
  have hB : Below w.heap.size w ((w.alloc (.cells #[.int .i64 ctk1, .int .i64 ctv1, .slice actds1 ctds1.length cctds1, .slice actks1 ctks1.length cctks1, .slice aces1 ces1.length cces1, .slice ass1 ss1.length css1, .slice ahs1 hs1.length chs1] 63)).alloc (.cells #[.int .i64 ctk2, .int .i64 ctv2, .slice actds2 ctds2.length cctds2, .slice actks2 ctks2.length cctks2, .slice aces2 ces2.length cces2, .slice ass2 ss2.length css2, .slice ahs2 hs2.length chs2] 63)) := ((Below.refl _ _).alloc (Nat.le_refl _) _).alloc (by simp) _
  have g0 := HX0.out.at 0 0 rfl rfl
  have g1 := HX0.out.at 0 1 rfl rfl
  have g2 := HX0.out.at 0 2 rfl rfl
  have g3 := HX0.out.at 0 3 rfl rfl
  have g4 := HX0.out.at 0 4 rfl rfl
  have g5 := HX0.out.at 0 5 rfl rfl
  have g6 := HX0.out.at 0 6 rfl rfl
  simp only [World.size_alloc] at g0 g1 g2 g3 g4 g5 g6
  have HC := hid (spec_l09Same ctk1 ctv1 ctds1 ctks1 ces1 ss1 hs1 actds1 cctds1 actks1 cctks1 aces1 cces1 ass1 css1 ahs1 chs1 ctk2 ctv2 ctds2 ctks2 ces2 ss2 hs2 actds2 cctds2 actks2 cctks2 aces2 cces2 ass2 css2 ahs2 chs2 w.heap.size 0 (w.heap.size + 1) 0 _ (HX0.out.at 1 0 rfl rfl) (HX0.out.at 1 1 rfl rfl) (HX0.out.at 1 2 rfl rfl) (HX0.out.at 1 3 rfl rfl) (HX0.out.at 1 4 rfl rfl) (HX0.out.at 1 5 rfl rfl) (HX0.out.at 1 6 rfl rfl) g0 g1 g2 g3 g4 g5 g6 (hr.below hB) (hr'.below hB))
  have HB := hid hB
  clear hr hr' hB HX0 g0 g1 g2 g3 g4 g5 g6
  go_enter Try.func41, Try.ntmps41
  go_wp2_with fail
  refine HC.out.mono ?_
  rintro e w1 ⟨rfl, hb⟩
  have HB1 := hid (HB.out.trans (hb.mono HB.out.size))
  clear hb
  go_wp2_with fail
  go_ret
  exact ⟨rfl, HB1.out⟩
end Go.Proofs.Ytgbiefjokohkkaa
