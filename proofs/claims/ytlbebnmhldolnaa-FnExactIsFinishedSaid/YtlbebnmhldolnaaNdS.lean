/- Walks: closures and frames of machines, in the reference. -/
import Derived.Test.YtlbebnmhldolnaaNdPlain
import Derived.Test.YtlbebnmhldolnaaCoAbove
import Derived.Test.YtlbebnmhldolnaaSzNe
import Derived.Lib.QuietBelow
import Derived.BigQuiet
namespace Go.Proofs.Ytlbebnmhldolnaa
open Go.ChangeShapes Go.WideShapes Go.ChangeAt Go.RowKit Go.BigFrame
open Go.Sort (grow)
set_option linter.unusedVariables false

theorem spec_l09Defs (bb bo n : Nat) (ab : Option Addr) (cb : Nat) (ds1 : List Int) (ads1 : Option Addr) (cds1 : Nat) (w : World) (hn : n ≤ 1048576) (xb : w.cell? ⟨bb, bo, none⟩ = some (.slice ab n cb)) (hr : RdL w (In.ds ds1) (.slice ads1 ds1.length cds1)) :
    Calls Try.prog 112 #[.pointer (some ⟨bb, bo, none⟩), .slice ads1 ds1.length cds1] w fun e w' => e = .returned (.bool (ds1.all (upTo n))) ∧ Below w.heap.size w w' := by
  obtain ⟨_, _, e, h2, h3, h4⟩ := hr.eIn
  simp only [Value.slice.injEq, true_and] at e
  obtain ⟨rfl, rfl⟩ := e
  have hlen : ds1.length ≤ 9223372036854775807 := Nat.le_trans h2 h3
  have H4 := hid h4
  have XB := hid xb
  have XL := hid (World.block_lt_of_cell? _ _ xb)
  clear hr h4 xb
  go_enter Try.func112, Try.ntmps112
  go_wp2_with fail
  go_loopw [5] (fun i wr => ∃ (j : Nat), j ≤ ds1.length ∧ i = .int .i64 j ∧ Hid (∀ (i : Nat) t, i < j → ds1[i]? = some t → upTo n t = true) ∧ Below w.heap.size w wr) (fun i _ => ds1.length - (intOf i).toNat)
  case atStart => exact ⟨0, by omega, rfl, fun i t hi => absurd hi (by omega), Below.refl _ _⟩
  case round =>
    obtain ⟨j, hj, rfl, HJ, hb⟩ := hrel
    by_cases hlt : j < ds1.length
    case neg =>
      go_wp2_with fail
      go_ret
      exact ⟨ret_bool (by rw [all_yes _ ds1 fun i t hti => HJ.out i t (by have := (List.getElem?_eq_some_iff.1 hti).1; omega) hti]), hb⟩
    case pos =>
      obtain ⟨b, o, rfl, hbl, hall⟩ := H4.out (by omega)
      obtain ⟨t, ht⟩ : ∃ t, ds1[j]? = some t := ⟨_, List.getElem?_eq_getElem hlt⟩
      have q0 := cell_regrown ((hb.cell (p := ⟨b, o + j, none⟩) hbl).trans (hall j t ht).1)
      have zb := cell_regrown ((hb.cell (p := ⟨bb, bo, none⟩) XL.out).trans XB.out)
      have HT := hid ht
      have HB := hid hb
      clear hall H4 ht
      have hc := fun d os => Calls.regrown_of (calls_below (spec_In t 0 ((n : Int) - 1) (grow (redrawn wr d) os)))
      by_cases hq : upTo n t = true
      case pos =>
        rw [show inR t 0 ((n : Int) - 1) = true from hq] at hc
        have HC := hid hc
        have HQ := hid hq
        clear hc hq
        go_wp2_with fail
        refine wp_region_quiet_below (by kernel_rfl) (by kernel_rfl) ?_
        repeat (go_big_quiet_step (exact HC.out _ _))
        refine wpQuiet_nil ?_
        intro _ hw'
        obtain ⟨⟨dq, osq⟩, hw''⟩ := hw'
        subst hw''
        have hbw := HB.out.trans ((below_regrown wr dq osq).mono HB.out.size)
        clear HC q0 zb
        go_wp2_with fail
        go_roundw
        case rel => exact ⟨j + 1, by omega, by go_num, fun i t hi hti => (Nat.lt_succ_iff_lt_or_eq.1 hi).elim (fun hi => HJ.out i t hi hti) (fun he => by subst he; obtain rfl := Option.some.inj (hti.symm.trans HT.out); exact HQ.out), hbw⟩
        case measure => simp [intOf]; omega
      case neg =>
        rw [show inR t 0 ((n : Int) - 1) = false from (Bool.not_eq_true _).mp hq] at hc
        have HC := hid hc
        have HQ := hid ((Bool.not_eq_true _).mp hq)
        clear hc hq
        go_wp2_with fail
        refine wp_region_quiet_below (by kernel_rfl) (by kernel_rfl) ?_
        repeat (go_big_quiet_step (exact HC.out _ _))
        refine wpQuiet_nil ?_
        intro _ hw'
        obtain ⟨⟨dq, osq⟩, hw''⟩ := hw'
        subst hw''
        have hbw := HB.out.trans ((below_regrown wr dq osq).mono HB.out.size)
        clear HC q0 zb
        go_wp2_with fail
        go_ret
        exact ⟨ret_bool (by rw [all_no _ ds1 j t HT.out HQ.out]), hbw⟩

theorem spec_l09NoClosure (tk1 : Int) (tv1 : Int) (tds1 : List Int) (tks1 : List Co) (es1 : List Int) (atds1 : Option Addr) (ctds1 : Nat) (atks1 : Option Addr) (ctks1 : Nat) (aes1 : Option Addr) (ces1 : Nat) (b1 o1 : Nat) (w : World) (x0 : w.cell? ⟨b1, o1, none⟩ = some (.int .i64 tk1)) (x1 : w.cell? ⟨b1, o1 + 1, none⟩ = some (.int .i64 tv1)) (x2 : w.cell? ⟨b1, o1 + 2, none⟩ = some (.slice atds1 tds1.length ctds1)) (x3 : w.cell? ⟨b1, o1 + 3, none⟩ = some (.slice atks1 tks1.length ctks1)) (x4 : w.cell? ⟨b1, o1 + 4, none⟩ = some (.slice aes1 es1.length ces1)) (hr : RdS w (Cl.d (Cl.mk (Co.mk tk1 tv1 tds1 tks1) es1)) [.int .i64 tk1, .int .i64 tv1, .slice atds1 tds1.length ctds1, .slice atks1 tks1.length ctks1, .slice aes1 es1.length ces1]) :
    Calls Try.prog 111 #[.pointer (some ⟨b1, o1, none⟩)] w fun e w' => e = .returned (.bool (clNone (Cl.mk (Co.mk tk1 tv1 tds1 tks1) es1))) ∧ w = w' := by
  have HE := hid (show clNone (Cl.mk (Co.mk tk1 tv1 tds1 tks1) es1) = (decide (tk1 = 0) && (decide (tv1 = 0) && (decide (tds1.length = 0) && (decide (tks1.length = 0) && decide (es1.length = 0))))) from rfl)
  clear hr
  by_cases c1 : tk1 = 0
  case neg =>
    have g1 : (tk1 == 0) = false := by simp [c1]
    have HF := hid (show clNone (Cl.mk (Co.mk tk1 tv1 tds1 tks1) es1) = false by rw [HE.out]; simp [c1])
    go_enter Try.func111, Try.ntmps111
    go_wp2_with fail
    go_ret
    exact ⟨ret_bool HF.out.symm, rfl⟩
  case pos =>
  have g1 : (tk1 == 0) = true := by simp [c1]
  by_cases c2 : tv1 = 0
  case neg =>
    have g2 : (tv1 == 0) = false := by simp [c2]
    have HF := hid (show clNone (Cl.mk (Co.mk tk1 tv1 tds1 tks1) es1) = false by rw [HE.out]; simp [c2])
    clear c1
    go_enter Try.func111, Try.ntmps111
    go_wp2_with fail
    go_ret
    exact ⟨ret_bool HF.out.symm, rfl⟩
  case pos =>
  have g2 : (tv1 == 0) = true := by simp [c2]
  by_cases c3 : tds1.length = 0
  case neg =>
    have g3 : ((tds1.length : Int) == 0) = false := by simpa using c3
    have HF := hid (show clNone (Cl.mk (Co.mk tk1 tv1 tds1 tks1) es1) = false by rw [HE.out]; simp [c3])
    clear c1 c2 c3
    go_enter Try.func111, Try.ntmps111
    go_wp2_with fail
    go_ret
    exact ⟨ret_bool HF.out.symm, rfl⟩
  case pos =>
  have g3 : ((tds1.length : Int) == 0) = true := by simpa using c3
  by_cases c4 : tks1.length = 0
  case neg =>
    have g4 : ((tks1.length : Int) == 0) = false := by simpa using c4
    have HF := hid (show clNone (Cl.mk (Co.mk tk1 tv1 tds1 tks1) es1) = false by rw [HE.out]; simp [c4])
    clear c1 c2 c3 c4
    go_enter Try.func111, Try.ntmps111
    go_wp2_with fail
    go_ret
    exact ⟨ret_bool HF.out.symm, rfl⟩
  case pos =>
  have g4 : ((tks1.length : Int) == 0) = true := by simpa using c4
  by_cases c5 : es1.length = 0
  case neg =>
    have g5 : ((es1.length : Int) == 0) = false := by simpa using c5
    have HF := hid (show clNone (Cl.mk (Co.mk tk1 tv1 tds1 tks1) es1) = false by rw [HE.out]; simp [c5])
    clear c1 c2 c3 c4 c5
    go_enter Try.func111, Try.ntmps111
    go_wp2_with fail
    go_ret
    exact ⟨ret_bool HF.out.symm, rfl⟩
  case pos =>
    have g5 : ((es1.length : Int) == 0) = true := by simpa using c5
    have HF := hid (show clNone (Cl.mk (Co.mk tk1 tv1 tds1 tks1) es1) = true by rw [HE.out]; simp [c1, c2, c3, c4, c5])
    clear c1 c2 c3 c4 c5
    go_enter Try.func111, Try.ntmps111
    go_wp2_with fail
    go_ret
    exact ⟨ret_bool HF.out.symm, rfl⟩

theorem spec_l09Fields (tk1 : Int) (tv1 : Int) (tds1 : List Int) (tks1 : List Co) (es1 : List Int) (atds1 : Option Addr) (ctds1 : Nat) (atks1 : Option Addr) (ctks1 : Nat) (aes1 : Option Addr) (ces1 : Nat) (b1 o1 : Nat) (w : World) (x0 : w.cell? ⟨b1, o1, none⟩ = some (.int .i64 tk1)) (x1 : w.cell? ⟨b1, o1 + 1, none⟩ = some (.int .i64 tv1)) (x2 : w.cell? ⟨b1, o1 + 2, none⟩ = some (.slice atds1 tds1.length ctds1)) (x3 : w.cell? ⟨b1, o1 + 3, none⟩ = some (.slice atks1 tks1.length ctks1)) (x4 : w.cell? ⟨b1, o1 + 4, none⟩ = some (.slice aes1 es1.length ces1)) (hr : RdS w (Cl.d (Cl.mk (Co.mk tk1 tv1 tds1 tks1) es1)) [.int .i64 tk1, .int .i64 tv1, .slice atds1 tds1.length ctds1, .slice atks1 tks1.length ctks1, .slice aes1 es1.length ces1]) :
    Calls Try.prog 113 #[.pointer (some ⟨b1, o1, none⟩)] w fun e w' => e = .returned (.bool (clFields (Cl.mk (Co.mk tk1 tv1 tds1 tks1) es1))) ∧ Below w.heap.size w w' := by
  have HE := hid (show clFields (Cl.mk (Co.mk tk1 tv1 tds1 tks1) es1) = (decide (tks1.length = es1.length) && kidsVar 0 tks1) from rfl)
  obtain ⟨⟨_, _, hdl, hkl⟩, hel⟩ := hr.fCl
  obtain ⟨_, _, e, h2, h3, h4⟩ := hkl.eCo
  simp only [Value.slice.injEq, true_and] at e
  obtain ⟨rfl, rfl⟩ := e
  have hlen : tks1.length ≤ 9223372036854775807 := Nat.le_trans h2 h3
  have H4 := hid h4
  have X3 := hid x3
  have XL := hid (World.block_lt_of_cell? _ _ x3)
  have y3 := cell_regrown x3
  have y4 := cell_regrown x4
  clear hr hdl hkl hel h4 h2 h3 x0 x1 x2 x3 x4
  by_cases c1 : tks1.length = es1.length
  case neg =>
    have g1 : ((tks1.length : Int) != (es1.length : Int)) = true := by simp; omega
    have HF := hid (show clFields (Cl.mk (Co.mk tk1 tv1 tds1 tks1) es1) = false by rw [HE.out]; simp [c1])
    clear c1 H4
    go_enter Try.func113, Try.ntmps113
    go_wp2_with fail
    refine wp_region_quiet_below (by kernel_rfl) (by kernel_rfl) ?_
    repeat (go_big_quiet_step (fail))
    refine wpQuiet_nil ?_
    intro _ hw'
    obtain ⟨⟨dq, osq⟩, hw''⟩ := hw'
    subst hw''
    have HBQ := hid (below_regrown w dq osq)
    go_wp2_with fail
    go_ret
    exact ⟨ret_bool HF.out.symm, HBQ.out⟩
  case pos =>
  have g1 : ((tks1.length : Int) != (es1.length : Int)) = false := by simp [c1]
  have HF := hid (show clFields (Cl.mk (Co.mk tk1 tv1 tds1 tks1) es1) = kidsVar 0 tks1 by rw [HE.out]; simp [c1])
  clear c1
  go_enter Try.func113, Try.ntmps113
  go_wp2_with fail
  refine wp_region_quiet_below (by kernel_rfl) (by kernel_rfl) ?_
  repeat (go_big_quiet_step (fail))
  refine wpQuiet_nil ?_
  intro _ hw'
  obtain ⟨⟨dq, osq⟩, hw''⟩ := hw'
  subst hw''
  have HBQ := hid (below_regrown w dq osq)
  clear y3 y4
  go_wp2_with fail
  go_loopw [3] (fun i wr => ∃ (j : Nat), j ≤ tks1.length ∧ i = .int .i64 j ∧ Hid (∀ (i : Nat) t, i < j → tks1[i]? = some t → kidIs i t = true) ∧ Below w.heap.size w wr) (fun i _ => tks1.length - (intOf i).toNat)
  case atStart => exact ⟨0, by omega, rfl, fun i t hi => absurd hi (by omega), HBQ.out⟩
  case round =>
    obtain ⟨j, hj, rfl, HJ, hb⟩ := hrel
    have z3 := (hb.cell (p := ⟨b1, o1 + 3, none⟩) XL.out).trans X3.out
    by_cases hlt : j < tks1.length
    case neg =>
      go_wp2_with fail
      go_ret
      exact ⟨ret_bool (by rw [HF.out, kidsVar_yes tks1 0 fun i t hti => by rw [Nat.zero_add]; exact HJ.out i t (by have := (List.getElem?_eq_some_iff.1 hti).1; omega) hti]), hb⟩
    case pos =>
      obtain ⟨b, o, rfl, hbl, hall⟩ := H4.out (by omega)
      obtain ⟨t, ht⟩ : ∃ t, tks1[j]? = some t := ⟨_, List.getElem?_eq_getElem hlt⟩
      obtain ⟨k3, v3, ds3, ks3⟩ := t
      obtain ⟨ads3, cds3, aks3, cks3, q0, q1, q2, q3, hrk⟩ := hall j k3 v3 ds3 ks3 ht
      have p0 := (hb.cell (p := ⟨b, o + j * 4, none⟩) hbl).trans q0
      have p1 := (hb.cell (p := ⟨b, o + j * 4 + 1, none⟩) hbl).trans q1
      have HT := hid ht
      clear hall H4 ht hrk q0 q1 q2 q3
      by_cases e1 : k3 = 1
      case neg =>
        have g3 : (k3 != 1) = true := by simp [e1]
        have HQ := hid (show kidIs j (Co.mk k3 v3 ds3 ks3) = false by simp [kidIs, e1])
        clear e1
        go_wp2_with fail
        go_ret
        exact ⟨ret_bool (by rw [HF.out, kidsVar_no tks1 0 j _ HT.out (by rw [Nat.zero_add]; exact HQ.out)]), hb⟩
      case pos =>
      have g3 : (k3 != 1) = false := by simp [e1]
      by_cases e2 : v3 = j
      case neg =>
        have g4 : (v3 != (j : Int)) = true := by simp [e2]
        have HQ := hid (show kidIs j (Co.mk k3 v3 ds3 ks3) = false by simp [kidIs, e2])
        clear e1 e2
        go_wp2_with fail
        go_ret
        exact ⟨ret_bool (by rw [HF.out, kidsVar_no tks1 0 j _ HT.out (by rw [Nat.zero_add]; exact HQ.out)]), hb⟩
      case pos =>
        have g4 : (v3 != (j : Int)) = false := by simp [e2]
        have HQ := hid (show kidIs j (Co.mk k3 v3 ds3 ks3) = true by simp [kidIs, e1, e2])
        clear e1 e2
        go_wp2_with fail
        go_roundw
        case rel => exact ⟨j + 1, by omega, by go_num, fun i t hi hti => (Nat.lt_succ_iff_lt_or_eq.1 hi).elim (fun hi => HJ.out i t hi hti) (fun he => by subst he; obtain rfl := Option.some.inj (hti.symm.trans HT.out); exact HQ.out), hb⟩
        case measure => simp [intOf]; omega

theorem spec_l09IsValue (tk1 : Int) (tv1 : Int) (tds1 : List Int) (tks1 : List Co) (es1 : List Int) (atds1 : Option Addr) (ctds1 : Nat) (atks1 : Option Addr) (ctks1 : Nat) (aes1 : Option Addr) (ces1 : Nat) (b1 o1 : Nat) (w : World) (x0 : w.cell? ⟨b1, o1, none⟩ = some (.int .i64 tk1)) (x1 : w.cell? ⟨b1, o1 + 1, none⟩ = some (.int .i64 tv1)) (x2 : w.cell? ⟨b1, o1 + 2, none⟩ = some (.slice atds1 tds1.length ctds1)) (x3 : w.cell? ⟨b1, o1 + 3, none⟩ = some (.slice atks1 tks1.length ctks1)) (x4 : w.cell? ⟨b1, o1 + 4, none⟩ = some (.slice aes1 es1.length ces1)) (hr : RdS w (Cl.d (Cl.mk (Co.mk tk1 tv1 tds1 tks1) es1)) [.int .i64 tk1, .int .i64 tv1, .slice atds1 tds1.length ctds1, .slice atks1 tks1.length ctks1, .slice aes1 es1.length ces1]) :
    Calls Try.prog 88 #[.pointer (some ⟨b1, o1, none⟩)] w fun e w' => e = .returned (.bool (clVal (Cl.mk (Co.mk tk1 tv1 tds1 tks1) es1))) ∧ Below w.heap.size w w' := by
  have HC := hid (spec_l09Fields tk1 tv1 tds1 tks1 es1 atds1 ctds1 atks1 ctks1 aes1 ces1 b1 o1 w x0 x1 x2 x3 x4 hr)
  have HE := hid (show clVal (Cl.mk (Co.mk tk1 tv1 tds1 tks1) es1) = (if tk1 = 4 then true else if tk1 = 2 then true else if tk1 = 8 then clFields (Cl.mk (Co.mk tk1 tv1 tds1 tks1) es1) else false) from rfl)
  clear hr x1 x2 x3 x4
  by_cases c4 : tk1 = 4
  case pos =>
    have g4 : (tk1 == 4) = true := by simp [c4]
    have HF := hid (show clVal (Cl.mk (Co.mk tk1 tv1 tds1 tks1) es1) = true by rw [HE.out, if_pos c4])
    clear c4
    go_enter Try.func88, Try.ntmps88
    go_wp2_with fail
    go_ret
    exact ⟨ret_bool HF.out.symm, Below.refl _ _⟩
  case neg =>
  have g4 : (tk1 == 4) = false := by simp [c4]
  by_cases c2 : tk1 = 2
  case pos =>
    have g2 : (tk1 == 2) = true := by simp [c2]
    have HF := hid (show clVal (Cl.mk (Co.mk tk1 tv1 tds1 tks1) es1) = true by rw [HE.out, if_neg c4, if_pos c2])
    clear c4 c2
    go_enter Try.func88, Try.ntmps88
    go_wp2_with fail
    go_ret
    exact ⟨ret_bool HF.out.symm, Below.refl _ _⟩
  case neg =>
  have g2 : (tk1 == 2) = false := by simp [c2]
  by_cases c8 : tk1 = 8
  case pos =>
    have g8 : (tk1 == 8) = true := by simp [c8]
    have HF := hid (show clVal (Cl.mk (Co.mk tk1 tv1 tds1 tks1) es1) = clFields (Cl.mk (Co.mk tk1 tv1 tds1 tks1) es1) by rw [HE.out, if_neg c4, if_neg c2, if_pos c8])
    clear c4 c2 c8
    go_enter Try.func88, Try.ntmps88
    go_wp2_with fail
    refine HC.out.mono ?_
    rintro e w2 ⟨rfl, hb⟩
    have HB := hid hb
    clear hb
    go_wp2_with fail
    go_ret
    exact ⟨ret_bool HF.out.symm, HB.out⟩
  case neg =>
    have g8 : (tk1 == 8) = false := by simp [c8]
    have HF := hid (show clVal (Cl.mk (Co.mk tk1 tv1 tds1 tks1) es1) = false by rw [HE.out, if_neg c4, if_neg c2, if_neg c8])
    clear c4 c2 c8
    go_enter Try.func88, Try.ntmps88
    go_wp2_with fail
    go_ret
    exact ⟨ret_bool HF.out.symm, Below.refl _ _⟩
end Go.Proofs.Ytlbebnmhldolnaa
