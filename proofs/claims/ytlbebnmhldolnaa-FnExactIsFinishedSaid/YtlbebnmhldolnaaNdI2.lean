/- Walks: closures and frames, in the program. -/
import Derived.Test.YtlbebnmhldolnaaNdI
import Derived.Test.YtlbebnmhldolnaaCoBelow
namespace Go.Proofs.Ytlbebnmhldolnaa
open Go.ChangeShapes Go.WideShapes Go.ChangeAt Go.RowKit Go.BigFrame
open Go.Sort (grow)
set_option linter.unusedVariables false

set_option maxRecDepth 100000 in
set_option maxHeartbeats 4000000 in
theorem impl_isValue (tk1 : Int) (tv1 : Int) (tds1 : List Int) (tks1 : List Co) (es1 : List Int) (atds1 : Option Addr) (ctds1 : Nat) (atks1 : Option Addr) (ctks1 : Nat) (aes1 : Option Addr) (ces1 : Nat) (w : World) (hr : RdS w (Cl.d (Cl.mk (Co.mk tk1 tv1 tds1 tks1) es1)) [.int .i64 tk1, .int .i64 tv1, .slice atds1 tds1.length ctds1, .slice atks1 tks1.length ctks1, .slice aes1 es1.length ces1]) :
    Calls Try.prog 61 #[.agg #[.int .i64 tk1, .int .i64 tv1, .slice atds1 tds1.length ctds1, .slice atks1 tks1.length ctks1, .slice aes1 es1.length ces1]] w fun e w' => e = .returned (.bool (clVal (Cl.mk (Co.mk tk1 tv1 tds1 tks1) es1))) ∧ Below w.heap.size w w' := by
  have HE := hid (show clVal (Cl.mk (Co.mk tk1 tv1 tds1 tks1) es1) = (if tk1 = 4 then true else if tk1 = 2 then true else if tk1 = 8 then clFields (Cl.mk (Co.mk tk1 tv1 tds1 tks1) es1) else false) from rfl)
  have HEF := hid (show clFields (Cl.mk (Co.mk tk1 tv1 tds1 tks1) es1) = (decide (tks1.length = es1.length) && kidsVar 0 tks1) from rfl)
  have HB0 := hid ((Below.refl w.heap.size w).alloc (Nat.le_refl _) (.cells #[.int .i64 tk1, .int .i64 tv1, .slice atds1 tds1.length ctds1, .slice atks1 tks1.length ctks1, .slice aes1 es1.length ces1] 37))
  have HX0 := hid ((Boxes.nil w).alloc #[.int .i64 tk1, .int .i64 tv1, .slice atds1 tds1.length ctds1, .slice atks1 tks1.length ctks1, .slice aes1 es1.length ces1] 37 (0, 0))
  obtain ⟨⟨_, _, hdl, hkl⟩, hel⟩ := hr.fCl
  obtain ⟨_, _, e, h2, h3, h4⟩ := hkl.eCo
  simp only [Value.slice.injEq, true_and] at e
  obtain ⟨rfl, rfl⟩ := e
  have hlen : tks1.length ≤ 9223372036854775807 := Nat.le_trans h2 h3
  have H4 := hid h4
  clear hr hdl hkl hel h4 h2 h3
  by_cases c4 : tk1 = 4
  case pos =>
    have g4 : (tk1 == 4) = true := by simp [c4]
    have HF := hid (show clVal (Cl.mk (Co.mk tk1 tv1 tds1 tks1) es1) = true by rw [HE.out, if_pos c4])
    clear c4 H4
    go_enter Try.func61, Try.ntmps61
    go_wp2_with fail
    go_ret
    exact ⟨ret_bool HF.out.symm, HB0.out⟩
  case neg =>
  have g4 : (tk1 == 4) = false := by simp [c4]
  by_cases c2 : tk1 = 2
  case pos =>
    have g2 : (tk1 == 2) = true := by simp [c2]
    have HF := hid (show clVal (Cl.mk (Co.mk tk1 tv1 tds1 tks1) es1) = true by rw [HE.out, if_neg c4, if_pos c2])
    clear c4 c2 H4
    go_enter Try.func61, Try.ntmps61
    go_wp2_with fail
    go_ret
    exact ⟨ret_bool HF.out.symm, HB0.out⟩
  case neg =>
  have g2 : (tk1 == 2) = false := by simp [c2]
  by_cases c8 : tk1 = 8
  case neg =>
    have g8 : (tk1 == 8) = false := by simp [c8]
    have HF := hid (show clVal (Cl.mk (Co.mk tk1 tv1 tds1 tks1) es1) = false by rw [HE.out, if_neg c4, if_neg c2, if_neg c8])
    clear c4 c2 c8 H4
    go_enter Try.func61, Try.ntmps61
    go_wp2_with fail
    go_ret
    exact ⟨ret_bool HF.out.symm, HB0.out⟩
  case pos =>
  have g8 : (tk1 == 8) = true := by simp [c8]
  have HF := hid (show clVal (Cl.mk (Co.mk tk1 tv1 tds1 tks1) es1) = (decide (tks1.length = es1.length) && kidsVar 0 tks1) by rw [HE.out, if_neg c4, if_neg c2, if_pos c8, HEF.out])
  clear c4 c2 c8
  go_enter Try.func61, Try.ntmps61
  go_wp2_with fail
  go_loopw [3, 4, 17] (fun _ _ i wr => ∃ (j : Nat), j ≤ tks1.length ∧ i = .int .i64 j ∧ Hid (∀ (i : Nat) t, i < j → tks1[i]? = some t → kidIs i t = true) ∧ Below (w.heap.size + 1) (w.alloc (.cells #[.int .i64 tk1, .int .i64 tv1, .slice atds1 tds1.length ctds1, .slice atks1 tks1.length ctks1, .slice aes1 es1.length ces1] 37)) wr) (fun _ _ i _ => tks1.length - (intOf i).toNat)
  case atStart => exact ⟨0, by omega, rfl, fun i t hi => absurd hi (by omega), Below.refl _ _⟩
  case round =>
    obtain ⟨j, hj, rfl, HJ, hb0⟩ := hrel
    have hb : Below w.heap.size w wr := HB0.out.trans (hb0.mono (by omega))
    by_cases hlt : j < tks1.length
    case neg =>
      have HF2 := hid (show clVal (Cl.mk (Co.mk tk1 tv1 tds1 tks1) es1) = decide (tks1.length = es1.length) by rw [HF.out, kidsVar_yes tks1 0 fun i t hti => by rw [Nat.zero_add]; exact HJ.out i t (by have := (List.getElem?_eq_some_iff.1 hti).1; omega) hti]; simp)
      have y3 := (HX0.out.below (by simpa using hb0)).at 0 3 rfl rfl
      have y4 := (HX0.out.below (by simpa using hb0)).at 0 4 rfl rfl
      obtain ⟨bz, gz⟩ : ∃ b, ((es1.length : Int) == (tks1.length : Int)) = b := ⟨_, rfl⟩
      have HZ := hid (show decide (tks1.length = es1.length) = bz by rw [← gz]; by_cases hz : tks1.length = es1.length <;> simp [hz] <;> omega)
      go_wp2_with fail
      go_ret
      exact ⟨ret_bool (by rw [HF2.out, HZ.out]), hb⟩
    case pos =>
      obtain ⟨b, o, rfl, hbl, hall⟩ := H4.out (by omega)
      obtain ⟨t, ht⟩ : ∃ t, tks1[j]? = some t := ⟨_, List.getElem?_eq_getElem hlt⟩
      obtain ⟨k3, v3, ds3, ks3⟩ := t
      obtain ⟨ads3, cds3, aks3, cks3, q0, q1, q2, q3, hrk⟩ := hall j k3 v3 ds3 ks3 ht
      have p0 := (hb.cell (p := ⟨b, o + j * 4, none⟩) hbl).trans q0
      have p1 := (hb.cell (p := ⟨b, o + j * 4 + 1, none⟩) hbl).trans q1
      have p2 := (hb.cell (p := ⟨b, o + j * 4 + 2, none⟩) hbl).trans q2
      have p3 := (hb.cell (p := ⟨b, o + j * 4 + 3, none⟩) hbl).trans q3
      have HT := hid ht
      have hbk1 : Below wr.heap.size wr (wr.alloc (.cells #[.int .i64 k3, .int .i64 v3, .slice ads3 ds3.length cds3, .slice aks3 ks3.length cks3] 35)) := (Below.refl _ _).alloc (Nat.le_refl _) _
      have hbx := hb0.trans (hbk1.mono (by have := hb0.size; simpa using this))
      have HBW := hid (hb.trans (hbk1.mono hb.size))
      have HBX := hid hbx
      clear hall H4 ht hrk q0 q1 q2 q3 hb0 hb hbk1 hbx
      by_cases e1 : k3 = 1
      case neg =>
        have g3 : (k3 != 1) = true := by simp [e1]
        have HQ := hid (show kidIs j (Co.mk k3 v3 ds3 ks3) = false by simp [kidIs, e1])
        clear e1
        go_wp2_with fail
        go_ret
        exact ⟨ret_bool (by rw [HF.out, kidsVar_no tks1 0 j _ HT.out (by rw [Nat.zero_add]; exact HQ.out)]; simp), HBW.out⟩
      case pos =>
      have g3 : (k3 != 1) = false := by simp [e1]
      by_cases e2 : v3 = j
      case neg =>
        have g5 : (v3 != (j : Int)) = true := by simp [e2]
        have HQ := hid (show kidIs j (Co.mk k3 v3 ds3 ks3) = false by simp [kidIs, e2])
        clear e1 e2
        go_wp2_with fail
        go_ret
        exact ⟨ret_bool (by rw [HF.out, kidsVar_no tks1 0 j _ HT.out (by rw [Nat.zero_add]; exact HQ.out)]; simp), HBW.out⟩
      case pos =>
        have g5 : (v3 != (j : Int)) = false := by simp [e2]
        have HQ := hid (show kidIs j (Co.mk k3 v3 ds3 ks3) = true by simp [kidIs, e1, e2])
        clear e1 e2
        go_wp2_with fail
        go_roundw
        case rel => exact ⟨j + 1, by omega, by go_num, fun i t hi hti => (Nat.lt_succ_iff_lt_or_eq.1 hi).elim (fun hi => HJ.out i t hi hti) (fun he => by subst he; obtain rfl := Option.some.inj (hti.symm.trans HT.out); exact HQ.out), HBX.out⟩
        case measure => simp [intOf]; omega

set_option maxRecDepth 100000 in
set_option maxHeartbeats 4000000 in
theorem impl_validClosure (mb mo h : Nat) (ahs : Option Addr) (chs : Nat) (n : Nat) (ab : Option Addr) (cb : Nat) (tk1 : Int) (tv1 : Int) (tds1 : List Int) (tks1 : List Co) (es1 : List Int) (atds1 : Option Addr) (ctds1 : Nat) (atks1 : Option Addr) (ctks1 : Nat) (aes1 : Option Addr) (ces1 : Nat) (w : World) (hn : n ≤ 1048576) (hh : h ≤ 1048576) (hM : Cl.bulk (Cl.mk (Co.mk tk1 tv1 tds1 tks1) es1) ≤ 1048576) (x6 : w.cell? ⟨mb, mo + 6, none⟩ = some (.slice ahs h chs)) (hr : RdS w (Cl.d (Cl.mk (Co.mk tk1 tv1 tds1 tks1) es1)) [.int .i64 tk1, .int .i64 tv1, .slice atds1 tds1.length ctds1, .slice atks1 tks1.length ctks1, .slice aes1 es1.length ces1]) :
    Calls Try.prog 60 #[.pointer (some ⟨mb, mo, none⟩), .agg #[.slice ab n cb], .agg #[.int .i64 tk1, .int .i64 tv1, .slice atds1 tds1.length ctds1, .slice atks1 tks1.length ctks1, .slice aes1 es1.length ces1]] w fun e w' => e = .returned (.bool (clOk n h (Cl.mk (Co.mk tk1 tv1 tds1 tks1) es1))) ∧ Below w.heap.size w w' := by
  have hbk : Cl.bulk (Cl.mk (Co.mk tk1 tv1 tds1 tks1) es1) = Co.bulk (Co.mk tk1 tv1 tds1 tks1) + In.bulks es1 := rfl
  have hel := In.bulks_length es1
  have hMt : Co.bulk (Co.mk tk1 tv1 tds1 tks1) ≤ 1048576 := by omega
  have hes : es1.length ≤ 1048576 := by omega
  have hB := (((Below.refl w.heap.size w).alloc (Nat.le_refl _) (.cells #[.pointer (some ⟨mb, mo, none⟩)] 91)).alloc (by simp) (.cells #[.slice ab n cb] 45)).alloc (by simp; omega) (.cells #[.int .i64 tk1, .int .i64 tv1, .slice atds1 tds1.length ctds1, .slice atks1 tks1.length ctks1, .slice aes1 es1.length ces1] 37)
  have hx0 := ((((Boxes.nil w).alloc #[.pointer (some ⟨mb, mo, none⟩)] 91 (0, 0)).alloc #[.slice ab n cb] 45 (0, 0)).alloc #[.int .i64 tk1, .int .i64 tv1, .slice atds1 tds1.length ctds1, .slice atks1 tks1.length ctks1, .slice aes1 es1.length ces1] 37 (0, 0))
  generalize hw3 : ((w.alloc (.cells #[.pointer (some ⟨mb, mo, none⟩)] 91)).alloc (.cells #[.slice ab n cb] 45)).alloc (.cells #[.int .i64 tk1, .int .i64 tv1, .slice atds1 tds1.length ctds1, .slice atks1 tks1.length ctks1, .slice aes1 es1.length ces1] 37) = w3 at hB hx0
  simp only [World.size_alloc] at hx0
  have HX0 := hid hx0
  have hrt := (RdS.subCl_t hr).below hB
  have hre := hr.fCl.2.below hB
  have X6 := hid ((hB.cell (p := ⟨mb, mo + 6, none⟩) (World.block_lt_of_cell? _ _ x6)).trans x6)
  have XL := hid (World.block_lt_of_cell? _ _ X6.out)
  have hv1 := impl_IsErased tk1 tv1 tds1 tks1 atds1 ctds1 atks1 ctks1 w3 hMt hrt
  have hv2 := fun W (hW : Below w3.heap.size w3 W) => impl_namesOnly tk1 tv1 tds1 tks1 atds1 ctds1 atks1 ctks1 n W (hrt.below hW)
  have hv3 := fun W (hW : Below w3.heap.size w3 W) => closed_all (Co.bulk (Co.mk tk1 tv1 tds1 tks1) + 1) tk1 tv1 tds1 tks1 atds1 ctds1 atks1 ctks1 es1.length W (by omega) (by omega) (by omega) (hrt.below hW)
  have hv4 := fun W (hW : Below w3.heap.size w3 W) => contains_In_1 98 Try.call98 (.pointer (some ⟨w.heap.size, 0, none⟩)) (notUp h) (fun V => V.cell? ⟨w.heap.size, 0, none⟩ = some (.pointer (some ⟨mb, mo, none⟩)) ∧ V.cell? ⟨mb, mo + 6, none⟩ = some (.slice ahs h chs)) (fun x y hab h => ⟨(hab.cell (p := ⟨w.heap.size, 0, none⟩) (World.block_lt_of_cell? _ _ h.1)).trans h.1, (hab.cell (p := ⟨mb, mo + 6, none⟩) (World.block_lt_of_cell? _ _ h.2)).trans h.2⟩) es1 aes1 ces1 W ⟨(HX0.out.below hW).at 2 0 rfl rfl, (hW.cell (p := ⟨mb, mo + 6, none⟩) XL.out).trans X6.out⟩ (hre.below hW)
    (fun x j V _ hV hrw => impl_notAddr mb mo h ahs chs x _ V hh hV.1 hV.2)
  rw [show es1.any (notUp h) = !es1.all (upTo h) from any_not (upTo h) es1] at hv4
  have HB0 := hid hB
  have HE := hid (show clOk n h (Cl.mk (Co.mk tk1 tv1 tds1 tks1) es1) = ((Co.ok (Co.mk tk1 tv1 tds1 tks1) && Co.era (Co.mk tk1 tv1 tds1 tks1)) && (Co.refs (Co.mk tk1 tv1 tds1 tks1) n && (Co.clo (Co.mk tk1 tv1 tds1 tks1) es1.length && (decide (es1.length ≤ 256) && es1.all (upTo h))))) by rw [clOk_mk]; simp only [Bool.and_assoc])
  generalize es1.all (upTo h) = r at hv4 HE
  subst hw3
  clear hr hrt hre hbk hel hM hMt hB hx0 x6
  by_cases t1 : (Co.ok (Co.mk tk1 tv1 tds1 tks1) && Co.era (Co.mk tk1 tv1 tds1 tks1)) = true
  case neg =>
    have HF := hid (show clOk n h (Cl.mk (Co.mk tk1 tv1 tds1 tks1) es1) = false by rw [HE.out, (Bool.not_eq_true _).mp t1]; simp)
    rw [(Bool.not_eq_true _).mp t1] at hv1
    have HV1 := hid hv1
    clear hv1 hv2 hv3 hv4 t1
    go_enter Try.func60, Try.ntmps60
    go_wp2_with fail
    refine HV1.out.mono ?_
    rintro e v0 ⟨rfl, hb⟩
    have HC0 := hid hb
    have HX1 := hid (HX0.out.below hb)
    clear hb
    have y0 := HX1.out.at 0 0 rfl rfl
    have y1 := HX1.out.at 0 1 rfl rfl
    have y2 := HX1.out.at 0 2 rfl rfl
    have y3 := HX1.out.at 0 3 rfl rfl
    have y4 := HX1.out.at 0 4 rfl rfl
    have yb := HX1.out.at 1 0 rfl rfl
    go_wp2_with fail
    go_ret
    exact ⟨ret_bool HF.out.symm, HB0.out.trans (HC0.out.mono HB0.out.size)⟩
  case pos =>
  by_cases t2 : Co.refs (Co.mk tk1 tv1 tds1 tks1) n = true
  case neg =>
    have HF := hid (show clOk n h (Cl.mk (Co.mk tk1 tv1 tds1 tks1) es1) = false by rw [HE.out, t1, (Bool.not_eq_true _).mp t2]; simp)
    rw [t1] at hv1
    have HV1 := hid hv1
    rw [(Bool.not_eq_true _).mp t2] at hv2
    have HV2 := hid hv2
    clear hv1 hv2 hv3 hv4 t1 t2
    go_enter Try.func60, Try.ntmps60
    go_wp2_with fail
    refine HV1.out.mono ?_
    rintro e v0 ⟨rfl, hb⟩
    have HC0 := hid hb
    have HX1 := hid (HX0.out.below hb)
    clear hb
    have y0 := HX1.out.at 0 0 rfl rfl
    have y1 := HX1.out.at 0 1 rfl rfl
    have y2 := HX1.out.at 0 2 rfl rfl
    have y3 := HX1.out.at 0 3 rfl rfl
    have y4 := HX1.out.at 0 4 rfl rfl
    have yb := HX1.out.at 1 0 rfl rfl
    go_wp2_with fail
    refine (HV2.out _ HC0.out).mono ?_
    rintro e v1 ⟨rfl, hb⟩
    have HC1 := hid (HC0.out.trans (hb.mono HC0.out.size))
    have HX2 := hid (HX1.out.below hb)
    clear hb y0 y1 y2 y3 y4 yb
    have y0 := HX2.out.at 0 0 rfl rfl
    have y1 := HX2.out.at 0 1 rfl rfl
    have y2 := HX2.out.at 0 2 rfl rfl
    have y3 := HX2.out.at 0 3 rfl rfl
    have y4 := HX2.out.at 0 4 rfl rfl
    have yb := HX2.out.at 1 0 rfl rfl
    go_wp2_with fail
    go_ret
    exact ⟨ret_bool HF.out.symm, HB0.out.trans (HC1.out.mono HB0.out.size)⟩
  case pos =>
  by_cases t3 : Co.clo (Co.mk tk1 tv1 tds1 tks1) es1.length = true
  case neg =>
    have HF := hid (show clOk n h (Cl.mk (Co.mk tk1 tv1 tds1 tks1) es1) = false by rw [HE.out, t1, t2, (Bool.not_eq_true _).mp t3]; simp)
    rw [t1] at hv1
    have HV1 := hid hv1
    rw [t2] at hv2
    have HV2 := hid hv2
    rw [(Bool.not_eq_true _).mp t3] at hv3
    have HV3 := hid hv3
    clear hv1 hv2 hv3 hv4 t1 t2 t3
    go_enter Try.func60, Try.ntmps60
    go_wp2_with fail
    refine HV1.out.mono ?_
    rintro e v0 ⟨rfl, hb⟩
    have HC0 := hid hb
    have HX1 := hid (HX0.out.below hb)
    clear hb
    have y0 := HX1.out.at 0 0 rfl rfl
    have y1 := HX1.out.at 0 1 rfl rfl
    have y2 := HX1.out.at 0 2 rfl rfl
    have y3 := HX1.out.at 0 3 rfl rfl
    have y4 := HX1.out.at 0 4 rfl rfl
    have yb := HX1.out.at 1 0 rfl rfl
    go_wp2_with fail
    refine (HV2.out _ HC0.out).mono ?_
    rintro e v1 ⟨rfl, hb⟩
    have HC1 := hid (HC0.out.trans (hb.mono HC0.out.size))
    have HX2 := hid (HX1.out.below hb)
    clear hb y0 y1 y2 y3 y4 yb
    have y0 := HX2.out.at 0 0 rfl rfl
    have y1 := HX2.out.at 0 1 rfl rfl
    have y2 := HX2.out.at 0 2 rfl rfl
    have y3 := HX2.out.at 0 3 rfl rfl
    have y4 := HX2.out.at 0 4 rfl rfl
    have yb := HX2.out.at 1 0 rfl rfl
    go_wp2_with fail
    refine (HV3.out _ HC1.out).mono ?_
    rintro e v2 ⟨rfl, hb⟩
    have HC2 := hid (HC1.out.trans (hb.mono HC1.out.size))
    have HX3 := hid (HX2.out.below hb)
    clear hb y0 y1 y2 y3 y4 yb
    have y0 := HX3.out.at 0 0 rfl rfl
    have y1 := HX3.out.at 0 1 rfl rfl
    have y2 := HX3.out.at 0 2 rfl rfl
    have y3 := HX3.out.at 0 3 rfl rfl
    have y4 := HX3.out.at 0 4 rfl rfl
    have yb := HX3.out.at 1 0 rfl rfl
    go_wp2_with fail
    go_ret
    exact ⟨ret_bool HF.out.symm, HB0.out.trans (HC2.out.mono HB0.out.size)⟩
  case pos =>
  by_cases t4 : es1.length ≤ 256
  case neg =>
    have HF := hid (show clOk n h (Cl.mk (Co.mk tk1 tv1 tds1 tks1) es1) = false by rw [HE.out, t1, t2, t3]; simp [t4])
    have g4 : decide ((256 : Int) < es1.length) = true := decide_eq_true (by omega)
    rw [t1] at hv1
    have HV1 := hid hv1
    rw [t2] at hv2
    have HV2 := hid hv2
    rw [t3] at hv3
    have HV3 := hid hv3
    clear hv1 hv2 hv3 hv4 t1 t2 t3 t4
    go_enter Try.func60, Try.ntmps60
    go_wp2_with fail
    refine HV1.out.mono ?_
    rintro e v0 ⟨rfl, hb⟩
    have HC0 := hid hb
    have HX1 := hid (HX0.out.below hb)
    clear hb
    have y0 := HX1.out.at 0 0 rfl rfl
    have y1 := HX1.out.at 0 1 rfl rfl
    have y2 := HX1.out.at 0 2 rfl rfl
    have y3 := HX1.out.at 0 3 rfl rfl
    have y4 := HX1.out.at 0 4 rfl rfl
    have yb := HX1.out.at 1 0 rfl rfl
    go_wp2_with fail
    refine (HV2.out _ HC0.out).mono ?_
    rintro e v1 ⟨rfl, hb⟩
    have HC1 := hid (HC0.out.trans (hb.mono HC0.out.size))
    have HX2 := hid (HX1.out.below hb)
    clear hb y0 y1 y2 y3 y4 yb
    have y0 := HX2.out.at 0 0 rfl rfl
    have y1 := HX2.out.at 0 1 rfl rfl
    have y2 := HX2.out.at 0 2 rfl rfl
    have y3 := HX2.out.at 0 3 rfl rfl
    have y4 := HX2.out.at 0 4 rfl rfl
    have yb := HX2.out.at 1 0 rfl rfl
    go_wp2_with fail
    refine (HV3.out _ HC1.out).mono ?_
    rintro e v2 ⟨rfl, hb⟩
    have HC2 := hid (HC1.out.trans (hb.mono HC1.out.size))
    have HX3 := hid (HX2.out.below hb)
    clear hb y0 y1 y2 y3 y4 yb
    have y0 := HX3.out.at 0 0 rfl rfl
    have y1 := HX3.out.at 0 1 rfl rfl
    have y2 := HX3.out.at 0 2 rfl rfl
    have y3 := HX3.out.at 0 3 rfl rfl
    have y4 := HX3.out.at 0 4 rfl rfl
    have yb := HX3.out.at 1 0 rfl rfl
    go_wp2_with fail
    go_ret
    exact ⟨ret_bool HF.out.symm, HB0.out.trans (HC2.out.mono HB0.out.size)⟩
  case pos =>
  have g4 : decide ((256 : Int) < es1.length) = false := decide_eq_false (by omega)
  have HF := hid (show clOk n h (Cl.mk (Co.mk tk1 tv1 tds1 tks1) es1) = r by rw [HE.out, t1, t2, t3]; simp [t4])
  rw [t1] at hv1
  rw [t2] at hv2
  rw [t3] at hv3
  have HV1 := hid hv1
  have HV2 := hid hv2
  have HV3 := hid hv3
  have HV4 := hid hv4
  clear hv1 hv2 hv3 hv4 t1 t2 t3 t4
  go_enter Try.func60, Try.ntmps60
  go_wp2_with fail
  refine HV1.out.mono ?_
  rintro e v0 ⟨rfl, hb⟩
  have HC0 := hid hb
  have HX1 := hid (HX0.out.below hb)
  clear hb
  have y0 := HX1.out.at 0 0 rfl rfl
  have y1 := HX1.out.at 0 1 rfl rfl
  have y2 := HX1.out.at 0 2 rfl rfl
  have y3 := HX1.out.at 0 3 rfl rfl
  have y4 := HX1.out.at 0 4 rfl rfl
  have yb := HX1.out.at 1 0 rfl rfl
  go_wp2_with fail
  refine (HV2.out _ HC0.out).mono ?_
  rintro e v1 ⟨rfl, hb⟩
  have HC1 := hid (HC0.out.trans (hb.mono HC0.out.size))
  have HX2 := hid (HX1.out.below hb)
  clear hb y0 y1 y2 y3 y4 yb
  have y0 := HX2.out.at 0 0 rfl rfl
  have y1 := HX2.out.at 0 1 rfl rfl
  have y2 := HX2.out.at 0 2 rfl rfl
  have y3 := HX2.out.at 0 3 rfl rfl
  have y4 := HX2.out.at 0 4 rfl rfl
  have yb := HX2.out.at 1 0 rfl rfl
  go_wp2_with fail
  refine (HV3.out _ HC1.out).mono ?_
  rintro e v2 ⟨rfl, hb⟩
  have HC2 := hid (HC1.out.trans (hb.mono HC1.out.size))
  have HX3 := hid (HX2.out.below hb)
  clear hb y0 y1 y2 y3 y4 yb
  have y0 := HX3.out.at 0 0 rfl rfl
  have y1 := HX3.out.at 0 1 rfl rfl
  have y2 := HX3.out.at 0 2 rfl rfl
  have y3 := HX3.out.at 0 3 rfl rfl
  have y4 := HX3.out.at 0 4 rfl rfl
  have yb := HX3.out.at 1 0 rfl rfl
  go_wp2_with fail
  refine (HV4.out _ HC2.out).mono ?_
  rintro e v3 ⟨rfl, hb⟩
  have HC3 := hid (HB0.out.trans ((HC2.out.trans (hb.mono HC2.out.size)).mono HB0.out.size))
  clear hb y0 y1 y2 y3 y4 yb
  go_wp2_with fail
  go_ret
  exact ⟨ret_bool (by rw [HF.out]), HC3.out⟩
end Go.Proofs.Ytlbebnmhldolnaa
