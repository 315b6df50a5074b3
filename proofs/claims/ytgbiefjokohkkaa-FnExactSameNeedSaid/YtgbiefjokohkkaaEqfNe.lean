/- Walks: slices.EqualFunc over a function value known by its contract. -/
import Derived.Test.YtgbiefjokohkkaaEqBy
import Derived.Test.YtgbiefjokohkkaaDNe
import Derived.Test.YtgbiefjokohkkaaTwo
import Derived.Lib.QuietBelow
namespace Go.Proofs.Ytgbiefjokohkkaa
open Go.ChangeShapes Go.WideShapes Go.ChangeAt Go.RowKit
set_option linter.unusedVariables false

set_option maxRecDepth 100000 in
set_option maxHeartbeats 1000000 in
theorem equalFunc_Fr (F : FuncId) (eF : ∀ args (w : World), (callFunc F args).run Try.prog w = .ok (.enter F args) w) (p : Fr → Fr → Bool) (ts : List Fr) (us : List Fr) (a a' : Option Addr) (cap cap' : Nat) (w : World)
    (hr : RdL w (Fr.ds ts) (.slice a ts.length cap)) (hr' : RdL w (Fr.ds us) (.slice a' us.length cap'))
    (hc : ∀ (k3 : Int) (v3 : Int) (ds3 : List Int) (ctk3 : Int) (ctv3 : Int) (ctds3 : List Int) (ctks3 : List Co) (ces3 : List Int) (ads3 : Option Addr) (cds3 : Nat) (actds3 : Option Addr) (cctds3 : Nat) (actks3 : Option Addr) (cctks3 : Nat) (aces3 : Option Addr) (cces3 : Nat) (k4 : Int) (v4 : Int) (ds4 : List Int) (ctk4 : Int) (ctv4 : Int) (ctds4 : List Int) (ctks4 : List Co) (ces4 : List Int) (ads4 : Option Addr) (cds4 : Nat) (actds4 : Option Addr) (cctds4 : Nat) (actks4 : Option Addr) (cctks4 : Nat) (aces4 : Option Addr) (cces4 : Nat) (j : Nat) (W : World), ts[j]? = some (Fr.mk k3 v3 ds3 (Cl.mk (Co.mk ctk3 ctv3 ctds3 ctks3) ces3)) → us[j]? = some (Fr.mk k4 v4 ds4 (Cl.mk (Co.mk ctk4 ctv4 ctds4 ctks4) ces4)) → Below w.heap.size w W → RdS W (Fr.d (Fr.mk k3 v3 ds3 (Cl.mk (Co.mk ctk3 ctv3 ctds3 ctks3) ces3))) [.int .i64 k3, .int .i64 v3, .slice ads3 ds3.length cds3, .int .i64 ctk3, .int .i64 ctv3, .slice actds3 ctds3.length cctds3, .slice actks3 ctks3.length cctks3, .slice aces3 ces3.length cces3] → RdS W (Fr.d (Fr.mk k4 v4 ds4 (Cl.mk (Co.mk ctk4 ctv4 ctds4 ctks4) ces4))) [.int .i64 k4, .int .i64 v4, .slice ads4 ds4.length cds4, .int .i64 ctk4, .int .i64 ctv4, .slice actds4 ctds4.length cctds4, .slice actks4 ctks4.length cctks4, .slice aces4 ces4.length cces4] → Calls Try.prog F #[.agg #[.int .i64 k3, .int .i64 v3, .slice ads3 ds3.length cds3, .int .i64 ctk3, .int .i64 ctv3, .slice actds3 ctds3.length cctds3, .slice actks3 ctks3.length cctks3, .slice aces3 ces3.length cces3], .agg #[.int .i64 k4, .int .i64 v4, .slice ads4 ds4.length cds4, .int .i64 ctk4, .int .i64 ctv4, .slice actds4 ctds4.length cctds4, .slice actks4 ctks4.length cctks4, .slice aces4 ces4.length cces4]] W fun e w' => e = .returned (.bool (p (Fr.mk k3 v3 ds3 (Cl.mk (Co.mk ctk3 ctv3 ctds3 ctks3) ces3)) (Fr.mk k4 v4 ds4 (Cl.mk (Co.mk ctk4 ctv4 ctds4 ctks4) ces4)))) ∧ Below W.heap.size W w') :
    Calls Try.prog 85 #[.slice a ts.length cap, .slice a' us.length cap', .func (.func F) #[] #[]] w fun e w' => e = .returned (.bool (eqBy p ts us)) ∧ Below w.heap.size w w' := by
  obtain ⟨_, _, e, h2, h3, h4⟩ := hr.eFr
  simp only [Value.slice.injEq, true_and] at e
  obtain ⟨rfl, rfl⟩ := e
  obtain ⟨_, _, e, h2', h3', h4'⟩ := hr'.eFr
  simp only [Value.slice.injEq, true_and] at e
  obtain ⟨rfl, rfl⟩ := e
  have HC0 := hid hc
  have H4 := hid h4
  have H4' := hid h4'
  clear hc hr h4 hr' h4'
  by_cases hl : ts.length = us.length
  case pos =>
    have hlb : ((ts.length : Int) != (us.length : Int)) = false := by simp [hl]
    have HL := hid hl
    clear hl
    go_enter Try.func85, Try.ntmps85
    go_wp2_with fail
    go_loopw [7, 8, 9, 17] (fun _ _ _ i wr => ∃ (j : Nat), j ≤ ts.length ∧ i = .int .i64 j ∧ Hid (∀ (i : Nat) t u, i < j → ts[i]? = some t → us[i]? = some u → p t u = true) ∧ Below w.heap.size w wr) (fun _ _ _ i _ => ts.length - (intOf i).toNat)
    case atStart => exact ⟨0, by omega, rfl, fun i t u hi => absurd hi (by omega), Below.refl _ _⟩
    case round =>
      obtain ⟨j, hj, rfl, HJ, hb⟩ := hrel
      by_cases hlt : j < ts.length
      case pos =>
        have x0 := hb.size
        have hlt' : j < us.length := by have := HL.out; omega
        obtain ⟨b, o, rfl, hbl, hall⟩ := H4.out (by omega)
        obtain ⟨b', o', rfl, hbl', hall'⟩ := H4'.out (by omega)
        obtain ⟨t, ht⟩ : ∃ t, ts[j]? = some t := ⟨_, List.getElem?_eq_getElem hlt⟩
        obtain ⟨t', ht'⟩ : ∃ t, us[j]? = some t := ⟨_, List.getElem?_eq_getElem hlt'⟩
        obtain ⟨k3, v3, ds3, ⟨⟨ctk3, ctv3, ctds3, ctks3⟩, ces3⟩⟩ := t
        obtain ⟨k4, v4, ds4, ⟨⟨ctk4, ctv4, ctds4, ctks4⟩, ces4⟩⟩ := t'
        obtain ⟨ads3, cds3, actds3, cctds3, actks3, cctks3, aces3, cces3, q_0, q_1, q_2, q_3, q_4, q_5, q_6, q_7, hrk⟩ := hall j k3 v3 ds3 ctk3 ctv3 ctds3 ctks3 ces3 ht
        obtain ⟨ads4, cds4, actds4, cctds4, actks4, cctks4, aces4, cces4, p_0, p_1, p_2, p_3, p_4, p_5, p_6, p_7, hrk'⟩ := hall' j k4 v4 ds4 ctk4 ctv4 ctds4 ctks4 ces4 ht'
        clear hall H4 hall' H4'
        have dq0 := (hb.cell (p := ⟨b, o + j * 8, none⟩) hbl).trans q_0
        have dq1 := (hb.cell (p := ⟨b, o + j * 8 + 1, none⟩) hbl).trans q_1
        have dq2 := (hb.cell (p := ⟨b, o + j * 8 + 2, none⟩) hbl).trans q_2
        have dq3 := (hb.cell (p := ⟨b, o + j * 8 + 3, none⟩) hbl).trans q_3
        have dq4 := (hb.cell (p := ⟨b, o + j * 8 + 4, none⟩) hbl).trans q_4
        have dq5 := (hb.cell (p := ⟨b, o + j * 8 + 5, none⟩) hbl).trans q_5
        have dq6 := (hb.cell (p := ⟨b, o + j * 8 + 6, none⟩) hbl).trans q_6
        have dq7 := (hb.cell (p := ⟨b, o + j * 8 + 7, none⟩) hbl).trans q_7
        have dp0 := (hb.cell (p := ⟨b', o' + j * 8, none⟩) hbl').trans p_0
        have dp1 := (hb.cell (p := ⟨b', o' + j * 8 + 1, none⟩) hbl').trans p_1
        have dp2 := (hb.cell (p := ⟨b', o' + j * 8 + 2, none⟩) hbl').trans p_2
        have dp3 := (hb.cell (p := ⟨b', o' + j * 8 + 3, none⟩) hbl').trans p_3
        have dp4 := (hb.cell (p := ⟨b', o' + j * 8 + 4, none⟩) hbl').trans p_4
        have dp5 := (hb.cell (p := ⟨b', o' + j * 8 + 5, none⟩) hbl').trans p_5
        have dp6 := (hb.cell (p := ⟨b', o' + j * 8 + 6, none⟩) hbl').trans p_6
        have dp7 := (hb.cell (p := ⟨b', o' + j * 8 + 7, none⟩) hbl').trans p_7
        have x1 : b < wr.heap.size := Nat.lt_of_lt_of_le hbl hb.size
        have x2 : b' < wr.heap.size := Nat.lt_of_lt_of_le hbl' hb.size
        have hcc := fun W hW => HC0.out k3 v3 ds3 ctk3 ctv3 ctds3 ctks3 ces3 ads3 cds3 actds3 cctds3 actks3 cctks3 aces3 cces3 k4 v4 ds4 ctk4 ctv4 ctds4 ctks4 ces4 ads4 cds4 actds4 cctds4 actks4 cctks4 aces4 cces4 j W ht ht' (hb.trans (Below.mono hW hb.size)) ((hrk.below hb).below hW) ((hrk'.below hb).below hW)
        have HT := hid ht
        have HT' := hid ht'
        have HC := hid hcc
        clear ht hrk hrk' q_0 q_1 q_2 q_3 q_4 q_5 q_6 q_7 p_0 p_1 p_2 p_3 p_4 p_5 p_6 p_7 hcc ht' HC0
        cases hq : p (Fr.mk k3 v3 ds3 (Cl.mk (Co.mk ctk3 ctv3 ctds3 ctks3) ces3)) (Fr.mk k4 v4 ds4 (Cl.mk (Co.mk ctk4 ctv4 ctds4 ctks4) ces4))
        · rw [hq] at HC
          have HQ := hid hq
          clear hq
          go_wp2_with fail
          refine (HC.out _ (((Below.refl _ _).alloc (Nat.le_refl _) _).alloc (by simp) _)).mono ?_
          rintro e w1 ⟨rfl, hb1⟩
          have hbw : Below w.heap.size w w1 := ((hb.alloc hb.size _).alloc (by have := hb.size; simp; omega) _).trans (hb1.mono (by have := hb.size; simp; omega))
          go_wp2_with fail
          go_ret
          exact ⟨ret_bool (eqBy_no p ts us j _ _ HT.out HT'.out HQ.out).symm, hbw⟩
        · rw [hq] at HC
          have HQ := hid hq
          clear hq
          go_wp2_with fail
          refine (HC.out _ (((Below.refl _ _).alloc (Nat.le_refl _) _).alloc (by simp) _)).mono ?_
          rintro e w1 ⟨rfl, hb1⟩
          have hbw : Below w.heap.size w w1 := ((hb.alloc hb.size _).alloc (by have := hb.size; simp; omega) _).trans (hb1.mono (by have := hb.size; simp; omega))
          clear hb1
          go_wp2_with fail
          go_roundw
          case rel =>
            refine ⟨j + 1, by omega, by go_num, fun i t u hi h1 h2 => ?_, hbw⟩
            rcases Nat.lt_succ_iff_lt_or_eq.1 hi with hi | rfl
            · exact HJ.out i t u hi h1 h2
            · obtain rfl := Option.some.inj (h1.symm.trans HT.out)
              obtain rfl := Option.some.inj (h2.symm.trans HT'.out)
              exact HQ.out
          case measure => simp [intOf]; omega
      case neg =>
        go_wp2_with fail
        go_ret
        exact ⟨ret_bool (eqBy_yes p ts us HL.out (fun i t u h1 h2 => HJ.out i t u (by have := (List.getElem?_eq_some_iff.1 h1).1; omega) h1 h2)).symm, hb⟩
  case neg =>
    have hlb : ((ts.length : Int) != (us.length : Int)) = true := by simp; omega
    rw [eqBy_len p ts us hl]
    clear hl HC0 H4 H4' eF
    go_enter Try.func85, Try.ntmps85
    go_wp2_with fail
    go_ret
    exact ⟨rfl, Below.refl _ _⟩

set_option maxRecDepth 100000 in
set_option maxHeartbeats 1000000 in
theorem equalFunc_Th (F : FuncId) (eF : ∀ args (w : World), (callFunc F args).run Try.prog w = .ok (.enter F args) w) (p : Th → Th → Bool) (ts : List Th) (us : List Th) (a a' : Option Addr) (cap cap' : Nat) (w : World)
    (hr : RdL w (Th.ds ts) (.slice a ts.length cap)) (hr' : RdL w (Th.ds us) (.slice a' us.length cap'))
    (hc : ∀ (dn3 : Bool) (ctk3 : Int) (ctv3 : Int) (ctds3 : List Int) (ctks3 : List Co) (ces3 : List Int) (actds3 : Option Addr) (cctds3 : Nat) (actks3 : Option Addr) (cctks3 : Nat) (aces3 : Option Addr) (cces3 : Nat) (dn4 : Bool) (ctk4 : Int) (ctv4 : Int) (ctds4 : List Int) (ctks4 : List Co) (ces4 : List Int) (actds4 : Option Addr) (cctds4 : Nat) (actks4 : Option Addr) (cctks4 : Nat) (aces4 : Option Addr) (cces4 : Nat) (j : Nat) (W : World), ts[j]? = some (Th.mk dn3 (Cl.mk (Co.mk ctk3 ctv3 ctds3 ctks3) ces3)) → us[j]? = some (Th.mk dn4 (Cl.mk (Co.mk ctk4 ctv4 ctds4 ctks4) ces4)) → Below w.heap.size w W → RdS W (Th.d (Th.mk dn3 (Cl.mk (Co.mk ctk3 ctv3 ctds3 ctks3) ces3))) [.bool dn3, .int .i64 ctk3, .int .i64 ctv3, .slice actds3 ctds3.length cctds3, .slice actks3 ctks3.length cctks3, .slice aces3 ces3.length cces3] → RdS W (Th.d (Th.mk dn4 (Cl.mk (Co.mk ctk4 ctv4 ctds4 ctks4) ces4))) [.bool dn4, .int .i64 ctk4, .int .i64 ctv4, .slice actds4 ctds4.length cctds4, .slice actks4 ctks4.length cctks4, .slice aces4 ces4.length cces4] → Calls Try.prog F #[.agg #[.bool dn3, .int .i64 ctk3, .int .i64 ctv3, .slice actds3 ctds3.length cctds3, .slice actks3 ctks3.length cctks3, .slice aces3 ces3.length cces3], .agg #[.bool dn4, .int .i64 ctk4, .int .i64 ctv4, .slice actds4 ctds4.length cctds4, .slice actks4 ctks4.length cctks4, .slice aces4 ces4.length cces4]] W fun e w' => e = .returned (.bool (p (Th.mk dn3 (Cl.mk (Co.mk ctk3 ctv3 ctds3 ctks3) ces3)) (Th.mk dn4 (Cl.mk (Co.mk ctk4 ctv4 ctds4 ctks4) ces4)))) ∧ Below W.heap.size W w') :
    Calls Try.prog 87 #[.slice a ts.length cap, .slice a' us.length cap', .func (.func F) #[] #[]] w fun e w' => e = .returned (.bool (eqBy p ts us)) ∧ Below w.heap.size w w' := by
  obtain ⟨_, _, e, h2, h3, h4⟩ := hr.eTh
  simp only [Value.slice.injEq, true_and] at e
  obtain ⟨rfl, rfl⟩ := e
  obtain ⟨_, _, e, h2', h3', h4'⟩ := hr'.eTh
  simp only [Value.slice.injEq, true_and] at e
  obtain ⟨rfl, rfl⟩ := e
  have HC0 := hid hc
  have H4 := hid h4
  have H4' := hid h4'
  clear hc hr h4 hr' h4'
  by_cases hl : ts.length = us.length
  case pos =>
    have hlb : ((ts.length : Int) != (us.length : Int)) = false := by simp [hl]
    have HL := hid hl
    clear hl
    go_enter Try.func87, Try.ntmps87
    go_wp2_with fail
    go_loopw [7, 8, 9, 17] (fun _ _ _ i wr => ∃ (j : Nat), j ≤ ts.length ∧ i = .int .i64 j ∧ Hid (∀ (i : Nat) t u, i < j → ts[i]? = some t → us[i]? = some u → p t u = true) ∧ Below w.heap.size w wr) (fun _ _ _ i _ => ts.length - (intOf i).toNat)
    case atStart => exact ⟨0, by omega, rfl, fun i t u hi => absurd hi (by omega), Below.refl _ _⟩
    case round =>
      obtain ⟨j, hj, rfl, HJ, hb⟩ := hrel
      by_cases hlt : j < ts.length
      case pos =>
        have x0 := hb.size
        have hlt' : j < us.length := by have := HL.out; omega
        obtain ⟨b, o, rfl, hbl, hall⟩ := H4.out (by omega)
        obtain ⟨b', o', rfl, hbl', hall'⟩ := H4'.out (by omega)
        obtain ⟨t, ht⟩ : ∃ t, ts[j]? = some t := ⟨_, List.getElem?_eq_getElem hlt⟩
        obtain ⟨t', ht'⟩ : ∃ t, us[j]? = some t := ⟨_, List.getElem?_eq_getElem hlt'⟩
        obtain ⟨dn3, ⟨⟨ctk3, ctv3, ctds3, ctks3⟩, ces3⟩⟩ := t
        obtain ⟨dn4, ⟨⟨ctk4, ctv4, ctds4, ctks4⟩, ces4⟩⟩ := t'
        obtain ⟨actds3, cctds3, actks3, cctks3, aces3, cces3, q_0, q_1, q_2, q_3, q_4, q_5, hrk⟩ := hall j dn3 ctk3 ctv3 ctds3 ctks3 ces3 ht
        obtain ⟨actds4, cctds4, actks4, cctks4, aces4, cces4, p_0, p_1, p_2, p_3, p_4, p_5, hrk'⟩ := hall' j dn4 ctk4 ctv4 ctds4 ctks4 ces4 ht'
        clear hall H4 hall' H4'
        have dq0 := (hb.cell (p := ⟨b, o + j * 6, none⟩) hbl).trans q_0
        have dq1 := (hb.cell (p := ⟨b, o + j * 6 + 1, none⟩) hbl).trans q_1
        have dq2 := (hb.cell (p := ⟨b, o + j * 6 + 2, none⟩) hbl).trans q_2
        have dq3 := (hb.cell (p := ⟨b, o + j * 6 + 3, none⟩) hbl).trans q_3
        have dq4 := (hb.cell (p := ⟨b, o + j * 6 + 4, none⟩) hbl).trans q_4
        have dq5 := (hb.cell (p := ⟨b, o + j * 6 + 5, none⟩) hbl).trans q_5
        have dp0 := (hb.cell (p := ⟨b', o' + j * 6, none⟩) hbl').trans p_0
        have dp1 := (hb.cell (p := ⟨b', o' + j * 6 + 1, none⟩) hbl').trans p_1
        have dp2 := (hb.cell (p := ⟨b', o' + j * 6 + 2, none⟩) hbl').trans p_2
        have dp3 := (hb.cell (p := ⟨b', o' + j * 6 + 3, none⟩) hbl').trans p_3
        have dp4 := (hb.cell (p := ⟨b', o' + j * 6 + 4, none⟩) hbl').trans p_4
        have dp5 := (hb.cell (p := ⟨b', o' + j * 6 + 5, none⟩) hbl').trans p_5
        have x1 : b < wr.heap.size := Nat.lt_of_lt_of_le hbl hb.size
        have x2 : b' < wr.heap.size := Nat.lt_of_lt_of_le hbl' hb.size
        have hcc := fun W hW => HC0.out dn3 ctk3 ctv3 ctds3 ctks3 ces3 actds3 cctds3 actks3 cctks3 aces3 cces3 dn4 ctk4 ctv4 ctds4 ctks4 ces4 actds4 cctds4 actks4 cctks4 aces4 cces4 j W ht ht' (hb.trans (Below.mono hW hb.size)) ((hrk.below hb).below hW) ((hrk'.below hb).below hW)
        have HT := hid ht
        have HT' := hid ht'
        have HC := hid hcc
        clear ht hrk hrk' q_0 q_1 q_2 q_3 q_4 q_5 p_0 p_1 p_2 p_3 p_4 p_5 hcc ht' HC0
        cases hq : p (Th.mk dn3 (Cl.mk (Co.mk ctk3 ctv3 ctds3 ctks3) ces3)) (Th.mk dn4 (Cl.mk (Co.mk ctk4 ctv4 ctds4 ctks4) ces4))
        · rw [hq] at HC
          have HQ := hid hq
          clear hq
          go_wp2_with fail
          refine (HC.out _ (((Below.refl _ _).alloc (Nat.le_refl _) _).alloc (by simp) _)).mono ?_
          rintro e w1 ⟨rfl, hb1⟩
          have hbw : Below w.heap.size w w1 := ((hb.alloc hb.size _).alloc (by have := hb.size; simp; omega) _).trans (hb1.mono (by have := hb.size; simp; omega))
          go_wp2_with fail
          go_ret
          exact ⟨ret_bool (eqBy_no p ts us j _ _ HT.out HT'.out HQ.out).symm, hbw⟩
        · rw [hq] at HC
          have HQ := hid hq
          clear hq
          go_wp2_with fail
          refine (HC.out _ (((Below.refl _ _).alloc (Nat.le_refl _) _).alloc (by simp) _)).mono ?_
          rintro e w1 ⟨rfl, hb1⟩
          have hbw : Below w.heap.size w w1 := ((hb.alloc hb.size _).alloc (by have := hb.size; simp; omega) _).trans (hb1.mono (by have := hb.size; simp; omega))
          clear hb1
          go_wp2_with fail
          go_roundw
          case rel =>
            refine ⟨j + 1, by omega, by go_num, fun i t u hi h1 h2 => ?_, hbw⟩
            rcases Nat.lt_succ_iff_lt_or_eq.1 hi with hi | rfl
            · exact HJ.out i t u hi h1 h2
            · obtain rfl := Option.some.inj (h1.symm.trans HT.out)
              obtain rfl := Option.some.inj (h2.symm.trans HT'.out)
              exact HQ.out
          case measure => simp [intOf]; omega
      case neg =>
        go_wp2_with fail
        go_ret
        exact ⟨ret_bool (eqBy_yes p ts us HL.out (fun i t u h1 h2 => HJ.out i t u (by have := (List.getElem?_eq_some_iff.1 h1).1; omega) h1 h2)).symm, hb⟩
  case neg =>
    have hlb : ((ts.length : Int) != (us.length : Int)) = true := by simp; omega
    rw [eqBy_len p ts us hl]
    clear hl HC0 H4 H4' eF
    go_enter Try.func87, Try.ntmps87
    go_wp2_with fail
    go_ret
    exact ⟨rfl, Below.refl _ _⟩

end Go.Proofs.Ytgbiefjokohkkaa
