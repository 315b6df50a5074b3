/- Walks: whether two cores are the same, in the reference. -/
import Derived.Test.YtgbiefjokohkkaaSaCo
import Derived.BigQuiet
namespace Go.Proofs.Ytgbiefjokohkkaa
open Go.ChangeShapes Go.WideShapes Go.ChangeAt Go.RowKit
open Go.Sort (grow)
open Go.BigFrame
set_option linter.unusedVariables false

def SameCoP (N : Nat) : Prop := ∀ (k1 : Int) (v1 : Int) (ds1 : List Int) (ks1 : List Co) (ads1 : Option Addr) (cds1 : Nat) (aks1 : Option Addr) (cks1 : Nat) (k2 : Int) (v2 : Int) (ds2 : List Int) (ks2 : List Co) (ads2 : Option Addr) (cds2 : Nat) (aks2 : Option Addr) (cks2 : Nat) (b1 o1 b2 o2 : Nat) (w : World), Co.bulk (Co.mk k1 v1 ds1 ks1) < N → w.cell? ⟨b1, o1, none⟩ = some (.int .i64 k1) → w.cell? ⟨b1, o1 + 1, none⟩ = some (.int .i64 v1) → w.cell? ⟨b1, o1 + 2, none⟩ = some (.slice ads1 ds1.length cds1) → w.cell? ⟨b1, o1 + 3, none⟩ = some (.slice aks1 ks1.length cks1) → w.cell? ⟨b2, o2, none⟩ = some (.int .i64 k2) → w.cell? ⟨b2, o2 + 1, none⟩ = some (.int .i64 v2) → w.cell? ⟨b2, o2 + 2, none⟩ = some (.slice ads2 ds2.length cds2) → w.cell? ⟨b2, o2 + 3, none⟩ = some (.slice aks2 ks2.length cks2) → RdS w (Co.d (Co.mk k1 v1 ds1 ks1)) [.int .i64 k1, .int .i64 v1, .slice ads1 ds1.length cds1, .slice aks1 ks1.length cks1] → RdS w (Co.d (Co.mk k2 v2 ds2 ks2)) [.int .i64 k2, .int .i64 v2, .slice ads2 ds2.length cds2, .slice aks2 ks2.length cks2] →
  Calls Try.prog 47 #[.pointer (some ⟨b1, o1, none⟩), .pointer (some ⟨b2, o2, none⟩)] w fun e w' => e = .returned (.bool (Co.eqb (Co.mk k1 v1 ds1 ks1) (Co.mk k2 v2 ds2 ks2))) ∧ Below w.heap.size w w'

set_option maxHeartbeats 1000000 in
theorem spec_l06Same_step (N : Nat) (ih : SameCoP N) : SameCoP (N + 1) := by
  intro k1 v1 ds1 ks1 ads1 cds1 aks1 cks1 k2 v2 ds2 ks2 ads2 cds2 aks2 cks2 b1 o1 b2 o2 w hN x0 x1 x2 x3 y0 y1 y2 y3 hr hr'
  have hbk : Co.bulk (Co.mk k1 v1 ds1 ks1) = In.bulks ds1 + Co.bulks ks1 := rfl
  have he : Co.eqb (Co.mk k1 v1 ds1 ks1) (Co.mk k2 v2 ds2 ks2) = (decide (k1 = k2) && (decide (v1 = v2) && (decide (ds1 = ds2) && Co.eqbs ks1 ks2))) := rfl
  obtain ⟨-, -, f_ds, f_ks⟩ := hr.fCo
  obtain ⟨-, -, g_ds, g_ks⟩ := hr'.fCo
  have hc0 := fun d os => Calls.regrown_of (spec_sameIn ds1 ds2 ads1 ads2 cds1 cds2 (grow (redrawn w d) os) (f_ds.below (below_regrown w d os)) (g_ds.below (below_regrown w d os)))
  rw [he]
  clear he f_ds g_ds hr hr'
  have e0 := cell_regrown x0
  have d0 := cell_regrown y0
  have e1 := cell_regrown x1
  have d1 := cell_regrown y1
  have e2 := cell_regrown x2
  have d2 := cell_regrown y2
  have e3 := cell_regrown x3
  have d3 := cell_regrown y3
  obtain ⟨_, _, e, h2, h3, h4⟩ := f_ks.eCo
  simp only [Value.slice.injEq, true_and] at e
  obtain ⟨rfl, rfl⟩ := e
  obtain ⟨_, _, e, h2', h3', h4'⟩ := g_ks.eCo
  simp only [Value.slice.injEq, true_and] at e
  obtain ⟨rfl, rfl⟩ := e
  have IH := hid ih
  have H4 := hid h4
  have H4' := hid h4'
  have HK := hid hbk
  have X3 := hid x3
  have Y3 := hid y3
  have hx1 := World.block_lt_of_cell? _ _ x3
  have hy1 := World.block_lt_of_cell? _ _ y3
  clear ih h4 h4' hbk f_ks g_ks x0 x1 x2 x3 y0 y1 y2 y3
  by_cases h_k : k1 = k2
  case neg =>
    have e : (decide (k1 = k2) && (decide (v1 = v2) && (decide (ds1 = ds2) && Co.eqbs ks1 ks2))) = false := by simp [h_k]
    rw [e]
    have hb_k : (k1 != k2) = true := by simp [h_k]
    clear e h_k hc0 H4 H4' IH HK
    go_enter Try.func47, Try.ntmps47
    go_wp2_with fail
    refine wp_region_quiet_below (by kernel_rfl) (by kernel_rfl) ?_
    repeat (go_big_quiet_step (fail))
    refine wpQuiet_nil ?_
    intro _ hw'
    obtain ⟨⟨dq0, osq0⟩, hw''⟩ := hw'
    subst hw''
    have hb1 := below_regrown w dq0 osq0
    clear e0 d0 e1 d1 e2 d2 e3 d3
    go_wp2_with fail
    go_ret
    exact ⟨rfl, hb1⟩
  case pos =>
    have hb_k : (k1 != k2) = false := by simp [h_k]
    by_cases h_v : v1 = v2
    case neg =>
      have e : (decide (k1 = k2) && (decide (v1 = v2) && (decide (ds1 = ds2) && Co.eqbs ks1 ks2))) = false := by simp [h_k, h_v]
      rw [e]
      have hb_v : (v1 != v2) = true := by simp [h_v]
      clear e h_k h_v hc0 H4 H4' IH HK
      go_enter Try.func47, Try.ntmps47
      go_wp2_with fail
      refine wp_region_quiet_below (by kernel_rfl) (by kernel_rfl) ?_
      repeat (go_big_quiet_step (fail))
      refine wpQuiet_nil ?_
      intro _ hw'
      obtain ⟨⟨dq0, osq0⟩, hw''⟩ := hw'
      subst hw''
      have hb1 := below_regrown w dq0 osq0
      clear e0 d0 e1 d1 e2 d2 e3 d3
      go_wp2_with fail
      go_ret
      exact ⟨rfl, hb1⟩
    case pos =>
      have hb_v : (v1 != v2) = false := by simp [h_v]
      by_cases h_ds : (decide (ds1 = ds2)) = true
      case neg =>
        replace h_ds := (Bool.not_eq_true _).mp h_ds
        rw [h_ds] at hc0
        have HC0 := hid hc0
        have e : (decide (k1 = k2) && (decide (v1 = v2) && (decide (ds1 = ds2) && Co.eqbs ks1 ks2))) = false := by simp only [h_ds, Bool.false_and, Bool.and_false]
        rw [e]
        clear e h_k h_v h_ds hc0 H4 H4' IH HK
        go_enter Try.func47, Try.ntmps47
        go_wp2_with fail
        refine wp_region_quiet_below (by kernel_rfl) (by kernel_rfl) ?_
        repeat (go_big_quiet_step (exact HC0.out _ _))
        refine wpQuiet_nil ?_
        intro _ hw'
        obtain ⟨⟨dq0, osq0⟩, hw''⟩ := hw'
        subst hw''
        have hb1 := below_regrown w dq0 osq0
        clear e0 d0 e1 d1 e2 d2 e3 d3
        go_wp2_with fail
        go_ret
        exact ⟨rfl, hb1⟩
      case pos =>
        rw [h_ds] at hc0
        have HC0 := hid hc0
        have e : (decide (k1 = k2) && (decide (v1 = v2) && (decide (ds1 = ds2) && Co.eqbs ks1 ks2))) = Co.eqbs ks1 ks2 := by simp only [h_k, h_v, h_ds, decide_true, Bool.true_and]
        rw [e]
        clear e hc0 h_k h_v h_ds
        by_cases hl : ks1.length = ks2.length
        case neg =>
          have hlb : ((ks1.length : Int) != (ks2.length : Int)) = true := by simp; omega
          rw [Co.eqbs_length _ _ hl]
          clear hl H4 H4' IH HK
          go_enter Try.func47, Try.ntmps47
          go_wp2_with fail
          refine wp_region_quiet_below (by kernel_rfl) (by kernel_rfl) ?_
          repeat (go_big_quiet_step (exact HC0.out _ _))
          refine wpQuiet_nil ?_
          intro _ hw'
          obtain ⟨⟨dq0, osq0⟩, hw''⟩ := hw'
          subst hw''
          have hb1 := below_regrown w dq0 osq0
          clear e0 d0 e1 d1 e2 d2 e3 d3
          go_wp2_with fail
          go_ret
          exact ⟨rfl, hb1⟩
        case pos =>
          have hlb : ((ks1.length : Int) != (ks2.length : Int)) = false := by simp [hl]
          have HL := hid hl
          clear hl
          go_enter Try.func47, Try.ntmps47
          go_wp2_with fail
          refine wp_region_quiet_below (by kernel_rfl) (by kernel_rfl) ?_
          repeat (go_big_quiet_step (exact HC0.out _ _))
          refine wpQuiet_nil ?_
          intro _ hw'
          obtain ⟨⟨dq0, osq0⟩, hw''⟩ := hw'
          subst hw''
          have hb1 := below_regrown w dq0 osq0
          clear e0 d0 e1 d1 e2 d2 e3 d3
          go_wp2_with fail
          go_loopw [5] (fun i wr => ∃ (j : Nat), j ≤ ks1.length ∧ i = .int .i64 j ∧ Hid (∀ (i : Nat) t u, i < j → ks1[i]? = some t → ks2[i]? = some u → Co.eqb t u = true) ∧
            Below w.heap.size w wr) (fun i _ => ks1.length - (intOf i).toNat)
          case atStart => exact ⟨0, by omega, rfl, fun i t u hi => absurd hi (by omega), hb1⟩
          case round =>
            obtain ⟨j, hj, rfl, HJ, hb⟩ := hrel
            have z3 := (hb.cell (p := ⟨b1, o1 + 3, none⟩) hx1).trans X3.out
            have t3 := (hb.cell (p := ⟨b2, o2 + 3, none⟩) hy1).trans Y3.out
            by_cases hlt : j < ks1.length
            case pos =>
              have hlt' : j < ks2.length := by have := HL.out; omega
              obtain ⟨b, o, rfl, hbl, hall⟩ := H4.out (by omega)
              obtain ⟨b', o', rfl, hbl', hall'⟩ := H4'.out (by omega)
              obtain ⟨t, ht⟩ : ∃ t, ks1[j]? = some t := ⟨_, List.getElem?_eq_getElem hlt⟩
              obtain ⟨t', ht'⟩ : ∃ t, ks2[j]? = some t := ⟨_, List.getElem?_eq_getElem hlt'⟩
              obtain ⟨k3, v3, ds3, ks3⟩ := t
              obtain ⟨k4, v4, ds4, ks4⟩ := t'
              obtain ⟨ads3, cds3, aks3, cks3, q0, q1, q2, q3, hrk⟩ := hall j k3 v3 ds3 ks3 ht
              obtain ⟨ads4, cds4, aks4, cks4, p0, p1, p2, p3, hrk'⟩ := hall' j k4 v4 ds4 ks4 ht'
              clear hall H4 hall' H4'
              have hbg := Co.bulk_get ks1 j _ ht
              have hc := fun d os => Calls.regrown_of (IH.out k3 v3 ds3 ks3 ads3 cds3 aks3 cks3 k4 v4 ds4 ks4 ads4 cds4 aks4 cks4 b (o + j * 4) b' (o' + j * 4) (grow (redrawn wr d) os) (by have := HK.out; omega)
                (cell_regrown ((hb.cell (p := ⟨b, o + j * 4, none⟩) hbl).trans q0) d os) (cell_regrown ((hb.cell (p := ⟨b, o + j * 4 + 1, none⟩) hbl).trans q1) d os) (cell_regrown ((hb.cell (p := ⟨b, o + j * 4 + 2, none⟩) hbl).trans q2) d os) (cell_regrown ((hb.cell (p := ⟨b, o + j * 4 + 3, none⟩) hbl).trans q3) d os)
                (cell_regrown ((hb.cell (p := ⟨b', o' + j * 4, none⟩) hbl').trans p0) d os) (cell_regrown ((hb.cell (p := ⟨b', o' + j * 4 + 1, none⟩) hbl').trans p1) d os) (cell_regrown ((hb.cell (p := ⟨b', o' + j * 4 + 2, none⟩) hbl').trans p2) d os) (cell_regrown ((hb.cell (p := ⟨b', o' + j * 4 + 3, none⟩) hbl').trans p3) d os)
                ((hrk.below hb).below (below_regrown wr d os)) ((hrk'.below hb).below (below_regrown wr d os)))
              have HT := hid ht
              have HT' := hid ht'
              have z3' := cell_regrown z3
              have t3' := cell_regrown t3
              cases hq : Co.eqb (.mk k3 v3 ds3 ks3) (.mk k4 v4 ds4 ks4)
              all_goals
                rw [hq] at hc
                have HC := hid hc
                have HQ := hid hq
                clear ht hrk hrk' q0 q1 q2 q3 p0 p1 p2 p3 hc ht' hq
                go_wp2_with fail
                refine wp_region_quiet_below (by kernel_rfl) (by kernel_rfl) ?_
                repeat (quiet_step (exact HC.out _ _))
                refine wpQuiet_nil ?_
                intro _ hw'
                obtain ⟨⟨dq, osq⟩, hw''⟩ := hw'
                subst hw''
                have hbq := hb.trans ((below_regrown wr dq osq).mono hb.size)
                clear HC z3 t3 z3' t3'
                go_wp2_with fail
              · go_ret
                exact ⟨ret_bool (Co.eqbs_no ks1 ks2 j _ _ HT.out HT'.out HQ.out).symm, hbq⟩
              · go_roundw
                case rel =>
                  refine ⟨j + 1, by omega, by go_num, fun i t u hi h1 h2 => ?_, hbq⟩
                  rcases Nat.lt_succ_iff_lt_or_eq.1 hi with hi | rfl
                  · exact HJ.out i t u hi h1 h2
                  · obtain rfl := Option.some.inj (h1.symm.trans HT.out)
                    obtain rfl := Option.some.inj (h2.symm.trans HT'.out)
                    exact HQ.out
                case measure => simp [intOf]; omega
            case neg =>
              go_wp2_with fail
              go_ret
              exact ⟨ret_bool (Co.eqbs_yes ks1 ks2 HL.out (fun i t u h1 h2 => HJ.out i t u (by have := (List.getElem?_eq_some_iff.1 h1).1; omega) h1 h2)).symm, hb⟩

theorem spec_l06Same_all : ∀ N, SameCoP N
  | 0 => fun _ _ _ _ _ _ _ _ _ _ _ _ _ _ _ _ _ _ _ _ _ h => absurd h (by omega)
  | N + 1 => spec_l06Same_step N (spec_l06Same_all N)
theorem spec_l06Same (k1 : Int) (v1 : Int) (ds1 : List Int) (ks1 : List Co) (ads1 : Option Addr) (cds1 : Nat) (aks1 : Option Addr) (cks1 : Nat) (k2 : Int) (v2 : Int) (ds2 : List Int) (ks2 : List Co) (ads2 : Option Addr) (cds2 : Nat) (aks2 : Option Addr) (cks2 : Nat) (b1 o1 b2 o2 : Nat) (w : World) (x0 : w.cell? ⟨b1, o1, none⟩ = some (.int .i64 k1)) (x1 : w.cell? ⟨b1, o1 + 1, none⟩ = some (.int .i64 v1)) (x2 : w.cell? ⟨b1, o1 + 2, none⟩ = some (.slice ads1 ds1.length cds1)) (x3 : w.cell? ⟨b1, o1 + 3, none⟩ = some (.slice aks1 ks1.length cks1)) (y0 : w.cell? ⟨b2, o2, none⟩ = some (.int .i64 k2)) (y1 : w.cell? ⟨b2, o2 + 1, none⟩ = some (.int .i64 v2)) (y2 : w.cell? ⟨b2, o2 + 2, none⟩ = some (.slice ads2 ds2.length cds2)) (y3 : w.cell? ⟨b2, o2 + 3, none⟩ = some (.slice aks2 ks2.length cks2)) (hr : RdS w (Co.d (Co.mk k1 v1 ds1 ks1)) [.int .i64 k1, .int .i64 v1, .slice ads1 ds1.length cds1, .slice aks1 ks1.length cks1]) (hr' : RdS w (Co.d (Co.mk k2 v2 ds2 ks2)) [.int .i64 k2, .int .i64 v2, .slice ads2 ds2.length cds2, .slice aks2 ks2.length cks2]) :
    Calls Try.prog 47 #[.pointer (some ⟨b1, o1, none⟩), .pointer (some ⟨b2, o2, none⟩)] w fun e w' => e = .returned (.bool (Co.eqb (Co.mk k1 v1 ds1 ks1) (Co.mk k2 v2 ds2 ks2))) ∧ Below w.heap.size w w' :=
  spec_l06Same_all (Co.bulk (Co.mk k1 v1 ds1 ks1) + 1) k1 v1 ds1 ks1 ads1 cds1 aks1 cks1 k2 v2 ds2 ks2 ads2 cds2 aks2 cks2 b1 o1 b2 o2 w (by omega) x0 x1 x2 x3 y0 y1 y2 y3 hr hr'

theorem spec_SameCore (k1 : Int) (v1 : Int) (ds1 : List Int) (ks1 : List Co) (ads1 : Option Addr) (cds1 : Nat) (aks1 : Option Addr) (cks1 : Nat) (k2 : Int) (v2 : Int) (ds2 : List Int) (ks2 : List Co) (ads2 : Option Addr) (cds2 : Nat) (aks2 : Option Addr) (cks2 : Nat) (w : World) (hr : RdS w (Co.d (Co.mk k1 v1 ds1 ks1)) [.int .i64 k1, .int .i64 v1, .slice ads1 ds1.length cds1, .slice aks1 ks1.length cks1]) (hr' : RdS w (Co.d (Co.mk k2 v2 ds2 ks2)) [.int .i64 k2, .int .i64 v2, .slice ads2 ds2.length cds2, .slice aks2 ks2.length cks2]) :
    Calls Try.prog 15 #[.agg #[.int .i64 k1, .int .i64 v1, .slice ads1 ds1.length cds1, .slice aks1 ks1.length cks1], .agg #[.int .i64 k2, .int .i64 v2, .slice ads2 ds2.length cds2, .slice aks2 ks2.length cks2]] w fun e w' => e = .returned (.bool (Co.eqb (Co.mk k1 v1 ds1 ks1) (Co.mk k2 v2 ds2 ks2))) ∧ Below w.heap.size w w' := by
  have HX0 := hid (((Boxes.nil w).alloc #[.int .i64 k1, .int .i64 v1, .slice ads1 ds1.length cds1, .slice aks1 ks1.length cks1] 30 (0, 0)).alloc #[.int .i64 k2, .int .i64 v2, .slice ads2 ds2.length cds2, .slice aks2 ks2.length cks2] 30 (0, 0))
  have hB : Below w.heap.size w ((w.alloc (.cells #[.int .i64 k1, .int .i64 v1, .slice ads1 ds1.length cds1, .slice aks1 ks1.length cks1] 30)).alloc (.cells #[.int .i64 k2, .int .i64 v2, .slice ads2 ds2.length cds2, .slice aks2 ks2.length cks2] 30)) := ((Below.refl _ _).alloc (Nat.le_refl _) _).alloc (by simp) _
  have g0 := HX0.out.at 0 0 rfl rfl
  have g1 := HX0.out.at 0 1 rfl rfl
  have g2 := HX0.out.at 0 2 rfl rfl
  have g3 := HX0.out.at 0 3 rfl rfl
  simp only [World.size_alloc] at g0 g1 g2 g3
  have HC := hid (spec_l06Same k1 v1 ds1 ks1 ads1 cds1 aks1 cks1 k2 v2 ds2 ks2 ads2 cds2 aks2 cks2 w.heap.size 0 (w.heap.size + 1) 0 _ (HX0.out.at 1 0 rfl rfl) (HX0.out.at 1 1 rfl rfl) (HX0.out.at 1 2 rfl rfl) (HX0.out.at 1 3 rfl rfl) g0 g1 g2 g3 (hr.below hB) (hr'.below hB))
  have HB := hid hB
  clear g0 g1 g2 g3 hr hr' hB HX0
  go_enter Try.func15, Try.ntmps15
  go_wp2_with fail
  refine HC.out.mono ?_
  rintro e w1 ⟨rfl, hb⟩
  have HB1 := hid (HB.out.trans (hb.mono HB.out.size))
  clear hb
  go_wp2_with fail
  go_ret
  exact ⟨rfl, HB1.out⟩
end Go.Proofs.Ytgbiefjokohkkaa
