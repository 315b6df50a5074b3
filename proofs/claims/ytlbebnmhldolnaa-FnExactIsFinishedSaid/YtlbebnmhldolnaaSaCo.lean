/- Walks: whether two are the same, of the program. -/
import Derived.Test.YtlbebnmhldolnaaDCo
import Derived.Test.YtlbebnmhldolnaaSaSc
import Derived.Lib.QuietBelow
namespace Go.Proofs.Ytlbebnmhldolnaa
open Go.ChangeShapes Go.WideShapes Go.ChangeAt Go.RowKit
open Go.Sort (grow)
set_option linter.unusedVariables false

mutual
def Co.eqb : Co → Co → Bool
  | .mk k1 v1 ds1 ks1, .mk k2 v2 ds2 ks2 => (decide (k1 = k2) && (decide (v1 = v2) && (decide (ds1 = ds2) && Co.eqbs ks1 ks2)))
def Co.eqbs : List Co → List Co → Bool
  | [], [] => true
  | t :: ts, u :: us => Co.eqb t u && Co.eqbs ts us
  | _, _ => false
end
theorem Co.eqbs_length : ∀ (ts us : List Co), ts.length ≠ us.length → Co.eqbs ts us = false
  | [], [], h => absurd rfl h
  | [], _ :: _, _ => rfl
  | _ :: _, [], _ => rfl
  | t :: ts, u :: us, h => by rw [Co.eqbs, Co.eqbs_length ts us (by simpa using h)]; simp
theorem Co.eqbs_no : ∀ (ts us : List Co) (j : Nat) (t u : Co), ts[j]? = some t → us[j]? = some u → Co.eqb t u = false → Co.eqbs ts us = false
  | [], _, j, t, u, h, _, _ => by simp at h
  | _ :: _, [], j, t, u, _, h, _ => by simp at h
  | t' :: ts, u' :: us, 0, t, u, h, h', e => by simp at h h'; subst h h'; simp [Co.eqbs, e]
  | t' :: ts, u' :: us, j + 1, t, u, h, h', e => by rw [Co.eqbs, Co.eqbs_no ts us j t u (by simpa using h) (by simpa using h') e]; simp
theorem Co.eqbs_yes : ∀ (ts us : List Co), ts.length = us.length → (∀ (j : Nat) t u, ts[j]? = some t → us[j]? = some u → Co.eqb t u = true) → Co.eqbs ts us = true
  | [], [], _, _ => rfl
  | [], _ :: _, h, _ => by simp at h
  | _ :: _, [], h, _ => by simp at h
  | t :: ts, u :: us, h, e => by
    rw [Co.eqbs, e 0 t u rfl rfl, Co.eqbs_yes ts us (by simpa using h) (fun j t u h1 h2 => e (j + 1) t u (by simpa using h1) (by simpa using h2))]
    rfl

def SameCoW (f : FuncId) (N : Nat) : Prop := ∀ (k1 : Int) (v1 : Int) (ds1 : List Int) (ks1 : List Co) (ads1 : Option Addr) (cds1 : Nat) (aks1 : Option Addr) (cks1 : Nat) (k2 : Int) (v2 : Int) (ds2 : List Int) (ks2 : List Co) (ads2 : Option Addr) (cds2 : Nat) (aks2 : Option Addr) (cks2 : Nat) (w : World), Co.bulk (Co.mk k1 v1 ds1 ks1) < N → RdS w (Co.d (Co.mk k1 v1 ds1 ks1)) [.int .i64 k1, .int .i64 v1, .slice ads1 ds1.length cds1, .slice aks1 ks1.length cks1] → RdS w (Co.d (Co.mk k2 v2 ds2 ks2)) [.int .i64 k2, .int .i64 v2, .slice ads2 ds2.length cds2, .slice aks2 ks2.length cks2] →
  Calls Try.prog f #[.agg #[.int .i64 k1, .int .i64 v1, .slice ads1 ds1.length cds1, .slice aks1 ks1.length cks1], .agg #[.int .i64 k2, .int .i64 v2, .slice ads2 ds2.length cds2, .slice aks2 ks2.length cks2]] w fun e w' => e = .returned (.bool (Co.eqb (Co.mk k1 v1 ds1 ks1) (Co.mk k2 v2 ds2 ks2))) ∧ Below w.heap.size w w'

set_option maxHeartbeats 1000000 in
theorem impl_EqualFuncCo (N : Nat) (ih : SameCoW 123 N) (ts us : List Co) (a a' : Option Addr) (cap cap' : Nat) (w : World) (hN : Co.bulks ts ≤ N) (hr : RdL w (Co.ds ts) (.slice a ts.length cap)) (hr' : RdL w (Co.ds us) (.slice a' us.length cap')) :
    Calls Try.prog 135 #[.slice a ts.length cap, .slice a' us.length cap', .func (.func 123) #[] #[]] w
      fun e w' => e = .returned (.bool (Co.eqbs ts us)) ∧ Below w.heap.size w w' := by
  obtain ⟨_, _, e, h2, h3, h4⟩ := hr.eCo
  simp only [Value.slice.injEq, true_and] at e
  obtain ⟨rfl, rfl⟩ := e
  obtain ⟨_, _, e, h2', h3', h4'⟩ := hr'.eCo
  simp only [Value.slice.injEq, true_and] at e
  obtain ⟨rfl, rfl⟩ := e
  have IH := hid ih
  have H4 := hid h4
  have H4' := hid h4'
  clear ih hr h4 hr' h4'
  by_cases hl : ts.length = us.length
  · have hlb : ((ts.length : Int) != (us.length : Int)) = false := by simp [hl]
    have HL := hid hl
    clear hl
    go_enter Try.func135, Try.ntmps135
    go_wp2_with fail
    go_loopw [7, 8, 9, 17] (fun _ _ _ i wr => ∃ (j : Nat), j ≤ ts.length ∧ i = .int .i64 j ∧ Hid (∀ (i : Nat) t u, i < j → ts[i]? = some t → us[i]? = some u → Co.eqb t u = true) ∧ Below w.heap.size w wr) (fun _ _ _ i _ => ts.length - (intOf i).toNat)
    case atStart => exact ⟨0, by omega, rfl, fun i t u hi => absurd hi (by omega), Below.refl _ _⟩
    case round =>
      obtain ⟨j, hj, rfl, HJ, hb⟩ := hrel
      by_cases hlt : j < ts.length
      · have x0 := hb.size
        have hlt' : j < us.length := by have := HL.out; omega
        obtain ⟨b, o, rfl, hbl, hall⟩ := H4.out (by omega)
        obtain ⟨b', o', rfl, hbl', hall'⟩ := H4'.out (by omega)
        obtain ⟨t, ht⟩ : ∃ t, ts[j]? = some t := ⟨_, List.getElem?_eq_getElem hlt⟩
        obtain ⟨t', ht'⟩ : ∃ t, us[j]? = some t := ⟨_, List.getElem?_eq_getElem hlt'⟩
        obtain ⟨k3, v3, ds3, ks3⟩ := t
        obtain ⟨k4, v4, ds4, ks4⟩ := t'
        obtain ⟨ads3, cds3, aks3, cks3, q0, q1, q2, q3, hrk⟩ := hall j k3 v3 ds3 ks3 ht
        obtain ⟨ads4, cds4, aks4, cks4, p0, p1, p2, p3, hrk'⟩ := hall' j k4 v4 ds4 ks4 ht'
        clear hall H4 hall' H4'
        have dq0 := (hb.cell (p := ⟨b, o + j * 4, none⟩) hbl).trans q0
        have dp0 := (hb.cell (p := ⟨b', o' + j * 4, none⟩) hbl').trans p0
        have dq1 := (hb.cell (p := ⟨b, o + j * 4 + 1, none⟩) hbl).trans q1
        have dp1 := (hb.cell (p := ⟨b', o' + j * 4 + 1, none⟩) hbl').trans p1
        have dq2 := (hb.cell (p := ⟨b, o + j * 4 + 2, none⟩) hbl).trans q2
        have dp2 := (hb.cell (p := ⟨b', o' + j * 4 + 2, none⟩) hbl').trans p2
        have dq3 := (hb.cell (p := ⟨b, o + j * 4 + 3, none⟩) hbl).trans q3
        have dp3 := (hb.cell (p := ⟨b', o' + j * 4 + 3, none⟩) hbl').trans p3
        have hbg := Co.bulk_get ts j _ ht
        have x1 : b < wr.heap.size := Nat.lt_of_lt_of_le hbl hb.size
        have x2 : b' < wr.heap.size := Nat.lt_of_lt_of_le hbl' hb.size
        have hc := fun W hW => IH.out k3 v3 ds3 ks3 ads3 cds3 aks3 cks3 k4 v4 ds4 ks4 ads4 cds4 aks4 cks4 W (by omega) ((hrk.below hb).below hW) ((hrk'.below hb).below hW)
        have HT := hid ht
        have HT' := hid ht'
        have HC := hid hc
        clear ht hrk hrk' q0 q1 q2 q3 p0 p1 p2 p3 hc ht'
        cases hq : Co.eqb (Co.mk k3 v3 ds3 ks3) (Co.mk k4 v4 ds4 ks4)
        · rw [hq] at HC
          go_wp2_with fail
          refine (HC.out _ (((Below.refl _ _).alloc (Nat.le_refl _) _).alloc (by simp) _)).mono ?_
          rintro e w1 ⟨rfl, hb1⟩
          have hbw : Below w.heap.size w w1 := ((hb.alloc hb.size _).alloc (by have := hb.size; simp; omega) _).trans (hb1.mono (by have := hb.size; simp; omega))
          go_wp2_with fail
          go_ret
          exact ⟨ret_bool (Co.eqbs_no ts us j _ _ HT.out HT'.out hq).symm, hbw⟩
        · rw [hq] at HC
          go_wp2_with fail
          refine (HC.out _ (((Below.refl _ _).alloc (Nat.le_refl _) _).alloc (by simp) _)).mono ?_
          rintro e w1 ⟨rfl, hb1⟩
          have hbw : Below w.heap.size w w1 := ((hb.alloc hb.size _).alloc (by have := hb.size; simp; omega) _).trans (hb1.mono (by have := hb.size; simp; omega))
          clear hb1
          go_wp2_with fail
          go_roundw
          case rel =>
            refine ⟨j + 1, by omega, by go_num, fun i t u hi h1 h2 => ?_, hbw⟩
            rcases Nat.lt_succ_iff_lt_or_eq.1 hi with hi | rfl
            · exact HJ.out i t u hi h1 h2
            · obtain rfl := Option.some.inj (h1.symm.trans HT.out)
              obtain rfl := Option.some.inj (h2.symm.trans HT'.out)
              exact hq
          case measure => simp [intOf]; omega
      · go_wp2_with fail
        go_ret
        exact ⟨ret_bool (Co.eqbs_yes ts us HL.out (fun i t u h1 h2 => HJ.out i t u (by have := (List.getElem?_eq_some_iff.1 h1).1; omega) h1 h2)).symm, hb⟩
  · have hlb : ((ts.length : Int) != (us.length : Int)) = true := by simp; omega
    rw [Co.eqbs_length ts us hl]
    clear hl
    go_enter Try.func135, Try.ntmps135
    go_wp2_with fail
    go_ret
    exact ⟨rfl, Below.refl _ _⟩

set_option maxHeartbeats 2000000 in
theorem impl_SameCo_step (N : Nat) (ih : SameCoW 123 N) : SameCoW 123 (N + 1) := by
  intro k1 v1 ds1 ks1 ads1 cds1 aks1 cks1 k2 v2 ds2 ks2 ads2 cds2 aks2 cks2 w hN hr hr'
  have hbk : Co.bulk (Co.mk k1 v1 ds1 ks1) = In.bulks ds1 + Co.bulks ks1 := rfl
  have he : Co.eqb (Co.mk k1 v1 ds1 ks1) (Co.mk k2 v2 ds2 ks2) = (decide (k1 = k2) && (decide (v1 = v2) && (decide (ds1 = ds2) && Co.eqbs ks1 ks2))) := rfl
  obtain ⟨f_k, f_v, f_ds, f_ks⟩ := hr.fCo
  obtain ⟨g_k, g_v, g_ds, g_ks⟩ := hr'.fCo
  have HX0 := hid (((Boxes.nil w).alloc #[.int .i64 k1, .int .i64 v1, .slice ads1 ds1.length cds1, .slice aks1 ks1.length cks1] 35 (0, 0)).alloc #[.int .i64 k2, .int .i64 v2, .slice ads2 ds2.length cds2, .slice aks2 ks2.length cks2] 35 (0, 0))
  have HB0 := hid (show Below w.heap.size w ((w.alloc (.cells #[.int .i64 k1, .int .i64 v1, .slice ads1 ds1.length cds1, .slice aks1 ks1.length cks1] 35)).alloc (.cells #[.int .i64 k2, .int .i64 v2, .slice ads2 ds2.length cds2, .slice aks2 ks2.length cks2] 35)) from ((Below.refl _ _).alloc (Nat.le_refl _) _).alloc (by simp) _)
  have hc0 := fun W (hW : Below w.heap.size w W) => impl_sameIn ds1 ds2 ads1 ads2 cds1 cds2 W (f_ds.below hW) (g_ds.below hW)
  have HC0 := hid hc0
  have hc1 := fun W (hW : Below w.heap.size w W) => impl_EqualFuncCo N ih ks1 ks2 aks1 aks2 cks1 cks2 W (by omega) (f_ks.below hW) (g_ks.below hW)
  have HC1 := hid hc1
  clear hc0 hc1
  rw [he]
  clear he
  clear ih hr hr' hbk
  clear f_k f_v f_ds f_ks g_k g_v g_ds g_ks
  by_cases h_k : k1 = k2
  case neg =>
    have e : (decide (k1 = k2) && (decide (v1 = v2) && (decide (ds1 = ds2) && Co.eqbs ks1 ks2))) = false := by simp [h_k]
    rw [e]
    have hb_k : (k1 == k2) = false := by simp [h_k]
    clear e h_k HC0 HC1
    go_enter Try.func123, Try.ntmps123
    go_wp2_with fail
    go_ret
    exact ⟨rfl, HB0.out⟩
  case pos =>
    have hb_k : (k1 == k2) = true := by simp [h_k]
    by_cases h_v : v1 = v2
    case neg =>
      have e : (decide (k1 = k2) && (decide (v1 = v2) && (decide (ds1 = ds2) && Co.eqbs ks1 ks2))) = false := by simp [h_k, h_v]
      rw [e]
      have hb_v : (v1 == v2) = false := by simp [h_v]
      clear e h_k h_v HC0 HC1
      go_enter Try.func123, Try.ntmps123
      go_wp2_with fail
      go_ret
      exact ⟨rfl, HB0.out⟩
    case pos =>
      have hb_v : (v1 == v2) = true := by simp [h_v]
      by_cases h_ds : (decide (ds1 = ds2)) = true
      case neg =>
        replace h_ds := (Bool.not_eq_true _).mp h_ds
        rw [h_ds] at HC0
        have e : (decide (k1 = k2) && (decide (v1 = v2) && (decide (ds1 = ds2) && Co.eqbs ks1 ks2))) = false := by simp only [h_ds, Bool.false_and, Bool.and_false]
        rw [e]
        clear e h_k h_v h_ds HC1
        go_enter Try.func123, Try.ntmps123
        go_wp2_with fail
        refine (HC0.out _ HB0.out).mono ?_
        rintro e w1 ⟨rfl, hb⟩
        have HB1 := hid (HB0.out.trans (hb.mono HB0.out.size))
        have HX1 := hid (HX0.out.below hb)
        clear hb HC0
        have g0_0 := HX1.out.at 0 0 rfl rfl
        have g0_1 := HX1.out.at 0 1 rfl rfl
        have g0_2 := HX1.out.at 0 2 rfl rfl
        have g0_3 := HX1.out.at 0 3 rfl rfl
        have g1_0 := HX1.out.at 1 0 rfl rfl
        have g1_1 := HX1.out.at 1 1 rfl rfl
        have g1_2 := HX1.out.at 1 2 rfl rfl
        have g1_3 := HX1.out.at 1 3 rfl rfl
        simp only [World.size_alloc] at g0_0 g0_1 g0_2 g0_3
        go_wp2_with fail
        go_ret
        exact ⟨rfl, HB1.out⟩
      case pos =>
        rw [h_ds] at HC0
        have e : (decide (k1 = k2) && (decide (v1 = v2) && (decide (ds1 = ds2) && Co.eqbs ks1 ks2))) = Co.eqbs ks1 ks2 := by simp only [h_k, h_v, h_ds, decide_true, Bool.true_and]
        rw [e]
        clear e h_k h_v h_ds
        go_enter Try.func123, Try.ntmps123
        go_wp2_with fail
        refine (HC0.out _ HB0.out).mono ?_
        rintro e w1 ⟨rfl, hb⟩
        have HB1 := hid (HB0.out.trans (hb.mono HB0.out.size))
        have HX1 := hid (HX0.out.below hb)
        clear hb HC0
        have g0_0 := HX1.out.at 0 0 rfl rfl
        have g0_1 := HX1.out.at 0 1 rfl rfl
        have g0_2 := HX1.out.at 0 2 rfl rfl
        have g0_3 := HX1.out.at 0 3 rfl rfl
        have g1_0 := HX1.out.at 1 0 rfl rfl
        have g1_1 := HX1.out.at 1 1 rfl rfl
        have g1_2 := HX1.out.at 1 2 rfl rfl
        have g1_3 := HX1.out.at 1 3 rfl rfl
        simp only [World.size_alloc] at g0_0 g0_1 g0_2 g0_3
        go_wp2_with fail
        clear g0_0 g0_1 g0_2 g0_3 g1_0 g1_1 g1_2 g1_3
        refine (HC1.out _ HB1.out).mono ?_
        rintro e w2 ⟨rfl, hb⟩
        have HB2 := hid (HB1.out.trans (hb.mono HB1.out.size))
        have HX2 := hid (HX1.out.below hb)
        clear hb HC1
        have g0_0 := HX2.out.at 0 0 rfl rfl
        have g0_1 := HX2.out.at 0 1 rfl rfl
        have g0_2 := HX2.out.at 0 2 rfl rfl
        have g0_3 := HX2.out.at 0 3 rfl rfl
        have g1_0 := HX2.out.at 1 0 rfl rfl
        have g1_1 := HX2.out.at 1 1 rfl rfl
        have g1_2 := HX2.out.at 1 2 rfl rfl
        have g1_3 := HX2.out.at 1 3 rfl rfl
        simp only [World.size_alloc] at g0_0 g0_1 g0_2 g0_3
        go_wp2_with fail
        go_ret
        exact ⟨rfl, HB2.out⟩

theorem impl_sameCo_all : ∀ N, SameCoW 123 N
  | 0 => fun _ _ _ _ _ _ _ _ _ _ _ _ _ _ _ _ _ h => absurd h (by omega)
  | N + 1 => impl_SameCo_step N (impl_sameCo_all N)
theorem impl_SameCore (k1 : Int) (v1 : Int) (ds1 : List Int) (ks1 : List Co) (ads1 : Option Addr) (cds1 : Nat) (aks1 : Option Addr) (cks1 : Nat) (k2 : Int) (v2 : Int) (ds2 : List Int) (ks2 : List Co) (ads2 : Option Addr) (cds2 : Nat) (aks2 : Option Addr) (cks2 : Nat) (w : World) (hr : RdS w (Co.d (Co.mk k1 v1 ds1 ks1)) [.int .i64 k1, .int .i64 v1, .slice ads1 ds1.length cds1, .slice aks1 ks1.length cks1]) (hr' : RdS w (Co.d (Co.mk k2 v2 ds2 ks2)) [.int .i64 k2, .int .i64 v2, .slice ads2 ds2.length cds2, .slice aks2 ks2.length cks2]) :
    Calls Try.prog 123 #[.agg #[.int .i64 k1, .int .i64 v1, .slice ads1 ds1.length cds1, .slice aks1 ks1.length cks1], .agg #[.int .i64 k2, .int .i64 v2, .slice ads2 ds2.length cds2, .slice aks2 ks2.length cks2]] w fun e w' => e = .returned (.bool (Co.eqb (Co.mk k1 v1 ds1 ks1) (Co.mk k2 v2 ds2 ks2))) ∧ Below w.heap.size w w' :=
  impl_sameCo_all (Co.bulk (Co.mk k1 v1 ds1 ks1) + 1) k1 v1 ds1 ks1 ads1 cds1 aks1 cks1 k2 v2 ds2 ks2 ads2 cds2 aks2 cks2 w (by omega) hr hr'
end Go.Proofs.Ytlbebnmhldolnaa
