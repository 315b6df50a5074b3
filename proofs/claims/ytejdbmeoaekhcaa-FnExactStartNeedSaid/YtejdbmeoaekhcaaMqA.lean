/- Merged texts: CoBelow CoClosed CoRefs BkValid CoErase NdPlain Fst AnyCo CoEraseI AnyCoN AnyIn BkValidI EraB MaI Mach MaS. No condition. -/
import Derived.Test.YtejdbmeoaekhcaaCoAbove
import Derived.Test.YtejdbmeoaekhcaaDBk
import Derived.Test.YtejdbmeoaekhcaaCoFits
import Derived.Test.YtejdbmeoaekhcaaDNe
import Derived.Test.YtejdbmeoaekhcaaFrame
import Derived.Test.YtejdbmeoaekhcaaDCo
import Derived.Test.YtejdbmeoaekhcaaTwo
import Derived.Lib.QuietBelow
import Derived.Test.YtejdbmeoaekhcaaSc
import Derived.Test.YtejdbmeoaekhcaaNorP
/- was: CoBelow -/
namespace Go.Proofs.Ytejdbmeoaekhcaa
open Go.ChangeShapes Go.WideShapes Go.ChangeAt Go.RowKit Go.BigFrame
open Go.Sort (grow)
set_option linter.unusedVariables false

def CbW (N : Nat) : Prop := ∀ (k1 : Int) (v1 : Int) (ds1 : List Int) (ks1 : List Co) (ads1 : Option Addr) (cds1 : Nat) (aks1 : Option Addr) (cks1 : Nat) (d : Int) (w : World), Co.bulk (Co.mk k1 v1 ds1 ks1) < N → 0 ≤ d → d + Co.bulk (Co.mk k1 v1 ds1 ks1) ≤ 4194304 → RdS w (Co.d (Co.mk k1 v1 ds1 ks1)) [.int .i64 k1, .int .i64 v1, .slice ads1 ds1.length cds1, .slice aks1 ks1.length cks1] →
  Calls Try.prog 91 #[.agg #[.int .i64 k1, .int .i64 v1, .slice ads1 ds1.length cds1, .slice aks1 ks1.length cks1], .int .i64 d] w fun e w' => e = .returned (.bool (Co.clo (Co.mk k1 v1 ds1 ks1) d)) ∧ Below w.heap.size w w'
set_option maxHeartbeats 2000000 in
theorem closed_step (N : Nat) (ih : CbW N) : CbW (N + 1) := by
  intro k1 v1 ds1 ks1 ads1 cds1 aks1 cks1 d w hN hd hM hr
  have hbk : Co.bulk (Co.mk k1 v1 ds1 ks1) = In.bulks ds1 + Co.bulks ks1 := rfl
  have HE := hid (show Co.clo (Co.mk k1 v1 ds1 ks1) d = ((!(decide (k1 = 1) && decide (d ≤ v1))) && Co.clos k1 0 ks1 d) from rfl)
  have HX0 := hid ((Boxes.nil w).alloc #[.int .i64 k1, .int .i64 v1, .slice ads1 ds1.length cds1, .slice aks1 ks1.length cks1] 36 (0, 0))
  have HB0 := hid ((Below.refl w.heap.size w).alloc (Nat.le_refl _) (.cells #[.int .i64 k1, .int .i64 v1, .slice ads1 ds1.length cds1, .slice aks1 ks1.length cks1] 36))
  by_cases hA : k1 = 1 ∧ d ≤ v1
  case pos =>
    obtain ⟨rfl, hv⟩ := hA
    have hvb : decide (d ≤ v1) = true := by simp [hv]
    have HF := hid (show Co.clo (Co.mk 1 v1 ds1 ks1) d = false by rw [HE.out]; simp [hv])
    clear hv hr ih hM hN hd hbk HX0
    go_enter Try.func91, Try.ntmps91
    go_wp2_with fail
    go_ret
    exact ⟨ret_bool HF.out.symm, HB0.out⟩
  case neg =>
    have HF := hid (show Co.clo (Co.mk k1 v1 ds1 ks1) d = Co.clos k1 0 ks1 d by
      rw [HE.out]
      have : (decide (k1 = 1) && decide (d ≤ v1)) = false := by simpa using hA
      rw [this]; rfl)
    obtain ⟨_, _, e, h2, h3, h4⟩ := hr.fCo.2.2.2.eCo
    simp only [Value.slice.injEq, true_and] at e
    obtain ⟨rfl, rfl⟩ := e
    have IH := hid ih
    have H4 := hid h4
    have HK := hid hbk
    have HN := hid hN
    have HM := hid hM
    have hcl := Co.bulks_length ks1
    have hlen : ks1.length ≤ 4194304 := by omega
    have hcase : ((k1 == 1) = true ∧ decide (d ≤ v1) = false) ∨ (k1 == 1) = false := by
      by_cases h1 : k1 = 1
      · left; exact ⟨by simp [h1], by simp; have : ¬ d ≤ v1 := fun c => hA ⟨h1, c⟩; omega⟩
      · right; simp [h1]
    clear ih hr h4 hbk hN hM hcl hA
    rcases hcase with ⟨g1, gv⟩ | g1
    all_goals
      go_enter Try.func91, Try.ntmps91
      go_wp2_with fail
      go_loopw [5, 6, 19] (fun _ _ i wr => ∃ (j : Nat), j ≤ ks1.length ∧ i = .int .i64 j ∧ Hid (∀ (i : Nat) t, i < j → ks1[i]? = some t → Co.clo t (d + bindsOf k1 i) = true) ∧ Below (w.heap.size + 1) (w.alloc (.cells #[.int .i64 k1, .int .i64 v1, .slice ads1 ds1.length cds1, .slice aks1 ks1.length cks1] 36)) wr) (fun _ _ i _ => ks1.length - (intOf i).toNat)
      case atStart => exact ⟨0, by omega, rfl, fun i t hi => absurd hi (by omega), Below.refl _ _⟩
      case round =>
        obtain ⟨j, hj, rfl, HJ, hb0⟩ := hrel
        have hb : Below w.heap.size w wr := HB0.out.trans (hb0.mono (by omega))
        by_cases hlt : j < ks1.length
        case pos =>
          obtain ⟨b, o, rfl, hbl, hall⟩ := H4.out (by omega)
          obtain ⟨t, ht⟩ : ∃ t, ks1[j]? = some t := ⟨_, List.getElem?_eq_getElem hlt⟩
          obtain ⟨k3, v3, ds3, ks3⟩ := t
          obtain ⟨ads3, cds3, aks3, cks3, q0, q1, q2, q3, hrk⟩ := hall j k3 v3 ds3 ks3 ht
          clear hall H4
          have d0 := (hb.cell (p := ⟨b, o + j * 4, none⟩) hbl).trans q0
          have d1 := (hb.cell (p := ⟨b, o + j * 4 + 1, none⟩) hbl).trans q1
          have d2 := (hb.cell (p := ⟨b, o + j * 4 + 2, none⟩) hbl).trans q2
          have d3 := (hb.cell (p := ⟨b, o + j * 4 + 3, none⟩) hbl).trans q3
          have HY := hid ((HX0.out.below (by simpa using hb0)).alloc #[.int .i64 k3, .int .i64 v3, .slice ads3 ds3.length cds3, .slice aks3 ks3.length cks3] 36 (0, 0))
          have e0 := cell_regrown (HY.out.at 0 0 rfl rfl)
          have e1 := cell_regrown (HY.out.at 0 1 rfl rfl)
          have e2 := cell_regrown (HY.out.at 0 2 rfl rfl)
          have e3 := cell_regrown (HY.out.at 0 3 rfl rfl)
          have f0 := cell_regrown (HY.out.at 1 0 rfl rfl)
          have f1 := cell_regrown (HY.out.at 1 1 rfl rfl)
          have f2 := cell_regrown (HY.out.at 1 2 rfl rfl)
          have f3 := cell_regrown (HY.out.at 1 3 rfl rfl)
          have hbk1 : Below wr.heap.size wr (wr.alloc (.cells #[.int .i64 k3, .int .i64 v3, .slice ads3 ds3.length cds3, .slice aks3 ks3.length cks3] 36)) := (Below.refl _ _).alloc (Nat.le_refl _) _
          have hbg := Co.bulk_get ks1 j _ ht
          have hbb := bindsOf_le k1 j
          have hcb := fun d' os => Calls.regrown_of (impl_binds k1 v1 ds1 ks1 ads1 cds1 (some ⟨b, o, none⟩) cks1 j (grow (redrawn (wr.alloc (.cells #[.int .i64 k3, .int .i64 v3, .slice ads3 ds3.length cds3, .slice aks3 ks3.length cks3] 36)) d') os))
          have hc := fun d' os => Calls.regrown_of (IH.out k3 v3 ds3 ks3 ads3 cds3 aks3 cks3 (d + bindsOf k1 j) (grow (redrawn (wr.alloc (.cells #[.int .i64 k3, .int .i64 v3, .slice ads3 ds3.length cds3, .slice aks3 ks3.length cks3] 36)) d') os) (by have := HK.out; have := HN.out; omega) (by omega) (by have := HK.out; have := HM.out; omega) (((hrk.below hb).below hbk1).below (below_regrown _ d' os)))
          have HT := hid ht
          have hdm : d ≤ 4194304 := by have := HM.out; omega
          by_cases hq : Co.clo (.mk k3 v3 ds3 ks3) (d + bindsOf k1 j) = true
          all_goals
            first | rw [hq] at hc | rw [(Bool.not_eq_true _).mp hq] at hc
            have HQ := hid hq
            clear hq ht hrk q0 q1 q2 q3 HY
            generalize hbq : bindsOf k1 j = bb at hc hcb hbb
            have HBQ := hid hbq
            have HC := hid hc
            have HCB := hid hcb
            clear hbq hc hcb
            go_wp2_with fail
            refine wp_region_quiet_below (by kernel_rfl) (by kernel_rfl) ?_
            repeat (go_big_quiet_step (first | exact HCB.out _ _ | exact HC.out _ _))
            refine wpQuiet_nil ?_
            intro _ hw'
            obtain ⟨⟨dq, osq⟩, hw''⟩ := hw'
            subst hw''
            have hbx := (hb0.trans ((hbk1.trans ((below_regrown _ dq osq).mono (by simp))).mono (by have := hb0.size; simpa using this)))
            have hbw := HB0.out.trans (hbx.mono (by omega))
            clear HC HCB d0 d1 d2 d3 e0 e1 e2 e3 f0 f1 f2 f3
            go_wp2_with fail
          · go_roundw
            case rel => exact ⟨j + 1, by omega, by go_num, fun i t hi hti => (Nat.lt_succ_iff_lt_or_eq.1 hi).elim (fun hi => HJ.out i t hi hti) (fun he => by subst he; obtain rfl := Option.some.inj (hti.symm.trans HT.out); exact HQ.out), hbx⟩
            case measure => simp [intOf]; omega
          · go_ret
            exact ⟨ret_bool (by rw [HF.out, Co.clos_no k1 0 ks1 d j _ HT.out (by rw [Nat.zero_add]; exact (Bool.not_eq_true _).mp HQ.out)]), hbw⟩
        case neg =>
          go_wp2_with fail
          go_ret
          exact ⟨ret_bool (by rw [HF.out, Co.clos_yes k1 0 ks1 d fun i t hti => by rw [Nat.zero_add]; exact HJ.out i t (by have := (List.getElem?_eq_some_iff.1 hti).1; omega) hti]), hb⟩
theorem closed_all : ∀ N, CbW N
  | 0 => fun _ _ _ _ _ _ _ _ _ _  h => absurd h (by omega)
  | N + 1 => closed_step N (closed_all N)
end Go.Proofs.Ytejdbmeoaekhcaa
/- was: CoClosed -/
namespace Go.Proofs.Ytejdbmeoaekhcaa
open Go.ChangeShapes Go.WideShapes Go.ChangeAt Go.RowKit
theorem impl_IsClosed (k1 : Int) (v1 : Int) (ds1 : List Int) (ks1 : List Co) (ads1 : Option Addr) (cds1 : Nat) (aks1 : Option Addr) (cks1 : Nat) (w : World) (hM : Co.bulk (Co.mk k1 v1 ds1 ks1) ≤ 1048576) (hr : RdS w (Co.d (Co.mk k1 v1 ds1 ks1)) [.int .i64 k1, .int .i64 v1, .slice ads1 ds1.length cds1, .slice aks1 ks1.length cks1]) :
    Calls Try.prog 73 #[.agg #[.int .i64 k1, .int .i64 v1, .slice ads1 ds1.length cds1, .slice aks1 ks1.length cks1]] w fun e w' => e = .returned (.bool (Co.ok (Co.mk k1 v1 ds1 ks1) && Co.clo (Co.mk k1 v1 ds1 ks1) 0)) ∧ Below w.heap.size w w' := by
  have HX0 := hid ((Boxes.nil w).alloc #[.int .i64 k1, .int .i64 v1, .slice ads1 ds1.length cds1, .slice aks1 ks1.length cks1] 36 (0, 0))
  have hB := (Below.refl w.heap.size w).alloc (Nat.le_refl _) (.cells #[.int .i64 k1, .int .i64 v1, .slice ads1 ds1.length cds1, .slice aks1 ks1.length cks1] 36)
  have hv := impl_ValidCore k1 v1 ds1 ks1 ads1 cds1 aks1 cks1 _ hM (hr.below hB)
  have hc := fun W (hW : Below w.heap.size w W) => closed_all (Co.bulk (Co.mk k1 v1 ds1 ks1) + 1) k1 v1 ds1 ks1 ads1 cds1 aks1 cks1 0 W (by omega) (by omega) (by omega) (hr.below hW)
  have HB := hid hB
  by_cases hok : Co.ok (Co.mk k1 v1 ds1 ks1) = true
  case neg =>
    replace hok := (Bool.not_eq_true _).mp hok
    rw [hok] at hv ⊢
    have HV := hid hv
    clear hr hB hv hc hok HX0
    go_enter Try.func73, Try.ntmps73
    go_wp2_with fail
    refine HV.out.mono ?_
    rintro e w1 ⟨rfl, hb⟩
    have HB1 := hid (HB.out.trans (hb.mono HB.out.size))
    clear hb
    go_wp2_with fail
    go_ret
    exact ⟨rfl, HB1.out⟩
  case pos =>
    rw [hok] at hv ⊢
    have HV := hid hv
    have HC := hid hc
    clear hr hB hv hc hok
    go_enter Try.func73, Try.ntmps73
    go_wp2_with fail
    refine HV.out.mono ?_
    rintro e w1 ⟨rfl, hb⟩
    have HB1 := hid (HB.out.trans (hb.mono HB.out.size))
    have HX1 := hid (HX0.out.below hb)
    have g0 := HX1.out.at 0 0 rfl rfl
    have g1 := HX1.out.at 0 1 rfl rfl
    have g2 := HX1.out.at 0 2 rfl rfl
    have g3 := HX1.out.at 0 3 rfl rfl
    clear hb
    go_wp2_with fail
    refine (HC.out _ HB1.out).mono ?_
    rintro e w2 ⟨rfl, hb⟩
    have HB2 := hid (HB1.out.trans (hb.mono HB1.out.size))
    clear hb
    go_wp2_with fail
    go_ret
    exact ⟨ret_bool (by simp), HB2.out⟩
end Go.Proofs.Ytejdbmeoaekhcaa
/- was: CoRefs -/
namespace Go.Proofs.Ytejdbmeoaekhcaa
open Go.ChangeShapes Go.WideShapes Go.ChangeAt Go.RowKit
set_option linter.unusedVariables false

def allLt : List Int → Int → Bool
  | [], _ => true
  | x :: l, n => (!decide (n ≤ x)) && allLt l n
theorem allLt_no : ∀ (l : List Int) (n : Int) (j : Nat) (x : Int), l[j]? = some x → n ≤ x → allLt l n = false
  | [], n, j, x, h, _ => by simp at h
  | y :: l, n, 0, x, h, e => by simp at h; subst h; simp [allLt, e]
  | y :: l, n, j + 1, x, h, e => by rw [allLt, allLt_no l n j x (by simpa using h) e]; simp
theorem allLt_yes : ∀ (l : List Int) (n : Int), (∀ (j : Nat) x, l[j]? = some x → x < n) → allLt l n = true
  | [], _, _ => rfl
  | y :: l, n, h => by
    have h0 := h 0 y rfl
    have hf : decide (n ≤ y) = false := by simp; omega
    rw [allLt, hf, allLt_yes l n fun j x hj => h (j + 1) x (by simpa using hj)]; rfl
mutual
/-- All definitions named are below n. -/
def Co.refs : Co → Int → Bool
  | .mk k v ds ks, n => (!(decide (k = 11) && decide (n ≤ v))) && (allLt ds n && Co.refss ks n)
def Co.refss : List Co → Int → Bool
  | [], _ => true
  | t :: ts, n => Co.refs t n && Co.refss ts n
end
theorem Co.refss_no : ∀ (ts : List Co) (n : Int) (j : Nat) (t : Co), ts[j]? = some t → Co.refs t n = false → Co.refss ts n = false
  | [], n, j, t, h, _ => by simp at h
  | u :: ts, n, 0, t, h, e => by simp at h; subst h; simp [Co.refss, e]
  | u :: ts, n, j + 1, t, h, e => by rw [Co.refss, Co.refss_no ts n j t (by simpa using h) e]; simp
theorem Co.refss_yes : ∀ (ts : List Co) (n : Int), (∀ (j : Nat) t, ts[j]? = some t → Co.refs t n = true) → Co.refss ts n = true
  | [], _, _ => rfl
  | t :: ts, n, h => by rw [Co.refss, h 0 t rfl, Co.refss_yes ts n fun j u hj => h (j + 1) u (by simpa using hj)]; rfl

def RefW (N : Nat) : Prop := ∀ (k1 : Int) (v1 : Int) (ds1 : List Int) (ks1 : List Co) (ads1 : Option Addr) (cds1 : Nat) (aks1 : Option Addr) (cks1 : Nat) (b1 o1 : Nat) (n : Int) (w : World), Co.bulk (Co.mk k1 v1 ds1 ks1) < N → w.cell? ⟨b1, o1, none⟩ = some (.int .i64 k1) → w.cell? ⟨b1, o1 + 1, none⟩ = some (.int .i64 v1) → w.cell? ⟨b1, o1 + 2, none⟩ = some (.slice ads1 ds1.length cds1) → w.cell? ⟨b1, o1 + 3, none⟩ = some (.slice aks1 ks1.length cks1) → RdS w (Co.d (Co.mk k1 v1 ds1 ks1)) [.int .i64 k1, .int .i64 v1, .slice ads1 ds1.length cds1, .slice aks1 ks1.length cks1] →
  Calls Try.prog 46 #[.pointer (some ⟨b1, o1, none⟩), .int .i64 n] w fun e w' => e = .returned (.bool (Co.refs (Co.mk k1 v1 ds1 ks1) n)) ∧ Below w.heap.size w w'
set_option maxHeartbeats 1000000 in
theorem ref_step (N : Nat) (ih : RefW N) : RefW (N + 1) := by
  intro k1 v1 ds1 ks1 ads1 cds1 aks1 cks1 b1 o1 n w hN x0 x1 x2 x3 hr
  have hbk : Co.bulk (Co.mk k1 v1 ds1 ks1) = In.bulks ds1 + Co.bulks ks1 := rfl
  have HE := hid (show Co.refs (Co.mk k1 v1 ds1 ks1) n = ((!(decide (k1 = 11) && decide (n ≤ v1))) && (allLt ds1 n && Co.refss ks1 n)) from rfl)
  by_cases hA : k1 = 11 ∧ n ≤ v1
  case pos =>
    obtain ⟨rfl, hv⟩ := hA
    have hvb : decide (n ≤ v1) = true := by simp [hv]
    have HF := hid (show Co.refs (Co.mk 11 v1 ds1 ks1) n = false by rw [HE.out]; simp [hv])
    clear hv x2 x3 hr ih hN hbk HE
    go_enter Try.func46, Try.ntmps46
    go_wp2_with fail
    go_ret
    exact ⟨ret_bool HF.out.symm, Below.refl _ _⟩
  case neg =>
    have HF := hid (show Co.refs (Co.mk k1 v1 ds1 ks1) n = (allLt ds1 n && Co.refss ks1 n) by
      rw [HE.out]
      have : (decide (k1 = 11) && decide (n ≤ v1)) = false := by simpa using hA
      rw [this]; rfl)
    have hcase : ((k1 == 11) = true ∧ decide (n ≤ v1) = false) ∨ (k1 == 11) = false := by
      by_cases h1 : k1 = 11
      · left; exact ⟨by simp [h1], by simp; have : ¬ n ≤ v1 := fun c => hA ⟨h1, c⟩; omega⟩
      · right; simp [h1]
    obtain ⟨_, _, e, i2, i3, i4⟩ := hr.fCo.2.2.1.eIn
    simp only [Value.slice.injEq, true_and] at e
    obtain ⟨rfl, rfl⟩ := e
    obtain ⟨_, _, e, h2, h3, h4⟩ := hr.fCo.2.2.2.eCo
    simp only [Value.slice.injEq, true_and] at e
    obtain ⟨rfl, rfl⟩ := e
    have IH := hid ih
    have H4 := hid h4
    have I4 := hid i4
    have HK := hid hbk
    have HN := hid hN
    have X3 := hid x3
    have XL := hid (World.block_lt_of_cell? _ _ x3)
    clear ih hr h4 i4 hbk hN hA HE
    rcases hcase with ⟨g1, gv⟩ | g1
    all_goals
      go_enter Try.func46, Try.ntmps46
      go_wp2_with fail
      go_loopw [5] (fun i wr => ∃ (j : Nat), j ≤ ds1.length ∧ i = .int .i64 j ∧ Hid (∀ (i : Nat) x, i < j → ds1[i]? = some x → x < n) ∧ w = wr) (fun i _ => ds1.length - (intOf i).toNat)
      case atStart => exact ⟨0, by omega, rfl, fun i t hi => absurd hi (by omega), rfl⟩
      case round =>
        obtain ⟨j, hj, rfl, HJ, rfl⟩ := hrel
        by_cases hlt : j < ds1.length
        case pos =>
          obtain ⟨b, o, rfl, hbl, hall⟩ := I4.out (by omega)
          obtain ⟨x, hx⟩ : ∃ x, ds1[j]? = some x := ⟨_, List.getElem?_eq_getElem hlt⟩
          obtain ⟨q0, hfc⟩ := hall j x hx
          have HT := hid hx
          clear hall I4 hx
          by_cases hi : n ≤ x
          case pos =>
            have hib : decide (n ≤ x) = true := by simp [hi]
            have HI := hid hi
            clear hi
            go_wp2_with fail
            go_ret
            exact ⟨ret_bool (by rw [HF.out, allLt_no _ n j x HT.out HI.out]; rfl), Below.refl _ _⟩
          case neg =>
            have hib : decide (n ≤ x) = false := by simp; omega
            have HI := hid hi
            clear hi
            go_wp2_with fail
            go_roundw
            case rel =>
              refine ⟨j + 1, by omega, by go_num, fun i t hi hti => ?_, by first | rfl | trivial⟩
              rcases Nat.lt_succ_iff_lt_or_eq.1 hi with hi | rfl
              · exact HJ.out i t hi hti
              · obtain rfl := Option.some.inj (hti.symm.trans HT.out)
                have := HI.out; omega
            case measure => simp [intOf]; omega
        case neg =>
          have HF2 := hid (show Co.refs (Co.mk k1 v1 ds1 ks1) n = Co.refss ks1 n by rw [HF.out, allLt_yes ds1 n fun i x hx => HJ.out i x (by have := (List.getElem?_eq_some_iff.1 hx).1; omega) hx]; rfl)
          clear HF
          go_wp2_with fail
          go_loopw [6] (fun i wr => ∃ (j : Nat), j ≤ ks1.length ∧ i = .int .i64 j ∧ Hid (∀ (i : Nat) t, i < j → ks1[i]? = some t → Co.refs t n = true) ∧ Below w.heap.size w wr) (fun i _ => ks1.length - (intOf i).toNat)
          case atStart => exact ⟨0, by omega, rfl, fun i t hi => absurd hi (by omega), Below.refl _ _⟩
          case round =>
            obtain ⟨j, hj, rfl, HJ2, hb⟩ := hrel
            have z3 := (hb.cell (p := ⟨b1, o1 + 3, none⟩) XL.out).trans X3.out
            by_cases hlt : j < ks1.length
            case pos =>
              obtain ⟨b, o, rfl, hbl, hall⟩ := H4.out (by omega)
              obtain ⟨t, ht⟩ : ∃ t, ks1[j]? = some t := ⟨_, List.getElem?_eq_getElem hlt⟩
              obtain ⟨k3, v3, ds3, ks3⟩ := t
              obtain ⟨ads3, cds3, aks3, cks3, q0, q1, q2, q3, hrk⟩ := hall j k3 v3 ds3 ks3 ht
              clear hall H4
              have hbg := Co.bulk_get ks1 j _ ht
              have hc := IH.out k3 v3 ds3 ks3 ads3 cds3 aks3 cks3 b (o + j * 4) n wr (by have := HK.out; have := HN.out; omega)
                ((hb.cell (p := ⟨b, o + j * 4, none⟩) hbl).trans q0) ((hb.cell (p := ⟨b, o + j * 4 + 1, none⟩) hbl).trans q1) ((hb.cell (p := ⟨b, o + j * 4 + 2, none⟩) hbl).trans q2) ((hb.cell (p := ⟨b, o + j * 4 + 3, none⟩) hbl).trans q3) (hrk.below hb)
              have HT := hid ht
              by_cases hg : Co.refs (.mk k3 v3 ds3 ks3) n = true
              case neg =>
                replace hg := (Bool.not_eq_true _).mp hg
                rw [hg] at hc
                have HC := hid hc
                have HG := hid hg
                clear ht hrk q0 q1 q2 q3 hc hg
                go_wp2_with fail
                refine HC.out.mono ?_
                clear HC
                rintro e w1 ⟨rfl, hb1⟩
                have hbw := hb.trans (hb1.mono hb.size)
                clear hb1 z3
                go_wp2_with fail
                go_ret
                exact ⟨ret_bool (by rw [HF2.out, Co.refss_no ks1 n j _ HT.out HG.out]), hbw⟩
              case pos =>
                rw [hg] at hc
                have HC := hid hc
                have HG := hid hg
                clear ht hrk q0 q1 q2 q3 hc hg
                go_wp2_with fail
                refine HC.out.mono ?_
                clear HC
                rintro e w1 ⟨rfl, hb1⟩
                have hbw := hb.trans (hb1.mono hb.size)
                clear hb1 z3
                go_wp2_with fail
                go_roundw
                case rel => exact ⟨j + 1, by omega, by go_num, fun i t hi hti => (Nat.lt_succ_iff_lt_or_eq.1 hi).elim (fun hi => HJ2.out i t hi hti) (fun he => by subst he; obtain rfl := Option.some.inj (hti.symm.trans HT.out); exact HG.out), hbw⟩
                case measure => simp [intOf]; omega
            case neg =>
              go_wp2_with fail
              go_ret
              exact ⟨ret_bool (by rw [HF2.out, Co.refss_yes ks1 n fun i t hti => HJ2.out i t (by have := (List.getElem?_eq_some_iff.1 hti).1; omega) hti]), hb⟩
theorem ref_all : ∀ N, RefW N
  | 0 => fun _ _ _ _ _ _ _ _ _ _ _ _  h => absurd h (by omega)
  | N + 1 => ref_step N (ref_all N)
end Go.Proofs.Ytejdbmeoaekhcaa
/- was: BkValid -/
namespace Go.Proofs.Ytejdbmeoaekhcaa
open Go.ChangeShapes Go.WideShapes Go.ChangeAt Go.RowKit Go.BigFrame
open Go.Sort (grow)
set_option linter.unusedVariables false

def defOk (n : Int) (t : Co) : Bool := (Co.ok t && Co.clo t 0) && Co.refs t n
def defsOk (n : Int) : List Co → Bool
  | [] => true
  | t :: ts => defOk n t && defsOk n ts
theorem defsOk_no (n : Int) : ∀ (ts : List Co) (j : Nat) (t : Co), ts[j]? = some t → defOk n t = false → defsOk n ts = false
  | [], j, t, h, _ => by simp at h
  | u :: ts, 0, t, h, e => by simp at h; subst h; simp [defsOk, e]
  | u :: ts, j + 1, t, h, e => by rw [defsOk, defsOk_no n ts j t (by simpa using h) e]; simp
theorem defsOk_yes (n : Int) : ∀ (ts : List Co), (∀ (j : Nat) t, ts[j]? = some t → defOk n t = true) → defsOk n ts = true
  | [], _ => rfl
  | t :: ts, h => by rw [defsOk, h 0 t rfl, defsOk_yes n ts fun j u hj => h (j + 1) u (by simpa using hj)]; rfl
def bookOk (ts : List Co) : Bool := inR ts.length 1 24 && defsOk ts.length ts

theorem spec_l06Closed (k1 : Int) (v1 : Int) (ds1 : List Int) (ks1 : List Co) (ads1 : Option Addr) (cds1 : Nat) (aks1 : Option Addr) (cks1 : Nat) (b1 o1 : Nat) (w : World) (hM : Co.bulk (Co.mk k1 v1 ds1 ks1) ≤ 1048576) (x0 : w.cell? ⟨b1, o1, none⟩ = some (.int .i64 k1)) (x1 : w.cell? ⟨b1, o1 + 1, none⟩ = some (.int .i64 v1)) (x2 : w.cell? ⟨b1, o1 + 2, none⟩ = some (.slice ads1 ds1.length cds1)) (x3 : w.cell? ⟨b1, o1 + 3, none⟩ = some (.slice aks1 ks1.length cks1)) (hr : RdS w (Co.d (Co.mk k1 v1 ds1 ks1)) [.int .i64 k1, .int .i64 v1, .slice ads1 ds1.length cds1, .slice aks1 ks1.length cks1]) :
    Calls Try.prog 44 #[.pointer (some ⟨b1, o1, none⟩)] w fun e w' => e = .returned (.bool (Co.ok (Co.mk k1 v1 ds1 ks1) && Co.clo (Co.mk k1 v1 ds1 ks1) 0)) ∧ Below w.heap.size w w' := by
  have hv := spec_l06Ok k1 v1 ds1 ks1 ads1 cds1 aks1 cks1 b1 o1 w hM x0 x1 x2 x3 hr
  have XL := hid (World.block_lt_of_cell? _ _ x3)
  have X0 := hid x0
  have X1 := hid x1
  have X2 := hid x2
  have X3 := hid x3
  by_cases hok : Co.ok (Co.mk k1 v1 ds1 ks1) = true
  case neg =>
    replace hok := (Bool.not_eq_true _).mp hok
    rw [hok] at hv ⊢
    have HV := hid hv
    clear hr hv hok x0 x1 x2 x3 hM
    go_enter Try.func44, Try.ntmps44
    go_wp2_with fail
    refine HV.out.mono ?_
    rintro e w1 ⟨rfl, hb⟩
    have HB1 := hid hb
    clear hb
    go_wp2_with fail
    go_ret
    exact ⟨rfl, HB1.out⟩
  case pos =>
    have hg := ok_good hok
    have hc := fun W (hb : Below w.heap.size w W) => above_all (Co.bulk (Co.mk k1 v1 ds1 ks1) + 1) k1 v1 ds1 ks1 ads1 cds1 aks1 cks1 b1 o1 0 W (by omega) (by omega) (by omega) hg ((hb.cell (p := ⟨b1, o1, none⟩) XL.out).trans X0.out) ((hb.cell (p := ⟨b1, o1 + 1, none⟩) XL.out).trans X1.out) ((hb.cell (p := ⟨b1, o1 + 2, none⟩) XL.out).trans X2.out) ((hb.cell (p := ⟨b1, o1 + 3, none⟩) XL.out).trans X3.out) (hr.below hb)
    rw [hok] at hv ⊢
    have HV := hid hv
    have HC := hid hc
    clear hr hv hok hc x0 x1 x2 x3 hM hg
    go_enter Try.func44, Try.ntmps44
    go_wp2_with fail
    refine HV.out.mono ?_
    rintro e w1 ⟨rfl, hb⟩
    have HB1 := hid hb
    clear hb
    go_wp2_with fail
    refine (HC.out _ HB1.out).mono ?_
    rintro e w2 ⟨rfl, hb⟩
    have HB2 := hid (HB1.out.trans (hb.mono HB1.out.size))
    clear hb
    go_wp2_with fail
    go_ret
    exact ⟨ret_bool (by simp), HB2.out⟩

set_option maxHeartbeats 1000000 in
theorem spec_l06Book (fs1 : List Co) (afs1 : Option Addr) (cfs1 : Nat) (b1 o1 : Nat) (w : World) (hM : Co.bulks fs1 ≤ 1048576) (x0 : w.cell? ⟨b1, o1, none⟩ = some (.slice afs1 fs1.length cfs1)) (hr : RdS w (Bk.d (.mk fs1)) [.slice afs1 fs1.length cfs1]) :
    Calls Try.prog 43 #[.pointer (some ⟨b1, o1, none⟩)] w fun e w' => e = .returned (.bool (bookOk fs1)) ∧ Below w.heap.size w w' := by
  obtain ⟨_, _, e, h2, h3, h4⟩ := hr.fBk.eCo
  simp only [Value.slice.injEq, true_and] at e
  obtain ⟨rfl, rfl⟩ := e
  have H4 := hid h4
  have XL := hid (World.block_lt_of_cell? _ _ x0)
  have X0 := hid x0
  have hlen := Co.bulks_length fs1
  have HM := hid hM
  clear hr h4
  by_cases hi : inR fs1.length 1 24 = true
  case neg =>
    replace hi := (Bool.not_eq_true _).mp hi
    have HF := hid (show bookOk fs1 = false by rw [bookOk, hi]; rfl)
    have HI := hid hi
    clear hi H4 hM
    go_enter Try.func43, Try.ntmps43
    go_wp2_with fail
    refine (spec_In _ _ _ _).mono ?_
    rw [HI.out]
    rintro e w2 ⟨rfl, rfl⟩
    go_wp2_with fail
    go_ret
    exact ⟨ret_bool HF.out.symm, Below.refl _ _⟩
  case pos =>
    have HF := hid (show bookOk fs1 = defsOk fs1.length fs1 by rw [bookOk, hi]; rfl)
    have HI := hid hi
    clear hi hM
    go_enter Try.func43, Try.ntmps43
    go_wp2_with fail
    refine (spec_In _ _ _ _).mono ?_
    rw [HI.out]
    rintro e w2 ⟨rfl, rfl⟩
    go_wp2_with fail
    go_loopw [3] (fun i wr => ∃ (j : Nat), j ≤ fs1.length ∧ i = .int .i64 j ∧ Hid (∀ (i : Nat) t, i < j → fs1[i]? = some t → defOk fs1.length t = true) ∧ Below w.heap.size w wr) (fun i _ => fs1.length - (intOf i).toNat)
    case atStart => exact ⟨0, by omega, rfl, fun i t hi => absurd hi (by omega), Below.refl _ _⟩
    case round =>
      obtain ⟨j, hj, rfl, HJ, hb⟩ := hrel
      have z0 := (hb.cell (p := ⟨b1, o1, none⟩) XL.out).trans X0.out
      by_cases hlt : j < fs1.length
      case pos =>
        obtain ⟨b, o, rfl, hbl, hall⟩ := H4.out (by omega)
        obtain ⟨t, ht⟩ : ∃ t, fs1[j]? = some t := ⟨_, List.getElem?_eq_getElem hlt⟩
        obtain ⟨k3, v3, ds3, ks3⟩ := t
        obtain ⟨ads3, cds3, aks3, cks3, q0, q1, q2, q3, hrk⟩ := hall j k3 v3 ds3 ks3 ht
        clear hall H4
        have hbg := Co.bulk_get fs1 j _ ht
        have hM3 : Co.bulk (.mk k3 v3 ds3 ks3) ≤ 1048576 := by have := HM.out; omega
        have hc1 := fun d os => Calls.regrown_of (spec_l06Closed k3 v3 ds3 ks3 ads3 cds3 aks3 cks3 b (o + j * 4) (grow (redrawn wr d) os) hM3 (cell_regrown ((hb.cell (p := ⟨b, o + j * 4, none⟩) hbl).trans q0) d os) (cell_regrown ((hb.cell (p := ⟨b, o + j * 4 + 1, none⟩) hbl).trans q1) d os) (cell_regrown ((hb.cell (p := ⟨b, o + j * 4 + 2, none⟩) hbl).trans q2) d os) (cell_regrown ((hb.cell (p := ⟨b, o + j * 4 + 3, none⟩) hbl).trans q3) d os) ((hrk.below hb).below (below_regrown wr d os)))
        have hc2 := fun d os => Calls.regrown_of (ref_all (Co.bulk (.mk k3 v3 ds3 ks3) + 1) k3 v3 ds3 ks3 ads3 cds3 aks3 cks3 b (o + j * 4) fs1.length (grow (redrawn wr d) os) (by omega) (cell_regrown ((hb.cell (p := ⟨b, o + j * 4, none⟩) hbl).trans q0) d os) (cell_regrown ((hb.cell (p := ⟨b, o + j * 4 + 1, none⟩) hbl).trans q1) d os) (cell_regrown ((hb.cell (p := ⟨b, o + j * 4 + 2, none⟩) hbl).trans q2) d os) (cell_regrown ((hb.cell (p := ⟨b, o + j * 4 + 3, none⟩) hbl).trans q3) d os) ((hrk.below hb).below (below_regrown wr d os)))
        have HT := hid ht
        have z0' := cell_regrown z0
        by_cases hk : (Co.ok (.mk k3 v3 ds3 ks3) && Co.clo (.mk k3 v3 ds3 ks3) 0) = true
        case neg =>
          replace hk := (Bool.not_eq_true _).mp hk
          have HG := hid (show defOk fs1.length (.mk k3 v3 ds3 ks3) = false by rw [defOk, hk]; rfl)
          rw [hk] at hc1
          have HC := hid hc1
          clear ht hrk q0 q1 q2 q3 hc1 hc2 hk hM3 hbg
          go_wp2_with fail
          refine wp_region_quiet_below (by kernel_rfl) (by kernel_rfl) ?_
          repeat (go_big_quiet_step (exact HC.out _ _))
          refine wpQuiet_nil ?_
          intro _ hw'
          obtain ⟨⟨dq, osq⟩, hw''⟩ := hw'
          subst hw''
          have hbw := hb.trans ((below_regrown wr dq osq).mono hb.size)
          clear HC z0 z0'
          go_wp2_with fail
          go_ret
          exact ⟨ret_bool (by rw [HF.out, defsOk_no _ fs1 j _ HT.out HG.out]), hbw⟩
        case pos =>
          have HG0 := hid (show defOk fs1.length (.mk k3 v3 ds3 ks3) = Co.refs (.mk k3 v3 ds3 ks3) fs1.length by rw [defOk, hk]; rfl)
          rw [hk] at hc1
          have HC := hid hc1
          by_cases hq : Co.refs (.mk k3 v3 ds3 ks3) fs1.length = true
          all_goals
            first | rw [hq] at hc2 | rw [(Bool.not_eq_true _).mp hq] at hc2
            have HC2 := hid hc2
            have HQ := hid hq
            clear ht hrk q0 q1 q2 q3 hc1 hc2 hk hM3 hbg hq
            go_wp2_with fail
            refine wp_region_quiet_below (by kernel_rfl) (by kernel_rfl) ?_
            repeat (go_big_quiet_step (first | exact HC.out _ _ | exact HC2.out _ _))
            refine wpQuiet_nil ?_
            intro _ hw'
            obtain ⟨⟨dq, osq⟩, hw''⟩ := hw'
            subst hw''
            have hbw := hb.trans ((below_regrown wr dq osq).mono hb.size)
            clear HC HC2 z0 z0'
            go_wp2_with fail
          · go_roundw
            case rel => exact ⟨j + 1, by omega, by go_num, fun i t hi hti => (Nat.lt_succ_iff_lt_or_eq.1 hi).elim (fun hi => HJ.out i t hi hti) (fun he => by subst he; obtain rfl := Option.some.inj (hti.symm.trans HT.out); exact HG0.out.trans HQ.out), hbw⟩
            case measure => simp [intOf]; omega
          · go_ret
            exact ⟨ret_bool (by rw [HF.out, defsOk_no _ fs1 j _ HT.out (HG0.out.trans ((Bool.not_eq_true _).mp HQ.out))]), hbw⟩
      case neg =>
        go_wp2_with fail
        go_ret
        exact ⟨ret_bool (by rw [HF.out, defsOk_yes _ fs1 fun i t hti => HJ.out i t (by have := (List.getElem?_eq_some_iff.1 hti).1; omega) hti]), hb⟩
end Go.Proofs.Ytejdbmeoaekhcaa
/- was: CoErase -/
namespace Go.Proofs.Ytejdbmeoaekhcaa
open Go.ChangeShapes Go.WideShapes Go.ChangeAt Go.RowKit
set_option linter.unusedVariables false

mutual
def Co.era : Co → Bool
  | .mk k _ _ ks => !(decide (k = 6) || decide (k = 7)) && Co.eras ks
def Co.eras : List Co → Bool
  | [] => true
  | t :: ts => Co.era t && Co.eras ts
end
theorem Co.eras_no : ∀ (ts : List Co) (j : Nat) (t : Co), ts[j]? = some t → Co.era t = false → Co.eras ts = false
  | [], j, t, h, _ => by simp at h
  | u :: ts, 0, t, h, e => by simp at h; subst h; simp [Co.eras, e]
  | u :: ts, j + 1, t, h, e => by rw [Co.eras, Co.eras_no ts j t (by simpa using h) e]; simp
theorem Co.eras_yes : ∀ (ts : List Co), (∀ (j : Nat) t, ts[j]? = some t → Co.era t = true) → Co.eras ts = true
  | [], _ => rfl
  | t :: ts, h => by rw [Co.eras, h 0 t rfl, Co.eras_yes ts fun j u hj => h (j + 1) u (by simpa using hj)]; rfl

def SpEraW (N : Nat) : Prop := ∀ (k1 : Int) (v1 : Int) (ds1 : List Int) (ks1 : List Co) (ads1 : Option Addr) (cds1 : Nat) (aks1 : Option Addr) (cks1 : Nat) (b1 o1 : Nat) (w : World), Co.bulk (Co.mk k1 v1 ds1 ks1) < N → w.cell? ⟨b1, o1, none⟩ = some (.int .i64 k1) → w.cell? ⟨b1, o1 + 1, none⟩ = some (.int .i64 v1) → w.cell? ⟨b1, o1 + 2, none⟩ = some (.slice ads1 ds1.length cds1) → w.cell? ⟨b1, o1 + 3, none⟩ = some (.slice aks1 ks1.length cks1) → RdS w (Co.d (Co.mk k1 v1 ds1 ks1)) [.int .i64 k1, .int .i64 v1, .slice ads1 ds1.length cds1, .slice aks1 ks1.length cks1] →
  Calls Try.prog 45 #[.pointer (some ⟨b1, o1, none⟩)] w fun e w' => e = .returned (.bool (Co.era (Co.mk k1 v1 ds1 ks1))) ∧ Below w.heap.size w w'
set_option maxHeartbeats 1000000 in
theorem spec_era_step (N : Nat) (ih : SpEraW N) : SpEraW (N + 1) := by
  intro k1 v1 ds1 ks1 ads1 cds1 aks1 cks1 b1 o1 w hN x0 x1 x2 x3 hr
  have hbk : Co.bulk (Co.mk k1 v1 ds1 ks1) = In.bulks ds1 + Co.bulks ks1 := rfl
  have hed : Co.era (Co.mk k1 v1 ds1 ks1) = (!(decide (k1 = 6) || decide (k1 = 7)) && Co.eras ks1) := rfl
  obtain ⟨_, _, e, h2, h3, h4⟩ := hr.fCo.2.2.2.eCo
  simp only [Value.slice.injEq, true_and] at e
  obtain ⟨rfl, rfl⟩ := e
  have IH := hid ih
  have H4 := hid h4
  have HK := hid hbk
  have HN := hid hN
  have HE := hid hed
  have X3 := hid x3
  have XL := hid (World.block_lt_of_cell? _ _ x3)
  clear ih hr h4 hbk hN hed x1 x2
  by_cases h6 : k1 = 6
  case pos =>
    subst h6
    have HF := hid (show Co.era (Co.mk 6 v1 ds1 ks1) = false by rw [HE.out]; simp)
    go_enter Try.func45, Try.ntmps45
    go_wp2_with fail
    go_ret
    exact ⟨ret_bool HF.out.symm, Below.refl _ _⟩
  case neg =>
  by_cases h7 : k1 = 7
  case pos =>
    subst h7
    have HF := hid (show Co.era (Co.mk 7 v1 ds1 ks1) = false by rw [HE.out]; simp)
    clear h6
    go_enter Try.func45, Try.ntmps45
    go_wp2_with fail
    go_ret
    exact ⟨ret_bool HF.out.symm, Below.refl _ _⟩
  case neg =>
    have g6 : (k1 == 6) = false := by simp [h6]
    have g7 : (k1 == 7) = false := by simp [h7]
    have HF := hid (show Co.era (Co.mk k1 v1 ds1 ks1) = Co.eras ks1 by rw [HE.out]; simp [h6, h7])
    clear h6 h7
    go_enter Try.func45, Try.ntmps45
    go_wp2_with fail
    go_loopw [3] (fun i wr => ∃ (j : Nat), j ≤ ks1.length ∧ i = .int .i64 j ∧ Hid (∀ (i : Nat) t, i < j → ks1[i]? = some t → Co.era t = true) ∧ Below w.heap.size w wr) (fun i _ => ks1.length - (intOf i).toNat)
    case atStart => exact ⟨0, by omega, rfl, fun i t hi => absurd hi (by omega), Below.refl _ _⟩
    case round =>
      obtain ⟨j, hj, rfl, HJ, hb⟩ := hrel
      have z3 := (hb.cell (p := ⟨b1, o1 + 3, none⟩) XL.out).trans X3.out
      by_cases hlt : j < ks1.length
      case pos =>
        obtain ⟨b, o, rfl, hbl, hall⟩ := H4.out (by omega)
        obtain ⟨t, ht⟩ : ∃ t, ks1[j]? = some t := ⟨_, List.getElem?_eq_getElem hlt⟩
        obtain ⟨k3, v3, ds3, ks3⟩ := t
        obtain ⟨ads3, cds3, aks3, cks3, q0, q1, q2, q3, hrk⟩ := hall j k3 v3 ds3 ks3 ht
        clear hall H4
        have hbg := Co.bulk_get ks1 j _ ht
        have hc := IH.out k3 v3 ds3 ks3 ads3 cds3 aks3 cks3 b (o + j * 4) wr (by have := HK.out; have := HN.out; omega)
          ((hb.cell (p := ⟨b, o + j * 4, none⟩) hbl).trans q0) ((hb.cell (p := ⟨b, o + j * 4 + 1, none⟩) hbl).trans q1) ((hb.cell (p := ⟨b, o + j * 4 + 2, none⟩) hbl).trans q2) ((hb.cell (p := ⟨b, o + j * 4 + 3, none⟩) hbl).trans q3) (hrk.below hb)
        have HT := hid ht
        by_cases hg : Co.era (.mk k3 v3 ds3 ks3) = true
        case neg =>
          replace hg := (Bool.not_eq_true _).mp hg
          rw [hg] at hc
          have HC := hid hc
          have HG := hid hg
          clear ht hrk q0 q1 q2 q3 hc hg
          go_wp2_with fail
          refine HC.out.mono ?_
          clear HC
          rintro e w1 ⟨rfl, hb1⟩
          have hbw := hb.trans (hb1.mono hb.size)
          clear hb1 z3
          go_wp2_with fail
          go_ret
          exact ⟨ret_bool (by rw [HF.out, Co.eras_no ks1 j _ HT.out HG.out]), hbw⟩
        case pos =>
          rw [hg] at hc
          have HC := hid hc
          have HG := hid hg
          clear ht hrk q0 q1 q2 q3 hc hg
          go_wp2_with fail
          refine HC.out.mono ?_
          clear HC
          rintro e w1 ⟨rfl, hb1⟩
          have hbw := hb.trans (hb1.mono hb.size)
          clear hb1 z3
          go_wp2_with fail
          go_roundw
          case rel => exact ⟨j + 1, by omega, by go_num, fun i t hi hti => (Nat.lt_succ_iff_lt_or_eq.1 hi).elim (fun hi => HJ.out i t hi hti) (fun he => by subst he; obtain rfl := Option.some.inj (hti.symm.trans HT.out); exact HG.out), hbw⟩
          case measure => simp [intOf]; omega
      case neg =>
        go_wp2_with fail
        go_ret
        exact ⟨ret_bool (by rw [HF.out, Co.eras_yes ks1 fun i t hti => HJ.out i t (by have := (List.getElem?_eq_some_iff.1 hti).1; omega) hti]), hb⟩
theorem spec_era_all : ∀ N, SpEraW N
  | 0 => fun _ _ _ _ _ _ _ _ _ _ _  h => absurd h (by omega)
  | N + 1 => spec_era_step N (spec_era_all N)

end Go.Proofs.Ytejdbmeoaekhcaa
/- was: NdPlain -/
namespace Go.Proofs.Ytejdbmeoaekhcaa
open Go.RowKit

theorem all_no {α : Type} (p : α → Bool) : ∀ (l : List α) (j : Nat) (t : α), l[j]? = some t → p t = false → l.all p = false
  | [], j, t, h, _ => by simp at h
  | u :: l, 0, t, h, e => by simp at h; subst h; simp [e]
  | u :: l, j + 1, t, h, e => by rw [List.all_cons, all_no p l j t (by simpa using h) e]; simp
theorem all_yes {α : Type} (p : α → Bool) : ∀ (l : List α), (∀ (j : Nat) t, l[j]? = some t → p t = true) → l.all p = true
  | [], _ => rfl
  | u :: l, h => by rw [List.all_cons, h 0 u rfl, all_yes p l fun j t hj => h (j + 1) t (by simpa using hj)]; rfl
theorem any_not {α : Type} (p : α → Bool) : ∀ (l : List α), l.any (fun x => !p x) = !l.all p
  | [] => rfl
  | u :: l => by rw [List.any_cons, List.all_cons, any_not p l]; cases p u <;> rfl
def upTo (n : Int) (x : Int) : Bool := inR x 0 (n - 1)
def clOk (n h : Int) : Cl → Bool
  | .mk t es => Co.ok t && (Co.era t && (Co.refs t n && (Co.clo t es.length && (decide (es.length ≤ 256) && es.all (upTo h)))))
theorem clOk_mk (n h : Int) (t : Co) (es : List Int) : clOk n h (.mk t es) = (Co.ok t && (Co.era t && (Co.refs t n && (Co.clo t es.length && (decide (es.length ≤ 256) && es.all (upTo h)))))) := rfl
def kidIs (i : Nat) : Co → Bool
  | .mk k v _ _ => decide (k = 1) && decide (v = i)
def kidsVar : Nat → List Co → Bool
  | _, [] => true
  | i, t :: ts => kidIs i t && kidsVar (i + 1) ts
theorem kidsVar_no : ∀ (ts : List Co) (i j : Nat) (t : Co), ts[j]? = some t → kidIs (i + j) t = false → kidsVar i ts = false
  | [], i, j, t, h, _ => by simp at h
  | u :: ts, i, 0, t, h, e => by simp at h; subst h; rw [kidsVar, show kidIs i u = false from e]; rfl
  | u :: ts, i, j + 1, t, h, e => by rw [kidsVar, kidsVar_no ts (i + 1) j t (by simpa using h) (by rw [show i + 1 + j = i + (j + 1) by omega]; exact e)]; simp
theorem kidsVar_yes : ∀ (ts : List Co) (i : Nat), (∀ (j : Nat) t, ts[j]? = some t → kidIs (i + j) t = true) → kidsVar i ts = true
  | [], _, _ => rfl
  | u :: ts, i, h => by rw [kidsVar, show kidIs i u = true from h 0 u rfl, kidsVar_yes ts (i + 1) fun j t hj => by rw [show i + 1 + j = i + (j + 1) by omega]; exact h (j + 1) t (by simpa using hj)]; rfl
def clFields : Cl → Bool
  | .mk (.mk _ _ _ ks) es => decide (ks.length = es.length) && kidsVar 0 ks
def clVal : Cl → Bool
  | .mk (.mk k v ds ks) es => if k = 4 then true else if k = 2 then true else if k = 8 then clFields (.mk (.mk k v ds ks) es) else false
def clNone : Cl → Bool
  | .mk (.mk k v ds ks) es => decide (k = 0) && (decide (v = 0) && (decide (ds.length = 0) && (decide (ks.length = 0) && decide (es.length = 0))))
def frRest (n h : Int) (k v : Int) (ds : List Int) : Bool :=
  if k = 1 then inR v 0 (h - 1) && decide (ds.length = 0) else if k = 2 then inR v 0 (h - 1) && decide (ds.length = 0)
  else if k = 4 then inR v 1 6 && (decide (ds.length = 1) && inR (ds.headD 0) (-2147483648) 2147483647)
  else if k = 5 then decide (v = 0) && (inR ds.length 1 4 && ds.all (upTo n))
  else if k = 6 then decide (v = 0) && (decide (ds.length = 2) && ds.all (upTo n)) else false
def frOk (n h : Int) : Fr → Bool
  | .mk k v ds c => if k = 3 then inR v 1 6 && (decide (ds.length = 0) && clOk n h c) else clNone c && frRest n h k v ds
def thOk (n h : Int) : Th → Bool
  | .mk dn c => clOk n h c && (!dn || clVal c)
def bookEra (fs : List Co) : Bool := bookOk fs && fs.all Co.era
def needOk (fs : List Co) : Ne → Bool
  | .mk c ss hs => bookEra fs && (decide (hs.length ≤ 2000) && (decide (ss.length ≤ 400) && (clOk fs.length hs.length c && (ss.all (frOk fs.length hs.length) && hs.all (thOk fs.length hs.length)))))
def needDone : Ne → Bool
  | .mk c ss _ => decide (ss.length = 0) && clVal c
theorem defsOk_get (n : Int) : ∀ (ts : List Co) (j : Nat) (t : Co), defsOk n ts = true → ts[j]? = some t → Co.ok t = true
  | [], j, t, _, h => by simp at h
  | u :: ts, 0, t, e, h => by simp at h; subst h; simp only [defsOk, defOk, Bool.and_eq_true] at e; exact e.1.1.1
  | u :: ts, j + 1, t, e, h => by simp only [defsOk, Bool.and_eq_true] at e; exact defsOk_get n ts j t e.2 (by simpa using h)
theorem Co.ok_good' {t : Co} (h : Co.ok t = true) : Co.good t = true := by
  simp only [Co.ok, Bool.and_eq_true] at h
  first | exact h.1 | exact h.1.1 | exact h.2 | exact h.2.1
end Go.Proofs.Ytejdbmeoaekhcaa
/- was: Fst -/
namespace Go.Proofs.Ytejdbmeoaekhcaa
open Go.RowKit

/-- The first place, or -1. -/
def fstAt {α : Type} (p : α → Bool) : List α → Int
  | [] => -1
  | t :: ts => if p t then 0 else (if fstAt p ts < 0 then -1 else fstAt p ts + 1)
theorem fstAt_ge {α : Type} (p : α → Bool) : ∀ ts : List α, -1 ≤ fstAt p ts
  | [] => by simp [fstAt]
  | t :: ts => by have := fstAt_ge p ts; unfold fstAt; split <;> (try split) <;> omega
theorem fstAt_lt {α : Type} (p : α → Bool) : ∀ ts : List α, fstAt p ts < ts.length
  | [] => by simp [fstAt]
  | t :: ts => by have := fstAt_lt p ts; simp only [fstAt, List.length_cons]; split <;> (try split) <;> omega
theorem fstAt_no {α : Type} (p : α → Bool) : ∀ ts : List α, (∀ (j : Nat) t, ts[j]? = some t → p t = false) → fstAt p ts = -1
  | [], _ => rfl
  | t :: ts, h => by rw [fstAt, h 0 t rfl, fstAt_no p ts fun j u hj => h (j + 1) u (by simpa using hj)]; simp
theorem fstAt_yes {α : Type} (p : α → Bool) : ∀ (ts : List α) (j : Nat) (t : α), ts[j]? = some t → p t = true → (∀ (i : Nat) u, i < j → ts[i]? = some u → p u = false) → fstAt p ts = j
  | [], j, t, h, _, _ => by simp at h
  | u :: ts, 0, t, h, e, _ => by simp at h; subst h; rw [fstAt, e]; simp
  | u :: ts, j + 1, t, h, e, hb => by
    rw [fstAt, hb 0 u (by omega) rfl, fstAt_yes p ts j t (by simpa using h) e fun i v hi hv => hb (i + 1) v (by omega) (by simpa using hv)]
    have : ¬ ((j : Int) < 0) := by omega
    simp [this]
theorem fstAt_any {α : Type} (p : α → Bool) : ∀ ts : List α, decide (0 ≤ fstAt p ts) = ts.any p
  | [] => by simp [fstAt]
  | t :: ts => by
    have h := fstAt_any p ts
    rw [List.any_cons, ← h, fstAt]
    cases p t
    · by_cases h0 : fstAt p ts < 0
      · simp [h0] <;> omega
      · simp [h0] <;> omega
    · simp
end Go.Proofs.Ytejdbmeoaekhcaa
/- was: AnyCo -/
namespace Go.Proofs.Ytejdbmeoaekhcaa
open Go.ChangeShapes Go.WideShapes Go.ChangeAt Go.RowKit
set_option linter.unusedVariables false

set_option maxRecDepth 100000 in
set_option maxHeartbeats 1000000 in
theorem indexFunc_Co_0 (F : FuncId) (eF : ∀ args (w : World), (callFunc F args).run Try.prog w = .ok (.enter F args) w)  (p : Co → Bool) (Good : World → Prop) (hk : ∀ w w', Below w.heap.size w w' → Good w → Good w') (ts : List Co) (a : Option Addr) (c : Nat) (w : World) (hg : Good w) (hr : RdL w (Co.ds ts) (.slice a ts.length c))
    (hc : ∀ (k3 : Int) (v3 : Int) (ds3 : List Int) (ks3 : List Co) (ads3 : Option Addr) (cds3 : Nat) (aks3 : Option Addr) (cks3 : Nat) (j : Nat) (W : World), ts[j]? = some (Co.mk k3 v3 ds3 ks3) → Good W → RdS W (Co.d (Co.mk k3 v3 ds3 ks3)) [.int .i64 k3, .int .i64 v3, .slice ads3 ds3.length cds3, .slice aks3 ks3.length cks3] → Calls Try.prog F #[.agg #[.int .i64 k3, .int .i64 v3, .slice ads3 ds3.length cds3, .slice aks3 ks3.length cks3]] W fun e w' => e = .returned (.bool (p (Co.mk k3 v3 ds3 ks3))) ∧ Below W.heap.size W w') :
    Calls Try.prog 88 #[.slice a ts.length c, .func (.func F) #[] #[]] w fun e w' => e = .returned (.int .i64 (fstAt p ts)) ∧ Below w.heap.size w w' := by
  obtain ⟨_, _, e, h2, h3, h4⟩ := hr.eCo
  simp only [Value.slice.injEq, true_and] at e
  obtain ⟨rfl, rfl⟩ := e
  have H4 := hid h4
  have HC0 := hid hc
  have HK := hid hk
  have HG := hid hg
  clear hr h4 hc hk hg
  go_enter Try.func88, Try.ntmps88
  go_wp2_with fail
  go_loopw [5, 8] (fun _ i wr => ∃ (j : Nat), j ≤ ts.length ∧ i = .int .i64 j ∧ Hid (∀ (i : Nat) t, i < j → ts[i]? = some t → p t = false) ∧ Below w.heap.size w wr) (fun _ i _ => ts.length - (intOf i).toNat)
  case atStart => exact ⟨0, by omega, rfl, fun i t hi => absurd hi (by omega), Below.refl _ _⟩
  case round =>
    obtain ⟨j, hj, rfl, HJ, hb⟩ := hrel
    by_cases hlt : j < ts.length
    case pos =>
      obtain ⟨b, o, rfl, hbl, hall⟩ := H4.out (by omega)
      obtain ⟨t, ht⟩ : ∃ t, ts[j]? = some t := ⟨_, List.getElem?_eq_getElem hlt⟩
      obtain ⟨k3, v3, ds3, ks3⟩ := t
      obtain ⟨ads3, cds3, aks3, cks3, q_0, q_1, q_2, q_3, hrk⟩ := hall j k3 v3 ds3 ks3 ht
      clear hall H4
      have d0 := (hb.cell (p := ⟨b, o + j * 4, none⟩) hbl).trans q_0
      have d1 := (hb.cell (p := ⟨b, o + j * 4 + 1, none⟩) hbl).trans q_1
      have d2 := (hb.cell (p := ⟨b, o + j * 4 + 2, none⟩) hbl).trans q_2
      have d3 := (hb.cell (p := ⟨b, o + j * 4 + 3, none⟩) hbl).trans q_3
      have hcc := fun hG => HC0.out k3 v3 ds3 ks3 ads3 cds3 aks3 cks3 j wr ht hG (hrk.below hb)
      have HT := hid ht
      have HGW := hid (HK.out _ _ hb HG.out)
      by_cases hq : p (Co.mk k3 v3 ds3 ks3) = true
      case pos =>
        rw [hq] at hcc
        have HC := hid hcc
        have HQ := hid hq
        clear ht hrk q_0 q_1 q_2 q_3 hcc hq HC0
        go_wp2_with fail
        refine (HC.out HGW.out).mono ?_
        clear HC
        rintro e w1 ⟨rfl, hb1⟩
        have hbw := hb.trans (hb1.mono hb.size)
        clear hb1
        go_wp2_with fail
        go_ret
        exact ⟨ret_int (fstAt_yes p ts j _ HT.out HQ.out HJ.out).symm, hbw⟩
      case neg =>
        replace hq := (Bool.not_eq_true _).mp hq
        rw [hq] at hcc
        have HC := hid hcc
        have HQ := hid hq
        clear ht hrk q_0 q_1 q_2 q_3 hcc hq HC0
        go_wp2_with fail
        refine (HC.out HGW.out).mono ?_
        clear HC
        rintro e w1 ⟨rfl, hb1⟩
        have hbw := hb.trans (hb1.mono hb.size)
        clear hb1
        go_wp2_with fail
        go_roundw
        case rel => exact ⟨j + 1, by omega, by go_num, fun i t hi hti => (Nat.lt_succ_iff_lt_or_eq.1 hi).elim (fun hi => HJ.out i t hi hti) (fun he => by subst he; obtain rfl := Option.some.inj (hti.symm.trans HT.out); exact HQ.out), hbw⟩
        case measure => simp [intOf]; omega
    case neg =>
      go_wp2_with fail
      go_ret
      exact ⟨ret_int (fstAt_no p ts fun i t hti => HJ.out i t (by have := (List.getElem?_eq_some_iff.1 hti).1; omega) hti).symm, hb⟩
theorem contains_Co_0 (F : FuncId) (eF : ∀ args (w : World), (callFunc F args).run Try.prog w = .ok (.enter F args) w)  (p : Co → Bool) (Good : World → Prop) (hk : ∀ w w', Below w.heap.size w w' → Good w → Good w') (ts : List Co) (a : Option Addr) (c : Nat) (w : World) (hg : Good w) (hr : RdL w (Co.ds ts) (.slice a ts.length c))
    (hc : ∀ (k3 : Int) (v3 : Int) (ds3 : List Int) (ks3 : List Co) (ads3 : Option Addr) (cds3 : Nat) (aks3 : Option Addr) (cks3 : Nat) (j : Nat) (W : World), ts[j]? = some (Co.mk k3 v3 ds3 ks3) → Good W → RdS W (Co.d (Co.mk k3 v3 ds3 ks3)) [.int .i64 k3, .int .i64 v3, .slice ads3 ds3.length cds3, .slice aks3 ks3.length cks3] → Calls Try.prog F #[.agg #[.int .i64 k3, .int .i64 v3, .slice ads3 ds3.length cds3, .slice aks3 ks3.length cks3]] W fun e w' => e = .returned (.bool (p (Co.mk k3 v3 ds3 ks3))) ∧ Below W.heap.size W w') :
    Calls Try.prog 70 #[.slice a ts.length c, .func (.func F) #[] #[]] w fun e w' => e = .returned (.bool (ts.any p)) ∧ Below w.heap.size w w' := by
  have HC := hid (indexFunc_Co_0 F eF p Good hk ts a c w hg hr hc)
  have HR := hid (fstAt_any p ts)
  clear hr hc hk hg eF
  generalize fstAt p ts = r at HC HR
  generalize ts.any p = bb at HR ⊢
  go_enter Try.func70, Try.ntmps70
  go_wp2_with fail
  refine HC.out.mono ?_
  rintro e w1 ⟨rfl, hb⟩
  go_wp2_with fail
  go_ret
  exact ⟨ret_bool HR.out, hb⟩

set_option maxRecDepth 100000 in
set_option maxHeartbeats 1000000 in
theorem indexFunc_Co_1 (F : FuncId) (eF : ∀ args (w : World), (callFunc F args).run Try.prog w = .ok (.enter F args) w) (q0 : Value) (p : Co → Bool) (Good : World → Prop) (hk : ∀ w w', Below w.heap.size w w' → Good w → Good w') (ts : List Co) (a : Option Addr) (c : Nat) (w : World) (hg : Good w) (hr : RdL w (Co.ds ts) (.slice a ts.length c))
    (hc : ∀ (k3 : Int) (v3 : Int) (ds3 : List Int) (ks3 : List Co) (ads3 : Option Addr) (cds3 : Nat) (aks3 : Option Addr) (cks3 : Nat) (j : Nat) (W : World), ts[j]? = some (Co.mk k3 v3 ds3 ks3) → Good W → RdS W (Co.d (Co.mk k3 v3 ds3 ks3)) [.int .i64 k3, .int .i64 v3, .slice ads3 ds3.length cds3, .slice aks3 ks3.length cks3] → Calls Try.prog F #[.agg #[.int .i64 k3, .int .i64 v3, .slice ads3 ds3.length cds3, .slice aks3 ks3.length cks3], q0] W fun e w' => e = .returned (.bool (p (Co.mk k3 v3 ds3 ks3))) ∧ Below W.heap.size W w') :
    Calls Try.prog 88 #[.slice a ts.length c, .func (.func F) #[] #[q0]] w fun e w' => e = .returned (.int .i64 (fstAt p ts)) ∧ Below w.heap.size w w' := by
  obtain ⟨_, _, e, h2, h3, h4⟩ := hr.eCo
  simp only [Value.slice.injEq, true_and] at e
  obtain ⟨rfl, rfl⟩ := e
  have H4 := hid h4
  have HC0 := hid hc
  have HK := hid hk
  have HG := hid hg
  clear hr h4 hc hk hg
  go_enter Try.func88, Try.ntmps88
  go_wp2_with fail
  go_loopw [5, 8] (fun _ i wr => ∃ (j : Nat), j ≤ ts.length ∧ i = .int .i64 j ∧ Hid (∀ (i : Nat) t, i < j → ts[i]? = some t → p t = false) ∧ Below w.heap.size w wr) (fun _ i _ => ts.length - (intOf i).toNat)
  case atStart => exact ⟨0, by omega, rfl, fun i t hi => absurd hi (by omega), Below.refl _ _⟩
  case round =>
    obtain ⟨j, hj, rfl, HJ, hb⟩ := hrel
    by_cases hlt : j < ts.length
    case pos =>
      obtain ⟨b, o, rfl, hbl, hall⟩ := H4.out (by omega)
      obtain ⟨t, ht⟩ : ∃ t, ts[j]? = some t := ⟨_, List.getElem?_eq_getElem hlt⟩
      obtain ⟨k3, v3, ds3, ks3⟩ := t
      obtain ⟨ads3, cds3, aks3, cks3, q_0, q_1, q_2, q_3, hrk⟩ := hall j k3 v3 ds3 ks3 ht
      clear hall H4
      have d0 := (hb.cell (p := ⟨b, o + j * 4, none⟩) hbl).trans q_0
      have d1 := (hb.cell (p := ⟨b, o + j * 4 + 1, none⟩) hbl).trans q_1
      have d2 := (hb.cell (p := ⟨b, o + j * 4 + 2, none⟩) hbl).trans q_2
      have d3 := (hb.cell (p := ⟨b, o + j * 4 + 3, none⟩) hbl).trans q_3
      have hcc := fun hG => HC0.out k3 v3 ds3 ks3 ads3 cds3 aks3 cks3 j wr ht hG (hrk.below hb)
      have HT := hid ht
      have HGW := hid (HK.out _ _ hb HG.out)
      by_cases hq : p (Co.mk k3 v3 ds3 ks3) = true
      case pos =>
        rw [hq] at hcc
        have HC := hid hcc
        have HQ := hid hq
        clear ht hrk q_0 q_1 q_2 q_3 hcc hq HC0
        go_wp2_with fail
        refine (HC.out HGW.out).mono ?_
        clear HC
        rintro e w1 ⟨rfl, hb1⟩
        have hbw := hb.trans (hb1.mono hb.size)
        clear hb1
        go_wp2_with fail
        go_ret
        exact ⟨ret_int (fstAt_yes p ts j _ HT.out HQ.out HJ.out).symm, hbw⟩
      case neg =>
        replace hq := (Bool.not_eq_true _).mp hq
        rw [hq] at hcc
        have HC := hid hcc
        have HQ := hid hq
        clear ht hrk q_0 q_1 q_2 q_3 hcc hq HC0
        go_wp2_with fail
        refine (HC.out HGW.out).mono ?_
        clear HC
        rintro e w1 ⟨rfl, hb1⟩
        have hbw := hb.trans (hb1.mono hb.size)
        clear hb1
        go_wp2_with fail
        go_roundw
        case rel => exact ⟨j + 1, by omega, by go_num, fun i t hi hti => (Nat.lt_succ_iff_lt_or_eq.1 hi).elim (fun hi => HJ.out i t hi hti) (fun he => by subst he; obtain rfl := Option.some.inj (hti.symm.trans HT.out); exact HQ.out), hbw⟩
        case measure => simp [intOf]; omega
    case neg =>
      go_wp2_with fail
      go_ret
      exact ⟨ret_int (fstAt_no p ts fun i t hti => HJ.out i t (by have := (List.getElem?_eq_some_iff.1 hti).1; omega) hti).symm, hb⟩
theorem contains_Co_1 (F : FuncId) (eF : ∀ args (w : World), (callFunc F args).run Try.prog w = .ok (.enter F args) w) (q0 : Value) (p : Co → Bool) (Good : World → Prop) (hk : ∀ w w', Below w.heap.size w w' → Good w → Good w') (ts : List Co) (a : Option Addr) (c : Nat) (w : World) (hg : Good w) (hr : RdL w (Co.ds ts) (.slice a ts.length c))
    (hc : ∀ (k3 : Int) (v3 : Int) (ds3 : List Int) (ks3 : List Co) (ads3 : Option Addr) (cds3 : Nat) (aks3 : Option Addr) (cks3 : Nat) (j : Nat) (W : World), ts[j]? = some (Co.mk k3 v3 ds3 ks3) → Good W → RdS W (Co.d (Co.mk k3 v3 ds3 ks3)) [.int .i64 k3, .int .i64 v3, .slice ads3 ds3.length cds3, .slice aks3 ks3.length cks3] → Calls Try.prog F #[.agg #[.int .i64 k3, .int .i64 v3, .slice ads3 ds3.length cds3, .slice aks3 ks3.length cks3], q0] W fun e w' => e = .returned (.bool (p (Co.mk k3 v3 ds3 ks3))) ∧ Below W.heap.size W w') :
    Calls Try.prog 70 #[.slice a ts.length c, .func (.func F) #[] #[q0]] w fun e w' => e = .returned (.bool (ts.any p)) ∧ Below w.heap.size w w' := by
  have HC := hid (indexFunc_Co_1 F eF q0 p Good hk ts a c w hg hr hc)
  have HR := hid (fstAt_any p ts)
  clear hr hc hk hg eF
  generalize fstAt p ts = r at HC HR
  generalize ts.any p = bb at HR ⊢
  go_enter Try.func70, Try.ntmps70
  go_wp2_with fail
  refine HC.out.mono ?_
  rintro e w1 ⟨rfl, hb⟩
  go_wp2_with fail
  go_ret
  exact ⟨ret_bool HR.out, hb⟩

set_option maxRecDepth 100000 in
set_option maxHeartbeats 1000000 in
theorem indexFunc_Co_2 (F : FuncId) (eF : ∀ args (w : World), (callFunc F args).run Try.prog w = .ok (.enter F args) w) (q0 : Value) (q1 : Value) (p : Co → Bool) (Good : World → Prop) (hk : ∀ w w', Below w.heap.size w w' → Good w → Good w') (ts : List Co) (a : Option Addr) (c : Nat) (w : World) (hg : Good w) (hr : RdL w (Co.ds ts) (.slice a ts.length c))
    (hc : ∀ (k3 : Int) (v3 : Int) (ds3 : List Int) (ks3 : List Co) (ads3 : Option Addr) (cds3 : Nat) (aks3 : Option Addr) (cks3 : Nat) (j : Nat) (W : World), ts[j]? = some (Co.mk k3 v3 ds3 ks3) → Good W → RdS W (Co.d (Co.mk k3 v3 ds3 ks3)) [.int .i64 k3, .int .i64 v3, .slice ads3 ds3.length cds3, .slice aks3 ks3.length cks3] → Calls Try.prog F #[.agg #[.int .i64 k3, .int .i64 v3, .slice ads3 ds3.length cds3, .slice aks3 ks3.length cks3], q0, q1] W fun e w' => e = .returned (.bool (p (Co.mk k3 v3 ds3 ks3))) ∧ Below W.heap.size W w') :
    Calls Try.prog 88 #[.slice a ts.length c, .func (.func F) #[] #[q0, q1]] w fun e w' => e = .returned (.int .i64 (fstAt p ts)) ∧ Below w.heap.size w w' := by
  obtain ⟨_, _, e, h2, h3, h4⟩ := hr.eCo
  simp only [Value.slice.injEq, true_and] at e
  obtain ⟨rfl, rfl⟩ := e
  have H4 := hid h4
  have HC0 := hid hc
  have HK := hid hk
  have HG := hid hg
  clear hr h4 hc hk hg
  go_enter Try.func88, Try.ntmps88
  go_wp2_with fail
  go_loopw [5, 8] (fun _ i wr => ∃ (j : Nat), j ≤ ts.length ∧ i = .int .i64 j ∧ Hid (∀ (i : Nat) t, i < j → ts[i]? = some t → p t = false) ∧ Below w.heap.size w wr) (fun _ i _ => ts.length - (intOf i).toNat)
  case atStart => exact ⟨0, by omega, rfl, fun i t hi => absurd hi (by omega), Below.refl _ _⟩
  case round =>
    obtain ⟨j, hj, rfl, HJ, hb⟩ := hrel
    by_cases hlt : j < ts.length
    case pos =>
      obtain ⟨b, o, rfl, hbl, hall⟩ := H4.out (by omega)
      obtain ⟨t, ht⟩ : ∃ t, ts[j]? = some t := ⟨_, List.getElem?_eq_getElem hlt⟩
      obtain ⟨k3, v3, ds3, ks3⟩ := t
      obtain ⟨ads3, cds3, aks3, cks3, q_0, q_1, q_2, q_3, hrk⟩ := hall j k3 v3 ds3 ks3 ht
      clear hall H4
      have d0 := (hb.cell (p := ⟨b, o + j * 4, none⟩) hbl).trans q_0
      have d1 := (hb.cell (p := ⟨b, o + j * 4 + 1, none⟩) hbl).trans q_1
      have d2 := (hb.cell (p := ⟨b, o + j * 4 + 2, none⟩) hbl).trans q_2
      have d3 := (hb.cell (p := ⟨b, o + j * 4 + 3, none⟩) hbl).trans q_3
      have hcc := fun hG => HC0.out k3 v3 ds3 ks3 ads3 cds3 aks3 cks3 j wr ht hG (hrk.below hb)
      have HT := hid ht
      have HGW := hid (HK.out _ _ hb HG.out)
      by_cases hq : p (Co.mk k3 v3 ds3 ks3) = true
      case pos =>
        rw [hq] at hcc
        have HC := hid hcc
        have HQ := hid hq
        clear ht hrk q_0 q_1 q_2 q_3 hcc hq HC0
        go_wp2_with fail
        refine (HC.out HGW.out).mono ?_
        clear HC
        rintro e w1 ⟨rfl, hb1⟩
        have hbw := hb.trans (hb1.mono hb.size)
        clear hb1
        go_wp2_with fail
        go_ret
        exact ⟨ret_int (fstAt_yes p ts j _ HT.out HQ.out HJ.out).symm, hbw⟩
      case neg =>
        replace hq := (Bool.not_eq_true _).mp hq
        rw [hq] at hcc
        have HC := hid hcc
        have HQ := hid hq
        clear ht hrk q_0 q_1 q_2 q_3 hcc hq HC0
        go_wp2_with fail
        refine (HC.out HGW.out).mono ?_
        clear HC
        rintro e w1 ⟨rfl, hb1⟩
        have hbw := hb.trans (hb1.mono hb.size)
        clear hb1
        go_wp2_with fail
        go_roundw
        case rel => exact ⟨j + 1, by omega, by go_num, fun i t hi hti => (Nat.lt_succ_iff_lt_or_eq.1 hi).elim (fun hi => HJ.out i t hi hti) (fun he => by subst he; obtain rfl := Option.some.inj (hti.symm.trans HT.out); exact HQ.out), hbw⟩
        case measure => simp [intOf]; omega
    case neg =>
      go_wp2_with fail
      go_ret
      exact ⟨ret_int (fstAt_no p ts fun i t hti => HJ.out i t (by have := (List.getElem?_eq_some_iff.1 hti).1; omega) hti).symm, hb⟩
theorem contains_Co_2 (F : FuncId) (eF : ∀ args (w : World), (callFunc F args).run Try.prog w = .ok (.enter F args) w) (q0 : Value) (q1 : Value) (p : Co → Bool) (Good : World → Prop) (hk : ∀ w w', Below w.heap.size w w' → Good w → Good w') (ts : List Co) (a : Option Addr) (c : Nat) (w : World) (hg : Good w) (hr : RdL w (Co.ds ts) (.slice a ts.length c))
    (hc : ∀ (k3 : Int) (v3 : Int) (ds3 : List Int) (ks3 : List Co) (ads3 : Option Addr) (cds3 : Nat) (aks3 : Option Addr) (cks3 : Nat) (j : Nat) (W : World), ts[j]? = some (Co.mk k3 v3 ds3 ks3) → Good W → RdS W (Co.d (Co.mk k3 v3 ds3 ks3)) [.int .i64 k3, .int .i64 v3, .slice ads3 ds3.length cds3, .slice aks3 ks3.length cks3] → Calls Try.prog F #[.agg #[.int .i64 k3, .int .i64 v3, .slice ads3 ds3.length cds3, .slice aks3 ks3.length cks3], q0, q1] W fun e w' => e = .returned (.bool (p (Co.mk k3 v3 ds3 ks3))) ∧ Below W.heap.size W w') :
    Calls Try.prog 70 #[.slice a ts.length c, .func (.func F) #[] #[q0, q1]] w fun e w' => e = .returned (.bool (ts.any p)) ∧ Below w.heap.size w w' := by
  have HC := hid (indexFunc_Co_2 F eF q0 q1 p Good hk ts a c w hg hr hc)
  have HR := hid (fstAt_any p ts)
  clear hr hc hk hg eF
  generalize fstAt p ts = r at HC HR
  generalize ts.any p = bb at HR ⊢
  go_enter Try.func70, Try.ntmps70
  go_wp2_with fail
  refine HC.out.mono ?_
  rintro e w1 ⟨rfl, hb⟩
  go_wp2_with fail
  go_ret
  exact ⟨ret_bool HR.out, hb⟩

end Go.Proofs.Ytejdbmeoaekhcaa
/- was: CoEraseI -/
namespace Go.Proofs.Ytejdbmeoaekhcaa
open Go.ChangeShapes Go.WideShapes Go.ChangeAt Go.RowKit
set_option linter.unusedVariables false

theorem impl_isBox (k1 : Int) (v1 : Int) (ds1 : List Int) (ks1 : List Co) (ads1 : Option Addr) (cds1 : Nat) (aks1 : Option Addr) (cks1 : Nat) (w : World) : Calls Try.prog 90 #[.agg #[.int .i64 k1, .int .i64 v1, .slice ads1 ds1.length cds1, .slice aks1 ks1.length cks1]] w fun e w' => e = .returned (.bool (decide (k1 = 6) || decide (k1 = 7))) ∧ Below w.heap.size w w' := by
  have HB := hid ((Below.refl w.heap.size w).alloc (Nat.le_refl _) (.cells #[.int .i64 k1, .int .i64 v1, .slice ads1 ds1.length cds1, .slice aks1 ks1.length cks1] 36))
  by_cases h6 : k1 = 6
  case pos =>
    subst h6
    go_enter Try.func90, Try.ntmps90
    go_wp2_with fail
    go_ret
    exact ⟨rfl, HB.out⟩
  case neg =>
  by_cases h7 : k1 = 7
  case pos =>
    subst h7
    go_enter Try.func90, Try.ntmps90
    go_wp2_with fail
    go_ret
    exact ⟨rfl, HB.out⟩
  case neg =>
    have g6 : (k1 == 6) = false := by simp [h6]
    have g7 : (k1 == 7) = false := by simp [h7]
    have hf : (decide (k1 = 6) || decide (k1 = 7)) = false := by simp [h6, h7]
    rw [hf]
    clear h6 h7 hf
    go_enter Try.func90, Try.ntmps90
    go_wp2_with fail
    go_ret
    exact ⟨rfl, HB.out⟩

def AnyW (N : Nat) : Prop := ∀ (k1 : Int) (v1 : Int) (ds1 : List Int) (ks1 : List Co) (ads1 : Option Addr) (cds1 : Nat) (aks1 : Option Addr) (cks1 : Nat) (w : World), Co.bulk (Co.mk k1 v1 ds1 ks1) < N → RdS w (Co.d (Co.mk k1 v1 ds1 ks1)) [.int .i64 k1, .int .i64 v1, .slice ads1 ds1.length cds1, .slice aks1 ks1.length cks1] →
  Calls Try.prog 51 #[.agg #[.int .i64 k1, .int .i64 v1, .slice ads1 ds1.length cds1, .slice aks1 ks1.length cks1], .func (.func 90) #[] #[]] w fun e w' => e = .returned (.bool (!Co.era (Co.mk k1 v1 ds1 ks1))) ∧ Below w.heap.size w w'
theorem impl_any1 (N : Nat) (ih : AnyW N) (k1 : Int) (v1 : Int) (ds1 : List Int) (ks1 : List Co) (ads1 : Option Addr) (cds1 : Nat) (aks1 : Option Addr) (cks1 : Nat) (p : Addr) (w : World) (hN : Co.bulk (Co.mk k1 v1 ds1 ks1) < N) (hp : w.cell? p = some (.func (.func 90) #[] #[])) (hr : RdS w (Co.d (Co.mk k1 v1 ds1 ks1)) [.int .i64 k1, .int .i64 v1, .slice ads1 ds1.length cds1, .slice aks1 ks1.length cks1]) :
    Calls Try.prog 75 #[.agg #[.int .i64 k1, .int .i64 v1, .slice ads1 ds1.length cds1, .slice aks1 ks1.length cks1], .pointer (some p)] w fun e w' => e = .returned (.bool (!Co.era (Co.mk k1 v1 ds1 ks1))) ∧ Below w.heap.size w w' := by
  have hB := (Below.refl w.heap.size w).alloc (Nat.le_refl _) (.cells #[.int .i64 k1, .int .i64 v1, .slice ads1 ds1.length cds1, .slice aks1 ks1.length cks1] 36)
  have HC := hid (ih k1 v1 ds1 ks1 ads1 cds1 aks1 cks1 _ hN (hr.below hB))
  have hp' := (hB.cell (p := p) (World.block_lt_of_cell? _ _ hp)).trans hp
  have HB := hid hB
  clear hB hr ih hp
  go_enter Try.func75, Try.ntmps75
  go_wp2_with fail
  refine HC.out.mono ?_
  rintro e w1 ⟨rfl, hb⟩
  have HB1 := hid (HB.out.trans (hb.mono HB.out.size))
  clear hb
  go_wp2_with fail
  go_ret
  exact ⟨rfl, HB1.out⟩
set_option maxHeartbeats 1000000 in
theorem impl_anyIndex (N : Nat) (ih : AnyW N) (ks1 : List Co) (a : Option Addr) (c : Nat) (p : Addr) (w : World) (hN : Co.bulks ks1 ≤ N) (hp : w.cell? p = some (.func (.func 90) #[] #[])) (hr : RdL w (Co.ds ks1) (.slice a ks1.length c)) :
    Calls Try.prog 88 #[.slice a ks1.length c, .func (.func 75) #[] #[.pointer (some p)]] w fun e w' => ∃ r : Int, e = .returned (.int .i64 r) ∧ (decide (0 ≤ r) = !Co.eras ks1) ∧ Below w.heap.size w w' := by
  obtain ⟨_, _, e, h2, h3, h4⟩ := hr.eCo
  simp only [Value.slice.injEq, true_and] at e
  obtain ⟨rfl, rfl⟩ := e
  have H4 := hid h4
  have HP := hid hp
  have PL := hid (World.block_lt_of_cell? _ _ hp)
  have HC1 := hid (fun (kk : Int) (vv : Int) (dd : List Int) (qq : List Co) (ad : Option Addr) (cd : Nat) (aq : Option Addr) (cq : Nat) (W : World) => impl_any1 N ih kk vv dd qq ad cd aq cq p W)
  have HN := hid hN
  clear hr h4 ih hp hN
  go_enter Try.func88, Try.ntmps88
  go_wp2_with fail
  go_loopw [5, 8] (fun _ i wr => ∃ (j : Nat), j ≤ ks1.length ∧ i = .int .i64 j ∧ Hid (∀ (i : Nat) t, i < j → ks1[i]? = some t → Co.era t = true) ∧ Below w.heap.size w wr) (fun _ i _ => ks1.length - (intOf i).toNat)
  case atStart => exact ⟨0, by omega, rfl, fun i t hi => absurd hi (by omega), Below.refl _ _⟩
  case round =>
    obtain ⟨j, hj, rfl, HJ, hb⟩ := hrel
    by_cases hlt : j < ks1.length
    case pos =>
      obtain ⟨b, o, rfl, hbl, hall⟩ := H4.out (by omega)
      obtain ⟨t, ht⟩ : ∃ t, ks1[j]? = some t := ⟨_, List.getElem?_eq_getElem hlt⟩
      obtain ⟨k3, v3, ds3, ks3⟩ := t
      obtain ⟨ads3, cds3, aks3, cks3, q0, q1, q2, q3, hrk⟩ := hall j k3 v3 ds3 ks3 ht
      clear hall H4
      have d0 := (hb.cell (p := ⟨b, o + j * 4, none⟩) hbl).trans q0
      have d1 := (hb.cell (p := ⟨b, o + j * 4 + 1, none⟩) hbl).trans q1
      have d2 := (hb.cell (p := ⟨b, o + j * 4 + 2, none⟩) hbl).trans q2
      have d3 := (hb.cell (p := ⟨b, o + j * 4 + 3, none⟩) hbl).trans q3
      have hbg := Co.bulk_get ks1 j _ ht
      have hc := HC1.out k3 v3 ds3 ks3 ads3 cds3 aks3 cks3 wr (by have := HN.out; omega) ((hb.cell PL.out).trans HP.out) (hrk.below hb)
      have HT := hid ht
      by_cases hg : Co.era (.mk k3 v3 ds3 ks3) = true
      case neg =>
        replace hg := (Bool.not_eq_true _).mp hg
        rw [hg] at hc
        have HC := hid hc
        have HG := hid hg
        clear ht hrk q0 q1 q2 q3 hc hg
        go_wp2_with fail
        refine HC.out.mono ?_
        clear HC
        rintro e w1 ⟨rfl, hb1⟩
        have hbw := hb.trans (hb1.mono hb.size)
        clear hb1
        go_wp2_with fail
        go_ret
        exact ⟨j, rfl, by rw [Co.eras_no ks1 j _ HT.out HG.out]; simp, hbw⟩
      case pos =>
        rw [hg] at hc
        have HC := hid hc
        have HG := hid hg
        clear ht hrk q0 q1 q2 q3 hc hg
        go_wp2_with fail
        refine HC.out.mono ?_
        clear HC
        rintro e w1 ⟨rfl, hb1⟩
        have hbw := hb.trans (hb1.mono hb.size)
        clear hb1
        go_wp2_with fail
        go_roundw
        case rel => exact ⟨j + 1, by omega, by go_num, fun i t hi hti => (Nat.lt_succ_iff_lt_or_eq.1 hi).elim (fun hi => HJ.out i t hi hti) (fun he => by subst he; obtain rfl := Option.some.inj (hti.symm.trans HT.out); exact HG.out), hbw⟩
        case measure => simp [intOf]; omega
    case neg =>
      go_wp2_with fail
      go_ret
      exact ⟨-1, rfl, by rw [Co.eras_yes ks1 fun i t hti => HJ.out i t (by have := (List.getElem?_eq_some_iff.1 hti).1; omega) hti]; simp, hb⟩
theorem impl_anyCont (N : Nat) (ih : AnyW N) (ks1 : List Co) (a : Option Addr) (c : Nat) (p : Addr) (w : World) (hN : Co.bulks ks1 ≤ N) (hp : w.cell? p = some (.func (.func 90) #[] #[])) (hr : RdL w (Co.ds ks1) (.slice a ks1.length c)) :
    Calls Try.prog 70 #[.slice a ks1.length c, .func (.func 75) #[] #[.pointer (some p)]] w fun e w' => e = .returned (.bool (!Co.eras ks1)) ∧ Below w.heap.size w w' := by
  have HC := hid (impl_anyIndex N ih ks1 a c p w hN hp hr)
  clear hr hp ih
  go_enter Try.func70, Try.ntmps70
  go_wp2_with fail
  refine HC.out.mono ?_
  rintro e w1 ⟨r, rfl, hr, hb⟩
  have HR := hid hr
  clear hr
  go_wp2_with fail
  go_ret
  exact ⟨ret_bool HR.out, hb⟩
theorem impl_any_step (N : Nat) (ih : AnyW N) : AnyW (N + 1) := by
  intro k1 v1 ds1 ks1 ads1 cds1 aks1 cks1 w hN hr
  have hbk : Co.bulk (Co.mk k1 v1 ds1 ks1) = In.bulks ds1 + Co.bulks ks1 := rfl
  have HE := hid (show Co.era (Co.mk k1 v1 ds1 ks1) = (!(decide (k1 = 6) || decide (k1 = 7)) && Co.eras ks1) from rfl)
  have HX0 := hid (((Boxes.nil w).alloc #[.int .i64 k1, .int .i64 v1, .slice ads1 ds1.length cds1, .slice aks1 ks1.length cks1] 36 (0, 0)).alloc #[.func (.func 90) #[] #[]] 62 (0, 0))
  have hB : Below w.heap.size w ((w.alloc (.cells #[.int .i64 k1, .int .i64 v1, .slice ads1 ds1.length cds1, .slice aks1 ks1.length cks1] 36)).alloc (.cells #[.func (.func 90) #[] #[]] 62)) := ((Below.refl _ _).alloc (Nat.le_refl _) _).alloc (by simp) _
  have hc := fun W (hW : Below w.heap.size w W) hp => impl_anyCont N ih ks1 aks1 cks1 ⟨w.heap.size + 1, 0, none⟩ W (by omega) hp (hr.fCo.2.2.2.below hW)
  have hv := impl_isBox k1 v1 ds1 ks1 ads1 cds1 aks1 cks1 ((w.alloc (.cells #[.int .i64 k1, .int .i64 v1, .slice ads1 ds1.length cds1, .slice aks1 ks1.length cks1] 36)).alloc (.cells #[.func (.func 90) #[] #[]] 62))
  have HB := hid hB
  have HC := hid hc
  clear hc hr hB ih hbk hN
  by_cases hq : (decide (k1 = 6) || decide (k1 = 7)) = true
  case pos =>
    rw [hq] at hv
    have HV := hid hv
    have HQ := hid hq
    clear hv hq HC
    go_enter Try.func51, Try.ntmps51
    go_wp2_with fail
    refine HV.out.mono ?_
    rintro e w1 ⟨rfl, hb⟩
    have HB1 := hid (HB.out.trans (hb.mono HB.out.size))
    clear hb
    go_wp2_with fail
    go_ret
    exact ⟨ret_bool (by rw [HE.out, HQ.out]; rfl), HB1.out⟩
  case neg =>
    replace hq := (Bool.not_eq_true _).mp hq
    rw [hq] at hv
    have HV := hid hv
    have HQ := hid hq
    clear hv hq
    go_enter Try.func51, Try.ntmps51
    go_wp2_with fail
    refine HV.out.mono ?_
    rintro e w1 ⟨rfl, hb⟩
    have HB1 := hid (HB.out.trans (hb.mono HB.out.size))
    have HX1 := hid (HX0.out.below hb)
    have g3 := HX1.out.at 1 3 rfl rfl
    have gf := HX1.out.at 0 0 rfl rfl
    simp only [World.size_alloc] at gf
    have GF := hid gf
    clear hb gf
    go_wp2_with fail
    refine (HC.out _ HB1.out GF.out).mono ?_
    rintro e w2 ⟨rfl, hb⟩
    have HB2 := hid (HB1.out.trans (hb.mono HB1.out.size))
    clear hb
    go_wp2_with fail
    go_ret
    exact ⟨ret_bool (by rw [HE.out, HQ.out]; simp), HB2.out⟩
theorem impl_any_all : ∀ N, AnyW N
  | 0 => fun _ _ _ _ _ _ _ _ _  h => absurd h (by omega)
  | N + 1 => impl_any_step N (impl_any_all N)

theorem impl_IsErased (k1 : Int) (v1 : Int) (ds1 : List Int) (ks1 : List Co) (ads1 : Option Addr) (cds1 : Nat) (aks1 : Option Addr) (cks1 : Nat) (w : World) (hM : Co.bulk (Co.mk k1 v1 ds1 ks1) ≤ 1048576) (hr : RdS w (Co.d (Co.mk k1 v1 ds1 ks1)) [.int .i64 k1, .int .i64 v1, .slice ads1 ds1.length cds1, .slice aks1 ks1.length cks1]) :
    Calls Try.prog 72 #[.agg #[.int .i64 k1, .int .i64 v1, .slice ads1 ds1.length cds1, .slice aks1 ks1.length cks1]] w fun e w' => e = .returned (.bool (Co.ok (Co.mk k1 v1 ds1 ks1) && Co.era (Co.mk k1 v1 ds1 ks1))) ∧ Below w.heap.size w w' := by
  have HX0 := hid ((Boxes.nil w).alloc #[.int .i64 k1, .int .i64 v1, .slice ads1 ds1.length cds1, .slice aks1 ks1.length cks1] 36 (0, 0))
  have hB := (Below.refl w.heap.size w).alloc (Nat.le_refl _) (.cells #[.int .i64 k1, .int .i64 v1, .slice ads1 ds1.length cds1, .slice aks1 ks1.length cks1] 36)
  have hv := impl_ValidCore k1 v1 ds1 ks1 ads1 cds1 aks1 cks1 _ hM (hr.below hB)
  have hc := fun W (hW : Below w.heap.size w W) => impl_any_all (Co.bulk (Co.mk k1 v1 ds1 ks1) + 1) k1 v1 ds1 ks1 ads1 cds1 aks1 cks1 W (by omega) (hr.below hW)
  have HB := hid hB
  by_cases hok : Co.ok (Co.mk k1 v1 ds1 ks1) = true
  case neg =>
    replace hok := (Bool.not_eq_true _).mp hok
    rw [hok] at hv ⊢
    have HV := hid hv
    clear hr hB hv hc hok HX0
    go_enter Try.func72, Try.ntmps72
    go_wp2_with fail
    refine HV.out.mono ?_
    rintro e w1 ⟨rfl, hb⟩
    have HB1 := hid (HB.out.trans (hb.mono HB.out.size))
    clear hb
    go_wp2_with fail
    go_ret
    exact ⟨rfl, HB1.out⟩
  case pos =>
    rw [hok] at hv ⊢
    have HV := hid hv
    have HC := hid hc
    clear hr hB hv hc hok
    go_enter Try.func72, Try.ntmps72
    go_wp2_with fail
    refine HV.out.mono ?_
    rintro e w1 ⟨rfl, hb⟩
    have HB1 := hid (HB.out.trans (hb.mono HB.out.size))
    have HX1 := hid (HX0.out.below hb)
    have g0 := HX1.out.at 0 0 rfl rfl
    have g1 := HX1.out.at 0 1 rfl rfl
    have g2 := HX1.out.at 0 2 rfl rfl
    have g3 := HX1.out.at 0 3 rfl rfl
    clear hb
    go_wp2_with fail
    refine (HC.out _ HB1.out).mono ?_
    rintro e w2 ⟨rfl, hb⟩
    have HB2 := hid (HB1.out.trans (hb.mono HB1.out.size))
    clear hb
    go_wp2_with fail
    go_ret
    exact ⟨ret_bool (by simp), HB2.out⟩
end Go.Proofs.Ytejdbmeoaekhcaa
/- was: AnyCoN -/
namespace Go.Proofs.Ytejdbmeoaekhcaa
open Go.ChangeShapes Go.WideShapes Go.ChangeAt Go.RowKit
set_option linter.unusedVariables false

mutual
def Co.anyN (p : Co → Bool) : Co → Bool
  | .mk k v ds ks => p (.mk k v ds ks) || Co.anyNs p ks
def Co.anyNs (p : Co → Bool) : List Co → Bool
  | [] => false
  | t :: ts => Co.anyN p t || Co.anyNs p ts
end
theorem Co.anyNs_any (p : Co → Bool) : ∀ ts : List Co, ts.any (Co.anyN p) = Co.anyNs p ts
  | [] => rfl
  | t :: ts => by rw [List.any_cons, Co.anyNs_any p ts, Co.anyNs]
/-- The contract of a function value with one captured variable. -/
abbrev FnCo1 (F : FuncId) (q : Value) (p : Co → Bool) (Good : World → Prop) (N : Nat) : Prop :=
  ∀ (k1 : Int) (v1 : Int) (ds1 : List Int) (ks1 : List Co) (ads1 : Option Addr) (cds1 : Nat) (aks1 : Option Addr) (cks1 : Nat) (W : World), Co.bulk (Co.mk k1 v1 ds1 ks1) < N → Good W → RdS W (Co.d (Co.mk k1 v1 ds1 ks1)) [.int .i64 k1, .int .i64 v1, .slice ads1 ds1.length cds1, .slice aks1 ks1.length cks1] → Calls Try.prog F #[.agg #[.int .i64 k1, .int .i64 v1, .slice ads1 ds1.length cds1, .slice aks1 ks1.length cks1], q] W fun e w' => e = .returned (.bool (p (Co.mk k1 v1 ds1 ks1))) ∧ Below W.heap.size W w'
theorem any1_clo (F : FuncId) (q : Value) (p : Co → Bool) (Good : World → Prop) (hk : ∀ w w', Below w.heap.size w w' → Good w → Good w') (N : Nat)
    (ih : ∀ (k1 : Int) (v1 : Int) (ds1 : List Int) (ks1 : List Co) (ads1 : Option Addr) (cds1 : Nat) (aks1 : Option Addr) (cks1 : Nat) (W : World), Co.bulk (Co.mk k1 v1 ds1 ks1) < N → Good W → RdS W (Co.d (Co.mk k1 v1 ds1 ks1)) [.int .i64 k1, .int .i64 v1, .slice ads1 ds1.length cds1, .slice aks1 ks1.length cks1] → Calls Try.prog 51 #[.agg #[.int .i64 k1, .int .i64 v1, .slice ads1 ds1.length cds1, .slice aks1 ks1.length cks1], .func (.func F) #[] #[q]] W fun e w' => e = .returned (.bool (Co.anyN p (Co.mk k1 v1 ds1 ks1))) ∧ Below W.heap.size W w')
    (k1 : Int) (v1 : Int) (ds1 : List Int) (ks1 : List Co) (ads1 : Option Addr) (cds1 : Nat) (aks1 : Option Addr) (cks1 : Nat) (pp : Addr) (w : World) (hN : Co.bulk (Co.mk k1 v1 ds1 ks1) < N) (hg : Good w) (hp : w.cell? pp = some (.func (.func F) #[] #[q])) (hr : RdS w (Co.d (Co.mk k1 v1 ds1 ks1)) [.int .i64 k1, .int .i64 v1, .slice ads1 ds1.length cds1, .slice aks1 ks1.length cks1]) :
    Calls Try.prog 75 #[.agg #[.int .i64 k1, .int .i64 v1, .slice ads1 ds1.length cds1, .slice aks1 ks1.length cks1], .pointer (some pp)] w fun e w' => e = .returned (.bool (Co.anyN p (Co.mk k1 v1 ds1 ks1))) ∧ Below w.heap.size w w' := by
  have hB := (Below.refl w.heap.size w).alloc (Nat.le_refl _) (.cells #[.int .i64 k1, .int .i64 v1, .slice ads1 ds1.length cds1, .slice aks1 ks1.length cks1] 36)
  have HC := hid (ih k1 v1 ds1 ks1 ads1 cds1 aks1 cks1 _ hN (hk _ _ hB hg) (hr.below hB))
  have hp' := (hB.cell (p := pp) (World.block_lt_of_cell? _ _ hp)).trans hp
  have HB := hid hB
  clear hB hr ih hp hk hg
  go_enter Try.func75, Try.ntmps75
  go_wp2_with fail
  refine HC.out.mono ?_
  rintro e w1 ⟨rfl, hb⟩
  have HB1 := hid (HB.out.trans (hb.mono HB.out.size))
  clear hb
  go_wp2_with fail
  go_ret
  exact ⟨rfl, HB1.out⟩
set_option maxRecDepth 100000 in
theorem any1_step (F : FuncId) (eF : ∀ args (w : World), (callFunc F args).run Try.prog w = .ok (.enter F args) w) (q : Value) (p : Co → Bool) (Good : World → Prop) (hk : ∀ w w', Below w.heap.size w w' → Good w → Good w') (M : Nat) (hF : FnCo1 F q p Good M) (N : Nat) (hNM : N < M)
    (ih : ∀ (k1 : Int) (v1 : Int) (ds1 : List Int) (ks1 : List Co) (ads1 : Option Addr) (cds1 : Nat) (aks1 : Option Addr) (cks1 : Nat) (W : World), Co.bulk (Co.mk k1 v1 ds1 ks1) < N → Good W → RdS W (Co.d (Co.mk k1 v1 ds1 ks1)) [.int .i64 k1, .int .i64 v1, .slice ads1 ds1.length cds1, .slice aks1 ks1.length cks1] → Calls Try.prog 51 #[.agg #[.int .i64 k1, .int .i64 v1, .slice ads1 ds1.length cds1, .slice aks1 ks1.length cks1], .func (.func F) #[] #[q]] W fun e w' => e = .returned (.bool (Co.anyN p (Co.mk k1 v1 ds1 ks1))) ∧ Below W.heap.size W w') :
    ∀ (k1 : Int) (v1 : Int) (ds1 : List Int) (ks1 : List Co) (ads1 : Option Addr) (cds1 : Nat) (aks1 : Option Addr) (cks1 : Nat) (w : World), Co.bulk (Co.mk k1 v1 ds1 ks1) < N + 1 → Good w → RdS w (Co.d (Co.mk k1 v1 ds1 ks1)) [.int .i64 k1, .int .i64 v1, .slice ads1 ds1.length cds1, .slice aks1 ks1.length cks1] → Calls Try.prog 51 #[.agg #[.int .i64 k1, .int .i64 v1, .slice ads1 ds1.length cds1, .slice aks1 ks1.length cks1], .func (.func F) #[] #[q]] w fun e w' => e = .returned (.bool (Co.anyN p (Co.mk k1 v1 ds1 ks1))) ∧ Below w.heap.size w w' := by
  intro k1 v1 ds1 ks1 ads1 cds1 aks1 cks1 w hN hg hr
  have hbk : Co.bulk (Co.mk k1 v1 ds1 ks1) = In.bulks ds1 + Co.bulks ks1 := rfl
  have HE := hid (show Co.anyN p (Co.mk k1 v1 ds1 ks1) = (p (Co.mk k1 v1 ds1 ks1) || Co.anyNs p ks1) from by rw [Co.anyN])
  have HX0 := hid (((Boxes.nil w).alloc #[.int .i64 k1, .int .i64 v1, .slice ads1 ds1.length cds1, .slice aks1 ks1.length cks1] 36 (0, 0)).alloc #[.func (.func F) #[] #[q]] 62 (0, 0))
  have hB : Below w.heap.size w ((w.alloc (.cells #[.int .i64 k1, .int .i64 v1, .slice ads1 ds1.length cds1, .slice aks1 ks1.length cks1] 36)).alloc (.cells #[.func (.func F) #[] #[q]] 62)) := ((Below.refl _ _).alloc (Nat.le_refl _) _).alloc (by simp) _
  have hc := fun W (hW : Below w.heap.size w W) (hp : W.cell? ⟨w.heap.size + 1, 0, none⟩ = some (.func (.func F) #[] #[q])) =>
    contains_Co_1 75 Try.call75 (.pointer (some ⟨w.heap.size + 1, 0, none⟩)) (Co.anyN p) (fun V => Good V ∧ V.cell? ⟨w.heap.size + 1, 0, none⟩ = some (.func (.func F) #[] #[q]))
      (fun a b hab ⟨h1, h2⟩ => ⟨hk a b hab h1, (hab.cell (p := ⟨w.heap.size + 1, 0, none⟩) (World.block_lt_of_cell? _ _ h2)).trans h2⟩) ks1 aks1 cks1 W ⟨hk _ _ hW hg, hp⟩ (hr.fCo.2.2.2.below hW)
      (fun k3 v3 ds3 ks3 ads3 cds3 aks3 cks3 j V hj hV hrv => any1_clo F q p Good hk N ih k3 v3 ds3 ks3 ads3 cds3 aks3 cks3 _ V (by have := Co.bulk_get ks1 j _ hj; omega) hV.1 hV.2 hrv)
  have hv := hF k1 v1 ds1 ks1 ads1 cds1 aks1 cks1 ((w.alloc (.cells #[.int .i64 k1, .int .i64 v1, .slice ads1 ds1.length cds1, .slice aks1 ks1.length cks1] 36)).alloc (.cells #[.func (.func F) #[] #[q]] 62)) (by omega) (hk _ _ hB hg) (hr.below hB)
  have HB := hid hB
  rw [Co.anyNs_any] at hc
  have HC := hid hc
  clear hc hr hB ih hbk hN hF hk hg hNM
  by_cases hq : p (Co.mk k1 v1 ds1 ks1) = true
  case pos =>
    rw [hq] at hv
    have HV := hid hv
    have HQ := hid hq
    clear hv hq HC
    go_enter Try.func51, Try.ntmps51
    go_wp2_with fail
    refine HV.out.mono ?_
    rintro e w1 ⟨rfl, hb⟩
    have HB1 := hid (HB.out.trans (hb.mono HB.out.size))
    clear hb
    go_wp2_with fail
    go_ret
    exact ⟨ret_bool (by rw [HE.out, HQ.out]; rfl), HB1.out⟩
  case neg =>
    replace hq := (Bool.not_eq_true _).mp hq
    rw [hq] at hv
    have HV := hid hv
    have HQ := hid hq
    clear hv hq
    go_enter Try.func51, Try.ntmps51
    go_wp2_with fail
    refine HV.out.mono ?_
    rintro e w1 ⟨rfl, hb⟩
    have HB1 := hid (HB.out.trans (hb.mono HB.out.size))
    have HX1 := hid (HX0.out.below hb)
    have g3 := HX1.out.at 1 3 rfl rfl
    have gf := HX1.out.at 0 0 rfl rfl
    simp only [World.size_alloc] at gf
    have GF := hid gf
    clear hb gf
    go_wp2_with fail
    refine (HC.out _ HB1.out GF.out).mono ?_
    rintro e w2 ⟨rfl, hb⟩
    have HB2 := hid (HB1.out.trans (hb.mono HB1.out.size))
    clear hb
    go_wp2_with fail
    go_ret
    exact ⟨ret_bool (by rw [HE.out, HQ.out]; rfl), HB2.out⟩
theorem any1_all (F : FuncId) (eF : ∀ args (w : World), (callFunc F args).run Try.prog w = .ok (.enter F args) w) (q : Value) (p : Co → Bool) (Good : World → Prop) (hk : ∀ w w', Below w.heap.size w w' → Good w → Good w') (M : Nat) (hF : FnCo1 F q p Good M) : ∀ N, N ≤ M →
    ∀ (k1 : Int) (v1 : Int) (ds1 : List Int) (ks1 : List Co) (ads1 : Option Addr) (cds1 : Nat) (aks1 : Option Addr) (cks1 : Nat) (W : World), Co.bulk (Co.mk k1 v1 ds1 ks1) < N → Good W → RdS W (Co.d (Co.mk k1 v1 ds1 ks1)) [.int .i64 k1, .int .i64 v1, .slice ads1 ds1.length cds1, .slice aks1 ks1.length cks1] → Calls Try.prog 51 #[.agg #[.int .i64 k1, .int .i64 v1, .slice ads1 ds1.length cds1, .slice aks1 ks1.length cks1], .func (.func F) #[] #[q]] W fun e w' => e = .returned (.bool (Co.anyN p (Co.mk k1 v1 ds1 ks1))) ∧ Below W.heap.size W w'
  | 0, _ => fun _ _ _ _ _ _ _ _ _  h => absurd h (by omega)
  | N + 1, h => any1_step F eF q p Good hk M hF N (by omega) (any1_all F eF q p Good hk M hF N (by omega))
end Go.Proofs.Ytejdbmeoaekhcaa
/- was: AnyIn -/
namespace Go.Proofs.Ytejdbmeoaekhcaa
open Go.ChangeShapes Go.WideShapes Go.ChangeAt Go.RowKit
set_option linter.unusedVariables false

set_option maxRecDepth 100000 in
set_option maxHeartbeats 1000000 in
theorem indexFunc_In_1 (F : FuncId) (eF : ∀ args (w : World), (callFunc F args).run Try.prog w = .ok (.enter F args) w) (q0 : Value) (p : Int → Bool) (Good : World → Prop) (hk : ∀ w w', Below w.heap.size w w' → Good w → Good w') (ts : List Int) (a : Option Addr) (c : Nat) (w : World) (hg : Good w) (hr : RdL w (In.ds ts) (.slice a ts.length c))
    (hc : ∀ (x : Int) (j : Nat) (W : World), ts[j]? = some (x) → Good W → (-9223372036854775808 ≤ x ∧ x ≤ 9223372036854775807) → Calls Try.prog F #[.int .i64 x, q0] W fun e w' => e = .returned (.bool (p (x))) ∧ Below W.heap.size W w') :
    Calls Try.prog 102 #[.slice a ts.length c, .func (.func F) #[] #[q0]] w fun e w' => e = .returned (.int .i64 (fstAt p ts)) ∧ Below w.heap.size w w' := by
  obtain ⟨_, _, e, h2, h3, h4⟩ := hr.eIn
  simp only [Value.slice.injEq, true_and] at e
  obtain ⟨rfl, rfl⟩ := e
  have H4 := hid h4
  have HC0 := hid hc
  have HK := hid hk
  have HG := hid hg
  clear hr h4 hc hk hg
  go_enter Try.func102, Try.ntmps102
  go_wp2_with fail
  go_loopw [5, 8] (fun _ i wr => ∃ (j : Nat), j ≤ ts.length ∧ i = .int .i64 j ∧ Hid (∀ (i : Nat) t, i < j → ts[i]? = some t → p t = false) ∧ Below w.heap.size w wr) (fun _ i _ => ts.length - (intOf i).toNat)
  case atStart => exact ⟨0, by omega, rfl, fun i t hi => absurd hi (by omega), Below.refl _ _⟩
  case round =>
    obtain ⟨j, hj, rfl, HJ, hb⟩ := hrel
    by_cases hlt : j < ts.length
    case pos =>
      obtain ⟨b, o, rfl, hbl, hall⟩ := H4.out (by omega)
      obtain ⟨t, ht⟩ : ∃ t, ts[j]? = some t := ⟨_, List.getElem?_eq_getElem hlt⟩
      obtain ⟨q0, hfc⟩ := hall j t ht
      clear hall H4
      have d0 := (hb.cell (p := ⟨b, o + j, none⟩) hbl).trans q0
      have hcc := fun hG => HC0.out t j wr ht hG hfc
      have HT := hid ht
      have HGW := hid (HK.out _ _ hb HG.out)
      by_cases hq : p (t) = true
      case pos =>
        rw [hq] at hcc
        have HC := hid hcc
        have HQ := hid hq
        clear ht q0 hcc hq HC0
        go_wp2_with fail
        refine (HC.out HGW.out).mono ?_
        clear HC
        rintro e w1 ⟨rfl, hb1⟩
        have hbw := hb.trans (hb1.mono hb.size)
        clear hb1
        go_wp2_with fail
        go_ret
        exact ⟨ret_int (fstAt_yes p ts j _ HT.out HQ.out HJ.out).symm, hbw⟩
      case neg =>
        replace hq := (Bool.not_eq_true _).mp hq
        rw [hq] at hcc
        have HC := hid hcc
        have HQ := hid hq
        clear ht q0 hcc hq HC0
        go_wp2_with fail
        refine (HC.out HGW.out).mono ?_
        clear HC
        rintro e w1 ⟨rfl, hb1⟩
        have hbw := hb.trans (hb1.mono hb.size)
        clear hb1
        go_wp2_with fail
        go_roundw
        case rel => exact ⟨j + 1, by omega, by go_num, fun i t hi hti => (Nat.lt_succ_iff_lt_or_eq.1 hi).elim (fun hi => HJ.out i t hi hti) (fun he => by subst he; obtain rfl := Option.some.inj (hti.symm.trans HT.out); exact HQ.out), hbw⟩
        case measure => simp [intOf]; omega
    case neg =>
      go_wp2_with fail
      go_ret
      exact ⟨ret_int (fstAt_no p ts fun i t hti => HJ.out i t (by have := (List.getElem?_eq_some_iff.1 hti).1; omega) hti).symm, hb⟩
theorem contains_In_1 (F : FuncId) (eF : ∀ args (w : World), (callFunc F args).run Try.prog w = .ok (.enter F args) w) (q0 : Value) (p : Int → Bool) (Good : World → Prop) (hk : ∀ w w', Below w.heap.size w w' → Good w → Good w') (ts : List Int) (a : Option Addr) (c : Nat) (w : World) (hg : Good w) (hr : RdL w (In.ds ts) (.slice a ts.length c))
    (hc : ∀ (x : Int) (j : Nat) (W : World), ts[j]? = some (x) → Good W → (-9223372036854775808 ≤ x ∧ x ≤ 9223372036854775807) → Calls Try.prog F #[.int .i64 x, q0] W fun e w' => e = .returned (.bool (p (x))) ∧ Below W.heap.size W w') :
    Calls Try.prog 93 #[.slice a ts.length c, .func (.func F) #[] #[q0]] w fun e w' => e = .returned (.bool (ts.any p)) ∧ Below w.heap.size w w' := by
  have HC := hid (indexFunc_In_1 F eF q0 p Good hk ts a c w hg hr hc)
  have HR := hid (fstAt_any p ts)
  clear hr hc hk hg eF
  generalize fstAt p ts = r at HC HR
  generalize ts.any p = bb at HR ⊢
  go_enter Try.func93, Try.ntmps93
  go_wp2_with fail
  refine HC.out.mono ?_
  rintro e w1 ⟨rfl, hb⟩
  go_wp2_with fail
  go_ret
  exact ⟨ret_bool HR.out, hb⟩

end Go.Proofs.Ytejdbmeoaekhcaa
/- was: BkValidI -/
namespace Go.Proofs.Ytejdbmeoaekhcaa
open Go.ChangeShapes Go.WideShapes Go.ChangeAt Go.RowKit
set_option linter.unusedVariables false

def geB (n x : Int) : Bool := decide (n ≤ x)
def badRef (n : Int) : Co → Bool
  | .mk k v ds _ => (decide (k = 11) && decide (n ≤ v)) || ds.any (geB n)
theorem allLt_any (n : Int) : ∀ ds : List Int, ds.any (geB n) = !allLt ds n
  | [] => rfl
  | x :: l => by rw [List.any_cons, allLt_any n l, allLt, geB]; simp
mutual
theorem Co.anyN_refs (n : Int) : ∀ t : Co, Co.anyN (badRef n) t = !Co.refs t n
  | .mk k v ds ks => by rw [Co.anyN, Co.anyNs_refs n ks, badRef, allLt_any, Co.refs]; cases (decide (k = 11) && decide (n ≤ v)) <;> cases allLt ds n <;> cases Co.refss ks n <;> rfl
theorem Co.anyNs_refs (n : Int) : ∀ ts : List Co, Co.anyNs (badRef n) ts = !Co.refss ts n
  | [] => rfl
  | t :: ts => by rw [Co.anyNs, Co.anyN_refs n t, Co.anyNs_refs n ts, Co.refss]; cases Co.refs t n <;> cases Co.refss ts n <;> rfl
end

theorem impl_ge (x n : Int) (q : Addr) (w : World) (hq : w.cell? q = some (.int .i64 n)) : Calls Try.prog 94 #[.int .i64 x, .pointer (some q)] w fun e w' => e = .returned (.bool (geB n x)) ∧ Below w.heap.size w w' := by
  by_cases h : n ≤ x
  case pos =>
    have hb : decide (n ≤ x) = true := by simp [h]
    have HF := hid (show geB n x = true from hb)
    clear h
    go_enter Try.func94, Try.ntmps94
    go_wp2_with fail
    go_ret
    exact ⟨ret_bool HF.out.symm, Below.refl _ _⟩
  case neg =>
    have hb : decide (n ≤ x) = false := by simp; omega
    have HF := hid (show geB n x = false from hb)
    clear h
    go_enter Try.func94, Try.ntmps94
    go_wp2_with fail
    go_ret
    exact ⟨ret_bool HF.out.symm, Below.refl _ _⟩
theorem impl_badRef (n : Int) (q : Addr) (k1 : Int) (v1 : Int) (ds1 : List Int) (ks1 : List Co) (ads1 : Option Addr) (cds1 : Nat) (aks1 : Option Addr) (cks1 : Nat) (w : World) (hq : w.cell? q = some (.int .i64 n)) (hr : RdS w (Co.d (Co.mk k1 v1 ds1 ks1)) [.int .i64 k1, .int .i64 v1, .slice ads1 ds1.length cds1, .slice aks1 ks1.length cks1]) :
    Calls Try.prog 92 #[.agg #[.int .i64 k1, .int .i64 v1, .slice ads1 ds1.length cds1, .slice aks1 ks1.length cks1], .pointer (some q)] w fun e w' => e = .returned (.bool (badRef n (Co.mk k1 v1 ds1 ks1))) ∧ Below w.heap.size w w' := by
  have HE := hid (show badRef n (Co.mk k1 v1 ds1 ks1) = ((decide (k1 = 11) && decide (n ≤ v1)) || ds1.any (geB n)) from rfl)
  have hB := (Below.refl w.heap.size w).alloc (Nat.le_refl _) (.cells #[.int .i64 k1, .int .i64 v1, .slice ads1 ds1.length cds1, .slice aks1 ks1.length cks1] 36)
  have hq' := (hB.cell (p := q) (World.block_lt_of_cell? _ _ hq)).trans hq
  have hc := contains_In_1 94 Try.call94 (.pointer (some q)) (geB n) (fun W => W.cell? q = some (.int .i64 n)) (fun a b hab h => (hab.cell (p := q) (World.block_lt_of_cell? _ _ h)).trans h) ds1 ads1 cds1 _ hq' (hr.fCo.2.2.1.below hB)
    (fun x j W _ hW _ => impl_ge x n q W hW)
  have HB := hid hB
  have HC := hid hc
  clear hc hr hB hq
  by_cases hA : k1 = 11 ∧ n ≤ v1
  case pos =>
    obtain ⟨rfl, hv⟩ := hA
    have hvb : decide (n ≤ v1) = true := by simp [hv]
    have HF := hid (show badRef n (Co.mk 11 v1 ds1 ks1) = true by rw [HE.out]; simp [hv])
    clear hv HC HE
    go_enter Try.func92, Try.ntmps92
    go_wp2_with fail
    go_ret
    exact ⟨ret_bool HF.out.symm, HB.out⟩
  case neg =>
    have HF := hid (show badRef n (Co.mk k1 v1 ds1 ks1) = ds1.any (geB n) by
      rw [HE.out]
      have : (decide (k1 = 11) && decide (n ≤ v1)) = false := by simpa using hA
      rw [this]; rfl)
    have hcase : ((k1 == 11) = true ∧ decide (n ≤ v1) = false) ∨ (k1 == 11) = false := by
      by_cases h1 : k1 = 11
      · left; exact ⟨by simp [h1], by simp; have : ¬ n ≤ v1 := fun c => hA ⟨h1, c⟩; omega⟩
      · right; simp [h1]
    clear hA HE
    rcases hcase with ⟨g1, gv⟩ | g1
    all_goals
      go_enter Try.func92, Try.ntmps92
      go_wp2_with fail
      refine HC.out.mono ?_
      rintro e w1 ⟨rfl, hb⟩
      have HB1 := hid (HB.out.trans (hb.mono HB.out.size))
      clear hb
      go_wp2_with fail
      go_ret
      exact ⟨ret_bool HF.out.symm, HB1.out⟩
theorem impl_namesOnly (k1 : Int) (v1 : Int) (ds1 : List Int) (ks1 : List Co) (ads1 : Option Addr) (cds1 : Nat) (aks1 : Option Addr) (cks1 : Nat) (n : Int) (w : World) (hr : RdS w (Co.d (Co.mk k1 v1 ds1 ks1)) [.int .i64 k1, .int .i64 v1, .slice ads1 ds1.length cds1, .slice aks1 ks1.length cks1]) :
    Calls Try.prog 74 #[.agg #[.int .i64 k1, .int .i64 v1, .slice ads1 ds1.length cds1, .slice aks1 ks1.length cks1], .int .i64 n] w fun e w' => e = .returned (.bool (Co.refs (Co.mk k1 v1 ds1 ks1) n)) ∧ Below w.heap.size w w' := by
  have HX0 := hid (((Boxes.nil w).alloc #[.int .i64 k1, .int .i64 v1, .slice ads1 ds1.length cds1, .slice aks1 ks1.length cks1] 36 (0, 0)).alloc #[.int .i64 n] 3 (0, 0))
  have hB : Below w.heap.size w ((w.alloc (.cells #[.int .i64 k1, .int .i64 v1, .slice ads1 ds1.length cds1, .slice aks1 ks1.length cks1] 36)).alloc (.cells #[.int .i64 n] 3)) := ((Below.refl _ _).alloc (Nat.le_refl _) _).alloc (by simp) _
  have g0 := HX0.out.at 0 0 rfl rfl
  simp only [World.size_alloc] at g0
  have hc := any1_all 92 Try.call92 (.pointer (some ⟨w.heap.size + 1, 0, none⟩)) (badRef n) (fun W => W.cell? ⟨w.heap.size + 1, 0, none⟩ = some (.int .i64 n)) (fun a b hab h => (hab.cell (p := ⟨w.heap.size + 1, 0, none⟩) (World.block_lt_of_cell? _ _ h)).trans h) (Co.bulk (Co.mk k1 v1 ds1 ks1) + 1)
    (fun k1 v1 ds1 ks1 ads1 cds1 aks1 cks1 W _ hW hrw => impl_badRef n _ k1 v1 ds1 ks1 ads1 cds1 aks1 cks1 W hW hrw) (Co.bulk (Co.mk k1 v1 ds1 ks1) + 1) (Nat.le_refl _) k1 v1 ds1 ks1 ads1 cds1 aks1 cks1 _ (by omega) g0 (hr.below hB)
  rw [Co.anyN_refs] at hc
  have HC := hid hc
  have HB := hid hB
  clear hc hr hB HX0 g0
  go_enter Try.func74, Try.ntmps74
  go_wp2_with fail
  refine HC.out.mono ?_
  rintro e w1 ⟨rfl, hb⟩
  have HB1 := hid (HB.out.trans (hb.mono HB.out.size))
  clear hb
  go_wp2_with fail
  go_ret
  exact ⟨ret_bool (by simp), HB1.out⟩

def badDef (n : Int) (t : Co) : Bool := !defOk n t
theorem defsOk_any (n : Int) : ∀ ts : List Co, ts.any (badDef n) = !defsOk n ts
  | [] => rfl
  | t :: ts => by rw [List.any_cons, defsOk_any n ts, defsOk, badDef]; cases defOk n t <;> rfl
theorem impl_badDef (fs1 : List Co) (afs1 : Option Addr) (cfs1 : Nat) (hfl : fs1.length ≤ 1048576) (q : Addr) (k1 : Int) (v1 : Int) (ds1 : List Int) (ks1 : List Co) (ads1 : Option Addr) (cds1 : Nat) (aks1 : Option Addr) (cks1 : Nat) (w : World) (hM : Co.bulk (Co.mk k1 v1 ds1 ks1) ≤ 1048576) (hq : w.cell? q = some (.slice afs1 fs1.length cfs1)) (hr : RdS w (Co.d (Co.mk k1 v1 ds1 ks1)) [.int .i64 k1, .int .i64 v1, .slice ads1 ds1.length cds1, .slice aks1 ks1.length cks1]) :
    Calls Try.prog 87 #[.agg #[.int .i64 k1, .int .i64 v1, .slice ads1 ds1.length cds1, .slice aks1 ks1.length cks1], .pointer (some q)] w fun e w' => e = .returned (.bool (badDef fs1.length (Co.mk k1 v1 ds1 ks1))) ∧ Below w.heap.size w w' := by
  have HE := hid (show badDef fs1.length (Co.mk k1 v1 ds1 ks1) = !((Co.ok (Co.mk k1 v1 ds1 ks1) && Co.clo (Co.mk k1 v1 ds1 ks1) 0) && Co.refs (Co.mk k1 v1 ds1 ks1) fs1.length) from rfl)
  have HX0 := hid ((Boxes.nil w).alloc #[.int .i64 k1, .int .i64 v1, .slice ads1 ds1.length cds1, .slice aks1 ks1.length cks1] 36 (0, 0))
  have hB := (Below.refl w.heap.size w).alloc (Nat.le_refl _) (.cells #[.int .i64 k1, .int .i64 v1, .slice ads1 ds1.length cds1, .slice aks1 ks1.length cks1] 36)
  have Q0 := hid ((hB.cell (p := q) (World.block_lt_of_cell? _ _ hq)).trans hq)
  have hv := impl_IsClosed k1 v1 ds1 ks1 ads1 cds1 aks1 cks1 _ hM (hr.below hB)
  have hc := fun W (hW : Below w.heap.size w W) => impl_namesOnly k1 v1 ds1 ks1 ads1 cds1 aks1 cks1 fs1.length W (hr.below hW)
  have HB := hid hB
  have HR := hid hr
  clear hr hB hq hM
  by_cases hk : (Co.ok (Co.mk k1 v1 ds1 ks1) && Co.clo (Co.mk k1 v1 ds1 ks1) 0) = true
  case neg =>
    replace hk := (Bool.not_eq_true _).mp hk
    rw [hk] at hv
    have HF := hid (show badDef fs1.length (Co.mk k1 v1 ds1 ks1) = true by rw [HE.out, hk]; rfl)
    have HV := hid hv
    clear hv hc hk
    go_enter Try.func87, Try.ntmps87
    go_wp2_with fail
    refine HV.out.mono ?_
    rintro e w1 ⟨rfl, hb⟩
    have HB1 := hid (HB.out.trans (hb.mono HB.out.size))
    clear hb
    go_wp2_with fail
    go_ret
    exact ⟨ret_bool HF.out.symm, HB1.out⟩
  case pos =>
    rw [hk] at hv
    have HF := hid (show badDef fs1.length (Co.mk k1 v1 ds1 ks1) = !Co.refs (Co.mk k1 v1 ds1 ks1) fs1.length by rw [HE.out, hk]; rfl)
    have HV := hid hv
    have HC := hid hc
    clear hv hc hk
    go_enter Try.func87, Try.ntmps87
    go_wp2_with fail
    refine HV.out.mono ?_
    rintro e w1 ⟨rfl, hb⟩
    have HB1 := hid (HB.out.trans (hb.mono HB.out.size))
    have HX1 := hid (HX0.out.below hb)
    have q1 := (hb.cell (p := q) (World.block_lt_of_cell? _ _ Q0.out)).trans Q0.out
    have g0 := HX1.out.at 0 0 rfl rfl
    have g1 := HX1.out.at 0 1 rfl rfl
    have g2 := HX1.out.at 0 2 rfl rfl
    have g3 := HX1.out.at 0 3 rfl rfl
    clear hb
    go_wp2_with fail
    refine (HC.out _ HB1.out).mono ?_
    rintro e w2 ⟨rfl, hb⟩
    have HB2 := hid (HB1.out.trans (hb.mono HB1.out.size))
    clear hb
    go_wp2_with fail
    go_ret
    exact ⟨ret_bool HF.out.symm, HB2.out⟩
theorem impl_ValidBook (fs1 : List Co) (afs1 : Option Addr) (cfs1 : Nat) (w : World) (hM : Bk.bulk (.mk fs1) ≤ 1048576) (hr : RdS w (Bk.d (.mk fs1)) [.slice afs1 fs1.length cfs1]) :
    Calls Try.prog 69 #[.agg #[.slice afs1 fs1.length cfs1]] w fun e w' => e = .returned (.bool (bookOk fs1)) ∧ Below w.heap.size w w' := by
  have hM' : Co.bulks fs1 ≤ 1048576 := hM
  have hlen := Co.bulks_length fs1
  have HX0 := hid ((Boxes.nil w).alloc #[.slice afs1 fs1.length cfs1] 33 (0, 0))
  have hB := (Below.refl w.heap.size w).alloc (Nat.le_refl _) (.cells #[.slice afs1 fs1.length cfs1] 33)
  have g0 := HX0.out.at 0 0 rfl rfl
  have hc := contains_Co_1 87 Try.call87 (.pointer (some ⟨w.heap.size, 0, none⟩)) (badDef fs1.length) (fun W => W.cell? ⟨w.heap.size, 0, none⟩ = some (.slice afs1 fs1.length cfs1)) (fun a b hab h => (hab.cell (p := ⟨w.heap.size, 0, none⟩) (World.block_lt_of_cell? _ _ h)).trans h) fs1 afs1 cfs1 _ g0 (hr.fBk.below hB)
    (fun k1 v1 ds1 ks1 ads1 cds1 aks1 cks1 j W hj hW hrw => impl_badDef fs1 afs1 cfs1 (by omega) _ k1 v1 ds1 ks1 ads1 cds1 aks1 cks1 W (by have := Co.bulk_get fs1 j _ hj; omega) hW hrw)
  rw [defsOk_any] at hc
  have HC := hid hc
  have HB := hid hB
  clear hc hr hB HX0 g0 hM hM'
  by_cases h1 : fs1.length < 1
  case pos =>
    have hb1 : decide ((fs1.length : Int) < 1) = true := by simp <;> omega
    have HF := hid (show bookOk fs1 = false by rw [bookOk, inR_f (by omega)]; rfl)
    clear h1 HC
    go_enter Try.func69, Try.ntmps69
    go_wp2_with fail
    go_ret
    exact ⟨ret_bool HF.out.symm, HB.out⟩
  case neg =>
    have hb1 : decide ((fs1.length : Int) < 1) = false := by simp; omega
    by_cases h2 : 24 < fs1.length
    case pos =>
      have hb2 : decide ((24 : Int) < fs1.length) = true := by simp; omega
      have HF := hid (show bookOk fs1 = false by rw [bookOk, inR_f (by omega)]; rfl)
      clear h1 h2 HC
      go_enter Try.func69, Try.ntmps69
      go_wp2_with fail
      go_ret
      exact ⟨ret_bool HF.out.symm, HB.out⟩
    case neg =>
      have hb2 : decide ((24 : Int) < fs1.length) = false := by simp; omega
      have HF := hid (show bookOk fs1 = defsOk fs1.length fs1 by rw [bookOk, inR_t (by omega) (by omega)]; rfl)
      clear h1 h2
      go_enter Try.func69, Try.ntmps69
      go_wp2_with fail
      refine HC.out.mono ?_
      rintro e w1 ⟨rfl, hb⟩
      have HB1 := hid (HB.out.trans (hb.mono HB.out.size))
      clear hb
      go_wp2_with fail
      go_ret
      exact ⟨ret_bool (by rw [HF.out]), HB1.out⟩
end Go.Proofs.Ytejdbmeoaekhcaa
/- was: EraB -/
namespace Go.Proofs.Ytejdbmeoaekhcaa
open Go.ChangeShapes Go.WideShapes Go.ChangeAt Go.RowKit Go.BigFrame
open Go.Sort (grow)
set_option linter.unusedVariables false

def badEra (t : Co) : Bool := !(Co.ok t && Co.era t)
theorem impl_badEra (k1 : Int) (v1 : Int) (ds1 : List Int) (ks1 : List Co) (ads1 : Option Addr) (cds1 : Nat) (aks1 : Option Addr) (cks1 : Nat) (w : World) (hM : Co.bulk (Co.mk k1 v1 ds1 ks1) ≤ 1048576) (hr : RdS w (Co.d (Co.mk k1 v1 ds1 ks1)) [.int .i64 k1, .int .i64 v1, .slice ads1 ds1.length cds1, .slice aks1 ks1.length cks1]) :
    Calls Try.prog 71 #[.agg #[.int .i64 k1, .int .i64 v1, .slice ads1 ds1.length cds1, .slice aks1 ks1.length cks1]] w fun e w' => e = .returned (.bool (badEra (Co.mk k1 v1 ds1 ks1))) ∧ Below w.heap.size w w' := by
  have hB := (Below.refl w.heap.size w).alloc (Nat.le_refl _) (.cells #[.int .i64 k1, .int .i64 v1, .slice ads1 ds1.length cds1, .slice aks1 ks1.length cks1] 36)
  have hc := impl_IsErased k1 v1 ds1 ks1 ads1 cds1 aks1 cks1 (w.alloc (.cells #[.int .i64 k1, .int .i64 v1, .slice ads1 ds1.length cds1, .slice aks1 ks1.length cks1] 36)) hM (hr.below hB)
  have HE := hid (show badEra (Co.mk k1 v1 ds1 ks1) = !(Co.ok (Co.mk k1 v1 ds1 ks1) && Co.era (Co.mk k1 v1 ds1 ks1)) from rfl)
  generalize (Co.ok (Co.mk k1 v1 ds1 ks1) && Co.era (Co.mk k1 v1 ds1 ks1)) = r at hc HE
  have HC := hid hc
  have HB := hid hB
  clear hc hr hB hM
  go_enter Try.func71, Try.ntmps71
  go_wp2_with fail
  refine HC.out.mono ?_
  rintro e w1 ⟨rfl, hb⟩
  have HB1 := hid (HB.out.trans (hb.mono HB.out.size))
  clear hb
  go_wp2_with fail
  go_ret
  exact ⟨ret_bool HE.out.symm, HB1.out⟩
theorem all_era (n : Int) : ∀ ts : List Co, defsOk n ts = true → ts.any badEra = !ts.all Co.era
  | [], _ => rfl
  | t :: ts, h => by
    simp only [defsOk, defOk, Bool.and_eq_true] at h
    rw [List.any_cons, List.all_cons, all_era n ts h.2, badEra, h.1.1.1]
    cases Co.era t <;> rfl
theorem impl_isErasedBook (fs1 : List Co) (afs1 : Option Addr) (cfs1 : Nat) (w : World) (hM : Co.bulks fs1 ≤ 1048576) (hr : RdS w (Bk.d (.mk fs1)) [.slice afs1 fs1.length cfs1]) :
    Calls Try.prog 49 #[.agg #[.slice afs1 fs1.length cfs1]] w fun e w' => e = .returned (.bool (bookEra fs1)) ∧ Below w.heap.size w w' := by
  have hB := (Below.refl w.heap.size w).alloc (Nat.le_refl _) (.cells #[.slice afs1 fs1.length cfs1] 33)
  have HX0 := hid ((Boxes.nil w).alloc #[.slice afs1 fs1.length cfs1] 33 (0, 0))
  have hc := impl_ValidBook fs1 afs1 cfs1 (w.alloc (.cells #[.slice afs1 fs1.length cfs1] 33)) hM (hr.below hB)
  have hv := fun W (hW : Below w.heap.size w W) => contains_Co_0 71 Try.call71 badEra (fun _ => True) (fun _ _ _ h => h) fs1 afs1 cfs1 W trivial (hr.fBk.below hW)
    (fun k3 v3 ds3 ks3 ads3 cds3 aks3 cks3 j V hj _ hrv => impl_badEra k3 v3 ds3 ks3 ads3 cds3 aks3 cks3 V (by have := Co.bulk_get fs1 j _ hj; omega) hrv)
  have HB := hid hB
  by_cases hk : bookOk fs1 = true
  case neg =>
    have HF := hid (show bookEra fs1 = false by simp [bookEra, hk])
    rw [(Bool.not_eq_true _).mp hk] at hc
    have HC := hid hc
    clear hc hv hr hB hM hk HX0
    go_enter Try.func49, Try.ntmps49
    go_wp2_with fail
    refine HC.out.mono ?_
    rintro e w1 ⟨rfl, hb⟩
    have HB1 := hid (HB.out.trans (hb.mono HB.out.size))
    clear hb
    go_wp2_with fail
    go_ret
    exact ⟨ret_bool HF.out.symm, HB1.out⟩
  case pos =>
    have hd : defsOk fs1.length fs1 = true := by simp only [bookOk, Bool.and_eq_true] at hk; exact hk.2
    have HF := hid (show bookEra fs1 = fs1.all Co.era by simp [bookEra, hk])
    rw [hk] at hc
    rw [all_era _ fs1 hd] at hv
    generalize fs1.all Co.era = r at hv HF
    have HC := hid hc
    have HV := hid hv
    clear hc hv hr hB hM hk hd
    go_enter Try.func49, Try.ntmps49
    go_wp2_with fail
    refine HC.out.mono ?_
    rintro e w1 ⟨rfl, hb⟩
    have HB1 := hid (HB.out.trans (hb.mono HB.out.size))
    have y0 := (HX0.out.below hb).at 0 0 rfl rfl
    clear hb
    go_wp2_with fail
    refine (HV.out _ HB1.out).mono ?_
    rintro e w2 ⟨rfl, hb⟩
    have HB2 := hid (HB1.out.trans (hb.mono HB1.out.size))
    clear hb y0
    go_wp2_with fail
    go_ret
    exact ⟨ret_bool (by rw [HF.out]), HB2.out⟩
end Go.Proofs.Ytejdbmeoaekhcaa
/- was: MaI -/
namespace Go.Proofs.Ytejdbmeoaekhcaa
open Go.ChangeShapes Go.WideShapes Go.ChangeAt Go.RowKit
set_option linter.unusedVariables false

def machT (fs : List Co) (c : Co) : Bool := ((Co.ok c && Co.clo c 0) && (Co.ok c && Co.era c)) && Co.refs c fs.length
def machOk (fs : List Co) (c : Co) : Bool := bookEra fs && machT fs c
theorem impl_isErasedTerm (fs1 : List Co) (afs1 : Option Addr) (cfs1 : Nat) (k1 : Int) (v1 : Int) (ds1 : List Int) (ks1 : List Co) (ads1 : Option Addr) (cds1 : Nat) (aks1 : Option Addr) (cks1 : Nat) (w : World) (hMb : Co.bulks fs1 ≤ 1048576) (hM : Co.bulk (Co.mk k1 v1 ds1 ks1) ≤ 1048576) (hrb : RdS w (Bk.d (.mk fs1)) [.slice afs1 fs1.length cfs1]) (hr : RdS w (Co.d (Co.mk k1 v1 ds1 ks1)) [.int .i64 k1, .int .i64 v1, .slice ads1 ds1.length cds1, .slice aks1 ks1.length cks1]) :
    Calls Try.prog 50 #[.agg #[.slice afs1 fs1.length cfs1], .agg #[.int .i64 k1, .int .i64 v1, .slice ads1 ds1.length cds1, .slice aks1 ks1.length cks1]] w fun e w' => e = .returned (.bool (((Co.ok (Co.mk k1 v1 ds1 ks1) && Co.clo (Co.mk k1 v1 ds1 ks1) 0) && (Co.ok (Co.mk k1 v1 ds1 ks1) && Co.era (Co.mk k1 v1 ds1 ks1))) && Co.refs (Co.mk k1 v1 ds1 ks1) (fs1.length : Int))) ∧ Below w.heap.size w w' := by
  have HX0 := hid (((Boxes.nil w).alloc #[.slice afs1 fs1.length cfs1] 33 (0, 0)).alloc #[.int .i64 k1, .int .i64 v1, .slice ads1 ds1.length cds1, .slice aks1 ks1.length cks1] 36 (0, 0))
  have HB0 := hid (((Below.refl w.heap.size w).alloc (Nat.le_refl _) (.cells #[.slice afs1 fs1.length cfs1] 33)).alloc (by simp) (.cells #[.int .i64 k1, .int .i64 v1, .slice ads1 ds1.length cds1, .slice aks1 ks1.length cks1] 36))
  have h0 := fun W (hb : Below w.heap.size w W) => impl_IsClosed k1 v1 ds1 ks1 ads1 cds1 aks1 cks1 W hM (hr.below hb)
  have h1 := fun W (hb : Below w.heap.size w W) => impl_IsErased k1 v1 ds1 ks1 ads1 cds1 aks1 cks1 W hM (hr.below hb)
  have h2 := fun W (hb : Below w.heap.size w W) => impl_namesOnly k1 v1 ds1 ks1 ads1 cds1 aks1 cks1 (fs1.length : Int) W (hr.below hb)
  generalize hr0 : (Co.ok (Co.mk k1 v1 ds1 ks1) && Co.clo (Co.mk k1 v1 ds1 ks1) 0) = r0 at h0 ⊢
  generalize hr1 : (Co.ok (Co.mk k1 v1 ds1 ks1) && Co.era (Co.mk k1 v1 ds1 ks1)) = r1 at h1 ⊢
  generalize hr2 : (Co.refs (Co.mk k1 v1 ds1 ks1) (fs1.length : Int)) = r2 at h2 ⊢
  have H0 := hid h0
  have H1 := hid h1
  have H2 := hid h2
  clear hr hrb h0 hr0 h1 hr1 h2 hr2
  go_enter Try.func50, Try.ntmps50
  have g0_0 := HX0.out.at 0 0 rfl rfl
  have g0_1 := HX0.out.at 0 1 rfl rfl
  have g0_2 := HX0.out.at 0 2 rfl rfl
  have g0_3 := HX0.out.at 0 3 rfl rfl
  have g1_0 := HX0.out.at 1 0 rfl rfl
  simp only [World.size_alloc] at g0_0 g0_1 g0_2 g0_3
  go_wp2_with fail
  refine (H0.out _ HB0.out).mono ?_
  rintro e w1 ⟨rfl, hb⟩
  have HB1 := hid (HB0.out.trans (hb.mono HB0.out.size))
  have HX1 := hid (HX0.out.below hb)
  clear hb g0_0 g0_1 g0_2 g0_3 g1_0
  cases r0
  case false =>
    go_wp2_with fail
    go_ret
    exact ⟨by simp, HB1.out⟩
  case true =>
  have g0_0 := HX1.out.at 0 0 rfl rfl
  have g0_1 := HX1.out.at 0 1 rfl rfl
  have g0_2 := HX1.out.at 0 2 rfl rfl
  have g0_3 := HX1.out.at 0 3 rfl rfl
  have g1_0 := HX1.out.at 1 0 rfl rfl
  simp only [World.size_alloc] at g0_0 g0_1 g0_2 g0_3
  go_wp2_with fail
  refine (H1.out _ HB1.out).mono ?_
  rintro e w2 ⟨rfl, hb⟩
  have HB2 := hid (HB1.out.trans (hb.mono HB1.out.size))
  have HX2 := hid (HX1.out.below hb)
  clear hb g0_0 g0_1 g0_2 g0_3 g1_0
  cases r1
  case false =>
    go_wp2_with fail
    go_ret
    exact ⟨by simp, HB2.out⟩
  case true =>
  have g0_0 := HX2.out.at 0 0 rfl rfl
  have g0_1 := HX2.out.at 0 1 rfl rfl
  have g0_2 := HX2.out.at 0 2 rfl rfl
  have g0_3 := HX2.out.at 0 3 rfl rfl
  have g1_0 := HX2.out.at 1 0 rfl rfl
  simp only [World.size_alloc] at g0_0 g0_1 g0_2 g0_3
  go_wp2_with fail
  refine (H2.out _ HB2.out).mono ?_
  rintro e w3 ⟨rfl, hb⟩
  have HB3 := hid (HB2.out.trans (hb.mono HB2.out.size))
  have HX3 := hid (HX2.out.below hb)
  clear hb g0_0 g0_1 g0_2 g0_3 g1_0
  go_wp2_with fail
  go_ret
  exact ⟨by simp, HB3.out⟩
theorem impl_isMachineState (fs1 : List Co) (afs1 : Option Addr) (cfs1 : Nat) (k1 : Int) (v1 : Int) (ds1 : List Int) (ks1 : List Co) (ads1 : Option Addr) (cds1 : Nat) (aks1 : Option Addr) (cks1 : Nat) (w : World) (hMb : Co.bulks fs1 ≤ 1048576) (hM : Co.bulk (Co.mk k1 v1 ds1 ks1) ≤ 1048576) (hrb : RdS w (Bk.d (.mk fs1)) [.slice afs1 fs1.length cfs1]) (hr : RdS w (Co.d (Co.mk k1 v1 ds1 ks1)) [.int .i64 k1, .int .i64 v1, .slice ads1 ds1.length cds1, .slice aks1 ks1.length cks1]) :
    Calls Try.prog 26 #[.agg #[.slice afs1 fs1.length cfs1], .agg #[.int .i64 k1, .int .i64 v1, .slice ads1 ds1.length cds1, .slice aks1 ks1.length cks1]] w fun e w' => e = .returned (.bool (bookEra fs1 && (((Co.ok (Co.mk k1 v1 ds1 ks1) && Co.clo (Co.mk k1 v1 ds1 ks1) 0) && (Co.ok (Co.mk k1 v1 ds1 ks1) && Co.era (Co.mk k1 v1 ds1 ks1))) && Co.refs (Co.mk k1 v1 ds1 ks1) (fs1.length : Int)))) ∧ Below w.heap.size w w' := by
  have HX0 := hid (((Boxes.nil w).alloc #[.slice afs1 fs1.length cfs1] 33 (0, 0)).alloc #[.int .i64 k1, .int .i64 v1, .slice ads1 ds1.length cds1, .slice aks1 ks1.length cks1] 36 (0, 0))
  have HB0 := hid (((Below.refl w.heap.size w).alloc (Nat.le_refl _) (.cells #[.slice afs1 fs1.length cfs1] 33)).alloc (by simp) (.cells #[.int .i64 k1, .int .i64 v1, .slice ads1 ds1.length cds1, .slice aks1 ks1.length cks1] 36))
  have h0 := fun W (hb : Below w.heap.size w W) => impl_isErasedBook fs1 afs1 cfs1 W hMb (hrb.below hb)
  have h1 := fun W (hb : Below w.heap.size w W) => impl_isErasedTerm fs1 afs1 cfs1 k1 v1 ds1 ks1 ads1 cds1 aks1 cks1 W hMb hM (hrb.below hb) (hr.below hb)
  generalize hr0 : (bookEra fs1) = r0 at h0 ⊢
  generalize hr1 : (((Co.ok (Co.mk k1 v1 ds1 ks1) && Co.clo (Co.mk k1 v1 ds1 ks1) 0) && (Co.ok (Co.mk k1 v1 ds1 ks1) && Co.era (Co.mk k1 v1 ds1 ks1))) && Co.refs (Co.mk k1 v1 ds1 ks1) (fs1.length : Int)) = r1 at h1 ⊢
  have H0 := hid h0
  have H1 := hid h1
  clear hr hrb h0 hr0 h1 hr1
  go_enter Try.func26, Try.ntmps26
  have g0_0 := HX0.out.at 0 0 rfl rfl
  have g0_1 := HX0.out.at 0 1 rfl rfl
  have g0_2 := HX0.out.at 0 2 rfl rfl
  have g0_3 := HX0.out.at 0 3 rfl rfl
  have g1_0 := HX0.out.at 1 0 rfl rfl
  simp only [World.size_alloc] at g0_0 g0_1 g0_2 g0_3
  go_wp2_with fail
  refine (H0.out _ HB0.out).mono ?_
  rintro e w1 ⟨rfl, hb⟩
  have HB1 := hid (HB0.out.trans (hb.mono HB0.out.size))
  have HX1 := hid (HX0.out.below hb)
  clear hb g0_0 g0_1 g0_2 g0_3 g1_0
  cases r0
  case false =>
    go_wp2_with fail
    go_ret
    exact ⟨by simp, HB1.out⟩
  case true =>
  have g0_0 := HX1.out.at 0 0 rfl rfl
  have g0_1 := HX1.out.at 0 1 rfl rfl
  have g0_2 := HX1.out.at 0 2 rfl rfl
  have g0_3 := HX1.out.at 0 3 rfl rfl
  have g1_0 := HX1.out.at 1 0 rfl rfl
  simp only [World.size_alloc] at g0_0 g0_1 g0_2 g0_3
  go_wp2_with fail
  refine (H1.out _ HB1.out).mono ?_
  rintro e w2 ⟨rfl, hb⟩
  have HB2 := hid (HB1.out.trans (hb.mono HB1.out.size))
  have HX2 := hid (HX1.out.below hb)
  clear hb g0_0 g0_1 g0_2 g0_3 g1_0
  go_wp2_with fail
  go_ret
  exact ⟨by simp, HB2.out⟩
end Go.Proofs.Ytejdbmeoaekhcaa
/- was: Mach -/
namespace Go.Proofs.Ytejdbmeoaekhcaa
open Go.RowKit

theorem mach_spec (fs : List Co) (c : Co) : (bookOk fs && ((Co.ok c && Co.clo c 0) && (Co.era c && (Co.refs c (fs.length : Int) && fs.all Co.era)))) = machOk fs c := by
  unfold machOk machT bookEra
  cases bookOk fs <;> cases Co.ok c <;> cases Co.clo c 0 <;> cases Co.era c <;> cases Co.refs c fs.length <;> cases fs.all Co.era <;> rfl
theorem mach_good {fs : List Co} {c : Co} (h : machOk fs c = true) : Co.good c = true ∧ Co.refs c (fs.length : Int) = true := by
  simp only [machOk, machT, Bool.and_eq_true] at h
  exact ⟨ok_good h.2.1.1.1, h.2.2⟩
end Go.Proofs.Ytejdbmeoaekhcaa
/- was: MaS -/
namespace Go.Proofs.Ytejdbmeoaekhcaa
open Go.ChangeShapes Go.WideShapes Go.ChangeAt Go.RowKit
set_option linter.unusedVariables false

set_option maxHeartbeats 1000000 in
theorem spec_l08State (fs1 : List Co) (afs1 : Option Addr) (cfs1 : Nat) (k1 : Int) (v1 : Int) (ds1 : List Int) (ks1 : List Co) (ads1 : Option Addr) (cds1 : Nat) (aks1 : Option Addr) (cks1 : Nat) (b0 o0 b1 o1 : Nat) (w : World) (hMb : Co.bulks fs1 ≤ 1048576) (hM : Co.bulk (Co.mk k1 v1 ds1 ks1) ≤ 1048576) (hrb : RdS w (Bk.d (.mk fs1)) [.slice afs1 fs1.length cfs1]) (hr : RdS w (Co.d (Co.mk k1 v1 ds1 ks1)) [.int .i64 k1, .int .i64 v1, .slice ads1 ds1.length cds1, .slice aks1 ks1.length cks1]) (y0 : w.cell? ⟨b0, o0, none⟩ = some (.slice afs1 fs1.length cfs1)) (x0 : w.cell? ⟨b1, o1, none⟩ = some (.int .i64 k1)) (x1 : w.cell? ⟨b1, o1 + 1, none⟩ = some (.int .i64 v1)) (x2 : w.cell? ⟨b1, o1 + 2, none⟩ = some (.slice ads1 ds1.length cds1)) (x3 : w.cell? ⟨b1, o1 + 3, none⟩ = some (.slice aks1 ks1.length cks1)) :
    Calls Try.prog 22 #[.pointer (some ⟨b0, o0, none⟩), .pointer (some ⟨b1, o1, none⟩)] w fun e w' => e = .returned (.bool (bookOk fs1 && ((Co.ok (Co.mk k1 v1 ds1 ks1) && Co.clo (Co.mk k1 v1 ds1 ks1) 0) && (Co.era (Co.mk k1 v1 ds1 ks1) && (Co.refs (Co.mk k1 v1 ds1 ks1) (fs1.length : Int) && fs1.all Co.era))))) ∧ Below w.heap.size w w' := by
  have L0 := World.block_lt_of_cell? _ _ y0
  have L1 := World.block_lt_of_cell? _ _ x0
  have Y0 := hid y0
  have HB0 := hid (Below.refl w.heap.size w)
  have hlk := Co.bulks_length fs1
  obtain ⟨_, _, e, _, _, h4⟩ := hrb.fBk.eCo
  simp only [Value.slice.injEq, true_and] at e
  obtain ⟨rfl, rfl⟩ := e
  have H4 := hid h4
  have HMB := hid hMb
  clear h4
  have h0 := fun W (hb : Below w.heap.size w W) => spec_l06Book fs1 afs1 cfs1 b0 o0 W hMb ((hb.cell (p := ⟨b0, o0, none⟩) L0).trans y0) (hrb.below hb)
  have h1 := fun W (hb : Below w.heap.size w W) => spec_l06Closed k1 v1 ds1 ks1 ads1 cds1 aks1 cks1 b1 o1 W hM ((hb.cell (p := ⟨b1, o1, none⟩) L1).trans x0) ((hb.cell (p := ⟨b1, o1 + 1, none⟩) L1).trans x1) ((hb.cell (p := ⟨b1, o1 + 2, none⟩) L1).trans x2) ((hb.cell (p := ⟨b1, o1 + 3, none⟩) L1).trans x3) (hr.below hb)
  have h2 := fun W (hb : Below w.heap.size w W) => spec_era_all (Co.bulk (Co.mk k1 v1 ds1 ks1) + 1) k1 v1 ds1 ks1 ads1 cds1 aks1 cks1 b1 o1 W (by omega) ((hb.cell (p := ⟨b1, o1, none⟩) L1).trans x0) ((hb.cell (p := ⟨b1, o1 + 1, none⟩) L1).trans x1) ((hb.cell (p := ⟨b1, o1 + 2, none⟩) L1).trans x2) ((hb.cell (p := ⟨b1, o1 + 3, none⟩) L1).trans x3) (hr.below hb)
  have h3 := fun W (hb : Below w.heap.size w W) => ref_all (Co.bulk (Co.mk k1 v1 ds1 ks1) + 1) k1 v1 ds1 ks1 ads1 cds1 aks1 cks1 b1 o1 (fs1.length : Int) W (by omega) ((hb.cell (p := ⟨b1, o1, none⟩) L1).trans x0) ((hb.cell (p := ⟨b1, o1 + 1, none⟩) L1).trans x1) ((hb.cell (p := ⟨b1, o1 + 2, none⟩) L1).trans x2) ((hb.cell (p := ⟨b1, o1 + 3, none⟩) L1).trans x3) (hr.below hb)
  generalize hr0 : (bookOk fs1) = r0 at h0 ⊢
  generalize hr1 : (Co.ok (Co.mk k1 v1 ds1 ks1) && Co.clo (Co.mk k1 v1 ds1 ks1) 0) = r1 at h1 ⊢
  generalize hr2 : (Co.era (Co.mk k1 v1 ds1 ks1)) = r2 at h2 ⊢
  generalize hr3 : (Co.refs (Co.mk k1 v1 ds1 ks1) (fs1.length : Int)) = r3 at h3 ⊢
  have H0 := hid h0
  have H1 := hid h1
  have H2 := hid h2
  have H3 := hid h3
  clear hr hrb y0 x0 x1 x2 x3 hM hMb h0 h1 h2 h3 hr0 hr1 hr2 hr3
  go_enter Try.func22, Try.ntmps22
  go_wp2_with fail
  refine (H0.out _ HB0.out).mono ?_
  rintro e w1 ⟨rfl, hb⟩
  have HB1 := hid (HB0.out.trans (hb.mono HB0.out.size))
  clear hb
  cases r0
  case false =>
    go_wp2_with fail
    go_ret
    exact ⟨by simp, HB1.out⟩
  case true =>
  go_wp2_with fail
  refine (H1.out _ HB1.out).mono ?_
  rintro e w2 ⟨rfl, hb⟩
  have HB2 := hid (HB1.out.trans (hb.mono HB1.out.size))
  clear hb
  cases r1
  case false =>
    go_wp2_with fail
    go_ret
    exact ⟨by simp, HB2.out⟩
  case true =>
  go_wp2_with fail
  refine (H2.out _ HB2.out).mono ?_
  rintro e w3 ⟨rfl, hb⟩
  have HB3 := hid (HB2.out.trans (hb.mono HB2.out.size))
  clear hb
  cases r2
  case false =>
    go_wp2_with fail
    go_ret
    exact ⟨by simp, HB3.out⟩
  case true =>
  have z2 := (HB3.out.cell (p := ⟨b0, o0, none⟩) L0).trans Y0.out
  go_wp2_with fail
  clear z2
  refine (H3.out _ HB3.out).mono ?_
  rintro e w4 ⟨rfl, hb⟩
  have HB4 := hid (HB3.out.trans (hb.mono HB3.out.size))
  clear hb
  cases r3
  case false =>
    go_wp2_with fail
    go_ret
    exact ⟨by simp, HB4.out⟩
  case true =>
  have z3 := (HB4.out.cell (p := ⟨b0, o0, none⟩) L0).trans Y0.out
  go_wp2_with fail
  clear z3
  go_loopw [5] (fun i wr => ∃ (j : Nat), j ≤ fs1.length ∧ i = .int .i64 j ∧ Hid (∀ (i : Nat) t, i < j → fs1[i]? = some t → Co.era t = true) ∧ Hid (Below w.heap.size w wr)) (fun i _ => fs1.length - (intOf i).toNat)
  case atStart => exact ⟨0, by omega, rfl, fun i t hi => absurd hi (by omega), HB4.out⟩
  case round =>
    obtain ⟨j, hj, rfl, HJ, HB⟩ := hrel
    have z0 := (HB.out.cell (p := ⟨b0, o0, none⟩) L0).trans Y0.out
    by_cases hlt : j < fs1.length
    case neg =>
      have HA := hid (show fs1.all Co.era = true by
        rw [List.all_eq_true]
        intro t ht
        obtain ⟨i, hi⟩ := List.getElem?_of_mem ht
        exact HJ.out i t (by have := (List.getElem?_eq_some_iff.1 hi).1; omega) hi)
      go_wp2_with fail
      go_ret
      exact ⟨by rw [HA.out]; rfl, HB.out⟩
    case pos =>
      obtain ⟨b, o, rfl, hbl, hall⟩ := H4.out (by omega)
      obtain ⟨t, ht⟩ : ∃ t, fs1[j]? = some t := ⟨_, List.getElem?_eq_getElem hlt⟩
      have hbg := Co.bulk_get fs1 j t ht
      have HT := hid ht
      obtain ⟨k3, v3, ds3, ks3⟩ := t
      obtain ⟨ads3, cds3, aks3, cks3, q0, q1, q2, q3, hrk⟩ := hall j k3 v3 ds3 ks3 ht
      have hc := spec_era_all (Co.bulk (Co.mk k3 v3 ds3 ks3) + 1) k3 v3 ds3 ks3 ads3 cds3 aks3 cks3 b (o + j * 4) wr (by omega) ((HB.out.cell (p := ⟨b, o + j * 4, none⟩) hbl).trans q0) ((HB.out.cell (p := ⟨b, o + j * 4 + 1, none⟩) hbl).trans q1) ((HB.out.cell (p := ⟨b, o + j * 4 + 2, none⟩) hbl).trans q2) ((HB.out.cell (p := ⟨b, o + j * 4 + 3, none⟩) hbl).trans q3) (hrk.below HB.out)
      cases hera : Co.era (Co.mk k3 v3 ds3 ks3)
      case false =>
        have HA := hid (show fs1.all Co.era = false by
          rw [List.all_eq_false]
          exact ⟨_, List.mem_of_getElem? HT.out, by rw [hera]; decide⟩)
        rw [hera] at hc
        have HC := hid hc
        clear hall ht hrk hc hera hbg q0 q1 q2 q3
        go_wp2_with fail
        refine HC.out.mono ?_
        rintro e w6 ⟨rfl, hb⟩
        have HB6 := hid (HB.out.trans (hb.mono HB.out.size))
        clear hb
        go_wp2_with fail
        go_ret
        exact ⟨by rw [HA.out]; rfl, HB6.out⟩
      case true =>
        have HJ2 := hid (show ∀ (i : Nat) t, i < j + 1 → fs1[i]? = some t → Co.era t = true by
          intro i t hi hti
          rcases Nat.lt_succ_iff_lt_or_eq.1 hi with h | rfl
          · exact HJ.out i t h hti
          · rw [HT.out] at hti; cases hti; exact hera)
        rw [hera] at hc
        have HC := hid hc
        clear hall ht hrk hc hera hbg q0 q1 q2 q3
        go_wp2_with fail
        refine HC.out.mono ?_
        rintro e w6 ⟨rfl, hb⟩
        have HB6 := hid (HB.out.trans (hb.mono HB.out.size))
        clear hb
        go_wp2_with fail
        go_roundw
        case rel => exact ⟨j + 1, by omega, by go_num, HJ2, HB6⟩
        case measure => first | (simp [intOf]; done) | (simp [intOf]; omega)
end Go.Proofs.Ytejdbmeoaekhcaa
