/- Walks: free variables, in the program. -/
import Derived.Test.YtejdbmeoaekhcaaCoAbove
namespace Go.Proofs.Ytejdbmeoaekhcaa
open Go.ChangeShapes Go.WideShapes Go.ChangeAt Go.RowKit Go.BigFrame
open Go.Sort (grow)
set_option linter.unusedVariables false

def CbW (N : Nat) : Prop := ∀ (k1 : Int) (v1 : Int) (ds1 : List Int) (ks1 : List Co) (ads1 : Option Addr) (cds1 : Nat) (aks1 : Option Addr) (cks1 : Nat) (d : Int) (w : World), Co.bulk (Co.mk k1 v1 ds1 ks1) < N → 0 ≤ d → d + Co.bulk (Co.mk k1 v1 ds1 ks1) ≤ 4194304 → RdS w (Co.d (Co.mk k1 v1 ds1 ks1)) [.int .i64 k1, .int .i64 v1, .slice ads1 ds1.length cds1, .slice aks1 ks1.length cks1] →
  Calls Try.prog 91 #[.agg #[.int .i64 k1, .int .i64 v1, .slice ads1 ds1.length cds1, .slice aks1 ks1.length cks1], .int .i64 d] w fun e w' => e = .returned (.bool (Co.clo (Co.mk k1 v1 ds1 ks1) d)) ∧ Below w.heap.size w w'
set_option maxHeartbeats 2000000 in
theorem closed_step (N : Nat) (ih : CbW N) : CbW (N + 1) := by
  intro k1 v1 ds1 ks1 ads1 cds1 aks1 cks1 d w hN hd hM hr
  have hbk : Co.bulk (Co.mk k1 v1 ds1 ks1) = In.bulks ds1 + Co.bulks ks1 := rfl
  have HE := hid (show Co.clo (Co.mk k1 v1 ds1 ks1) d = ((!(decide (k1 = 1) && decide (d ≤ v1))) && Co.clos k1 0 ks1 d) from rfl)
  have HX0 := hid ((Boxes.nil w).alloc #[.int .i64 k1, .int .i64 v1, .slice ads1 ds1.length cds1, .slice aks1 ks1.length cks1] 36 (0, 0))
  have HB0 := hid ((Below.refl w.heap.size w).alloc (Nat.le_refl _) (.cells #[.int .i64 k1, .int .i64 v1, .slice ads1 ds1.length cds1, .slice aks1 ks1.length cks1] 36))
  by_cases hA : k1 = 1 ∧ d ≤ v1
  case pos =>
    obtain ⟨rfl, hv⟩ := hA
    have hvb : decide (d ≤ v1) = true := by simp [hv]
    have HF := hid (show Co.clo (Co.mk 1 v1 ds1 ks1) d = false by rw [HE.out]; simp [hv])
    clear hv hr ih hM hN hd hbk HX0
    go_enter Try.func91, Try.ntmps91
    go_wp2_with fail
    go_ret
    exact ⟨ret_bool HF.out.symm, HB0.out⟩
  case neg =>
    have HF := hid (show Co.clo (Co.mk k1 v1 ds1 ks1) d = Co.clos k1 0 ks1 d by
      rw [HE.out]
      have : (decide (k1 = 1) && decide (d ≤ v1)) = false := by simpa using hA
      rw [this]; rfl)
    obtain ⟨_, _, e, h2, h3, h4⟩ := hr.fCo.2.2.2.eCo
    simp only [Value.slice.injEq, true_and] at e
    obtain ⟨rfl, rfl⟩ := e
    have IH := hid ih
    have H4 := hid h4
    have HK := hid hbk
    have HN := hid hN
    have HM := hid hM
    have hcl := Co.bulks_length ks1
    have hlen : ks1.length ≤ 4194304 := by omega
    have hcase : ((k1 == 1) = true ∧ decide (d ≤ v1) = false) ∨ (k1 == 1) = false := by
      by_cases h1 : k1 = 1
      · left; exact ⟨by simp [h1], by simp; have : ¬ d ≤ v1 := fun c => hA ⟨h1, c⟩; omega⟩
      · right; simp [h1]
    clear ih hr h4 hbk hN hM hcl hA
    rcases hcase with ⟨g1, gv⟩ | g1
    all_goals
      go_enter Try.func91, Try.ntmps91
      go_wp2_with fail
      go_loopw [5, 6, 19] (fun _ _ i wr => ∃ (j : Nat), j ≤ ks1.length ∧ i = .int .i64 j ∧ Hid (∀ (i : Nat) t, i < j → ks1[i]? = some t → Co.clo t (d + bindsOf k1 i) = true) ∧ Below (w.heap.size + 1) (w.alloc (.cells #[.int .i64 k1, .int .i64 v1, .slice ads1 ds1.length cds1, .slice aks1 ks1.length cks1] 36)) wr) (fun _ _ i _ => ks1.length - (intOf i).toNat)
      case atStart => exact ⟨0, by omega, rfl, fun i t hi => absurd hi (by omega), Below.refl _ _⟩
      case round =>
        obtain ⟨j, hj, rfl, HJ, hb0⟩ := hrel
        have hb : Below w.heap.size w wr := HB0.out.trans (hb0.mono (by omega))
        by_cases hlt : j < ks1.length
        case pos =>
          obtain ⟨b, o, rfl, hbl, hall⟩ := H4.out (by omega)
          obtain ⟨t, ht⟩ : ∃ t, ks1[j]? = some t := ⟨_, List.getElem?_eq_getElem hlt⟩
          obtain ⟨k3, v3, ds3, ks3⟩ := t
          obtain ⟨ads3, cds3, aks3, cks3, q0, q1, q2, q3, hrk⟩ := hall j k3 v3 ds3 ks3 ht
          clear hall H4
          have d0 := (hb.cell (p := ⟨b, o + j * 4, none⟩) hbl).trans q0
          have d1 := (hb.cell (p := ⟨b, o + j * 4 + 1, none⟩) hbl).trans q1
          have d2 := (hb.cell (p := ⟨b, o + j * 4 + 2, none⟩) hbl).trans q2
          have d3 := (hb.cell (p := ⟨b, o + j * 4 + 3, none⟩) hbl).trans q3
          have HY := hid ((HX0.out.below (by simpa using hb0)).alloc #[.int .i64 k3, .int .i64 v3, .slice ads3 ds3.length cds3, .slice aks3 ks3.length cks3] 36 (0, 0))
          have e0 := cell_regrown (HY.out.at 0 0 rfl rfl)
          have e1 := cell_regrown (HY.out.at 0 1 rfl rfl)
          have e2 := cell_regrown (HY.out.at 0 2 rfl rfl)
          have e3 := cell_regrown (HY.out.at 0 3 rfl rfl)
          have f0 := cell_regrown (HY.out.at 1 0 rfl rfl)
          have f1 := cell_regrown (HY.out.at 1 1 rfl rfl)
          have f2 := cell_regrown (HY.out.at 1 2 rfl rfl)
          have f3 := cell_regrown (HY.out.at 1 3 rfl rfl)
          have hbk1 : Below wr.heap.size wr (wr.alloc (.cells #[.int .i64 k3, .int .i64 v3, .slice ads3 ds3.length cds3, .slice aks3 ks3.length cks3] 36)) := (Below.refl _ _).alloc (Nat.le_refl _) _
          have hbg := Co.bulk_get ks1 j _ ht
          have hbb := bindsOf_le k1 j
          have hcb := fun d' os => Calls.regrown_of (impl_binds k1 v1 ds1 ks1 ads1 cds1 (some ⟨b, o, none⟩) cks1 j (grow (redrawn (wr.alloc (.cells #[.int .i64 k3, .int .i64 v3, .slice ads3 ds3.length cds3, .slice aks3 ks3.length cks3] 36)) d') os))
          have hc := fun d' os => Calls.regrown_of (IH.out k3 v3 ds3 ks3 ads3 cds3 aks3 cks3 (d + bindsOf k1 j) (grow (redrawn (wr.alloc (.cells #[.int .i64 k3, .int .i64 v3, .slice ads3 ds3.length cds3, .slice aks3 ks3.length cks3] 36)) d') os) (by have := HK.out; have := HN.out; omega) (by omega) (by have := HK.out; have := HM.out; omega) (((hrk.below hb).below hbk1).below (below_regrown _ d' os)))
          have HT := hid ht
          have hdm : d ≤ 4194304 := by have := HM.out; omega
          by_cases hq : Co.clo (.mk k3 v3 ds3 ks3) (d + bindsOf k1 j) = true
          all_goals
            first | rw [hq] at hc | rw [(Bool.not_eq_true _).mp hq] at hc
            have HQ := hid hq
            clear hq ht hrk q0 q1 q2 q3 HY
            generalize hbq : bindsOf k1 j = bb at hc hcb hbb
            have HBQ := hid hbq
            have HC := hid hc
            have HCB := hid hcb
            clear hbq hc hcb
            go_wp2_with fail
            refine wp_region_quiet_below (by kernel_rfl) (by kernel_rfl) ?_
            repeat (go_big_quiet_step (first | exact HCB.out _ _ | exact HC.out _ _))
            refine wpQuiet_nil ?_
            intro _ hw'
            obtain ⟨⟨dq, osq⟩, hw''⟩ := hw'
            subst hw''
            have hbx := (hb0.trans ((hbk1.trans ((below_regrown _ dq osq).mono (by simp))).mono (by have := hb0.size; simpa using this)))
            have hbw := HB0.out.trans (hbx.mono (by omega))
            clear HC HCB d0 d1 d2 d3 e0 e1 e2 e3 f0 f1 f2 f3
            go_wp2_with fail
          · go_roundw
            case rel => exact ⟨j + 1, by omega, by go_num, fun i t hi hti => (Nat.lt_succ_iff_lt_or_eq.1 hi).elim (fun hi => HJ.out i t hi hti) (fun he => by subst he; obtain rfl := Option.some.inj (hti.symm.trans HT.out); exact HQ.out), hbx⟩
            case measure => simp [intOf]; omega
          · go_ret
            exact ⟨ret_bool (by rw [HF.out, Co.clos_no k1 0 ks1 d j _ HT.out (by rw [Nat.zero_add]; exact (Bool.not_eq_true _).mp HQ.out)]), hbw⟩
        case neg =>
          go_wp2_with fail
          go_ret
          exact ⟨ret_bool (by rw [HF.out, Co.clos_yes k1 0 ks1 d fun i t hti => by rw [Nat.zero_add]; exact HJ.out i t (by have := (List.getElem?_eq_some_iff.1 hti).1; omega) hti]), hb⟩
theorem closed_all : ∀ N, CbW N
  | 0 => fun _ _ _ _ _ _ _ _ _ _  h => absurd h (by omega)
  | N + 1 => closed_step N (closed_all N)
end Go.Proofs.Ytejdbmeoaekhcaa
