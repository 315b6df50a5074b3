/- Walks: occurrences of a free variable, in the program. -/
import Derived.Test.YtgbiefjokohkkaaCoCount
namespace Go.Proofs.Ytgbiefjokohkkaa
open Go.ChangeShapes Go.WideShapes Go.ChangeAt Go.RowKit Go.BigFrame
open Go.Sort (grow)
set_option linter.unusedVariables false

def CvW (N : Nat) : Prop := ∀ (k1 : Int) (v1 : Int) (ds1 : List Int) (ks1 : List Co) (ads1 : Option Addr) (cds1 : Nat) (aks1 : Option Addr) (cks1 : Nat) (d : Int) (w : World), Co.bulk (Co.mk k1 v1 ds1 ks1) < N → Co.bulk (Co.mk k1 v1 ds1 ks1) ≤ 1048576 → RdS w (Co.d (Co.mk k1 v1 ds1 ks1)) [.int .i64 k1, .int .i64 v1, .slice ads1 ds1.length cds1, .slice aks1 ks1.length cks1] →
  Calls Try.prog 66 #[.agg #[.int .i64 k1, .int .i64 v1, .slice ads1 ds1.length cds1, .slice aks1 ks1.length cks1], .int .i64 d] w fun e w' => e = .returned (.int .i64 (Co.cou (Co.mk k1 v1 ds1 ks1) d)) ∧ Below w.heap.size w w'
set_option maxHeartbeats 2000000 in
theorem cv_step (N : Nat) (ih : CvW N) : CvW (N + 1) := by
  intro k1 v1 ds1 ks1 ads1 cds1 aks1 cks1 d w hN hM hr
  have hbk : Co.bulk (Co.mk k1 v1 ds1 ks1) = In.bulks ds1 + Co.bulks ks1 := rfl
  have HE := hid (show Co.cou (Co.mk k1 v1 ds1 ks1) d = if k1 = 1 then (if v1 = d then 1 else 0) else Co.cous k1 0 ks1 d from rfl)
  have HX0 := hid ((Boxes.nil w).alloc #[.int .i64 k1, .int .i64 v1, .slice ads1 ds1.length cds1, .slice aks1 ks1.length cks1] 30 (0, 0))
  have HB0 := hid ((Below.refl w.heap.size w).alloc (Nat.le_refl _) (.cells #[.int .i64 k1, .int .i64 v1, .slice ads1 ds1.length cds1, .slice aks1 ks1.length cks1] 30))
  by_cases h1 : k1 = 1
  case pos =>
    subst h1
    by_cases hv : v1 = d
    case pos =>
      subst hv
      have HF := hid (show Co.cou (Co.mk 1 v1 ds1 ks1) v1 = 1 by rw [HE.out]; simp)
      clear hr ih hM hN hbk HE HX0
      go_enter Try.func66, Try.ntmps66
      go_wp2_with fail
      refine (impl_truth true _).mono ?_
      rintro e w1 ⟨rfl, rfl⟩
      go_wp2_with fail
      go_ret
      exact ⟨ret_int (by rw [HF.out] <;> rfl), HB0.out⟩
    case neg =>
      have hvb : (v1 == d) = false := by simp [hv]
      have HF := hid (show Co.cou (Co.mk 1 v1 ds1 ks1) d = 0 by rw [HE.out]; simp [hv])
      clear hv hr ih hM hN hbk HE HX0
      go_enter Try.func66, Try.ntmps66
      go_wp2_with fail
      refine (impl_truth false _).mono ?_
      rintro e w1 ⟨rfl, rfl⟩
      go_wp2_with fail
      go_ret
      exact ⟨ret_int (by rw [HF.out] <;> rfl), HB0.out⟩
  case neg =>
    have g1 : (k1 == 1) = false := by simp [h1]
    have HF := hid (show Co.cou (Co.mk k1 v1 ds1 ks1) d = Co.cous k1 0 ks1 d by rw [HE.out]; simp [h1])
    obtain ⟨_, _, e, h2, h3, h4⟩ := hr.fCo.2.2.2.eCo
    simp only [Value.slice.injEq, true_and] at e
    obtain ⟨rfl, rfl⟩ := e
    have IH := hid ih
    have H4 := hid h4
    have HK := hid hbk
    have HN := hid hN
    have HM := hid hM
    have hcl := Co.bulks_length ks1
    have hlen : ks1.length ≤ 1048576 := by omega
    clear ih hr h4 hbk hN hM hcl h1 HE
    go_enter Try.func66, Try.ntmps66
    go_wp2_with fail
    go_loopw [5, 6, 7, 19] (fun n _ _ i wr => ∃ (j : Nat), j ≤ ks1.length ∧ i = .int .i64 j ∧ n = .int .i64 (Co.cous k1 0 (ks1.take j) d) ∧ Below (w.heap.size + 1) (w.alloc (.cells #[.int .i64 k1, .int .i64 v1, .slice ads1 ds1.length cds1, .slice aks1 ks1.length cks1] 30)) wr) (fun n _ _ i _ => ks1.length - (intOf i).toNat)
    case atStart => exact ⟨0, by omega, rfl, by simp [Co.cous], Below.refl _ _⟩
    case round =>
      obtain ⟨j, hj, rfl, rfl, hb0⟩ := hrel
      have hb : Below w.heap.size w wr := HB0.out.trans (hb0.mono (by omega))
      by_cases hlt : j < ks1.length
      case pos =>
        obtain ⟨b, o, rfl, hbl, hall⟩ := H4.out (by omega)
        obtain ⟨t, ht⟩ : ∃ t, ks1[j]? = some t := ⟨_, List.getElem?_eq_getElem hlt⟩
        obtain ⟨k3, v3, ds3, ks3⟩ := t
        obtain ⟨ads3, cds3, aks3, cks3, q0, q1, q2, q3, hrk⟩ := hall j k3 v3 ds3 ks3 ht
        clear hall H4
        have d0 := (hb.cell (p := ⟨b, o + j * 4, none⟩) hbl).trans q0
        have d1 := (hb.cell (p := ⟨b, o + j * 4 + 1, none⟩) hbl).trans q1
        have d2 := (hb.cell (p := ⟨b, o + j * 4 + 2, none⟩) hbl).trans q2
        have d3 := (hb.cell (p := ⟨b, o + j * 4 + 3, none⟩) hbl).trans q3
        have HY := hid ((HX0.out.below (by simpa using hb0)).alloc #[.int .i64 k3, .int .i64 v3, .slice ads3 ds3.length cds3, .slice aks3 ks3.length cks3] 30 (0, 0))
        have e0 := cell_regrown (HY.out.at 0 0 rfl rfl)
        have e1 := cell_regrown (HY.out.at 0 1 rfl rfl)
        have e2 := cell_regrown (HY.out.at 0 2 rfl rfl)
        have e3 := cell_regrown (HY.out.at 0 3 rfl rfl)
        have f0 := cell_regrown (HY.out.at 1 0 rfl rfl)
        have f1 := cell_regrown (HY.out.at 1 1 rfl rfl)
        have f2 := cell_regrown (HY.out.at 1 2 rfl rfl)
        have f3 := cell_regrown (HY.out.at 1 3 rfl rfl)
        have hbk1 : Below wr.heap.size wr (wr.alloc (.cells #[.int .i64 k3, .int .i64 v3, .slice ads3 ds3.length cds3, .slice aks3 ks3.length cks3] 30)) := (Below.refl _ _).alloc (Nat.le_refl _) _
        have hbg := Co.bulk_get ks1 j _ ht
        have HT := hid (Co.cous_take k1 0 ks1 d j _ ht)
        have n0 := (Co.cous_bd k1 0 (ks1.take j) d).1
        have n1 := Co.cous_le k1 0 ks1 d j
        have hcb := fun d' os => Calls.regrown_of (impl_binds k1 v1 ds1 ks1 ads1 cds1 (some ⟨b, o, none⟩) cks1 j (grow (redrawn (wr.alloc (.cells #[.int .i64 k3, .int .i64 v3, .slice ads3 ds3.length cds3, .slice aks3 ks3.length cks3] 30)) d') os))
        have hc := fun d' os => Calls.regrown_of (IH.out k3 v3 ds3 ks3 ads3 cds3 aks3 cks3 (wrap64 (d + bindsOf k1 j)) (grow (redrawn (wr.alloc (.cells #[.int .i64 k3, .int .i64 v3, .slice ads3 ds3.length cds3, .slice aks3 ks3.length cks3] 30)) d') os) (by have := HK.out; have := HN.out; omega) (by have := HK.out; have := HM.out; omega) (((hrk.below hb).below hbk1).below (below_regrown _ d' os)))
        have c0 := Co.cou_bd (.mk k3 v3 ds3 ks3) (wrap64 (d + bindsOf k1 j))
        have hsum : Co.cous k1 0 (ks1.take j) d + Co.cou (.mk k3 v3 ds3 ks3) (wrap64 (d + bindsOf k1 j)) ≤ 4194304 := by have := HK.out; have := HM.out; omega
        clear ht hrk q0 q1 q2 q3 HY
        rw [Nat.zero_add] at HT
        generalize hbq : bindsOf k1 j = bb at hc hcb hsum c0 HT
        generalize hcq : Co.cou (.mk k3 v3 ds3 ks3) (wrap64 (d + bb)) = cc at hc hsum c0 HT
        generalize hnq : Co.cous k1 0 (ks1.take j) d = nn at hsum n0 n1 HT ⊢
        obtain ⟨c1, c2⟩ := c0
        have hcc : cc ≤ 4194304 := by omega
        have hnn : nn ≤ 4194304 := by omega
        clear c2 n1
        have HC := hid hc
        have HCB := hid hcb
        clear hbq hc hcb hcq hnq
        go_wp2_with fail
        refine wp_region_quiet_below (by kernel_rfl) (by kernel_rfl) ?_
        repeat (go_big_quiet_step (first | exact HCB.out _ _ | exact HC.out _ _))
        refine wpQuiet_nil ?_
        intro _ hw'
        obtain ⟨⟨dq, osq⟩, hw''⟩ := hw'
        subst hw''
        have hbx := (hb0.trans ((hbk1.trans ((below_regrown _ dq osq).mono (by simp))).mono (by have := hb0.size; simpa using this)))
        have hbw := HB0.out.trans (hbx.mono (by omega))
        clear HC HCB d0 d1 d2 d3 e0 e1 e2 e3 f0 f1 f2 f3
        go_wp2_with fail
        go_roundw
        case rel => exact ⟨j + 1, by omega, by go_num, by rw [HT.out], hbx⟩
        case measure => simp [intOf]; omega
      case neg =>
        go_wp2_with fail
        go_ret
        exact ⟨ret_int (by rw [HF.out, List.take_of_length_le (by omega)]), hb⟩
theorem cv_all : ∀ N, CvW N
  | 0 => fun _ _ _ _ _ _ _ _ _ _  h => absurd h (by omega)
  | N + 1 => cv_step N (cv_all N)
end Go.Proofs.Ytgbiefjokohkkaa
