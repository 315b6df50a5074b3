/- Walks: free variables, in the reference. -/
import Derived.Test.YtejdbmeoaekhcaaCoClos
import Derived.Lib.QuietBelow
import Derived.BigQuiet
namespace Go.Proofs.Ytejdbmeoaekhcaa
open Go.ChangeShapes Go.WideShapes Go.ChangeAt Go.RowKit Go.BigFrame
open Go.Sort (grow)
set_option linter.unusedVariables false

theorem bindsOf_le (k i : Int) : 0 ≤ bindsOf k i ∧ bindsOf k i ≤ 1 := by
  unfold bindsOf; split
  · omega
  · split
    · split <;> omega
    · omega
def AboveW (N : Nat) : Prop := ∀ (k1 : Int) (v1 : Int) (ds1 : List Int) (ks1 : List Co) (ads1 : Option Addr) (cds1 : Nat) (aks1 : Option Addr) (cks1 : Nat) (b1 o1 : Nat) (d : Int) (w : World), Co.bulk (Co.mk k1 v1 ds1 ks1) < N → 0 ≤ d → d + Co.bulk (Co.mk k1 v1 ds1 ks1) ≤ 4194304 → Co.good (Co.mk k1 v1 ds1 ks1) = true → w.cell? ⟨b1, o1, none⟩ = some (.int .i64 k1) → w.cell? ⟨b1, o1 + 1, none⟩ = some (.int .i64 v1) → w.cell? ⟨b1, o1 + 2, none⟩ = some (.slice ads1 ds1.length cds1) → w.cell? ⟨b1, o1 + 3, none⟩ = some (.slice aks1 ks1.length cks1) → RdS w (Co.d (Co.mk k1 v1 ds1 ks1)) [.int .i64 k1, .int .i64 v1, .slice ads1 ds1.length cds1, .slice aks1 ks1.length cks1] →
  Calls Try.prog 63 #[.pointer (some ⟨b1, o1, none⟩), .int .i64 d] w fun e w' => e = .returned (.bool (!Co.clo (Co.mk k1 v1 ds1 ks1) d)) ∧ Below w.heap.size w w'
set_option maxHeartbeats 1000000 in
theorem above_step (N : Nat) (ih : AboveW N) : AboveW (N + 1) := by
  intro k1 v1 ds1 ks1 ads1 cds1 aks1 cks1 b1 o1 d w hN hd hM hg x0 x1 x2 x3 hr
  have hbk : Co.bulk (Co.mk k1 v1 ds1 ks1) = In.bulks ds1 + Co.bulks ks1 := rfl
  have HE := hid (show Co.clo (Co.mk k1 v1 ds1 ks1) d = ((!(decide (k1 = 1) && decide (d ≤ v1))) && Co.clos k1 0 ks1 d) from rfl)
  have hgd : Co.good (Co.mk k1 v1 ds1 ks1) = (okCo k1 v1 ds1 ks1.length && Co.goods ks1) := rfl
  rw [hgd, Bool.and_eq_true] at hg
  by_cases h1 : k1 = 1
  case pos =>
    subst h1
    have hn : ks1 = [] := by
      have := hg.1
      simp only [okCo, Bool.and_eq_true] at this
      have h := this.1
      simp [coN, inR] at h
      first | exact h | exact List.eq_nil_of_length_eq_zero (by omega) | simpa using h
    subst hn
    by_cases hv : d ≤ v1
    case pos =>
      have hvb : decide (d ≤ v1) = true := by simp [hv]
      have HF := hid (show Co.clo (Co.mk 1 v1 ds1 []) d = false by rw [HE.out]; simp [hv])
      clear hv x2 x3 hr ih hM hN hd hbk hg
      go_enter Try.func63, Try.ntmps63
      go_wp2_with fail
      go_ret
      exact ⟨ret_bool (by rw [HF.out]; simp [*]), Below.refl _ _⟩
    case neg =>
      have hvb : decide (d ≤ v1) = false := by simp [hv]
      have HF := hid (show Co.clo (Co.mk 1 v1 ds1 []) d = true by rw [HE.out]; simp [hv, Co.clos])
      clear hv x2 x3 hr ih hM hN hd hbk hg
      go_enter Try.func63, Try.ntmps63
      go_wp2_with fail
      go_ret
      exact ⟨ret_bool (by rw [HF.out]; simp [*]), Below.refl _ _⟩
  case neg =>
    have g1 : (k1 == 1) = false := by simp [h1]
    have HF := hid (show Co.clo (Co.mk k1 v1 ds1 ks1) d = Co.clos k1 0 ks1 d by rw [HE.out]; simp [h1])
    obtain ⟨_, _, e, h2, h3, h4⟩ := hr.fCo.2.2.2.eCo
    simp only [Value.slice.injEq, true_and] at e
    obtain ⟨rfl, rfl⟩ := e
    have IH := hid ih
    have H4 := hid h4
    have HK := hid hbk
    have HN := hid hN
    have HM := hid hM
    have HG := hid hg.2
    have X0 := hid x0
    have X3 := hid x3
    have XL := hid (World.block_lt_of_cell? _ _ x3)
    have hcl := Co.bulks_length ks1
    have hlen : ks1.length ≤ 4194304 := by omega
    clear ih hr h4 hbk hN hM x1 x2 hg h1 hcl hgd
    go_enter Try.func63, Try.ntmps63
    go_wp2_with fail
    go_loopw [5] (fun i wr => ∃ (j : Nat), j ≤ ks1.length ∧ i = .int .i64 j ∧ Hid (∀ (i : Nat) t, i < j → ks1[i]? = some t → Co.clo t (d + bindsOf k1 i) = true) ∧ Below w.heap.size w wr) (fun i _ => ks1.length - (intOf i).toNat)
    case atStart => exact ⟨0, by omega, rfl, fun i t hi => absurd hi (by omega), Below.refl _ _⟩
    case round =>
      obtain ⟨j, hj, rfl, HJ, hb⟩ := hrel
      have z3 := (hb.cell (p := ⟨b1, o1 + 3, none⟩) XL.out).trans X3.out
      have z0 := (hb.cell (p := ⟨b1, o1, none⟩) XL.out).trans X0.out
      by_cases hlt : j < ks1.length
      case pos =>
        obtain ⟨b, o, rfl, hbl, hall⟩ := H4.out (by omega)
        obtain ⟨t, ht⟩ : ∃ t, ks1[j]? = some t := ⟨_, List.getElem?_eq_getElem hlt⟩
        obtain ⟨k3, v3, ds3, ks3⟩ := t
        obtain ⟨ads3, cds3, aks3, cks3, q0, q1, q2, q3, hrk⟩ := hall j k3 v3 ds3 ks3 ht
        clear hall H4
        have hbg := Co.bulk_get ks1 j _ ht
        have hgk := Co.goods_get ks1 j _ HG.out ht
        have hbb := bindsOf_le k1 j
        have hcb := fun d' os => Calls.regrown_of ((spec_binds k1 b1 o1 j (grow (redrawn wr d') os) (cell_regrown z0 d' os)).mono fun _ _ ⟨h, e⟩ => ⟨h, e ▸ Below.refl _ _⟩)
        have hc := fun d' os => Calls.regrown_of (IH.out k3 v3 ds3 ks3 ads3 cds3 aks3 cks3 b (o + j * 4) (d + bindsOf k1 j) (grow (redrawn wr d') os) (by have := HK.out; have := HN.out; omega) (by omega) (by have := HK.out; have := HM.out; omega) hgk
          (cell_regrown ((hb.cell (p := ⟨b, o + j * 4, none⟩) hbl).trans q0) d' os) (cell_regrown ((hb.cell (p := ⟨b, o + j * 4 + 1, none⟩) hbl).trans q1) d' os) (cell_regrown ((hb.cell (p := ⟨b, o + j * 4 + 2, none⟩) hbl).trans q2) d' os) (cell_regrown ((hb.cell (p := ⟨b, o + j * 4 + 3, none⟩) hbl).trans q3) d' os) ((hrk.below hb).below (below_regrown wr d' os)))
        have HT := hid ht
        have hdm : d ≤ 4194304 := by have := HM.out; omega
        have z3' := cell_regrown z3
        by_cases hq : Co.clo (.mk k3 v3 ds3 ks3) (d + bindsOf k1 j) = true
        all_goals
          first | rw [hq] at hc | rw [(Bool.not_eq_true _).mp hq] at hc
          have HQ := hid hq
          clear hq ht hrk q0 q1 q2 q3 z0 hgk
          generalize hbq : bindsOf k1 j = bb at hc hcb hbb
          have HBQ := hid hbq
          have HC := hid hc
          have HCB := hid hcb
          clear hbq hc hcb
          go_wp2_with fail
          refine wp_region_quiet_below (by kernel_rfl) (by kernel_rfl) ?_
          repeat (go_big_quiet_step (first | exact HCB.out _ _ | exact HC.out _ _))
          refine wpQuiet_nil ?_
          intro _ hw'
          obtain ⟨⟨dq, osq⟩, hw''⟩ := hw'
          subst hw''
          have hbw := hb.trans ((below_regrown wr dq osq).mono hb.size)
          clear HC HCB z3 z3'
          go_wp2_with fail
        · go_roundw
          case rel => exact ⟨j + 1, by omega, by go_num, fun i t hi hti => (Nat.lt_succ_iff_lt_or_eq.1 hi).elim (fun hi => HJ.out i t hi hti) (fun he => by subst he; obtain rfl := Option.some.inj (hti.symm.trans HT.out); exact HQ.out), hbw⟩
          case measure => simp [intOf]; omega
        · go_ret
          exact ⟨ret_bool (by rw [HF.out, Co.clos_no k1 0 ks1 d j _ HT.out (by rw [Nat.zero_add]; exact (Bool.not_eq_true _).mp HQ.out)]; rfl), hbw⟩
      case neg =>
        go_wp2_with fail
        go_ret
        exact ⟨ret_bool (by rw [HF.out, Co.clos_yes k1 0 ks1 d fun i t hti => by rw [Nat.zero_add]; exact HJ.out i t (by have := (List.getElem?_eq_some_iff.1 hti).1; omega) hti]; rfl), hb⟩
theorem above_all : ∀ N, AboveW N
  | 0 => fun _ _ _ _ _ _ _ _ _ _ _ _  h => absurd h (by omega)
  | N + 1 => above_step N (above_all N)
end Go.Proofs.Ytejdbmeoaekhcaa
