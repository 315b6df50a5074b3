/- Walks: ValidBook, in the reference. -/
import Derived.Test.YtlbebnmhldolnaaCoRefs
import Derived.Test.YtlbebnmhldolnaaDBk
namespace Go.Proofs.Ytlbebnmhldolnaa
open Go.ChangeShapes Go.WideShapes Go.ChangeAt Go.RowKit Go.BigFrame
open Go.Sort (grow)
set_option linter.unusedVariables false

def defOk (n : Int) (t : Co) : Bool := (Co.ok t && Co.clo t 0) && Co.refs t n
def defsOk (n : Int) : List Co → Bool
  | [] => true
  | t :: ts => defOk n t && defsOk n ts
theorem defsOk_no (n : Int) : ∀ (ts : List Co) (j : Nat) (t : Co), ts[j]? = some t → defOk n t = false → defsOk n ts = false
  | [], j, t, h, _ => by simp at h
  | u :: ts, 0, t, h, e => by simp at h; subst h; simp [defsOk, e]
  | u :: ts, j + 1, t, h, e => by rw [defsOk, defsOk_no n ts j t (by simpa using h) e]; simp
theorem defsOk_yes (n : Int) : ∀ (ts : List Co), (∀ (j : Nat) t, ts[j]? = some t → defOk n t = true) → defsOk n ts = true
  | [], _ => rfl
  | t :: ts, h => by rw [defsOk, h 0 t rfl, defsOk_yes n ts fun j u hj => h (j + 1) u (by simpa using hj)]; rfl
def bookOk (ts : List Co) : Bool := inR ts.length 1 24 && defsOk ts.length ts

theorem spec_l06Closed (k1 : Int) (v1 : Int) (ds1 : List Int) (ks1 : List Co) (ads1 : Option Addr) (cds1 : Nat) (aks1 : Option Addr) (cks1 : Nat) (b1 o1 : Nat) (w : World) (hM : Co.bulk (Co.mk k1 v1 ds1 ks1) ≤ 1048576) (x0 : w.cell? ⟨b1, o1, none⟩ = some (.int .i64 k1)) (x1 : w.cell? ⟨b1, o1 + 1, none⟩ = some (.int .i64 v1)) (x2 : w.cell? ⟨b1, o1 + 2, none⟩ = some (.slice ads1 ds1.length cds1)) (x3 : w.cell? ⟨b1, o1 + 3, none⟩ = some (.slice aks1 ks1.length cks1)) (hr : RdS w (Co.d (Co.mk k1 v1 ds1 ks1)) [.int .i64 k1, .int .i64 v1, .slice ads1 ds1.length cds1, .slice aks1 ks1.length cks1]) :
    Calls Try.prog 72 #[.pointer (some ⟨b1, o1, none⟩)] w fun e w' => e = .returned (.bool (Co.ok (Co.mk k1 v1 ds1 ks1) && Co.clo (Co.mk k1 v1 ds1 ks1) 0)) ∧ Below w.heap.size w w' := by
  have hv := spec_l06Ok k1 v1 ds1 ks1 ads1 cds1 aks1 cks1 b1 o1 w hM x0 x1 x2 x3 hr
  have XL := hid (World.block_lt_of_cell? _ _ x3)
  have X0 := hid x0
  have X1 := hid x1
  have X2 := hid x2
  have X3 := hid x3
  by_cases hok : Co.ok (Co.mk k1 v1 ds1 ks1) = true
  case neg =>
    replace hok := (Bool.not_eq_true _).mp hok
    rw [hok] at hv ⊢
    have HV := hid hv
    clear hr hv hok x0 x1 x2 x3 hM
    go_enter Try.func72, Try.ntmps72
    go_wp2_with fail
    refine HV.out.mono ?_
    rintro e w1 ⟨rfl, hb⟩
    have HB1 := hid hb
    clear hb
    go_wp2_with fail
    go_ret
    exact ⟨rfl, HB1.out⟩
  case pos =>
    have hg := ok_good hok
    have hc := fun W (hb : Below w.heap.size w W) => above_all (Co.bulk (Co.mk k1 v1 ds1 ks1) + 1) k1 v1 ds1 ks1 ads1 cds1 aks1 cks1 b1 o1 0 W (by omega) (by omega) (by omega) hg ((hb.cell (p := ⟨b1, o1, none⟩) XL.out).trans X0.out) ((hb.cell (p := ⟨b1, o1 + 1, none⟩) XL.out).trans X1.out) ((hb.cell (p := ⟨b1, o1 + 2, none⟩) XL.out).trans X2.out) ((hb.cell (p := ⟨b1, o1 + 3, none⟩) XL.out).trans X3.out) (hr.below hb)
    rw [hok] at hv ⊢
    have HV := hid hv
    have HC := hid hc
    clear hr hv hok hc x0 x1 x2 x3 hM hg
    go_enter Try.func72, Try.ntmps72
    go_wp2_with fail
    refine HV.out.mono ?_
    rintro e w1 ⟨rfl, hb⟩
    have HB1 := hid hb
    clear hb
    go_wp2_with fail
    refine (HC.out _ HB1.out).mono ?_
    rintro e w2 ⟨rfl, hb⟩
    have HB2 := hid (HB1.out.trans (hb.mono HB1.out.size))
    clear hb
    go_wp2_with fail
    go_ret
    exact ⟨ret_bool (by simp), HB2.out⟩

set_option maxHeartbeats 1000000 in
theorem spec_l06Book (fs1 : List Co) (afs1 : Option Addr) (cfs1 : Nat) (b1 o1 : Nat) (w : World) (hM : Co.bulks fs1 ≤ 1048576) (x0 : w.cell? ⟨b1, o1, none⟩ = some (.slice afs1 fs1.length cfs1)) (hr : RdS w (Bk.d (.mk fs1)) [.slice afs1 fs1.length cfs1]) :
    Calls Try.prog 71 #[.pointer (some ⟨b1, o1, none⟩)] w fun e w' => e = .returned (.bool (bookOk fs1)) ∧ Below w.heap.size w w' := by
  obtain ⟨_, _, e, h2, h3, h4⟩ := hr.fBk.eCo
  simp only [Value.slice.injEq, true_and] at e
  obtain ⟨rfl, rfl⟩ := e
  have H4 := hid h4
  have XL := hid (World.block_lt_of_cell? _ _ x0)
  have X0 := hid x0
  have hlen := Co.bulks_length fs1
  have HM := hid hM
  clear hr h4
  by_cases hi : inR fs1.length 1 24 = true
  case neg =>
    replace hi := (Bool.not_eq_true _).mp hi
    have HF := hid (show bookOk fs1 = false by rw [bookOk, hi]; rfl)
    have HI := hid hi
    clear hi H4 hM
    go_enter Try.func71, Try.ntmps71
    go_wp2_with fail
    refine (spec_In _ _ _ _).mono ?_
    rw [HI.out]
    rintro e w2 ⟨rfl, rfl⟩
    go_wp2_with fail
    go_ret
    exact ⟨ret_bool HF.out.symm, Below.refl _ _⟩
  case pos =>
    have HF := hid (show bookOk fs1 = defsOk fs1.length fs1 by rw [bookOk, hi]; rfl)
    have HI := hid hi
    clear hi hM
    go_enter Try.func71, Try.ntmps71
    go_wp2_with fail
    refine (spec_In _ _ _ _).mono ?_
    rw [HI.out]
    rintro e w2 ⟨rfl, rfl⟩
    go_wp2_with fail
    go_loopw [3] (fun i wr => ∃ (j : Nat), j ≤ fs1.length ∧ i = .int .i64 j ∧ Hid (∀ (i : Nat) t, i < j → fs1[i]? = some t → defOk fs1.length t = true) ∧ Below w.heap.size w wr) (fun i _ => fs1.length - (intOf i).toNat)
    case atStart => exact ⟨0, by omega, rfl, fun i t hi => absurd hi (by omega), Below.refl _ _⟩
    case round =>
      obtain ⟨j, hj, rfl, HJ, hb⟩ := hrel
      have z0 := (hb.cell (p := ⟨b1, o1, none⟩) XL.out).trans X0.out
      by_cases hlt : j < fs1.length
      case pos =>
        obtain ⟨b, o, rfl, hbl, hall⟩ := H4.out (by omega)
        obtain ⟨t, ht⟩ : ∃ t, fs1[j]? = some t := ⟨_, List.getElem?_eq_getElem hlt⟩
        obtain ⟨k3, v3, ds3, ks3⟩ := t
        obtain ⟨ads3, cds3, aks3, cks3, q0, q1, q2, q3, hrk⟩ := hall j k3 v3 ds3 ks3 ht
        clear hall H4
        have hbg := Co.bulk_get fs1 j _ ht
        have hM3 : Co.bulk (.mk k3 v3 ds3 ks3) ≤ 1048576 := by have := HM.out; omega
        have hc1 := fun d os => Calls.regrown_of (spec_l06Closed k3 v3 ds3 ks3 ads3 cds3 aks3 cks3 b (o + j * 4) (grow (redrawn wr d) os) hM3 (cell_regrown ((hb.cell (p := ⟨b, o + j * 4, none⟩) hbl).trans q0) d os) (cell_regrown ((hb.cell (p := ⟨b, o + j * 4 + 1, none⟩) hbl).trans q1) d os) (cell_regrown ((hb.cell (p := ⟨b, o + j * 4 + 2, none⟩) hbl).trans q2) d os) (cell_regrown ((hb.cell (p := ⟨b, o + j * 4 + 3, none⟩) hbl).trans q3) d os) ((hrk.below hb).below (below_regrown wr d os)))
        have hc2 := fun d os => Calls.regrown_of (ref_all (Co.bulk (.mk k3 v3 ds3 ks3) + 1) k3 v3 ds3 ks3 ads3 cds3 aks3 cks3 b (o + j * 4) fs1.length (grow (redrawn wr d) os) (by omega) (cell_regrown ((hb.cell (p := ⟨b, o + j * 4, none⟩) hbl).trans q0) d os) (cell_regrown ((hb.cell (p := ⟨b, o + j * 4 + 1, none⟩) hbl).trans q1) d os) (cell_regrown ((hb.cell (p := ⟨b, o + j * 4 + 2, none⟩) hbl).trans q2) d os) (cell_regrown ((hb.cell (p := ⟨b, o + j * 4 + 3, none⟩) hbl).trans q3) d os) ((hrk.below hb).below (below_regrown wr d os)))
        have HT := hid ht
        have z0' := cell_regrown z0
        by_cases hk : (Co.ok (.mk k3 v3 ds3 ks3) && Co.clo (.mk k3 v3 ds3 ks3) 0) = true
        case neg =>
          replace hk := (Bool.not_eq_true _).mp hk
          have HG := hid (show defOk fs1.length (.mk k3 v3 ds3 ks3) = false by rw [defOk, hk]; rfl)
          rw [hk] at hc1
          have HC := hid hc1
          clear ht hrk q0 q1 q2 q3 hc1 hc2 hk hM3 hbg
          go_wp2_with fail
          refine wp_region_quiet_below (by kernel_rfl) (by kernel_rfl) ?_
          repeat (go_big_quiet_step (exact HC.out _ _))
          refine wpQuiet_nil ?_
          intro _ hw'
          obtain ⟨⟨dq, osq⟩, hw''⟩ := hw'
          subst hw''
          have hbw := hb.trans ((below_regrown wr dq osq).mono hb.size)
          clear HC z0 z0'
          go_wp2_with fail
          go_ret
          exact ⟨ret_bool (by rw [HF.out, defsOk_no _ fs1 j _ HT.out HG.out]), hbw⟩
        case pos =>
          have HG0 := hid (show defOk fs1.length (.mk k3 v3 ds3 ks3) = Co.refs (.mk k3 v3 ds3 ks3) fs1.length by rw [defOk, hk]; rfl)
          rw [hk] at hc1
          have HC := hid hc1
          by_cases hq : Co.refs (.mk k3 v3 ds3 ks3) fs1.length = true
          all_goals
            first | rw [hq] at hc2 | rw [(Bool.not_eq_true _).mp hq] at hc2
            have HC2 := hid hc2
            have HQ := hid hq
            clear ht hrk q0 q1 q2 q3 hc1 hc2 hk hM3 hbg hq
            go_wp2_with fail
            refine wp_region_quiet_below (by kernel_rfl) (by kernel_rfl) ?_
            repeat (go_big_quiet_step (first | exact HC.out _ _ | exact HC2.out _ _))
            refine wpQuiet_nil ?_
            intro _ hw'
            obtain ⟨⟨dq, osq⟩, hw''⟩ := hw'
            subst hw''
            have hbw := hb.trans ((below_regrown wr dq osq).mono hb.size)
            clear HC HC2 z0 z0'
            go_wp2_with fail
          · go_roundw
            case rel => exact ⟨j + 1, by omega, by go_num, fun i t hi hti => (Nat.lt_succ_iff_lt_or_eq.1 hi).elim (fun hi => HJ.out i t hi hti) (fun he => by subst he; obtain rfl := Option.some.inj (hti.symm.trans HT.out); exact HG0.out.trans HQ.out), hbw⟩
            case measure => simp [intOf]; omega
          · go_ret
            exact ⟨ret_bool (by rw [HF.out, defsOk_no _ fs1 j _ HT.out (HG0.out.trans ((Bool.not_eq_true _).mp HQ.out))]), hbw⟩
      case neg =>
        go_wp2_with fail
        go_ret
        exact ⟨ret_bool (by rw [HF.out, defsOk_yes _ fs1 fun i t hti => HJ.out i t (by have := (List.getElem?_eq_some_iff.1 hti).1; omega) hti]), hb⟩
end Go.Proofs.Ytlbebnmhldolnaa
