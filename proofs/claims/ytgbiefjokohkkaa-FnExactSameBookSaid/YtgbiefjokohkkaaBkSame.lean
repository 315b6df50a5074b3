/- Walks: whether two books are the same, of the program and of the reference. -/
import Derived.Test.YtgbiefjokohkkaaSaCoSp
import Derived.Test.YtgbiefjokohkkaaDBk
namespace Go.Proofs.Ytgbiefjokohkkaa
open Go.ChangeShapes Go.WideShapes Go.ChangeAt Go.RowKit
open Go.Sort (grow)
open Go.BigFrame
set_option linter.unusedVariables false

theorem impl_SameBook (fs1 : List Co) (afs1 : Option Addr) (cfs1 : Nat) (fs2 : List Co) (afs2 : Option Addr) (cfs2 : Nat) (w : World) (hr : RdS w (Bk.d (.mk fs1)) [.slice afs1 fs1.length cfs1]) (hr' : RdS w (Bk.d (.mk fs2)) [.slice afs2 fs2.length cfs2]) :
    Calls Try.prog 22 #[.agg #[.slice afs1 fs1.length cfs1], .agg #[.slice afs2 fs2.length cfs2]] w fun e w' => e = .returned (.bool (Co.eqbs fs1 fs2)) ∧ Below w.heap.size w w' := by
  have hB : Below w.heap.size w ((w.alloc (.cells #[.slice afs1 fs1.length cfs1] 38)).alloc (.cells #[.slice afs2 fs2.length cfs2] 38)) := ((Below.refl _ _).alloc (Nat.le_refl _) _).alloc (by simp) _
  have HC := hid (impl_EqualFuncCo (Co.bulks fs1) (impl_sameCo_all _) fs1 fs2 afs1 afs2 cfs1 cfs2 _ (Nat.le_refl _) (hr.fBk.below hB) (hr'.fBk.below hB))
  have HB := hid hB
  clear hr hr' hB
  go_enter Try.func22, Try.ntmps22
  go_wp2_with fail
  refine HC.out.mono ?_
  rintro e w1 ⟨rfl, hb⟩
  have HB1 := hid (HB.out.trans (hb.mono HB.out.size))
  clear hb
  go_wp2_with fail
  go_ret
  exact ⟨rfl, HB1.out⟩

set_option maxHeartbeats 1000000 in
theorem spec_SameBook (fs1 : List Co) (afs1 : Option Addr) (cfs1 : Nat) (fs2 : List Co) (afs2 : Option Addr) (cfs2 : Nat) (w : World) (hr : RdS w (Bk.d (.mk fs1)) [.slice afs1 fs1.length cfs1]) (hr' : RdS w (Bk.d (.mk fs2)) [.slice afs2 fs2.length cfs2]) :
    Calls Try.prog 20 #[.agg #[.slice afs1 fs1.length cfs1], .agg #[.slice afs2 fs2.length cfs2]] w fun e w' => e = .returned (.bool (Co.eqbs fs1 fs2)) ∧ Below w.heap.size w w' := by
  obtain ⟨_, _, e, h2, h3, h4⟩ := hr.fBk.eCo
  simp only [Value.slice.injEq, true_and] at e
  obtain ⟨rfl, rfl⟩ := e
  obtain ⟨_, _, e, h2', h3', h4'⟩ := hr'.fBk.eCo
  simp only [Value.slice.injEq, true_and] at e
  obtain ⟨rfl, rfl⟩ := e
  have HX0 := hid (((Boxes.nil w).alloc #[.slice afs1 fs1.length cfs1] 38 (0, 0)).alloc #[.slice afs2 fs2.length cfs2] 38 (0, 0))
  have HB0 := hid (show Below w.heap.size w ((w.alloc (.cells #[.slice afs1 fs1.length cfs1] 38)).alloc (.cells #[.slice afs2 fs2.length cfs2] 38)) from ((Below.refl _ _).alloc (Nat.le_refl _) _).alloc (by simp) _)
  have H4 := hid h4
  have H4' := hid h4'
  clear hr hr' h4 h4'
  by_cases hl : fs1.length = fs2.length
  case neg =>
    have hlb : ((fs1.length : Int) != (fs2.length : Int)) = true := by simp; omega
    rw [Co.eqbs_length _ _ hl]
    clear hl H4 H4'
    go_enter Try.func20, Try.ntmps20
    go_wp2_with fail
    go_ret
    exact ⟨rfl, HB0.out⟩
  case pos =>
    have hlb : ((fs1.length : Int) != (fs2.length : Int)) = false := by simp [hl]
    have HL := hid hl
    clear hl
    go_enter Try.func20, Try.ntmps20
    go_wp2_with fail
    go_loopw [5] (fun i wr => ∃ (j : Nat), j ≤ fs1.length ∧ i = .int .i64 j ∧ Hid (∀ (i : Nat) t u, i < j → fs1[i]? = some t → fs2[i]? = some u → Co.eqb t u = true) ∧
      Below (w.heap.size + 2) ((w.alloc (.cells #[.slice afs1 fs1.length cfs1] 38)).alloc (.cells #[.slice afs2 fs2.length cfs2] 38)) wr) (fun i _ => fs1.length - (intOf i).toNat)
    case atStart => exact ⟨0, by omega, rfl, fun i t u hi => absurd hi (by omega), Below.refl _ _⟩
    case round =>
      obtain ⟨j, hj, rfl, HJ, hb0⟩ := hrel
      have hb : Below w.heap.size w wr := HB0.out.trans (hb0.mono (by omega))
      have bp0 := (HX0.out.below (by simpa using hb0)).at 1 0 rfl rfl
      have bp1 := (HX0.out.below (by simpa using hb0)).at 0 0 rfl rfl
      simp only [World.size_alloc] at bp1
      by_cases hlt : j < fs1.length
      case pos =>
        have hlt' : j < fs2.length := by have := HL.out; omega
        obtain ⟨b, o, rfl, hbl, hall⟩ := H4.out (by omega)
        obtain ⟨b', o', rfl, hbl', hall'⟩ := H4'.out (by omega)
        obtain ⟨t, ht⟩ : ∃ t, fs1[j]? = some t := ⟨_, List.getElem?_eq_getElem hlt⟩
        obtain ⟨t', ht'⟩ : ∃ t, fs2[j]? = some t := ⟨_, List.getElem?_eq_getElem hlt'⟩
        obtain ⟨k3, v3, ds3, ks3⟩ := t
        obtain ⟨k4, v4, ds4, ks4⟩ := t'
        obtain ⟨ads3, cds3, aks3, cks3, q0, q1, q2, q3, hrk⟩ := hall j k3 v3 ds3 ks3 ht
        obtain ⟨ads4, cds4, aks4, cks4, p0, p1, p2, p3, hrk'⟩ := hall' j k4 v4 ds4 ks4 ht'
        clear hall H4 hall' H4'
        have hc := fun d os => Calls.regrown_of (spec_l06Same k3 v3 ds3 ks3 ads3 cds3 aks3 cks3 k4 v4 ds4 ks4 ads4 cds4 aks4 cks4 b (o + j * 4) b' (o' + j * 4) (grow (redrawn wr d) os)
          (cell_regrown ((hb.cell (p := ⟨b, o + j * 4, none⟩) hbl).trans q0) d os) (cell_regrown ((hb.cell (p := ⟨b, o + j * 4 + 1, none⟩) hbl).trans q1) d os) (cell_regrown ((hb.cell (p := ⟨b, o + j * 4 + 2, none⟩) hbl).trans q2) d os) (cell_regrown ((hb.cell (p := ⟨b, o + j * 4 + 3, none⟩) hbl).trans q3) d os)
          (cell_regrown ((hb.cell (p := ⟨b', o' + j * 4, none⟩) hbl').trans p0) d os) (cell_regrown ((hb.cell (p := ⟨b', o' + j * 4 + 1, none⟩) hbl').trans p1) d os) (cell_regrown ((hb.cell (p := ⟨b', o' + j * 4 + 2, none⟩) hbl').trans p2) d os) (cell_regrown ((hb.cell (p := ⟨b', o' + j * 4 + 3, none⟩) hbl').trans p3) d os)
          ((hrk.below hb).below (below_regrown wr d os)) ((hrk'.below hb).below (below_regrown wr d os)))
        have HT := hid ht
        have HT' := hid ht'
        have z3' := cell_regrown bp0
        have t3' := cell_regrown bp1
        cases hq : Co.eqb (.mk k3 v3 ds3 ks3) (.mk k4 v4 ds4 ks4)
        all_goals
          rw [hq] at hc
          have HC := hid hc
          have HQ := hid hq
          clear ht hrk hrk' q0 q1 q2 q3 p0 p1 p2 p3 hc ht' hq
          go_wp2_with fail
          refine wp_region_quiet_below (by kernel_rfl) (by kernel_rfl) ?_
          repeat (quiet_step (exact HC.out _ _))
          refine wpQuiet_nil ?_
          intro _ hw'
          obtain ⟨⟨dq, osq⟩, hw''⟩ := hw'
          subst hw''
          have hbq := hb0.trans ((below_regrown wr dq osq).mono (by have := hb0.size; simpa using this))
          have hbw := hb.trans ((below_regrown wr dq osq).mono hb.size)
          clear HC bp0 bp1 z3' t3'
          go_wp2_with fail
        · go_ret
          exact ⟨ret_bool (Co.eqbs_no fs1 fs2 j _ _ HT.out HT'.out HQ.out).symm, hbw⟩
        · go_roundw
          case rel =>
            refine ⟨j + 1, by omega, by go_num, fun i t u hi h1 h2 => ?_, hbq⟩
            rcases Nat.lt_succ_iff_lt_or_eq.1 hi with hi | rfl
            · exact HJ.out i t u hi h1 h2
            · obtain rfl := Option.some.inj (h1.symm.trans HT.out)
              obtain rfl := Option.some.inj (h2.symm.trans HT'.out)
              exact HQ.out
          case measure => simp [intOf]; omega
      case neg =>
        go_wp2_with fail
        go_ret
        exact ⟨ret_bool (Co.eqbs_yes fs1 fs2 HL.out (fun i t u h1 h2 => HJ.out i t u (by have := (List.getElem?_eq_some_iff.1 h1).1; omega) h1 h2)).symm, hb⟩
end Go.Proofs.Ytgbiefjokohkkaa
