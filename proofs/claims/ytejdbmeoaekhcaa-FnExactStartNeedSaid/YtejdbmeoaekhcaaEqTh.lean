/- Walks of the laws' helpers: the comparison of two copies of one Thunk. No condition. -/
import Derived.Test.YtejdbmeoaekhcaaSzTh
import Derived.Test.YtejdbmeoaekhcaaEqCl
import Derived.Test.YtejdbmeoaekhcaaEqSc
namespace Go.Proofs.Ytejdbmeoaekhcaa
open Go.ChangeShapes Go.WideShapes Go.ChangeAt Go.RowKit
open Go.Sort (grow)
set_option linter.unusedVariables false

abbrev EqTh : Prop := ∀ (dn : Bool) (ctk : Int) (ctv : Int) (ctds : List Int) (ctks : List Co) (ces : List Int) (actds : Option Addr) (cctds : Nat) (actks : Option Addr) (cctks : Nat) (aces : Option Addr) (cces : Nat) (actds' : Option Addr) (cctds' : Nat) (actks' : Option Addr) (cctks' : Nat) (aces' : Option Addr) (cces' : Nat) (w : World), RdS w (Th.d (Th.mk dn (Cl.mk (Co.mk ctk ctv ctds ctks) ces))) [.bool dn, .int .i64 ctk, .int .i64 ctv, .slice actds ctds.length cctds, .slice actks ctks.length cctks, .slice aces ces.length cces] → RdS w (Th.d (Th.mk dn (Cl.mk (Co.mk ctk ctv ctds ctks) ces))) [.bool dn, .int .i64 ctk, .int .i64 ctv, .slice actds' ctds.length cctds', .slice actks' ctks.length cctks', .slice aces' ces.length cces'] →
  Calls Try.prog 57 #[.agg #[.bool dn, .int .i64 ctk, .int .i64 ctv, .slice actds ctds.length cctds, .slice actks ctks.length cctks, .slice aces ces.length cces], .agg #[.bool dn, .int .i64 ctk, .int .i64 ctv, .slice actds' ctds.length cctds', .slice actks' ctks.length cctks', .slice aces' ces.length cces']] w fun e w' => e = .returned (.bool true) ∧ Below w.heap.size w w'
theorem eqTh : EqTh := by
  intro dn ctk ctv ctds ctks ces actds cctds actks cctks aces cces actds' cctds' actks' cctks' aces' cces' w hr hr'
  have hbk : Th.bulk (Th.mk dn (Cl.mk (Co.mk ctk ctv ctds ctks) ces)) = Cl.bulk (Cl.mk (Co.mk ctk ctv ctds ctks) ces) := rfl
  obtain ⟨⟨⟨loctk, hictk⟩, ⟨loctv, hictv⟩, hctds, hctks⟩, hces⟩ := hr.fTh
  obtain ⟨⟨⟨loctk', hictk'⟩, ⟨loctv', hictv'⟩, hctds', hctks'⟩, hces'⟩ := hr'.fTh
  have hc1 := fun (W : World) (hb : Below w.heap.size w W) => eqCl ctk ctv ctds ctks ces actds cctds actks cctks aces cces actds' cctds' actks' cctks' aces' cces' W ((RdS.subTh_c hr).below hb) ((RdS.subTh_c hr').below hb)
  have HC1 := hid hc1
  have HX0 := hid (((Boxes.nil w).alloc #[.bool dn, .int .i64 ctk, .int .i64 ctv, .slice actds ctds.length cctds, .slice actks ctks.length cctks, .slice aces ces.length cces] 89 (0, 0)).alloc #[.bool dn, .int .i64 ctk, .int .i64 ctv, .slice actds' ctds.length cctds', .slice actks' ctks.length cctks', .slice aces' ces.length cces'] 89 (0, 0))
  have HB0 := hid (((Below.refl w.heap.size w).alloc (Nat.le_refl _) (.cells #[.bool dn, .int .i64 ctk, .int .i64 ctv, .slice actds ctds.length cctds, .slice actks ctks.length cctks, .slice aces ces.length cces] 89)).alloc (by simp) (.cells #[.bool dn, .int .i64 ctk, .int .i64 ctv, .slice actds' ctds.length cctds', .slice actks' ctks.length cctks', .slice aces' ces.length cces'] 89))
  clear hr hr' hbk hc1 hctds hctds' hctks hctks' hces hces'
  go_enter Try.func57, Try.ntmps57
  go_wp2_with fail
  refine (HC1.out _ HB0.out).mono ?_
  rintro e w1 ⟨rfl, hb1⟩
  have hbw1 := HB0.out.trans (hb1.mono (by simp; omega))
  have hx1 := HX0.out.below hb1
  have HX1 := hid hx1
  clear hx1 hb1 HC1
  go_wp2_with fail
  go_ret
  exact ⟨rfl, hbw1⟩

theorem eqThs (ts : List Th) (a a' : Option Addr) (c c' : Nat) (w : World) (hr : RdL w (Th.ds ts) (.slice a ts.length c)) (hr' : RdL w (Th.ds ts) (.slice a' ts.length c')) :
    Calls Try.prog 34 #[.slice a ts.length c, .slice a' ts.length c'] w fun e w' => e = .returned (.bool true) ∧ Below w.heap.size w w' := by
  obtain ⟨_, _, e, h2, h3, h4⟩ := hr.eTh
  simp only [Value.slice.injEq, true_and] at e
  obtain ⟨rfl, rfl⟩ := e
  obtain ⟨_, _, e, h2', h3', h4'⟩ := hr'.eTh
  simp only [Value.slice.injEq, true_and] at e
  obtain ⟨rfl, rfl⟩ := e
  have H4 := hid h4
  have H4' := hid h4'
  clear hr h4 hr' h4'
  go_enter Try.func34, Try.ntmps34
  go_wp2_with fail
  go_loopw [5] (fun i wr => ∃ (j : Nat), j ≤ ts.length ∧ i = .int .i64 j ∧ Below w.heap.size w wr) (fun i _ => ts.length - (intOf i).toNat)
  case atStart => exact ⟨0, by omega, rfl, Below.refl _ _⟩
  case round =>
    obtain ⟨j, hj, rfl, hb⟩ := hrel
    by_cases hlt : j < ts.length
    · obtain ⟨b, o, rfl, hbl, hall⟩ := H4.out (by omega)
      obtain ⟨b', o', rfl, hbl', hall'⟩ := H4'.out (by omega)
      obtain ⟨t, ht⟩ : ∃ t, ts[j]? = some t := ⟨_, List.getElem?_eq_getElem hlt⟩
      obtain ⟨dn1, ⟨⟨ctk1, ctv1, ctds1, ctks1⟩, ces1⟩⟩ := t
      obtain ⟨actds1, cctds1, actks1, cctks1, aces1, cces1, q0, q1, q2, q3, q4, q5, hrk⟩ := hall j dn1 ctk1 ctv1 ctds1 ctks1 ces1 ht
      obtain ⟨actds2, cctds2, actks2, cctks2, aces2, cces2, p0, p1, p2, p3, p4, p5, hrk'⟩ := hall' j dn1 ctk1 ctv1 ctds1 ctks1 ces1 ht
      clear hall H4 hall' H4'
      have d0 := cell_regrown ((hb.cell (p := ⟨b, o + j * 6, none⟩) hbl).trans q0)
      have d6 := cell_regrown ((hb.cell (p := ⟨b', o' + j * 6, none⟩) hbl').trans p0)
      have d1 := cell_regrown ((hb.cell (p := ⟨b, o + j * 6 + 1, none⟩) hbl).trans q1)
      have d7 := cell_regrown ((hb.cell (p := ⟨b', o' + j * 6 + 1, none⟩) hbl').trans p1)
      have d2 := cell_regrown ((hb.cell (p := ⟨b, o + j * 6 + 2, none⟩) hbl).trans q2)
      have d8 := cell_regrown ((hb.cell (p := ⟨b', o' + j * 6 + 2, none⟩) hbl').trans p2)
      have d3 := cell_regrown ((hb.cell (p := ⟨b, o + j * 6 + 3, none⟩) hbl).trans q3)
      have d9 := cell_regrown ((hb.cell (p := ⟨b', o' + j * 6 + 3, none⟩) hbl').trans p3)
      have d4 := cell_regrown ((hb.cell (p := ⟨b, o + j * 6 + 4, none⟩) hbl).trans q4)
      have d10 := cell_regrown ((hb.cell (p := ⟨b', o' + j * 6 + 4, none⟩) hbl').trans p4)
      have d5 := cell_regrown ((hb.cell (p := ⟨b, o + j * 6 + 5, none⟩) hbl).trans q5)
      have d11 := cell_regrown ((hb.cell (p := ⟨b', o' + j * 6 + 5, none⟩) hbl').trans p5)
      have hbg := Th.bulk_get ts j _ ht
      have hc := fun d os => Calls.regrown_of (eqTh dn1 ctk1 ctv1 ctds1 ctks1 ces1 actds1 cctds1 actks1 cctks1 aces1 cces1 actds2 cctds2 actks2 cctks2 aces2 cces2 (grow (redrawn wr d) os) ((hrk.below hb).below (below_regrown wr d os)) ((hrk'.below hb).below (below_regrown wr d os)))
      have HC := hid hc
      clear ht hrk hrk' q0 q1 q2 q3 q4 q5 p0 p1 p2 p3 p4 p5 hc
      go_wp2_with fail
      refine wp_region_quiet_below (by kernel_rfl) (by kernel_rfl) ?_
      repeat (quiet_step (exact HC.out _ _))
      refine wpQuiet_nil ?_
      intro _ hw'
      obtain ⟨⟨dq, osq⟩, hw''⟩ := hw'
      subst hw''
      have hbq := hb.trans ((below_regrown wr dq osq).mono hb.size)
      clear HC d0 d1 d2 d3 d4 d5 d6 d7 d8 d9 d10 d11
      go_wp2_with fail
      go_roundw
      case rel => exact ⟨j + 1, by omega, by go_num, hbq⟩
      case measure => simp [intOf]; omega
    · go_wp2_with fail
      go_ret
      exact ⟨rfl, hb⟩

end Go.Proofs.Ytejdbmeoaekhcaa
