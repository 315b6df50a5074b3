/- Walks of the laws' helpers: the comparison of two copies of one Frame. No condition. -/
import Derived.Test.YtejdbmeoaekhcaaSzFr
import Derived.Test.YtejdbmeoaekhcaaEqCl
import Derived.Test.YtejdbmeoaekhcaaEqSc
namespace Go.Proofs.Ytejdbmeoaekhcaa
open Go.ChangeShapes Go.WideShapes Go.ChangeAt Go.RowKit
open Go.Sort (grow)
set_option linter.unusedVariables false

abbrev EqFr : Prop := ∀ (k : Int) (v : Int) (ds : List Int) (ctk : Int) (ctv : Int) (ctds : List Int) (ctks : List Co) (ces : List Int) (ads : Option Addr) (cds : Nat) (actds : Option Addr) (cctds : Nat) (actks : Option Addr) (cctks : Nat) (aces : Option Addr) (cces : Nat) (ads' : Option Addr) (cds' : Nat) (actds' : Option Addr) (cctds' : Nat) (actks' : Option Addr) (cctks' : Nat) (aces' : Option Addr) (cces' : Nat) (w : World), RdS w (Fr.d (Fr.mk k v ds (Cl.mk (Co.mk ctk ctv ctds ctks) ces))) [.int .i64 k, .int .i64 v, .slice ads ds.length cds, .int .i64 ctk, .int .i64 ctv, .slice actds ctds.length cctds, .slice actks ctks.length cctks, .slice aces ces.length cces] → RdS w (Fr.d (Fr.mk k v ds (Cl.mk (Co.mk ctk ctv ctds ctks) ces))) [.int .i64 k, .int .i64 v, .slice ads' ds.length cds', .int .i64 ctk, .int .i64 ctv, .slice actds' ctds.length cctds', .slice actks' ctks.length cctks', .slice aces' ces.length cces'] →
  Calls Try.prog 56 #[.agg #[.int .i64 k, .int .i64 v, .slice ads ds.length cds, .int .i64 ctk, .int .i64 ctv, .slice actds ctds.length cctds, .slice actks ctks.length cctks, .slice aces ces.length cces], .agg #[.int .i64 k, .int .i64 v, .slice ads' ds.length cds', .int .i64 ctk, .int .i64 ctv, .slice actds' ctds.length cctds', .slice actks' ctks.length cctks', .slice aces' ces.length cces']] w fun e w' => e = .returned (.bool true) ∧ Below w.heap.size w w'
theorem eqFr : EqFr := by
  intro k v ds ctk ctv ctds ctks ces ads cds actds cctds actks cctks aces cces ads' cds' actds' cctds' actks' cctks' aces' cces' w hr hr'
  have hbk : Fr.bulk (Fr.mk k v ds (Cl.mk (Co.mk ctk ctv ctds ctks) ces)) = In.bulks ds + Cl.bulk (Cl.mk (Co.mk ctk ctv ctds ctks) ces) := rfl
  obtain ⟨⟨lok, hik⟩, ⟨lov, hiv⟩, hds, ⟨⟨⟨loctk, hictk⟩, ⟨loctv, hictv⟩, hctds, hctks⟩, hces⟩⟩ := hr.fFr
  obtain ⟨⟨lok', hik'⟩, ⟨lov', hiv'⟩, hds', ⟨⟨⟨loctk', hictk'⟩, ⟨loctv', hictv'⟩, hctds', hctks'⟩, hces'⟩⟩ := hr'.fFr
  have hc1 := fun (W : World) (hb : Below w.heap.size w W) => eqIns ds ads ads' cds cds' W (hds.below hb) (hds'.below hb)
  have hc2 := fun (W : World) (hb : Below w.heap.size w W) => eqCl ctk ctv ctds ctks ces actds cctds actks cctks aces cces actds' cctds' actks' cctks' aces' cces' W ((RdS.subFr_c hr).below hb) ((RdS.subFr_c hr').below hb)
  have HC1 := hid hc1
  have HC2 := hid hc2
  have HX0 := hid (((Boxes.nil w).alloc #[.int .i64 k, .int .i64 v, .slice ads ds.length cds, .int .i64 ctk, .int .i64 ctv, .slice actds ctds.length cctds, .slice actks ctks.length cctks, .slice aces ces.length cces] 86 (0, 0)).alloc #[.int .i64 k, .int .i64 v, .slice ads' ds.length cds', .int .i64 ctk, .int .i64 ctv, .slice actds' ctds.length cctds', .slice actks' ctks.length cctks', .slice aces' ces.length cces'] 86 (0, 0))
  have HB0 := hid (((Below.refl w.heap.size w).alloc (Nat.le_refl _) (.cells #[.int .i64 k, .int .i64 v, .slice ads ds.length cds, .int .i64 ctk, .int .i64 ctv, .slice actds ctds.length cctds, .slice actks ctks.length cctks, .slice aces ces.length cces] 86)).alloc (by simp) (.cells #[.int .i64 k, .int .i64 v, .slice ads' ds.length cds', .int .i64 ctk, .int .i64 ctv, .slice actds' ctds.length cctds', .slice actks' ctks.length cctks', .slice aces' ces.length cces'] 86))
  clear hr hr' hbk hc1 hc2 hds hds' hctds hctds' hctks hctks' hces hces'
  go_enter Try.func56, Try.ntmps56
  go_wp2_with fail
  refine (HC1.out _ HB0.out).mono ?_
  rintro e w1 ⟨rfl, hb1⟩
  have hbw1 := HB0.out.trans (hb1.mono (by simp; omega))
  have hx1 := HX0.out.below hb1
  have g1_3 := hx1.at 1 3 rfl rfl
  have k1_3 := hx1.at 0 3 rfl rfl
  have g1_4 := hx1.at 1 4 rfl rfl
  have k1_4 := hx1.at 0 4 rfl rfl
  have g1_5 := hx1.at 1 5 rfl rfl
  have k1_5 := hx1.at 0 5 rfl rfl
  have g1_6 := hx1.at 1 6 rfl rfl
  have k1_6 := hx1.at 0 6 rfl rfl
  have g1_7 := hx1.at 1 7 rfl rfl
  have k1_7 := hx1.at 0 7 rfl rfl
  simp only [World.size_alloc] at k1_3 k1_4 k1_5 k1_6 k1_7
  have HX1 := hid hx1
  clear hx1 hb1 HC1
  go_wp2_with fail
  refine (HC2.out _ hbw1).mono ?_
  rintro e w2 ⟨rfl, hb2⟩
  have hbw2 := hbw1.trans (hb2.mono (by exact hbw1.size))
  have hx2 := HX1.out.below hb2
  have HX2 := hid hx2
  clear hx2 hb2 HC2
  go_wp2_with fail
  go_ret
  exact ⟨rfl, hbw2⟩

theorem eqFrs (ts : List Fr) (a a' : Option Addr) (c c' : Nat) (w : World) (hr : RdL w (Fr.ds ts) (.slice a ts.length c)) (hr' : RdL w (Fr.ds ts) (.slice a' ts.length c')) :
    Calls Try.prog 33 #[.slice a ts.length c, .slice a' ts.length c'] w fun e w' => e = .returned (.bool true) ∧ Below w.heap.size w w' := by
  obtain ⟨_, _, e, h2, h3, h4⟩ := hr.eFr
  simp only [Value.slice.injEq, true_and] at e
  obtain ⟨rfl, rfl⟩ := e
  obtain ⟨_, _, e, h2', h3', h4'⟩ := hr'.eFr
  simp only [Value.slice.injEq, true_and] at e
  obtain ⟨rfl, rfl⟩ := e
  have H4 := hid h4
  have H4' := hid h4'
  clear hr h4 hr' h4'
  go_enter Try.func33, Try.ntmps33
  go_wp2_with fail
  go_loopw [5] (fun i wr => ∃ (j : Nat), j ≤ ts.length ∧ i = .int .i64 j ∧ Below w.heap.size w wr) (fun i _ => ts.length - (intOf i).toNat)
  case atStart => exact ⟨0, by omega, rfl, Below.refl _ _⟩
  case round =>
    obtain ⟨j, hj, rfl, hb⟩ := hrel
    by_cases hlt : j < ts.length
    · obtain ⟨b, o, rfl, hbl, hall⟩ := H4.out (by omega)
      obtain ⟨b', o', rfl, hbl', hall'⟩ := H4'.out (by omega)
      obtain ⟨t, ht⟩ : ∃ t, ts[j]? = some t := ⟨_, List.getElem?_eq_getElem hlt⟩
      obtain ⟨k1, v1, ds1, ⟨⟨ctk1, ctv1, ctds1, ctks1⟩, ces1⟩⟩ := t
      obtain ⟨ads1, cds1, actds1, cctds1, actks1, cctks1, aces1, cces1, q0, q1, q2, q3, q4, q5, q6, q7, hrk⟩ := hall j k1 v1 ds1 ctk1 ctv1 ctds1 ctks1 ces1 ht
      obtain ⟨ads2, cds2, actds2, cctds2, actks2, cctks2, aces2, cces2, p0, p1, p2, p3, p4, p5, p6, p7, hrk'⟩ := hall' j k1 v1 ds1 ctk1 ctv1 ctds1 ctks1 ces1 ht
      clear hall H4 hall' H4'
      have d0 := cell_regrown ((hb.cell (p := ⟨b, o + j * 8, none⟩) hbl).trans q0)
      have d8 := cell_regrown ((hb.cell (p := ⟨b', o' + j * 8, none⟩) hbl').trans p0)
      have d1 := cell_regrown ((hb.cell (p := ⟨b, o + j * 8 + 1, none⟩) hbl).trans q1)
      have d9 := cell_regrown ((hb.cell (p := ⟨b', o' + j * 8 + 1, none⟩) hbl').trans p1)
      have d2 := cell_regrown ((hb.cell (p := ⟨b, o + j * 8 + 2, none⟩) hbl).trans q2)
      have d10 := cell_regrown ((hb.cell (p := ⟨b', o' + j * 8 + 2, none⟩) hbl').trans p2)
      have d3 := cell_regrown ((hb.cell (p := ⟨b, o + j * 8 + 3, none⟩) hbl).trans q3)
      have d11 := cell_regrown ((hb.cell (p := ⟨b', o' + j * 8 + 3, none⟩) hbl').trans p3)
      have d4 := cell_regrown ((hb.cell (p := ⟨b, o + j * 8 + 4, none⟩) hbl).trans q4)
      have d12 := cell_regrown ((hb.cell (p := ⟨b', o' + j * 8 + 4, none⟩) hbl').trans p4)
      have d5 := cell_regrown ((hb.cell (p := ⟨b, o + j * 8 + 5, none⟩) hbl).trans q5)
      have d13 := cell_regrown ((hb.cell (p := ⟨b', o' + j * 8 + 5, none⟩) hbl').trans p5)
      have d6 := cell_regrown ((hb.cell (p := ⟨b, o + j * 8 + 6, none⟩) hbl).trans q6)
      have d14 := cell_regrown ((hb.cell (p := ⟨b', o' + j * 8 + 6, none⟩) hbl').trans p6)
      have d7 := cell_regrown ((hb.cell (p := ⟨b, o + j * 8 + 7, none⟩) hbl).trans q7)
      have d15 := cell_regrown ((hb.cell (p := ⟨b', o' + j * 8 + 7, none⟩) hbl').trans p7)
      have hbg := Fr.bulk_get ts j _ ht
      have hc := fun d os => Calls.regrown_of (eqFr k1 v1 ds1 ctk1 ctv1 ctds1 ctks1 ces1 ads1 cds1 actds1 cctds1 actks1 cctks1 aces1 cces1 ads2 cds2 actds2 cctds2 actks2 cctks2 aces2 cces2 (grow (redrawn wr d) os) ((hrk.below hb).below (below_regrown wr d os)) ((hrk'.below hb).below (below_regrown wr d os)))
      have HC := hid hc
      clear ht hrk hrk' q0 q1 q2 q3 q4 q5 q6 q7 p0 p1 p2 p3 p4 p5 p6 p7 hc
      go_wp2_with fail
      refine wp_region_quiet_below (by kernel_rfl) (by kernel_rfl) ?_
      repeat (quiet_step (exact HC.out _ _))
      refine wpQuiet_nil ?_
      intro _ hw'
      obtain ⟨⟨dq, osq⟩, hw''⟩ := hw'
      subst hw''
      have hbq := hb.trans ((below_regrown wr dq osq).mono hb.size)
      clear HC d0 d1 d2 d3 d4 d5 d6 d7 d8 d9 d10 d11 d12 d13 d14 d15
      go_wp2_with fail
      go_roundw
      case rel => exact ⟨j + 1, by omega, by go_num, hbq⟩
      case measure => simp [intOf]; omega
    · go_wp2_with fail
      go_ret
      exact ⟨rfl, hb⟩

end Go.Proofs.Ytejdbmeoaekhcaa
