/- Walks of the laws' helpers: the comparison of two copies of one Core. No condition. -/
import Derived.Test.YtejdbmeoaekhcaaSzCo
import Derived.Test.YtejdbmeoaekhcaaEqSc
namespace Go.Proofs.Ytejdbmeoaekhcaa
open Go.ChangeShapes Go.WideShapes Go.ChangeAt Go.RowKit
open Go.Sort (grow)
set_option linter.unusedVariables false

def EqCo (N : Nat) : Prop := ∀ (k : Int) (v : Int) (ds : List Int) (ks : List Co) (ads : Option Addr) (cds : Nat) (aks : Option Addr) (cks : Nat) (ads' : Option Addr) (cds' : Nat) (aks' : Option Addr) (cks' : Nat) (w : World), Co.bulk (Co.mk k v ds ks) < N → RdS w (Co.d (Co.mk k v ds ks)) [.int .i64 k, .int .i64 v, .slice ads ds.length cds, .slice aks ks.length cks] → RdS w (Co.d (Co.mk k v ds ks)) [.int .i64 k, .int .i64 v, .slice ads' ds.length cds', .slice aks' ks.length cks'] →
  Calls Try.prog 12 #[.agg #[.int .i64 k, .int .i64 v, .slice ads ds.length cds, .slice aks ks.length cks], .agg #[.int .i64 k, .int .i64 v, .slice ads' ds.length cds', .slice aks' ks.length cks']] w fun e w' => e = .returned (.bool true) ∧ Below w.heap.size w w'
def EqCos (N : Nat) : Prop := ∀ (ts : List Co) (a a' : Option Addr) (c c' : Nat) (w : World), Co.bulks ts < N → RdL w (Co.ds ts) (.slice a ts.length c) → RdL w (Co.ds ts) (.slice a' ts.length c') →
  Calls Try.prog 28 #[.slice a ts.length c, .slice a' ts.length c'] w fun e w' => e = .returned (.bool true) ∧ Below w.heap.size w w'
theorem eqCo_step (N : Nat) (ih : EqCos N) : EqCo N := by
  intro k v ds ks ads cds aks cks ads' cds' aks' cks' w hN hr hr'
  have hbk : Co.bulk (Co.mk k v ds ks) = In.bulks ds + Co.bulks ks := rfl
  obtain ⟨⟨lok, hik⟩, ⟨lov, hiv⟩, hds, hks⟩ := hr.fCo
  obtain ⟨⟨lok', hik'⟩, ⟨lov', hiv'⟩, hds', hks'⟩ := hr'.fCo
  have hc1 := fun (W : World) (hb : Below w.heap.size w W) => eqIns ds ads ads' cds cds' W (hds.below hb) (hds'.below hb)
  have hc2 := fun (W : World) (hb : Below w.heap.size w W) => ih ks aks aks' cks cks' W (by omega) (hks.below hb) (hks'.below hb)
  have HC1 := hid hc1
  have HC2 := hid hc2
  have HX0 := hid (((Boxes.nil w).alloc #[.int .i64 k, .int .i64 v, .slice ads ds.length cds, .slice aks ks.length cks] 36 (0, 0)).alloc #[.int .i64 k, .int .i64 v, .slice ads' ds.length cds', .slice aks' ks.length cks'] 36 (0, 0))
  have HB0 := hid (((Below.refl w.heap.size w).alloc (Nat.le_refl _) (.cells #[.int .i64 k, .int .i64 v, .slice ads ds.length cds, .slice aks ks.length cks] 36)).alloc (by simp) (.cells #[.int .i64 k, .int .i64 v, .slice ads' ds.length cds', .slice aks' ks.length cks'] 36))
  clear hr hr' hbk hc1 hc2 ih hN hds hds' hks hks'
  go_enter Try.func12, Try.ntmps12
  go_wp2_with fail
  refine (HC1.out _ HB0.out).mono ?_
  rintro e w1 ⟨rfl, hb1⟩
  have hbw1 := HB0.out.trans (hb1.mono (by simp; omega))
  have hx1 := HX0.out.below hb1
  have g1_3 := hx1.at 1 3 rfl rfl
  have k1_3 := hx1.at 0 3 rfl rfl
  simp only [World.size_alloc] at k1_3
  have HX1 := hid hx1
  clear hx1 hb1 HC1
  go_wp2_with fail
  refine (HC2.out _ hbw1).mono ?_
  rintro e w2 ⟨rfl, hb2⟩
  have hbw2 := hbw1.trans (hb2.mono (by exact hbw1.size))
  have hx2 := HX1.out.below hb2
  have HX2 := hid hx2
  clear hx2 hb2 HC2
  go_wp2_with fail
  go_ret
  exact ⟨rfl, hbw2⟩

theorem eqCos_step (N : Nat) (ih : EqCo N) : EqCos (N + 1) := by
  intro ts a a' c c' w hN hr hr'
  obtain ⟨_, _, e, h2, h3, h4⟩ := hr.eCo
  simp only [Value.slice.injEq, true_and] at e
  obtain ⟨rfl, rfl⟩ := e
  obtain ⟨_, _, e, h2', h3', h4'⟩ := hr'.eCo
  simp only [Value.slice.injEq, true_and] at e
  obtain ⟨rfl, rfl⟩ := e
  have H4 := hid h4
  have H4' := hid h4'
  have IH := hid ih
  clear hr h4 hr' h4' ih
  go_enter Try.func28, Try.ntmps28
  go_wp2_with fail
  go_loopw [5] (fun i wr => ∃ (j : Nat), j ≤ ts.length ∧ i = .int .i64 j ∧ Below w.heap.size w wr) (fun i _ => ts.length - (intOf i).toNat)
  case atStart => exact ⟨0, by omega, rfl, Below.refl _ _⟩
  case round =>
    obtain ⟨j, hj, rfl, hb⟩ := hrel
    by_cases hlt : j < ts.length
    · obtain ⟨b, o, rfl, hbl, hall⟩ := H4.out (by omega)
      obtain ⟨b', o', rfl, hbl', hall'⟩ := H4'.out (by omega)
      obtain ⟨t, ht⟩ : ∃ t, ts[j]? = some t := ⟨_, List.getElem?_eq_getElem hlt⟩
      obtain ⟨k1, v1, ds1, ks1⟩ := t
      obtain ⟨ads1, cds1, aks1, cks1, q0, q1, q2, q3, hrk⟩ := hall j k1 v1 ds1 ks1 ht
      obtain ⟨ads2, cds2, aks2, cks2, p0, p1, p2, p3, hrk'⟩ := hall' j k1 v1 ds1 ks1 ht
      clear hall H4 hall' H4'
      have d0 := cell_regrown ((hb.cell (p := ⟨b, o + j * 4, none⟩) hbl).trans q0)
      have d4 := cell_regrown ((hb.cell (p := ⟨b', o' + j * 4, none⟩) hbl').trans p0)
      have d1 := cell_regrown ((hb.cell (p := ⟨b, o + j * 4 + 1, none⟩) hbl).trans q1)
      have d5 := cell_regrown ((hb.cell (p := ⟨b', o' + j * 4 + 1, none⟩) hbl').trans p1)
      have d2 := cell_regrown ((hb.cell (p := ⟨b, o + j * 4 + 2, none⟩) hbl).trans q2)
      have d6 := cell_regrown ((hb.cell (p := ⟨b', o' + j * 4 + 2, none⟩) hbl').trans p2)
      have d3 := cell_regrown ((hb.cell (p := ⟨b, o + j * 4 + 3, none⟩) hbl).trans q3)
      have d7 := cell_regrown ((hb.cell (p := ⟨b', o' + j * 4 + 3, none⟩) hbl').trans p3)
      have hbg := Co.bulk_get ts j _ ht
      have hc := fun d os => Calls.regrown_of (IH.out k1 v1 ds1 ks1 ads1 cds1 aks1 cks1 ads2 cds2 aks2 cks2 (grow (redrawn wr d) os) (by omega) ((hrk.below hb).below (below_regrown wr d os)) ((hrk'.below hb).below (below_regrown wr d os)))
      have HC := hid hc
      clear ht hrk hrk' q0 q1 q2 q3 p0 p1 p2 p3 hc
      go_wp2_with fail
      refine wp_region_quiet_below (by kernel_rfl) (by kernel_rfl) ?_
      repeat (quiet_step (exact HC.out _ _))
      refine wpQuiet_nil ?_
      intro _ hw'
      obtain ⟨⟨dq, osq⟩, hw''⟩ := hw'
      subst hw''
      have hbq := hb.trans ((below_regrown wr dq osq).mono hb.size)
      clear HC d0 d1 d2 d3 d4 d5 d6 d7
      go_wp2_with fail
      go_roundw
      case rel => exact ⟨j + 1, by omega, by go_num, hbq⟩
      case measure => simp [intOf]; omega
    · go_wp2_with fail
      go_ret
      exact ⟨rfl, hb⟩

theorem eqCo_all : ∀ M, EqCo M ∧ EqCos M
  | 0 => ⟨fun _ _ _ _ _ _ _ _ _ _ _ _ _ h => absurd h (by omega), fun _ _ _ _ _ _ h => absurd h (by omega)⟩
  | M + 1 => by
    have h := eqCo_all M
    have h2 := eqCos_step M h.1
    exact ⟨eqCo_step (M + 1) h2, h2⟩
theorem eqCo (k : Int) (v : Int) (ds : List Int) (ks : List Co) (ads : Option Addr) (cds : Nat) (aks : Option Addr) (cks : Nat) (ads' : Option Addr) (cds' : Nat) (aks' : Option Addr) (cks' : Nat) (w : World) (hr : RdS w (Co.d (Co.mk k v ds ks)) [.int .i64 k, .int .i64 v, .slice ads ds.length cds, .slice aks ks.length cks]) (hr' : RdS w (Co.d (Co.mk k v ds ks)) [.int .i64 k, .int .i64 v, .slice ads' ds.length cds', .slice aks' ks.length cks']) :
    Calls Try.prog 12 #[.agg #[.int .i64 k, .int .i64 v, .slice ads ds.length cds, .slice aks ks.length cks], .agg #[.int .i64 k, .int .i64 v, .slice ads' ds.length cds', .slice aks' ks.length cks']] w fun e w' => e = .returned (.bool true) ∧ Below w.heap.size w w' :=
  (eqCo_all (Co.bulk (Co.mk k v ds ks) + 1)).1 k v ds ks ads cds aks cks ads' cds' aks' cks' w (by omega) hr hr'
theorem eqCos (ts : List Co) (a a' : Option Addr) (c c' : Nat) (w : World) (hr : RdL w (Co.ds ts) (.slice a ts.length c)) (hr' : RdL w (Co.ds ts) (.slice a' ts.length c')) :
    Calls Try.prog 28 #[.slice a ts.length c, .slice a' ts.length c'] w fun e w' => e = .returned (.bool true) ∧ Below w.heap.size w w' :=
  (eqCo_all (Co.bulks ts + 1)).2 ts a a' c c' w (by omega) hr hr'

end Go.Proofs.Ytejdbmeoaekhcaa
