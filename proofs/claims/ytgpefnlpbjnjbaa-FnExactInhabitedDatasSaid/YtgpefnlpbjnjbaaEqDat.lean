/- Walks of the laws' helpers: the comparison of two copies of one Data. No condition. -/
import Derived.Test.YtgpefnlpbjnjbaaSzDat
import Derived.Test.YtgpefnlpbjnjbaaEqCon
import Derived.Test.YtgpefnlpbjnjbaaEqSc
namespace Go.Proofs.Ytgpefnlpbjnjbaa
open Go.ChangeShapes Go.WideShapes Go.ChangeAt Go.RowKit
open Go.Sort (grow)
set_option linter.unusedVariables false

abbrev EqDat : Prop := ∀ (n : ByteArray) (qs : List Con) (aqs : Option Addr) (cqs : Nat) (aqs' : Option Addr) (cqs' : Nat) (w : World), RdS w (Dat.d (Dat.mk n qs)) [.string n, .slice aqs qs.length cqs] → RdS w (Dat.d (Dat.mk n qs)) [.string n, .slice aqs' qs.length cqs'] →
  Calls Try.prog 68 #[.agg #[.string n, .slice aqs qs.length cqs], .agg #[.string n, .slice aqs' qs.length cqs']] w fun e w' => e = .returned (.bool true) ∧ Below w.heap.size w w'
theorem eqDat : EqDat := by
  intro n qs aqs cqs aqs' cqs' w hr hr'
  have hbk : Dat.bulk (Dat.mk n qs) = n.size + Con.bulks qs := rfl
  obtain ⟨zn, hqs⟩ := hr.fDat
  obtain ⟨zn', hqs'⟩ := hr'.fDat
  have hc1 := fun (W : World) (hb : Below w.heap.size w W) => eqCons qs aqs aqs' cqs cqs' W (hqs.below hb) (hqs'.below hb)
  have HC1 := hid hc1
  have HX0 := hid (((Boxes.nil w).alloc #[.string n, .slice aqs qs.length cqs] 101 (0, 0)).alloc #[.string n, .slice aqs' qs.length cqs'] 101 (0, 0))
  have HB0 := hid (((Below.refl w.heap.size w).alloc (Nat.le_refl _) (.cells #[.string n, .slice aqs qs.length cqs] 101)).alloc (by simp) (.cells #[.string n, .slice aqs' qs.length cqs'] 101))
  clear hr hr' hbk hc1 hqs hqs'
  go_enter Try.func68, Try.ntmps68
  go_wp2_with fail
  refine (HC1.out _ HB0.out).mono ?_
  rintro e w1 ⟨rfl, hb1⟩
  have hbw1 := HB0.out.trans (hb1.mono (by simp; omega))
  have hx1 := HX0.out.below hb1
  have HX1 := hid hx1
  clear hx1 hb1 HC1
  go_wp2_with fail
  go_ret
  exact ⟨rfl, hbw1⟩

theorem eqDats (ts : List Dat) (a a' : Option Addr) (c c' : Nat) (w : World) (hr : RdL w (Dat.ds ts) (.slice a ts.length c)) (hr' : RdL w (Dat.ds ts) (.slice a' ts.length c')) :
    Calls Try.prog 23 #[.slice a ts.length c, .slice a' ts.length c'] w fun e w' => e = .returned (.bool true) ∧ Below w.heap.size w w' := by
  obtain ⟨_, _, e, h2, h3, h4⟩ := hr.eDat
  simp only [Value.slice.injEq, true_and] at e
  obtain ⟨rfl, rfl⟩ := e
  obtain ⟨_, _, e, h2', h3', h4'⟩ := hr'.eDat
  simp only [Value.slice.injEq, true_and] at e
  obtain ⟨rfl, rfl⟩ := e
  have H4 := hid h4
  have H4' := hid h4'
  clear hr h4 hr' h4'
  go_enter Try.func23, Try.ntmps23
  go_wp2_with fail
  go_loopw [5] (fun i wr => ∃ (j : Nat), j ≤ ts.length ∧ i = .int .i64 j ∧ Below w.heap.size w wr) (fun i _ => ts.length - (intOf i).toNat)
  case atStart => exact ⟨0, by omega, rfl, Below.refl _ _⟩
  case round =>
    obtain ⟨j, hj, rfl, hb⟩ := hrel
    by_cases hlt : j < ts.length
    · obtain ⟨b, o, rfl, hbl, hall⟩ := H4.out (by omega)
      obtain ⟨b', o', rfl, hbl', hall'⟩ := H4'.out (by omega)
      obtain ⟨t, ht⟩ : ∃ t, ts[j]? = some t := ⟨_, List.getElem?_eq_getElem hlt⟩
      obtain ⟨n1, qs1⟩ := t
      obtain ⟨aqs1, cqs1, q0, q1, hrk⟩ := hall j n1 qs1 ht
      obtain ⟨aqs2, cqs2, p0, p1, hrk'⟩ := hall' j n1 qs1 ht
      clear hall H4 hall' H4'
      have d0 := cell_regrown ((hb.cell (p := ⟨b, o + j * 2, none⟩) hbl).trans q0)
      have d2 := cell_regrown ((hb.cell (p := ⟨b', o' + j * 2, none⟩) hbl').trans p0)
      have d1 := cell_regrown ((hb.cell (p := ⟨b, o + j * 2 + 1, none⟩) hbl).trans q1)
      have d3 := cell_regrown ((hb.cell (p := ⟨b', o' + j * 2 + 1, none⟩) hbl').trans p1)
      have hbg := Dat.bulk_get ts j _ ht
      have hc := fun d os => Calls.regrown_of (eqDat n1 qs1 aqs1 cqs1 aqs2 cqs2 (grow (redrawn wr d) os) ((hrk.below hb).below (below_regrown wr d os)) ((hrk'.below hb).below (below_regrown wr d os)))
      have HC := hid hc
      clear ht hrk hrk' q0 q1 p0 p1 hc
      go_wp2_with fail
      refine wp_region_quiet_below (by kernel_rfl) (by kernel_rfl) ?_
      repeat (quiet_step (exact HC.out _ _))
      refine wpQuiet_nil ?_
      intro _ hw'
      obtain ⟨⟨dq, osq⟩, hw''⟩ := hw'
      subst hw''
      have hbq := hb.trans ((below_regrown wr dq osq).mono hb.size)
      clear HC d0 d1 d2 d3
      go_wp2_with fail
      go_roundw
      case rel => exact ⟨j + 1, by omega, by go_num, hbq⟩
      case measure => simp [intOf]; omega
    · go_wp2_with fail
      go_ret
      exact ⟨rfl, hb⟩

end Go.Proofs.Ytgpefnlpbjnjbaa
