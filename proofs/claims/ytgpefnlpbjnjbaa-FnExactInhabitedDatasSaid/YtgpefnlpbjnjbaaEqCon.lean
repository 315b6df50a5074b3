/- Walks of the laws' helpers: the comparison of two copies of one Constructor. No condition. -/
import Derived.Test.YtgpefnlpbjnjbaaSzCon
import Derived.Test.YtgpefnlpbjnjbaaEqTy
import Derived.Test.YtgpefnlpbjnjbaaEqSc
namespace Go.Proofs.Ytgpefnlpbjnjbaa
open Go.ChangeShapes Go.WideShapes Go.ChangeAt Go.RowKit
open Go.Sort (grow)
set_option linter.unusedVariables false

abbrev EqCon : Prop := ∀ (n : ByteArray) (fs : List Ty) (afs : Option Addr) (cfs : Nat) (afs' : Option Addr) (cfs' : Nat) (w : World), RdS w (Con.d (Con.mk n fs)) [.string n, .slice afs fs.length cfs] → RdS w (Con.d (Con.mk n fs)) [.string n, .slice afs' fs.length cfs'] →
  Calls Try.prog 157 #[.agg #[.string n, .slice afs fs.length cfs], .agg #[.string n, .slice afs' fs.length cfs']] w fun e w' => e = .returned (.bool true) ∧ Below w.heap.size w w'
theorem eqCon : EqCon := by
  intro n fs afs cfs afs' cfs' w hr hr'
  have hbk : Con.bulk (Con.mk n fs) = n.size + Ty.bulks fs := rfl
  obtain ⟨zn, hfs⟩ := hr.fCon
  obtain ⟨zn', hfs'⟩ := hr'.fCon
  have hc1 := fun (W : World) (hb : Below w.heap.size w W) => eqTys fs afs afs' cfs cfs' W (hfs.below hb) (hfs'.below hb)
  have HC1 := hid hc1
  have HX0 := hid (((Boxes.nil w).alloc #[.string n, .slice afs fs.length cfs] 104 (0, 0)).alloc #[.string n, .slice afs' fs.length cfs'] 104 (0, 0))
  have HB0 := hid (((Below.refl w.heap.size w).alloc (Nat.le_refl _) (.cells #[.string n, .slice afs fs.length cfs] 104)).alloc (by simp) (.cells #[.string n, .slice afs' fs.length cfs'] 104))
  clear hr hr' hbk hc1 hfs hfs'
  go_enter Try.func157, Try.ntmps157
  go_wp2_with fail
  refine (HC1.out _ HB0.out).mono ?_
  rintro e w1 ⟨rfl, hb1⟩
  have hbw1 := HB0.out.trans (hb1.mono (by simp; omega))
  have hx1 := HX0.out.below hb1
  have HX1 := hid hx1
  clear hx1 hb1 HC1
  go_wp2_with fail
  go_ret
  exact ⟨rfl, hbw1⟩

theorem eqCons (ts : List Con) (a a' : Option Addr) (c c' : Nat) (w : World) (hr : RdL w (Con.ds ts) (.slice a ts.length c)) (hr' : RdL w (Con.ds ts) (.slice a' ts.length c')) :
    Calls Try.prog 118 #[.slice a ts.length c, .slice a' ts.length c'] w fun e w' => e = .returned (.bool true) ∧ Below w.heap.size w w' := by
  obtain ⟨_, _, e, h2, h3, h4⟩ := hr.eCon
  simp only [Value.slice.injEq, true_and] at e
  obtain ⟨rfl, rfl⟩ := e
  obtain ⟨_, _, e, h2', h3', h4'⟩ := hr'.eCon
  simp only [Value.slice.injEq, true_and] at e
  obtain ⟨rfl, rfl⟩ := e
  have H4 := hid h4
  have H4' := hid h4'
  clear hr h4 hr' h4'
  go_enter Try.func118, Try.ntmps118
  go_wp2_with fail
  go_loopw [5] (fun i wr => ∃ (j : Nat), j ≤ ts.length ∧ i = .int .i64 j ∧ Below w.heap.size w wr) (fun i _ => ts.length - (intOf i).toNat)
  case atStart => exact ⟨0, by omega, rfl, Below.refl _ _⟩
  case round =>
    obtain ⟨j, hj, rfl, hb⟩ := hrel
    by_cases hlt : j < ts.length
    · obtain ⟨b, o, rfl, hbl, hall⟩ := H4.out (by omega)
      obtain ⟨b', o', rfl, hbl', hall'⟩ := H4'.out (by omega)
      obtain ⟨t, ht⟩ : ∃ t, ts[j]? = some t := ⟨_, List.getElem?_eq_getElem hlt⟩
      obtain ⟨n1, fs1⟩ := t
      obtain ⟨afs1, cfs1, q0, q1, hrk⟩ := hall j n1 fs1 ht
      obtain ⟨afs2, cfs2, p0, p1, hrk'⟩ := hall' j n1 fs1 ht
      clear hall H4 hall' H4'
      have d0 := cell_regrown ((hb.cell (p := ⟨b, o + j * 2, none⟩) hbl).trans q0)
      have d2 := cell_regrown ((hb.cell (p := ⟨b', o' + j * 2, none⟩) hbl').trans p0)
      have d1 := cell_regrown ((hb.cell (p := ⟨b, o + j * 2 + 1, none⟩) hbl).trans q1)
      have d3 := cell_regrown ((hb.cell (p := ⟨b', o' + j * 2 + 1, none⟩) hbl').trans p1)
      have hbg := Con.bulk_get ts j _ ht
      have hc := fun d os => Calls.regrown_of (eqCon n1 fs1 afs1 cfs1 afs2 cfs2 (grow (redrawn wr d) os) ((hrk.below hb).below (below_regrown wr d os)) ((hrk'.below hb).below (below_regrown wr d os)))
      have HC := hid hc
      clear ht hrk hrk' q0 q1 p0 p1 hc
      go_wp2_with fail
      refine wp_region_quiet_below (by kernel_rfl) (by kernel_rfl) ?_
      repeat (quiet_step (exact HC.out _ _))
      refine wpQuiet_nil ?_
      intro _ hw'
      obtain ⟨⟨dq, osq⟩, hw''⟩ := hw'
      subst hw''
      have hbq := hb.trans ((below_regrown wr dq osq).mono hb.size)
      clear HC d0 d1 d2 d3
      go_wp2_with fail
      go_roundw
      case rel => exact ⟨j + 1, by omega, by go_num, hbq⟩
      case measure => simp [intOf]; omega
    · go_wp2_with fail
      go_ret
      exact ⟨rfl, hb⟩

end Go.Proofs.Ytgpefnlpbjnjbaa
