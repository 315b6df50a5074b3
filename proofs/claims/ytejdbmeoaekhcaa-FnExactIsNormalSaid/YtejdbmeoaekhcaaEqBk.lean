/- Walks of the laws' helpers: the comparison of two copies of one Book. No condition. -/
import Derived.Test.YtejdbmeoaekhcaaSzBk
import Derived.Test.YtejdbmeoaekhcaaEqCo
import Derived.Test.YtejdbmeoaekhcaaEqSc
namespace Go.Proofs.Ytejdbmeoaekhcaa
open Go.ChangeShapes Go.WideShapes Go.ChangeAt Go.RowKit
open Go.Sort (grow)
set_option linter.unusedVariables false

abbrev EqBk : Prop := ∀ (fs : List Co) (afs : Option Addr) (cfs : Nat) (afs' : Option Addr) (cfs' : Nat) (w : World), RdS w (Bk.d (Bk.mk fs)) [.slice afs fs.length cfs] → RdS w (Bk.d (Bk.mk fs)) [.slice afs' fs.length cfs'] →
  Calls Try.prog 11 #[.agg #[.slice afs fs.length cfs], .agg #[.slice afs' fs.length cfs']] w fun e w' => e = .returned (.bool true) ∧ Below w.heap.size w w'
theorem eqBk : EqBk := by
  intro fs afs cfs afs' cfs' w hr hr'
  have hbk : Bk.bulk (Bk.mk fs) = Co.bulks fs := rfl
  obtain hfs := hr.fBk
  obtain hfs' := hr'.fBk
  have hc1 := fun (W : World) (hb : Below w.heap.size w W) => eqCos fs afs afs' cfs cfs' W (hfs.below hb) (hfs'.below hb)
  have HC1 := hid hc1
  have HX0 := hid (((Boxes.nil w).alloc #[.slice afs fs.length cfs] 33 (0, 0)).alloc #[.slice afs' fs.length cfs'] 33 (0, 0))
  have HB0 := hid (((Below.refl w.heap.size w).alloc (Nat.le_refl _) (.cells #[.slice afs fs.length cfs] 33)).alloc (by simp) (.cells #[.slice afs' fs.length cfs'] 33))
  clear hr hr' hbk hc1 hfs hfs'
  go_enter Try.func11, Try.ntmps11
  go_wp2_with fail
  refine (HC1.out _ HB0.out).mono ?_
  rintro e w1 ⟨rfl, hb1⟩
  have hbw1 := HB0.out.trans (hb1.mono (by simp; omega))
  have hx1 := HX0.out.below hb1
  have HX1 := hid hx1
  clear hx1 hb1 HC1
  go_wp2_with fail
  go_ret
  exact ⟨rfl, hbw1⟩

end Go.Proofs.Ytejdbmeoaekhcaa
