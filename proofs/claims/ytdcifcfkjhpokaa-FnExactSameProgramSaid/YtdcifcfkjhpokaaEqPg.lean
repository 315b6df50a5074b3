/- Walks of the laws' helpers: the comparison of two copies of one Program. No condition. -/
import Derived.Test.YtdcifcfkjhpokaaSzPg
import Derived.Test.YtdcifcfkjhpokaaEqDat
import Derived.Test.YtdcifcfkjhpokaaEqDf
import Derived.Test.YtdcifcfkjhpokaaEqSc
namespace Go.Proofs.Ytdcifcfkjhpokaa
open Go.ChangeShapes Go.WideShapes Go.ChangeAt Go.RowKit
open Go.Sort (grow)
set_option linter.unusedVariables false

abbrev EqPg : Prop := ∀ (ds : List Dat) (fs : List Df) (ads : Option Addr) (cds : Nat) (afs : Option Addr) (cfs : Nat) (ads' : Option Addr) (cds' : Nat) (afs' : Option Addr) (cfs' : Nat) (w : World), RdS w (Pg.d (Pg.mk ds fs)) [.slice ads ds.length cds, .slice afs fs.length cfs] → RdS w (Pg.d (Pg.mk ds fs)) [.slice ads' ds.length cds', .slice afs' fs.length cfs'] →
  Calls Try.prog 41 #[.agg #[.slice ads ds.length cds, .slice afs fs.length cfs], .agg #[.slice ads' ds.length cds', .slice afs' fs.length cfs']] w fun e w' => e = .returned (.bool true) ∧ Below w.heap.size w w'
theorem eqPg : EqPg := by
  intro ds fs ads cds afs cfs ads' cds' afs' cfs' w hr hr'
  have hbk : Pg.bulk (Pg.mk ds fs) = Dat.bulks ds + Df.bulks fs := rfl
  obtain ⟨hds, hfs⟩ := hr.fPg
  obtain ⟨hds', hfs'⟩ := hr'.fPg
  have hc1 := fun (W : World) (hb : Below w.heap.size w W) => eqDats ds ads ads' cds cds' W (hds.below hb) (hds'.below hb)
  have hc2 := fun (W : World) (hb : Below w.heap.size w W) => eqDfs fs afs afs' cfs cfs' W (hfs.below hb) (hfs'.below hb)
  have HC1 := hid hc1
  have HC2 := hid hc2
  have HX0 := hid (((Boxes.nil w).alloc #[.slice ads ds.length cds, .slice afs fs.length cfs] 61 (0, 0)).alloc #[.slice ads' ds.length cds', .slice afs' fs.length cfs'] 61 (0, 0))
  have HB0 := hid (((Below.refl w.heap.size w).alloc (Nat.le_refl _) (.cells #[.slice ads ds.length cds, .slice afs fs.length cfs] 61)).alloc (by simp) (.cells #[.slice ads' ds.length cds', .slice afs' fs.length cfs'] 61))
  clear hr hr' hbk hc1 hc2 hds hds' hfs hfs'
  go_enter Try.func41, Try.ntmps41
  go_wp2_with fail
  refine (HC1.out _ HB0.out).mono ?_
  rintro e w1 ⟨rfl, hb1⟩
  have hbw1 := HB0.out.trans (hb1.mono (by simp; omega))
  have hx1 := HX0.out.below hb1
  have g1_1 := hx1.at 1 1 rfl rfl
  have k1_1 := hx1.at 0 1 rfl rfl
  simp only [World.size_alloc] at k1_1
  have HX1 := hid hx1
  clear hx1 hb1 HC1
  go_wp2_with fail
  refine (HC2.out _ hbw1).mono ?_
  rintro e w2 ⟨rfl, hb2⟩
  have hbw2 := hbw1.trans (hb2.mono (by exact hbw1.size))
  have hx2 := HX1.out.below hb2
  have HX2 := hid hx2
  clear hx2 hb2 HC2
  go_wp2_with fail
  go_ret
  exact ⟨rfl, hbw2⟩

end Go.Proofs.Ytdcifcfkjhpokaa
