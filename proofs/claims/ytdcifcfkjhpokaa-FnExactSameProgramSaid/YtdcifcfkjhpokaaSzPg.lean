/- Walks of the laws' helpers: the size of Program. No condition. -/
import Derived.Test.YtdcifcfkjhpokaaDPg
import Derived.Test.YtdcifcfkjhpokaaSzDat
import Derived.Test.YtdcifcfkjhpokaaSzDf
import Derived.Test.YtdcifcfkjhpokaaSzSc
import Derived.Lib.QuietBelow
namespace Go.Proofs.Ytdcifcfkjhpokaa
open Go.ChangeShapes Go.WideShapes Go.ChangeAt Go.RowKit
open Go.Sort (grow)
set_option linter.unusedVariables false

abbrev SzPg : Prop := ∀ (ds : List Dat) (fs : List Df) (ads : Option Addr) (cds : Nat) (afs : Option Addr) (cfs : Nat) (left : Int) (w : World), RdS w (Pg.d (Pg.mk ds fs)) [.slice ads ds.length cds, .slice afs fs.length cfs] → 0 ≤ left → left ≤ 1048576 →
  Calls Try.prog 37 #[.agg #[.slice ads ds.length cds, .slice afs fs.length cfs], .int .i64 left] w fun e w' => e = .returned (.int .i64 (purse left (Pg.bulk (Pg.mk ds fs)))) ∧ Below w.heap.size w w'
theorem szPg : SzPg := by
  intro ds fs ads cds afs cfs left w hr h0 h1
  have hbk : Pg.bulk (Pg.mk ds fs) = Dat.bulks ds + Df.bulks fs := rfl
  obtain ⟨hds, hfs⟩ := hr.fPg
  have hc0 := fun (W : World) (hb : Below w.heap.size w W) => (szDats ds ads cds (left) W (hds.below hb) (by omega) (by omega))
  by_cases hp0 : ((Dat.bulks ds : Nat) : Int) ≤ left
  case neg =>
    rw [purse_no hp0] at hc0
    have HC0 := hid hc0
    have HBK := hid hbk
    have HX0 := hid ((Boxes.nil w).alloc #[.slice ads ds.length cds, .slice afs fs.length cfs] 55 (0, 0))
    have hbw0 : Below w.heap.size w (w.alloc (.cells #[.slice ads ds.length cds, .slice afs fs.length cfs] 55)) := (Below.refl _ _).alloc (Nat.le_refl _) _
    have HBW := hid hbw0
    clear hr hbk hbw0 hc0 hds hfs
    go_enter Try.func37, Try.ntmps37
    go_wp2_with fail
    refine (HC0.out _ HBW.out).mono ?_
    rintro e w1 ⟨rfl, hb1⟩
    have hbw1 := HBW.out.trans (hb1.mono (by simp))
    have hx1 := HX0.out.below hb1
    have HX1 := hid hx1
    clear hx1 hb1 HC0
    go_wp2_with fail
    go_ret
    exact ⟨ret_int (by rw [purse_no (by have := HBK.out; omega)]), hbw1⟩
  case pos =>
    rw [purse_ok hp0] at hc0
    have hc1 := fun (W : World) (hb : Below w.heap.size w W) => (szDfs fs afs cfs (left - (Dat.bulks ds : Nat)) W (hfs.below hb) (by omega) (by omega))
    by_cases hp1 : ((Df.bulks fs : Nat) : Int) ≤ left - (Dat.bulks ds : Nat)
    case neg =>
      rw [purse_no hp1] at hc1
      have HC0 := hid hc0
      have HC1 := hid hc1
      have HBK := hid hbk
      have HX0 := hid ((Boxes.nil w).alloc #[.slice ads ds.length cds, .slice afs fs.length cfs] 55 (0, 0))
      have hbw0 : Below w.heap.size w (w.alloc (.cells #[.slice ads ds.length cds, .slice afs fs.length cfs] 55)) := (Below.refl _ _).alloc (Nat.le_refl _) _
      have HBW := hid hbw0
      clear hr hbk hbw0 hc0 hc1 hds hfs
      go_enter Try.func37, Try.ntmps37
      go_wp2_with fail
      refine (HC0.out _ HBW.out).mono ?_
      rintro e w1 ⟨rfl, hb1⟩
      have hbw1 := HBW.out.trans (hb1.mono (by simp))
      have hx1 := HX0.out.below hb1
      have g1_1 := hx1.at 0 1 rfl rfl
      have HX1 := hid hx1
      clear hx1 hb1 HC0
      go_wp2_with fail
      refine (HC1.out _ hbw1).mono ?_
      rintro e w2 ⟨rfl, hb2⟩
      have hbw2 := hbw1.trans (hb2.mono hbw1.size)
      have hx2 := HX1.out.below hb2
      have HX2 := hid hx2
      clear hx2 hb2 HC1
      go_wp2_with fail
      go_ret
      exact ⟨ret_int (by rw [purse_no (by have := HBK.out; omega)]), hbw2⟩
    case pos =>
      rw [purse_ok hp1] at hc1
      have HC0 := hid hc0
      have HC1 := hid hc1
      have HBK := hid hbk
      have HX0 := hid ((Boxes.nil w).alloc #[.slice ads ds.length cds, .slice afs fs.length cfs] 55 (0, 0))
      have hbw0 : Below w.heap.size w (w.alloc (.cells #[.slice ads ds.length cds, .slice afs fs.length cfs] 55)) := (Below.refl _ _).alloc (Nat.le_refl _) _
      have HBW := hid hbw0
      clear hr hbk hbw0 hc0 hc1 hds hfs
      go_enter Try.func37, Try.ntmps37
      go_wp2_with fail
      refine (HC0.out _ HBW.out).mono ?_
      rintro e w1 ⟨rfl, hb1⟩
      have hbw1 := HBW.out.trans (hb1.mono (by simp))
      have hx1 := HX0.out.below hb1
      have g1_1 := hx1.at 0 1 rfl rfl
      have HX1 := hid hx1
      clear hx1 hb1 HC0
      go_wp2_with fail
      refine (HC1.out _ hbw1).mono ?_
      rintro e w2 ⟨rfl, hb2⟩
      have hbw2 := hbw1.trans (hb2.mono hbw1.size)
      have hx2 := HX1.out.below hb2
      have HX2 := hid hx2
      clear hx2 hb2 HC1
      go_wp2_with fail
      go_ret
      exact ⟨ret_int (by rw [purse_ok (by have := HBK.out; omega)]; have := HBK.out; omega), hbw2⟩

end Go.Proofs.Ytdcifcfkjhpokaa
