/- Walks of the laws' helpers: the size of Book. No condition. -/
import Derived.Test.YtejdbmeoaekhcaaDBk
import Derived.Test.YtejdbmeoaekhcaaSzCo
import Derived.Test.YtejdbmeoaekhcaaSzSc
import Derived.Lib.QuietBelow
namespace Go.Proofs.Ytejdbmeoaekhcaa
open Go.ChangeShapes Go.WideShapes Go.ChangeAt Go.RowKit
open Go.Sort (grow)
set_option linter.unusedVariables false

abbrev SzBk : Prop := ∀ (fs : List Co) (afs : Option Addr) (cfs : Nat) (left : Int) (w : World), RdS w (Bk.d (Bk.mk fs)) [.slice afs fs.length cfs] → 0 ≤ left → left ≤ 1048576 →
  Calls Try.prog 5 #[.agg #[.slice afs fs.length cfs], .int .i64 left] w fun e w' => e = .returned (.int .i64 (purse left (Bk.bulk (Bk.mk fs)))) ∧ Below w.heap.size w w'
theorem szBk : SzBk := by
  intro fs afs cfs left w hr h0 h1
  have hbk : Bk.bulk (Bk.mk fs) = Co.bulks fs := rfl
  obtain hfs := hr.fBk
  have hc0 := fun (W : World) (hb : Below w.heap.size w W) => (szCos fs afs cfs (left) W (hfs.below hb) (by omega) (by omega))
  by_cases hp0 : ((Co.bulks fs : Nat) : Int) ≤ left
  case neg =>
    rw [purse_no hp0] at hc0
    have HC0 := hid hc0
    have HBK := hid hbk
    have HX0 := hid ((Boxes.nil w).alloc #[.slice afs fs.length cfs] 24 (0, 0))
    have hbw0 : Below w.heap.size w (w.alloc (.cells #[.slice afs fs.length cfs] 24)) := (Below.refl _ _).alloc (Nat.le_refl _) _
    have HBW := hid hbw0
    clear hr hbk hbw0 hc0 hfs
    go_enter Try.func5, Try.ntmps5
    go_wp2_with fail
    refine (HC0.out _ HBW.out).mono ?_
    rintro e w1 ⟨rfl, hb1⟩
    have hbw1 := HBW.out.trans (hb1.mono (by simp))
    have hx1 := HX0.out.below hb1
    have HX1 := hid hx1
    clear hx1 hb1 HC0
    go_wp2_with fail
    go_ret
    exact ⟨ret_int (by rw [purse_no (by have := HBK.out; omega)]), hbw1⟩
  case pos =>
    rw [purse_ok hp0] at hc0
    have HC0 := hid hc0
    have HBK := hid hbk
    have HX0 := hid ((Boxes.nil w).alloc #[.slice afs fs.length cfs] 24 (0, 0))
    have hbw0 : Below w.heap.size w (w.alloc (.cells #[.slice afs fs.length cfs] 24)) := (Below.refl _ _).alloc (Nat.le_refl _) _
    have HBW := hid hbw0
    clear hr hbk hbw0 hc0 hfs
    go_enter Try.func5, Try.ntmps5
    go_wp2_with fail
    refine (HC0.out _ HBW.out).mono ?_
    rintro e w1 ⟨rfl, hb1⟩
    have hbw1 := HBW.out.trans (hb1.mono (by simp))
    have hx1 := HX0.out.below hb1
    have HX1 := hid hx1
    clear hx1 hb1 HC0
    go_wp2_with fail
    go_ret
    exact ⟨ret_int (by rw [purse_ok (by have := HBK.out; omega)]; have := HBK.out; omega), hbw1⟩

end Go.Proofs.Ytejdbmeoaekhcaa
