/- Walks of the laws' helpers: the copy of Book. No condition. -/
import Derived.Test.YtejdbmeoaekhcaaSzBk
import Derived.Test.YtejdbmeoaekhcaaToCo
import Derived.Test.YtejdbmeoaekhcaaToSc
namespace Go.Proofs.Ytejdbmeoaekhcaa
open Go.ChangeShapes Go.WideShapes Go.ChangeAt Go.RowKit
open Go.Sort (grow)
set_option linter.unusedVariables false

/-- Handed back: the call's own copy. -/
def GivesBk (fs : List Co) (w : World) (e : Ending) (w' : World) : Prop :=
  ∃ (afs : Option Addr) (cfs : Nat), e = .returned (.agg #[.slice afs fs.length cfs]) ∧ OwnS w' w.heap.size (Bk.d (Bk.mk fs)) [.slice afs fs.length cfs] ∧ Below w.heap.size w w'
def GivesBks (ts : List Bk) (w : World) (e : Ending) (w' : World) : Prop :=
  ∃ (a : Option Addr) (c : Nat), e = .returned (.slice a ts.length c) ∧ OwnL w' w.heap.size (Bk.ds ts) (.slice a ts.length c) ∧ Below w.heap.size w w'
abbrev ToBk : Prop := ∀ (fs : List Co) (afs : Option Addr) (cfs : Nat) (w : World), Bk.bulk (Bk.mk fs) ≤ 1048576 → RdS w (Bk.d (Bk.mk fs)) [.slice afs fs.length cfs] →
  Calls Try.prog 8 #[.agg #[.slice afs fs.length cfs]] w (GivesBk fs w)
theorem toBk : ToBk := by
  intro fs afs cfs w hM hr
  have hbk : Bk.bulk (Bk.mk fs) = Co.bulks fs := rfl
  obtain hfs := hr.fBk
  have hc1 := fun (W : World) (hb : Below w.heap.size w W) => toCos fs afs cfs W (by omega) (hfs.below hb)
  have HC1 := hid hc1
  have hB0 : Below w.heap.size w (w.alloc (.cells #[.slice afs fs.length cfs] 24)) := (Below.refl _ _).alloc (Nat.le_refl _) _
  clear hr hbk hM hc1 hB0 hfs
  go_enter Try.func8, Try.ntmps8
  go_wp2_with fail
  refine (HC1.out _ ((((Below.refl _ _).alloc (Nat.le_refl _) _).alloc (by simp) _).alloc (by simp; omega) _)).mono ?_
  rintro e w1 ⟨afs_1, cfs_1, rfl, ho1, hb1⟩
  obtain ⟨hcl1, hfz1⟩ := bcell hb1
  have hz1 : w.heap.size + 1 + 1 < w1.heap.size := by have := hb1.size; simp at this; omega
  have hbw1 : Below w.heap.size w w1 := ((((Below.refl _ _).alloc (Nat.le_refl _) _).alloc (by simp) _).alloc (by simp; omega) _).trans (hb1.mono (by simp; omega))
  have HO1 := hid (ho1.mono (base' := w.heap.size + 3) (by simp))
  have HT1 := hid (Nat.le_refl w1.heap.size)
  clear HC1 ho1
  go_wp2_with fail
  refine bodyPost_ret (v := .agg #[.slice afs_1 fs.length cfs_1]) (by simp [results, Try.results8, go_sem, hcl1]) rfl ⟨afs_1, cfs_1, rfl, ?_, ?_⟩
  · have hfin := (((Keeps.refl (w.heap.size + 3) w1).setCell (p := ⟨w.heap.size + 1 + 1, 0, none⟩) (by simp) (.slice afs_1 fs.length cfs_1)).setCell (p := ⟨w.heap.size + 1, 0, none⟩) (by simp) (.slice afs_1 fs.length cfs_1))
    have hp := (PartAll.cons (HO1.out.part.keeps hfin (by first | exact Nat.le_refl _ | omega) (Nat.le_refl _)) (PartAll.nil _ w1.heap.size w1.heap.size) (Nat.le_refl _) (by omega) (by omega))
    exact OwnS.mono (base := w.heap.size + 3) hp.own (by omega)
  · exact ((hbw1.setCell (by simp; try omega) _).setCell (by simp; try omega) _)

theorem infoBk : (Try.prog.info? 33).map (fun i => (i.zero, i.size, i.bytes)) = some (some (.agg #[.slice none 0 0]), 1, 24) := by kernel_rfl
end Go.Proofs.Ytejdbmeoaekhcaa
