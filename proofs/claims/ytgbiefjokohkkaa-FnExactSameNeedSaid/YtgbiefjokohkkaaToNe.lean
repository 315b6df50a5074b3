/- Walks of the laws' helpers: the copy of Need. No condition. -/
import Derived.Test.YtgbiefjokohkkaaSzNe
import Derived.Test.YtgbiefjokohkkaaToCl
import Derived.Test.YtgbiefjokohkkaaToFr
import Derived.Test.YtgbiefjokohkkaaToTh
import Derived.Test.YtgbiefjokohkkaaToSc
namespace Go.Proofs.Ytgbiefjokohkkaa
open Go.ChangeShapes Go.WideShapes Go.ChangeAt Go.RowKit
open Go.Sort (grow)
set_option linter.unusedVariables false

/-- Handed back: the call's own copy. -/
def GivesNe (ctk : Int) (ctv : Int) (ctds : List Int) (ctks : List Co) (ces : List Int) (ss : List Fr) (hs : List Th) (w : World) (e : Ending) (w' : World) : Prop :=
  ∃ (actds : Option Addr) (cctds : Nat) (actks : Option Addr) (cctks : Nat) (aces : Option Addr) (cces : Nat) (ass : Option Addr) (css : Nat) (ahs : Option Addr) (chs : Nat), e = .returned (.agg #[.int .i64 ctk, .int .i64 ctv, .slice actds ctds.length cctds, .slice actks ctks.length cctks, .slice aces ces.length cces, .slice ass ss.length css, .slice ahs hs.length chs]) ∧ OwnS w' w.heap.size (Ne.d (Ne.mk (Cl.mk (Co.mk ctk ctv ctds ctks) ces) ss hs)) [.int .i64 ctk, .int .i64 ctv, .slice actds ctds.length cctds, .slice actks ctks.length cctks, .slice aces ces.length cces, .slice ass ss.length css, .slice ahs hs.length chs] ∧ Below w.heap.size w w'
def GivesNes (ts : List Ne) (w : World) (e : Ending) (w' : World) : Prop :=
  ∃ (a : Option Addr) (c : Nat), e = .returned (.slice a ts.length c) ∧ OwnL w' w.heap.size (Ne.ds ts) (.slice a ts.length c) ∧ Below w.heap.size w w'
abbrev ToNe : Prop := ∀ (ctk : Int) (ctv : Int) (ctds : List Int) (ctks : List Co) (ces : List Int) (ss : List Fr) (hs : List Th) (actds : Option Addr) (cctds : Nat) (actks : Option Addr) (cctks : Nat) (aces : Option Addr) (cces : Nat) (ass : Option Addr) (css : Nat) (ahs : Option Addr) (chs : Nat) (w : World), Ne.bulk (Ne.mk (Cl.mk (Co.mk ctk ctv ctds ctks) ces) ss hs) ≤ 1048576 → RdS w (Ne.d (Ne.mk (Cl.mk (Co.mk ctk ctv ctds ctks) ces) ss hs)) [.int .i64 ctk, .int .i64 ctv, .slice actds ctds.length cctds, .slice actks ctks.length cctks, .slice aces ces.length cces, .slice ass ss.length css, .slice ahs hs.length chs] →
  Calls Try.prog 42 #[.agg #[.int .i64 ctk, .int .i64 ctv, .slice actds ctds.length cctds, .slice actks ctks.length cctks, .slice aces ces.length cces, .slice ass ss.length css, .slice ahs hs.length chs]] w (GivesNe ctk ctv ctds ctks ces ss hs w)
theorem toNe : ToNe := by
  intro ctk ctv ctds ctks ces ss hs actds cctds actks cctks aces cces ass css ahs chs w hM hr
  have hbk : Ne.bulk (Ne.mk (Cl.mk (Co.mk ctk ctv ctds ctks) ces) ss hs) = Cl.bulk (Cl.mk (Co.mk ctk ctv ctds ctks) ces) + Fr.bulks ss + Th.bulks hs := rfl
  obtain ⟨⟨⟨⟨loctk, hictk⟩, ⟨loctv, hictv⟩, hctds, hctks⟩, hces⟩, hss, hhs⟩ := hr.fNe
  have hc1 := fun (W : World) (hb : Below w.heap.size w W) => toCl ctk ctv ctds ctks ces actds cctds actks cctks aces cces W (by omega) ((RdS.subNe_c hr).below hb)
  have hc2 := fun (W : World) (hb : Below w.heap.size w W) => toFrs ss ass css W (by omega) (hss.below hb)
  have hc3 := fun (W : World) (hb : Below w.heap.size w W) => toThs hs ahs chs W (by omega) (hhs.below hb)
  have HC1 := hid hc1
  have HC2 := hid hc2
  have HC3 := hid hc3
  have hB0 : Below w.heap.size w (w.alloc (.cells #[.int .i64 ctk, .int .i64 ctv, .slice actds ctds.length cctds, .slice actks ctks.length cctks, .slice aces ces.length cces, .slice ass ss.length css, .slice ahs hs.length chs] 55)) := (Below.refl _ _).alloc (Nat.le_refl _) _
  clear hr hbk hM hc1 hc2 hc3 hB0 hctds hctks hces hss hhs
  go_enter Try.func42, Try.ntmps42
  go_wp2_with fail
  refine (HC1.out _ ((((Below.refl _ _).alloc (Nat.le_refl _) _).alloc (by simp) _).alloc (by simp; omega) _)).mono ?_
  rintro e w1 ⟨actds_1, cctds_1, actks_1, cctks_1, aces_1, cces_1, rfl, ho1, hb1⟩
  obtain ⟨hcl1, hfz1⟩ := bcell hb1
  have hz1 : w.heap.size + 1 + 1 < w1.heap.size := by have := hb1.size; simp at this; omega
  have hy1 : w.heap.size + 1 < w1.heap.size := by omega
  have hx1 : w.heap.size < w1.heap.size := by omega
  have hbw1 : Below w.heap.size w w1 := ((((Below.refl _ _).alloc (Nat.le_refl _) _).alloc (by simp) _).alloc (by simp; omega) _).trans (hb1.mono (by simp; omega))
  have HO1 := hid (ho1.mono (base' := w.heap.size + 3) (by simp))
  have HT1 := hid (Nat.le_refl w1.heap.size)
  clear HC1 ho1
  have hbs1 := (((((hbw1.setCell (p := ⟨w.heap.size + 1 + 1, 0, none⟩) (by simp; omega) (.int .i64 ctk)).setCell (p := ⟨w.heap.size + 1 + 1, 1, none⟩) (by simp; omega) (.int .i64 ctv)).setCell (p := ⟨w.heap.size + 1 + 1, 2, none⟩) (by simp; omega) (.slice actds_1 ctds.length cctds_1)).setCell (p := ⟨w.heap.size + 1 + 1, 3, none⟩) (by simp; omega) (.slice actks_1 ctks.length cctks_1)).setCell (p := ⟨w.heap.size + 1 + 1, 4, none⟩) (by simp; omega) (.slice aces_1 ces.length cces_1))
  have HKS1 := hid ((((((Keeps.refl (w.heap.size + 3) w1).setCell (p := ⟨w.heap.size + 1 + 1, 0, none⟩) (by simp) (.int .i64 ctk)).setCell (p := ⟨w.heap.size + 1 + 1, 1, none⟩) (by simp) (.int .i64 ctv)).setCell (p := ⟨w.heap.size + 1 + 1, 2, none⟩) (by simp) (.slice actds_1 ctds.length cctds_1)).setCell (p := ⟨w.heap.size + 1 + 1, 3, none⟩) (by simp) (.slice actks_1 ctks.length cctks_1)).setCell (p := ⟨w.heap.size + 1 + 1, 4, none⟩) (by simp) (.slice aces_1 ces.length cces_1))
  go_wp2_with fail
  refine (HC2.out _ hbs1).mono ?_
  rintro e w2 ⟨ass_2, css_2, rfl, ho2, hb2⟩
  obtain ⟨hcl2, hfz2⟩ := bcell hb2
  have hz2 : w.heap.size + 1 + 1 < w2.heap.size := by have := hb2.size; simp at this; omega
  have hy2 : w.heap.size + 1 < w2.heap.size := by omega
  have hx2 : w.heap.size < w2.heap.size := by omega
  have hbw2 : Below w.heap.size w w2 := hbs1.trans (hb2.mono hbs1.size)
  have hsz2 : w1.heap.size ≤ w2.heap.size := by have := hb2.size; simpa using this
  have HK2 := hid (HKS1.out.below hb2)
  have HO2 := hid (ho2.mono (base' := w1.heap.size) (by simp))
  clear HC2 ho2 HKS1
  have hbs2 := (hbw2.setCell (p := ⟨w.heap.size + 1 + 1, 5, none⟩) (by simp; omega) (.slice ass_2 ss.length css_2))
  have HKS2 := hid (HK2.out.setCell (p := ⟨w.heap.size + 1 + 1, 5, none⟩) (by simp) (.slice ass_2 ss.length css_2))
  go_wp2_with fail
  refine (HC3.out _ hbs2).mono ?_
  rintro e w3 ⟨ahs_3, chs_3, rfl, ho3, hb3⟩
  obtain ⟨hcl3, hfz3⟩ := bcell hb3
  have hz3 : w.heap.size + 1 + 1 < w3.heap.size := by have := hb3.size; simp at this; omega
  have hbw3 : Below w.heap.size w w3 := hbs2.trans (hb3.mono hbs2.size)
  have hsz3 : w2.heap.size ≤ w3.heap.size := by have := hb3.size; simpa using this
  have HK3 := hid (HKS2.out.below hb3)
  have HO3 := hid (ho3.mono (base' := w2.heap.size) (by simp))
  clear HC3 ho3 HKS2
  go_wp2_with fail
  refine bodyPost_ret (v := .agg #[.int .i64 ctk, .int .i64 ctv, .slice actds_1 ctds.length cctds_1, .slice actks_1 ctks.length cctks_1, .slice aces_1 ces.length cces_1, .slice ass_2 ss.length css_2, .slice ahs_3 hs.length chs_3]) (by simp [results, Try.results42, go_sem, hcl1, hcl2, hcl3, hy1, hy2]) rfl ⟨actds_1, cctds_1, actks_1, cctks_1, aces_1, cces_1, ass_2, css_2, ahs_3, chs_3, rfl, ?_, ?_⟩
  · have hfin := ((((((((HK3.out.setCell (p := ⟨w.heap.size + 1 + 1, 6, none⟩) (by simp) (.slice ahs_3 hs.length chs_3)).setCell (p := ⟨w.heap.size + 1, 0, none⟩) (by simp) (.int .i64 ctk)).setCell (p := ⟨w.heap.size + 1, 1, none⟩) (by simp) (.int .i64 ctv)).setCell (p := ⟨w.heap.size + 1, 2, none⟩) (by simp) (.slice actds_1 ctds.length cctds_1)).setCell (p := ⟨w.heap.size + 1, 3, none⟩) (by simp) (.slice actks_1 ctks.length cctks_1)).setCell (p := ⟨w.heap.size + 1, 4, none⟩) (by simp) (.slice aces_1 ces.length cces_1)).setCell (p := ⟨w.heap.size + 1, 5, none⟩) (by simp) (.slice ass_2 ss.length css_2)).setCell (p := ⟨w.heap.size + 1, 6, none⟩) (by simp) (.slice ahs_3 hs.length chs_3))
    have hfin2 := (((((((((((Keeps.refl (w.heap.size + 3) w2).setCell (p := ⟨w.heap.size + 1 + 1, 5, none⟩) (by simp) (.slice ass_2 ss.length css_2)).below hb3).setCell (p := ⟨w.heap.size + 1 + 1, 6, none⟩) (by simp) (.slice ahs_3 hs.length chs_3)).setCell (p := ⟨w.heap.size + 1, 0, none⟩) (by simp) (.int .i64 ctk)).setCell (p := ⟨w.heap.size + 1, 1, none⟩) (by simp) (.int .i64 ctv)).setCell (p := ⟨w.heap.size + 1, 2, none⟩) (by simp) (.slice actds_1 ctds.length cctds_1)).setCell (p := ⟨w.heap.size + 1, 3, none⟩) (by simp) (.slice actks_1 ctks.length cctks_1)).setCell (p := ⟨w.heap.size + 1, 4, none⟩) (by simp) (.slice aces_1 ces.length cces_1)).setCell (p := ⟨w.heap.size + 1, 5, none⟩) (by simp) (.slice ass_2 ss.length css_2)).setCell (p := ⟨w.heap.size + 1, 6, none⟩) (by simp) (.slice ahs_3 hs.length chs_3))
    have hfin3 := (((((((((Keeps.refl (w.heap.size + 3) w3).setCell (p := ⟨w.heap.size + 1 + 1, 6, none⟩) (by simp) (.slice ahs_3 hs.length chs_3)).setCell (p := ⟨w.heap.size + 1, 0, none⟩) (by simp) (.int .i64 ctk)).setCell (p := ⟨w.heap.size + 1, 1, none⟩) (by simp) (.int .i64 ctv)).setCell (p := ⟨w.heap.size + 1, 2, none⟩) (by simp) (.slice actds_1 ctds.length cctds_1)).setCell (p := ⟨w.heap.size + 1, 3, none⟩) (by simp) (.slice actks_1 ctks.length cctks_1)).setCell (p := ⟨w.heap.size + 1, 4, none⟩) (by simp) (.slice aces_1 ces.length cces_1)).setCell (p := ⟨w.heap.size + 1, 5, none⟩) (by simp) (.slice ass_2 ss.length css_2)).setCell (p := ⟨w.heap.size + 1, 6, none⟩) (by simp) (.slice ahs_3 hs.length chs_3))
    have hp := (PartAll.cons (HO1.out.part.keeps hfin (by first | exact Nat.le_refl _ | omega) (Nat.le_refl _)) (PartAll.cons (HO2.out.part.keeps hfin2 (by first | exact Nat.le_refl _ | omega) (Nat.le_refl _)) (PartAll.cons (HO3.out.part.keeps hfin3 (by first | exact Nat.le_refl _ | omega) (Nat.le_refl _)) (PartAll.nil _ w3.heap.size w3.heap.size) (Nat.le_refl _) (by omega) (by omega)) (Nat.le_refl _) (by omega) (by omega)) (Nat.le_refl _) (by omega) (by omega))
    exact OwnS.mono (base := w.heap.size + 3) hp.own (by omega)
  · exact ((((((((hbw3.setCell (by simp; try omega) _).setCell (by simp; try omega) _).setCell (by simp; try omega) _).setCell (by simp; try omega) _).setCell (by simp; try omega) _).setCell (by simp; try omega) _).setCell (by simp; try omega) _).setCell (by simp; try omega) _)

theorem infoNe : (Try.prog.info? 63).map (fun i => (i.zero, i.size, i.bytes)) = some (some (.agg #[.int .i64 0, .int .i64 0, .slice none 0 0, .slice none 0 0, .slice none 0 0, .slice none 0 0, .slice none 0 0]), 7, 136) := by kernel_rfl
end Go.Proofs.Ytgbiefjokohkkaa
