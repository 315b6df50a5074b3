/- Walks of the laws' helpers: the copy of Closure. No condition. -/
import Derived.Test.YtgbiefjokohkkaaSzCl
import Derived.Test.YtgbiefjokohkkaaToCo
import Derived.Test.YtgbiefjokohkkaaToSc
namespace Go.Proofs.Ytgbiefjokohkkaa
open Go.ChangeShapes Go.WideShapes Go.ChangeAt Go.RowKit
open Go.Sort (grow)
set_option linter.unusedVariables false

/-- Handed back: the call's own copy. -/
def GivesCl (tk : Int) (tv : Int) (tds : List Int) (tks : List Co) (es : List Int) (w : World) (e : Ending) (w' : World) : Prop :=
  ∃ (atds : Option Addr) (ctds : Nat) (atks : Option Addr) (ctks : Nat) (aes : Option Addr) (ces : Nat), e = .returned (.agg #[.int .i64 tk, .int .i64 tv, .slice atds tds.length ctds, .slice atks tks.length ctks, .slice aes es.length ces]) ∧ OwnS w' w.heap.size (Cl.d (Cl.mk (Co.mk tk tv tds tks) es)) [.int .i64 tk, .int .i64 tv, .slice atds tds.length ctds, .slice atks tks.length ctks, .slice aes es.length ces] ∧ Below w.heap.size w w'
def GivesCls (ts : List Cl) (w : World) (e : Ending) (w' : World) : Prop :=
  ∃ (a : Option Addr) (c : Nat), e = .returned (.slice a ts.length c) ∧ OwnL w' w.heap.size (Cl.ds ts) (.slice a ts.length c) ∧ Below w.heap.size w w'
abbrev ToCl : Prop := ∀ (tk : Int) (tv : Int) (tds : List Int) (tks : List Co) (es : List Int) (atds : Option Addr) (ctds : Nat) (atks : Option Addr) (ctks : Nat) (aes : Option Addr) (ces : Nat) (w : World), Cl.bulk (Cl.mk (Co.mk tk tv tds tks) es) ≤ 1048576 → RdS w (Cl.d (Cl.mk (Co.mk tk tv tds tks) es)) [.int .i64 tk, .int .i64 tv, .slice atds tds.length ctds, .slice atks tks.length ctks, .slice aes es.length ces] →
  Calls Try.prog 81 #[.agg #[.int .i64 tk, .int .i64 tv, .slice atds tds.length ctds, .slice atks tks.length ctks, .slice aes es.length ces]] w (GivesCl tk tv tds tks es w)
theorem toCl : ToCl := by
  intro tk tv tds tks es atds ctds atks ctks aes ces w hM hr
  have hbk : Cl.bulk (Cl.mk (Co.mk tk tv tds tks) es) = Co.bulk (Co.mk tk tv tds tks) + In.bulks es := rfl
  obtain ⟨⟨⟨lotk, hitk⟩, ⟨lotv, hitv⟩, htds, htks⟩, hes⟩ := hr.fCl
  have hc1 := fun (W : World) (hb : Below w.heap.size w W) => toCo tk tv tds tks atds ctds atks ctks W (by omega) ((RdS.subCl_t hr).below hb)
  have hc2 := fun (W : World) (hb : Below w.heap.size w W) => toIns es aes ces W (by omega) (hes.below hb)
  have HC1 := hid hc1
  have HC2 := hid hc2
  have hB0 : Below w.heap.size w (w.alloc (.cells #[.int .i64 tk, .int .i64 tv, .slice atds tds.length ctds, .slice atks tks.length ctks, .slice aes es.length ces] 51)) := (Below.refl _ _).alloc (Nat.le_refl _) _
  clear hr hbk hM hc1 hc2 hB0 htds htks hes
  go_enter Try.func81, Try.ntmps81
  go_wp2_with fail
  refine (HC1.out _ ((((Below.refl _ _).alloc (Nat.le_refl _) _).alloc (by simp) _).alloc (by simp; omega) _)).mono ?_
  rintro e w1 ⟨atds_1, ctds_1, atks_1, ctks_1, rfl, ho1, hb1⟩
  obtain ⟨hcl1, hfz1⟩ := bcell hb1
  have hz1 : w.heap.size + 1 + 1 < w1.heap.size := by have := hb1.size; simp at this; omega
  have hy1 : w.heap.size + 1 < w1.heap.size := by omega
  have hx1 : w.heap.size < w1.heap.size := by omega
  have hbw1 : Below w.heap.size w w1 := ((((Below.refl _ _).alloc (Nat.le_refl _) _).alloc (by simp) _).alloc (by simp; omega) _).trans (hb1.mono (by simp; omega))
  have HO1 := hid (ho1.mono (base' := w.heap.size + 3) (by simp))
  have HT1 := hid (Nat.le_refl w1.heap.size)
  clear HC1 ho1
  have hbs1 := ((((hbw1.setCell (p := ⟨w.heap.size + 1 + 1, 0, none⟩) (by simp; omega) (.int .i64 tk)).setCell (p := ⟨w.heap.size + 1 + 1, 1, none⟩) (by simp; omega) (.int .i64 tv)).setCell (p := ⟨w.heap.size + 1 + 1, 2, none⟩) (by simp; omega) (.slice atds_1 tds.length ctds_1)).setCell (p := ⟨w.heap.size + 1 + 1, 3, none⟩) (by simp; omega) (.slice atks_1 tks.length ctks_1))
  have HKS1 := hid (((((Keeps.refl (w.heap.size + 3) w1).setCell (p := ⟨w.heap.size + 1 + 1, 0, none⟩) (by simp) (.int .i64 tk)).setCell (p := ⟨w.heap.size + 1 + 1, 1, none⟩) (by simp) (.int .i64 tv)).setCell (p := ⟨w.heap.size + 1 + 1, 2, none⟩) (by simp) (.slice atds_1 tds.length ctds_1)).setCell (p := ⟨w.heap.size + 1 + 1, 3, none⟩) (by simp) (.slice atks_1 tks.length ctks_1))
  go_wp2_with fail
  refine (HC2.out _ hbs1).mono ?_
  rintro e w2 ⟨aes_2, ces_2, rfl, ho2, hb2⟩
  obtain ⟨hcl2, hfz2⟩ := bcell hb2
  have hz2 : w.heap.size + 1 + 1 < w2.heap.size := by have := hb2.size; simp at this; omega
  have hbw2 : Below w.heap.size w w2 := hbs1.trans (hb2.mono hbs1.size)
  have hsz2 : w1.heap.size ≤ w2.heap.size := by have := hb2.size; simpa using this
  have HK2 := hid (HKS1.out.below hb2)
  have HO2 := hid (ho2.mono (base' := w1.heap.size) (by simp))
  clear HC2 ho2 HKS1
  go_wp2_with fail
  refine bodyPost_ret (v := .agg #[.int .i64 tk, .int .i64 tv, .slice atds_1 tds.length ctds_1, .slice atks_1 tks.length ctks_1, .slice aes_2 es.length ces_2]) (by simp [results, Try.results81, go_sem, hcl1, hcl2, hy1]) rfl ⟨atds_1, ctds_1, atks_1, ctks_1, aes_2, ces_2, rfl, ?_, ?_⟩
  · have hfin := ((((((HK2.out.setCell (p := ⟨w.heap.size + 1 + 1, 4, none⟩) (by simp) (.slice aes_2 es.length ces_2)).setCell (p := ⟨w.heap.size + 1, 0, none⟩) (by simp) (.int .i64 tk)).setCell (p := ⟨w.heap.size + 1, 1, none⟩) (by simp) (.int .i64 tv)).setCell (p := ⟨w.heap.size + 1, 2, none⟩) (by simp) (.slice atds_1 tds.length ctds_1)).setCell (p := ⟨w.heap.size + 1, 3, none⟩) (by simp) (.slice atks_1 tks.length ctks_1)).setCell (p := ⟨w.heap.size + 1, 4, none⟩) (by simp) (.slice aes_2 es.length ces_2))
    have hfin2 := (((((((Keeps.refl (w.heap.size + 3) w2).setCell (p := ⟨w.heap.size + 1 + 1, 4, none⟩) (by simp) (.slice aes_2 es.length ces_2)).setCell (p := ⟨w.heap.size + 1, 0, none⟩) (by simp) (.int .i64 tk)).setCell (p := ⟨w.heap.size + 1, 1, none⟩) (by simp) (.int .i64 tv)).setCell (p := ⟨w.heap.size + 1, 2, none⟩) (by simp) (.slice atds_1 tds.length ctds_1)).setCell (p := ⟨w.heap.size + 1, 3, none⟩) (by simp) (.slice atks_1 tks.length ctks_1)).setCell (p := ⟨w.heap.size + 1, 4, none⟩) (by simp) (.slice aes_2 es.length ces_2))
    have hp := (PartAll.cons (HO1.out.part.keeps hfin (by first | exact Nat.le_refl _ | omega) (Nat.le_refl _)) (PartAll.cons (HO2.out.part.keeps hfin2 (by first | exact Nat.le_refl _ | omega) (Nat.le_refl _)) (PartAll.nil _ w2.heap.size w2.heap.size) (Nat.le_refl _) (by omega) (by omega)) (Nat.le_refl _) (by omega) (by omega))
    exact OwnS.mono (base := w.heap.size + 3) hp.own (by omega)
  · exact ((((((hbw2.setCell (by simp; try omega) _).setCell (by simp; try omega) _).setCell (by simp; try omega) _).setCell (by simp; try omega) _).setCell (by simp; try omega) _).setCell (by simp; try omega) _)

theorem infoCl : (Try.prog.info? 59).map (fun i => (i.zero, i.size, i.bytes)) = some (some (.agg #[.int .i64 0, .int .i64 0, .slice none 0 0, .slice none 0 0, .slice none 0 0]), 5, 88) := by kernel_rfl
end Go.Proofs.Ytgbiefjokohkkaa
