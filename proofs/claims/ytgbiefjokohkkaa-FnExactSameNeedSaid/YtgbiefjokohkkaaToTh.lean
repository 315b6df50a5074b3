/- Walks of the laws' helpers: the copy of Thunk. No condition. -/
import Derived.Test.YtgbiefjokohkkaaSzTh
import Derived.Test.YtgbiefjokohkkaaToCl
import Derived.Test.YtgbiefjokohkkaaToSc
namespace Go.Proofs.Ytgbiefjokohkkaa
open Go.ChangeShapes Go.WideShapes Go.ChangeAt Go.RowKit
open Go.Sort (grow)
set_option linter.unusedVariables false

/-- Handed back: the call's own copy. -/
def GivesTh (dn : Bool) (ctk : Int) (ctv : Int) (ctds : List Int) (ctks : List Co) (ces : List Int) (w : World) (e : Ending) (w' : World) : Prop :=
  ∃ (actds : Option Addr) (cctds : Nat) (actks : Option Addr) (cctks : Nat) (aces : Option Addr) (cces : Nat), e = .returned (.agg #[.bool dn, .int .i64 ctk, .int .i64 ctv, .slice actds ctds.length cctds, .slice actks ctks.length cctks, .slice aces ces.length cces]) ∧ OwnS w' w.heap.size (Th.d (Th.mk dn (Cl.mk (Co.mk ctk ctv ctds ctks) ces))) [.bool dn, .int .i64 ctk, .int .i64 ctv, .slice actds ctds.length cctds, .slice actks ctks.length cctks, .slice aces ces.length cces] ∧ Below w.heap.size w w'
def GivesThs (ts : List Th) (w : World) (e : Ending) (w' : World) : Prop :=
  ∃ (a : Option Addr) (c : Nat), e = .returned (.slice a ts.length c) ∧ OwnL w' w.heap.size (Th.ds ts) (.slice a ts.length c) ∧ Below w.heap.size w w'
abbrev ToTh : Prop := ∀ (dn : Bool) (ctk : Int) (ctv : Int) (ctds : List Int) (ctks : List Co) (ces : List Int) (actds : Option Addr) (cctds : Nat) (actks : Option Addr) (cctks : Nat) (aces : Option Addr) (cces : Nat) (w : World), Th.bulk (Th.mk dn (Cl.mk (Co.mk ctk ctv ctds ctks) ces)) ≤ 1048576 → RdS w (Th.d (Th.mk dn (Cl.mk (Co.mk ctk ctv ctds ctks) ces))) [.bool dn, .int .i64 ctk, .int .i64 ctv, .slice actds ctds.length cctds, .slice actks ctks.length cctks, .slice aces ces.length cces] →
  Calls Try.prog 121 #[.agg #[.bool dn, .int .i64 ctk, .int .i64 ctv, .slice actds ctds.length cctds, .slice actks ctks.length cctks, .slice aces ces.length cces]] w (GivesTh dn ctk ctv ctds ctks ces w)
theorem toTh : ToTh := by
  intro dn ctk ctv ctds ctks ces actds cctds actks cctks aces cces w hM hr
  have hbk : Th.bulk (Th.mk dn (Cl.mk (Co.mk ctk ctv ctds ctks) ces)) = Cl.bulk (Cl.mk (Co.mk ctk ctv ctds ctks) ces) := rfl
  obtain ⟨⟨⟨loctk, hictk⟩, ⟨loctv, hictv⟩, hctds, hctks⟩, hces⟩ := hr.fTh
  have hc1 := fun (W : World) (hb : Below w.heap.size w W) => toCl ctk ctv ctds ctks ces actds cctds actks cctks aces cces W (by omega) ((RdS.subTh_c hr).below hb)
  have HC1 := hid hc1
  have hB0 : Below w.heap.size w (w.alloc (.cells #[.bool dn, .int .i64 ctk, .int .i64 ctv, .slice actds ctds.length cctds, .slice actks ctks.length cctks, .slice aces ces.length cces] 131)) := (Below.refl _ _).alloc (Nat.le_refl _) _
  clear hr hbk hM hc1 hB0 hctds hctks hces
  go_enter Try.func121, Try.ntmps121
  go_wp2_with fail
  refine (HC1.out _ ((((Below.refl _ _).alloc (Nat.le_refl _) _).alloc (by simp) _).alloc (by simp; omega) _)).mono ?_
  rintro e w1 ⟨actds_1, cctds_1, actks_1, cctks_1, aces_1, cces_1, rfl, ho1, hb1⟩
  obtain ⟨hcl1, hfz1⟩ := bcell hb1
  have hz1 : w.heap.size + 1 + 1 < w1.heap.size := by have := hb1.size; simp at this; omega
  have hbw1 : Below w.heap.size w w1 := ((((Below.refl _ _).alloc (Nat.le_refl _) _).alloc (by simp) _).alloc (by simp; omega) _).trans (hb1.mono (by simp; omega))
  have HO1 := hid (ho1.mono (base' := w.heap.size + 3) (by simp))
  have HT1 := hid (Nat.le_refl w1.heap.size)
  clear HC1 ho1
  go_wp2_with fail
  refine bodyPost_ret (v := .agg #[.bool dn, .int .i64 ctk, .int .i64 ctv, .slice actds_1 ctds.length cctds_1, .slice actks_1 ctks.length cctks_1, .slice aces_1 ces.length cces_1]) (by simp [results, Try.results121, go_sem, hcl1]) rfl ⟨actds_1, cctds_1, actks_1, cctks_1, aces_1, cces_1, rfl, ?_, ?_⟩
  · have hfin := ((((((((((((Keeps.refl (w.heap.size + 3) w1).setCell (p := ⟨w.heap.size + 1 + 1, 1, none⟩) (by simp) (.int .i64 ctk)).setCell (p := ⟨w.heap.size + 1 + 1, 2, none⟩) (by simp) (.int .i64 ctv)).setCell (p := ⟨w.heap.size + 1 + 1, 3, none⟩) (by simp) (.slice actds_1 ctds.length cctds_1)).setCell (p := ⟨w.heap.size + 1 + 1, 4, none⟩) (by simp) (.slice actks_1 ctks.length cctks_1)).setCell (p := ⟨w.heap.size + 1 + 1, 5, none⟩) (by simp) (.slice aces_1 ces.length cces_1)).setCell (p := ⟨w.heap.size + 1, 0, none⟩) (by simp) (.bool dn)).setCell (p := ⟨w.heap.size + 1, 1, none⟩) (by simp) (.int .i64 ctk)).setCell (p := ⟨w.heap.size + 1, 2, none⟩) (by simp) (.int .i64 ctv)).setCell (p := ⟨w.heap.size + 1, 3, none⟩) (by simp) (.slice actds_1 ctds.length cctds_1)).setCell (p := ⟨w.heap.size + 1, 4, none⟩) (by simp) (.slice actks_1 ctks.length cctks_1)).setCell (p := ⟨w.heap.size + 1, 5, none⟩) (by simp) (.slice aces_1 ces.length cces_1))
    have hp := ((PartAll.cons (HO1.out.part.keeps hfin (by first | exact Nat.le_refl _ | omega) (Nat.le_refl _)) (PartAll.nil _ w1.heap.size w1.heap.size) (Nat.le_refl _) (by omega) (by omega)).plain (Rd.bool_mk (b := dn)))
    exact OwnS.mono (base := w.heap.size + 3) hp.own (by omega)
  · exact (((((((((((hbw1.setCell (by simp; try omega) _).setCell (by simp; try omega) _).setCell (by simp; try omega) _).setCell (by simp; try omega) _).setCell (by simp; try omega) _).setCell (by simp; try omega) _).setCell (by simp; try omega) _).setCell (by simp; try omega) _).setCell (by simp; try omega) _).setCell (by simp; try omega) _).setCell (by simp; try omega) _)

theorem infoTh : (Try.prog.info? 108).map (fun i => (i.zero, i.size, i.bytes)) = some (some (.agg #[.bool false, .int .i64 0, .int .i64 0, .slice none 0 0, .slice none 0 0, .slice none 0 0]), 6, 96) := by kernel_rfl
theorem makeTh (n : Nat) (hn : n ≤ 1048576) : ∃ C : Array Value, C.size = n * 6 ∧ ∀ w : World, (Instr.makeSlice 61 (.int .i64 (n : Int)) (.int .i64 (n : Int))).run Try.prog w = .ok (.slice (some ⟨w.heap.size, 0, none⟩) n n) (w.alloc (.cells C 108)) := by
  obtain ⟨i, hi, hz, hs, hb⟩ := info_parts infoTh
  refine ⟨madeCells (Value.cells (.agg #[.bool false, .int .i64 0, .int .i64 0, .slice none 0 0, .slice none 0 0, .slice none 0 0])) (n * 6), size_madeCells _ _, fun w => ?_⟩
  have := run_make (P := Try.prog) w 61 108 i _ Try.underlying61 hi hz .i64 .i64 n n (by omega) (Int.le_refl _) (by rw [hb]; omega) (by omega)
  simp only [Int.toNat_natCast, hs] at this
  exact this
theorem toThs (ts : List Th) (a : Option Addr) (c : Nat) (w : World) (hM : Th.bulks ts ≤ 1048576) (hr : RdL w (Th.ds ts) (.slice a ts.length c)) :
    Calls Try.prog 83 #[.slice a ts.length c] w (GivesThs ts w) := by
  obtain ⟨_, _, e, h2, h3, h4⟩ := hr.eTh
  simp only [Value.slice.injEq, true_and] at e
  obtain ⟨rfl, rfl⟩ := e
  have hl := Th.bulks_length ts
  obtain ⟨C, hC, hmk⟩ := makeTh ts.length (by omega)
  have HC := hid hC
  have H4 := hid h4
  clear hr h4 hC
  go_enter Try.func83, Try.ntmps83
  go_wp2_with fail
  clear hmk
  go_loopw [4] (fun i wr => ∃ (j : Nat), j ≤ ts.length ∧ i = .int .i64 j ∧ ∃ (cur : Array Value) (F : List Nat), wr.heap[w.heap.size]? = some (.cells cur 108 (0, 0)) ∧ Hid (cur.size = ts.length * 6) ∧ Hid (RdAll wr (Th.ds (ts.take j)) (cur.toList.take (j * 6)) F) ∧ Owned wr (w.heap.size + 1) F ∧ Below w.heap.size w wr) (fun i _ => ts.length - (intOf i).toNat)
  case atStart => exact ⟨0, by omega, rfl, C, [], heap_alloc_new _ _, HC.out, by show RdAll _ _ _ _; simpa [Th.ds] using RdAll.nil, Owned.nil _ _, (Below.refl _ _).alloc (Nat.le_refl _) _⟩
  case round =>
    obtain ⟨j, hj, rfl, cur, F, hcur, HS, HR, HO, hb⟩ := hrel
    by_cases hlt : j < ts.length
    · obtain ⟨b, o, rfl, hbl, hall⟩ := H4.out (by omega)
      obtain ⟨t, ht⟩ : ∃ t, ts[j]? = some t := ⟨_, List.getElem?_eq_getElem hlt⟩
      obtain ⟨dn1, ⟨⟨ctk1, ctv1, ctds1, ctks1⟩, ces1⟩⟩ := t
      obtain ⟨actds1, cctds1, actks1, cctks1, aces1, cces1, q0, q1, q2, q3, q4, q5, hrk⟩ := hall j dn1 ctk1 ctv1 ctds1 ctks1 ces1 ht
      clear hall H4
      have d0 := (hb.cell (p := ⟨b, o + j * 6, none⟩) hbl).trans q0
      have d1 := (hb.cell (p := ⟨b, o + j * 6 + 1, none⟩) hbl).trans q1
      have d2 := (hb.cell (p := ⟨b, o + j * 6 + 2, none⟩) hbl).trans q2
      have d3 := (hb.cell (p := ⟨b, o + j * 6 + 3, none⟩) hbl).trans q3
      have d4 := (hb.cell (p := ⟨b, o + j * 6 + 4, none⟩) hbl).trans q4
      have d5 := (hb.cell (p := ⟨b, o + j * 6 + 5, none⟩) hbl).trans q5
      have HT := hid ht
      have hbg := Th.bulk_get ts j _ ht
      have hfc := hrk.fTh
      have HFC := hid hfc
      have hc := toTh dn1 ctk1 ctv1 ctds1 ctks1 ces1 actds1 cctds1 actks1 cctks1 aces1 cces1 wr (by omega) (hrk.below hb)
      have HC := hid hc
      have HU := hid hcur
      clear ht hrk q0 q1 q2 q3 q4 q5 hc hcur hfc
      go_wp2_with fail
      refine HC.out.mono ?_
      clear HC
      rintro e w1 ⟨actds2, cctds2, actks2, cctks2, aces2, cces2, rfl, hown, hb1⟩
      have hB : w.heap.size < wr.heap.size := (Array.getElem?_eq_some_iff.1 HU.out).1
      have hcur1 : w1.heap[w.heap.size]? = some (.cells cur 108 (0, 0)) := (hb1.block _ hB).trans HU.out
      have hsz : j * 6 + 5 < cur.size := by have := HS.out; omega
      have e0 : w1.cell? ⟨w.heap.size, j * 6, none⟩ = some (cur[j * 6]'(by omega)) := by simp [World.cell?, hcur1]
      have f0 : w1.frozen? ⟨w.heap.size, j * 6, none⟩ = false := by simp [World.frozen?, hcur1]
      have e1 : w1.cell? ⟨w.heap.size, j * 6 + 1, none⟩ = some (cur[j * 6 + 1]'(by omega)) := by simp [World.cell?, hcur1]
      have f1 : w1.frozen? ⟨w.heap.size, j * 6 + 1, none⟩ = false := by simp [World.frozen?, hcur1]
      have e2 : w1.cell? ⟨w.heap.size, j * 6 + 2, none⟩ = some (cur[j * 6 + 2]'(by omega)) := by simp [World.cell?, hcur1]
      have f2 : w1.frozen? ⟨w.heap.size, j * 6 + 2, none⟩ = false := by simp [World.frozen?, hcur1]
      have e3 : w1.cell? ⟨w.heap.size, j * 6 + 3, none⟩ = some (cur[j * 6 + 3]'(by omega)) := by simp [World.cell?, hcur1]
      have f3 : w1.frozen? ⟨w.heap.size, j * 6 + 3, none⟩ = false := by simp [World.frozen?, hcur1]
      have e4 : w1.cell? ⟨w.heap.size, j * 6 + 4, none⟩ = some (cur[j * 6 + 4]'(by omega)) := by simp [World.cell?, hcur1]
      have f4 : w1.frozen? ⟨w.heap.size, j * 6 + 4, none⟩ = false := by simp [World.frozen?, hcur1]
      have e5 : w1.cell? ⟨w.heap.size, j * 6 + 5, none⟩ = some (cur[j * 6 + 5]'(by omega)) := by simp [World.cell?, hcur1]
      have f5 : w1.frozen? ⟨w.heap.size, j * 6 + 5, none⟩ = false := by simp [World.frozen?, hcur1]
      have HCU := hid hcur1
      have HW := hid hown
      clear hcur1 hown
      go_wp2_with fail
      obtain ⟨F3, hr3, ho3⟩ := HW.out
      have hlo3 : ∀ y ∈ F3, wr.heap.size ≤ y := fun y hy => (ho3.2 y hy).1
      have hlo : ∀ x ∈ F, x < wr.heap.size := HO.lt
      obtain ⟨cur', H, g1, g2, g3, g4, g5⟩ := fill_step (m := 6) (base := w.heap.size + 1) HCU.out rfl (by have := HS.out; omega) (HR.out.below hb1) hr3 (HO.keep fun b hb => hb1.block b (hlo b hb)) (ho3.mono (by omega))
        (fun x hx => by have := (HO.2 x hx).1; omega) (fun x hx => by have := hlo3 x hx; omega) (fun x hx y hy => by have := hlo x hx; have := hlo3 y hy; omega)
      have hbw : Below w.heap.size w (setMany w1 w.heap.size (j * 6) [.bool dn1, .int .i64 ctk1, .int .i64 ctv1, .slice actds2 ctds1.length cctds2, .slice actks2 ctks1.length cctks2, .slice aces2 ces1.length cces2]) := Below.setMany _ _ (hb.trans (hb1.mono hb.size)) (Nat.le_refl _)
      have htk : Th.ds (ts.take (j + 1)) = Th.ds (ts.take j) ++ [Th.d (Th.mk dn1 (Cl.mk (Co.mk ctk1 ctv1 ctds1 ctks1) ces1))] := Th.ds_snoc ts j _ HT.out
      go_roundw
      case rel => exact ⟨j + 1, by omega, by go_num, cur', H, g1, by show _ = _; rw [g2]; exact HS.out, by show RdAll _ _ _ _; rw [htk]; exact g3, g4, hbw⟩
      case measure => simp [intOf]; omega
    · obtain rfl : j = ts.length := by omega
      rw [List.take_length] at HR
      go_wp2_with fail
      go_ret
      obtain ⟨G, q1, q2⟩ := fill_done (m := 6) (base := w.heap.size) hcur HS.out (Th.ds_length ts) (by omega) HR.out (HO.mono (by omega)) (Nat.le_refl _) (fun x hx => by have := (HO.2 x hx).1; omega)
      exact ⟨_, _, rfl, ⟨G, q1, q2⟩, hb⟩

end Go.Proofs.Ytgbiefjokohkkaa
