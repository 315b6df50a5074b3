/- Walks of the laws' helpers: the copy of Frame. No condition. -/
import Derived.Test.YtgbiefjokohkkaaSzFr
import Derived.Test.YtgbiefjokohkkaaToCl
import Derived.Test.YtgbiefjokohkkaaToSc
namespace Go.Proofs.Ytgbiefjokohkkaa
open Go.ChangeShapes Go.WideShapes Go.ChangeAt Go.RowKit
open Go.Sort (grow)
set_option linter.unusedVariables false

/-- Handed back: the call's own copy. -/
def GivesFr (k : Int) (v : Int) (ds : List Int) (ctk : Int) (ctv : Int) (ctds : List Int) (ctks : List Co) (ces : List Int) (w : World) (e : Ending) (w' : World) : Prop :=
  ∃ (ads : Option Addr) (cds : Nat) (actds : Option Addr) (cctds : Nat) (actks : Option Addr) (cctks : Nat) (aces : Option Addr) (cces : Nat), e = .returned (.agg #[.int .i64 k, .int .i64 v, .slice ads ds.length cds, .int .i64 ctk, .int .i64 ctv, .slice actds ctds.length cctds, .slice actks ctks.length cctks, .slice aces ces.length cces]) ∧ OwnS w' w.heap.size (Fr.d (Fr.mk k v ds (Cl.mk (Co.mk ctk ctv ctds ctks) ces))) [.int .i64 k, .int .i64 v, .slice ads ds.length cds, .int .i64 ctk, .int .i64 ctv, .slice actds ctds.length cctds, .slice actks ctks.length cctks, .slice aces ces.length cces] ∧ Below w.heap.size w w'
def GivesFrs (ts : List Fr) (w : World) (e : Ending) (w' : World) : Prop :=
  ∃ (a : Option Addr) (c : Nat), e = .returned (.slice a ts.length c) ∧ OwnL w' w.heap.size (Fr.ds ts) (.slice a ts.length c) ∧ Below w.heap.size w w'
abbrev ToFr : Prop := ∀ (k : Int) (v : Int) (ds : List Int) (ctk : Int) (ctv : Int) (ctds : List Int) (ctks : List Co) (ces : List Int) (ads : Option Addr) (cds : Nat) (actds : Option Addr) (cctds : Nat) (actks : Option Addr) (cctks : Nat) (aces : Option Addr) (cces : Nat) (w : World), Fr.bulk (Fr.mk k v ds (Cl.mk (Co.mk ctk ctv ctds ctks) ces)) ≤ 1048576 → RdS w (Fr.d (Fr.mk k v ds (Cl.mk (Co.mk ctk ctv ctds ctks) ces))) [.int .i64 k, .int .i64 v, .slice ads ds.length cds, .int .i64 ctk, .int .i64 ctv, .slice actds ctds.length cctds, .slice actks ctks.length cctks, .slice aces ces.length cces] →
  Calls Try.prog 120 #[.agg #[.int .i64 k, .int .i64 v, .slice ads ds.length cds, .int .i64 ctk, .int .i64 ctv, .slice actds ctds.length cctds, .slice actks ctks.length cctks, .slice aces ces.length cces]] w (GivesFr k v ds ctk ctv ctds ctks ces w)
theorem toFr : ToFr := by
  intro k v ds ctk ctv ctds ctks ces ads cds actds cctds actks cctks aces cces w hM hr
  have hbk : Fr.bulk (Fr.mk k v ds (Cl.mk (Co.mk ctk ctv ctds ctks) ces)) = In.bulks ds + Cl.bulk (Cl.mk (Co.mk ctk ctv ctds ctks) ces) := rfl
  obtain ⟨⟨lok, hik⟩, ⟨lov, hiv⟩, hds, ⟨⟨⟨loctk, hictk⟩, ⟨loctv, hictv⟩, hctds, hctks⟩, hces⟩⟩ := hr.fFr
  have hc1 := fun (W : World) (hb : Below w.heap.size w W) => toIns ds ads cds W (by omega) (hds.below hb)
  have hc2 := fun (W : World) (hb : Below w.heap.size w W) => toCl ctk ctv ctds ctks ces actds cctds actks cctks aces cces W (by omega) ((RdS.subFr_c hr).below hb)
  have HC1 := hid hc1
  have HC2 := hid hc2
  have hB0 : Below w.heap.size w (w.alloc (.cells #[.int .i64 k, .int .i64 v, .slice ads ds.length cds, .int .i64 ctk, .int .i64 ctv, .slice actds ctds.length cctds, .slice actks ctks.length cctks, .slice aces ces.length cces] 128)) := (Below.refl _ _).alloc (Nat.le_refl _) _
  clear hr hbk hM hc1 hc2 hB0 hds hctds hctks hces
  go_enter Try.func120, Try.ntmps120
  go_wp2_with fail
  refine (HC1.out _ ((((Below.refl _ _).alloc (Nat.le_refl _) _).alloc (by simp) _).alloc (by simp; omega) _)).mono ?_
  rintro e w1 ⟨ads_1, cds_1, rfl, ho1, hb1⟩
  obtain ⟨hcl1, hfz1⟩ := bcell hb1
  have hz1 : w.heap.size + 1 + 1 < w1.heap.size := by have := hb1.size; simp at this; omega
  have hy1 : w.heap.size + 1 < w1.heap.size := by omega
  have hx1 : w.heap.size < w1.heap.size := by omega
  have hbw1 : Below w.heap.size w w1 := ((((Below.refl _ _).alloc (Nat.le_refl _) _).alloc (by simp) _).alloc (by simp; omega) _).trans (hb1.mono (by simp; omega))
  have HO1 := hid (ho1.mono (base' := w.heap.size + 3) (by simp))
  have HT1 := hid (Nat.le_refl w1.heap.size)
  clear HC1 ho1
  have hbs1 := (hbw1.setCell (p := ⟨w.heap.size + 1 + 1, 2, none⟩) (by simp; omega) (.slice ads_1 ds.length cds_1))
  have HKS1 := hid ((Keeps.refl (w.heap.size + 3) w1).setCell (p := ⟨w.heap.size + 1 + 1, 2, none⟩) (by simp) (.slice ads_1 ds.length cds_1))
  go_wp2_with fail
  refine (HC2.out _ hbs1).mono ?_
  rintro e w2 ⟨actds_2, cctds_2, actks_2, cctks_2, aces_2, cces_2, rfl, ho2, hb2⟩
  obtain ⟨hcl2, hfz2⟩ := bcell hb2
  have hz2 : w.heap.size + 1 + 1 < w2.heap.size := by have := hb2.size; simp at this; omega
  have hbw2 : Below w.heap.size w w2 := hbs1.trans (hb2.mono hbs1.size)
  have hsz2 : w1.heap.size ≤ w2.heap.size := by have := hb2.size; simpa using this
  have HK2 := hid (HKS1.out.below hb2)
  have HO2 := hid (ho2.mono (base' := w1.heap.size) (by simp))
  clear HC2 ho2 HKS1
  go_wp2_with fail
  refine bodyPost_ret (v := .agg #[.int .i64 k, .int .i64 v, .slice ads_1 ds.length cds_1, .int .i64 ctk, .int .i64 ctv, .slice actds_2 ctds.length cctds_2, .slice actks_2 ctks.length cctks_2, .slice aces_2 ces.length cces_2]) (by simp [results, Try.results120, go_sem, hcl1, hcl2, hy1]) rfl ⟨ads_1, cds_1, actds_2, cctds_2, actks_2, cctks_2, aces_2, cces_2, rfl, ?_, ?_⟩
  · have hfin := (((((((((((((HK2.out.setCell (p := ⟨w.heap.size + 1 + 1, 3, none⟩) (by simp) (.int .i64 ctk)).setCell (p := ⟨w.heap.size + 1 + 1, 4, none⟩) (by simp) (.int .i64 ctv)).setCell (p := ⟨w.heap.size + 1 + 1, 5, none⟩) (by simp) (.slice actds_2 ctds.length cctds_2)).setCell (p := ⟨w.heap.size + 1 + 1, 6, none⟩) (by simp) (.slice actks_2 ctks.length cctks_2)).setCell (p := ⟨w.heap.size + 1 + 1, 7, none⟩) (by simp) (.slice aces_2 ces.length cces_2)).setCell (p := ⟨w.heap.size + 1, 0, none⟩) (by simp) (.int .i64 k)).setCell (p := ⟨w.heap.size + 1, 1, none⟩) (by simp) (.int .i64 v)).setCell (p := ⟨w.heap.size + 1, 2, none⟩) (by simp) (.slice ads_1 ds.length cds_1)).setCell (p := ⟨w.heap.size + 1, 3, none⟩) (by simp) (.int .i64 ctk)).setCell (p := ⟨w.heap.size + 1, 4, none⟩) (by simp) (.int .i64 ctv)).setCell (p := ⟨w.heap.size + 1, 5, none⟩) (by simp) (.slice actds_2 ctds.length cctds_2)).setCell (p := ⟨w.heap.size + 1, 6, none⟩) (by simp) (.slice actks_2 ctks.length cctks_2)).setCell (p := ⟨w.heap.size + 1, 7, none⟩) (by simp) (.slice aces_2 ces.length cces_2))
    have hfin2 := ((((((((((((((Keeps.refl (w.heap.size + 3) w2).setCell (p := ⟨w.heap.size + 1 + 1, 3, none⟩) (by simp) (.int .i64 ctk)).setCell (p := ⟨w.heap.size + 1 + 1, 4, none⟩) (by simp) (.int .i64 ctv)).setCell (p := ⟨w.heap.size + 1 + 1, 5, none⟩) (by simp) (.slice actds_2 ctds.length cctds_2)).setCell (p := ⟨w.heap.size + 1 + 1, 6, none⟩) (by simp) (.slice actks_2 ctks.length cctks_2)).setCell (p := ⟨w.heap.size + 1 + 1, 7, none⟩) (by simp) (.slice aces_2 ces.length cces_2)).setCell (p := ⟨w.heap.size + 1, 0, none⟩) (by simp) (.int .i64 k)).setCell (p := ⟨w.heap.size + 1, 1, none⟩) (by simp) (.int .i64 v)).setCell (p := ⟨w.heap.size + 1, 2, none⟩) (by simp) (.slice ads_1 ds.length cds_1)).setCell (p := ⟨w.heap.size + 1, 3, none⟩) (by simp) (.int .i64 ctk)).setCell (p := ⟨w.heap.size + 1, 4, none⟩) (by simp) (.int .i64 ctv)).setCell (p := ⟨w.heap.size + 1, 5, none⟩) (by simp) (.slice actds_2 ctds.length cctds_2)).setCell (p := ⟨w.heap.size + 1, 6, none⟩) (by simp) (.slice actks_2 ctks.length cctks_2)).setCell (p := ⟨w.heap.size + 1, 7, none⟩) (by simp) (.slice aces_2 ces.length cces_2))
    have hp := (((PartAll.cons (HO1.out.part.keeps hfin (by first | exact Nat.le_refl _ | omega) (Nat.le_refl _)) (PartAll.cons (HO2.out.part.keeps hfin2 (by first | exact Nat.le_refl _ | omega) (Nat.le_refl _)) (PartAll.nil _ w2.heap.size w2.heap.size) (Nat.le_refl _) (by omega) (by omega)) (Nat.le_refl _) (by omega) (by omega)).plain (Rd.int_mk lov hiv)).plain (Rd.int_mk lok hik))
    exact OwnS.mono (base := w.heap.size + 3) hp.own (by omega)
  · exact (((((((((((((hbw2.setCell (by simp; try omega) _).setCell (by simp; try omega) _).setCell (by simp; try omega) _).setCell (by simp; try omega) _).setCell (by simp; try omega) _).setCell (by simp; try omega) _).setCell (by simp; try omega) _).setCell (by simp; try omega) _).setCell (by simp; try omega) _).setCell (by simp; try omega) _).setCell (by simp; try omega) _).setCell (by simp; try omega) _).setCell (by simp; try omega) _)

theorem infoFr : (Try.prog.info? 104).map (fun i => (i.zero, i.size, i.bytes)) = some (some (.agg #[.int .i64 0, .int .i64 0, .slice none 0 0, .int .i64 0, .int .i64 0, .slice none 0 0, .slice none 0 0, .slice none 0 0]), 8, 128) := by kernel_rfl
theorem makeFr (n : Nat) (hn : n ≤ 1048576) : ∃ C : Array Value, C.size = n * 8 ∧ ∀ w : World, (Instr.makeSlice 60 (.int .i64 (n : Int)) (.int .i64 (n : Int))).run Try.prog w = .ok (.slice (some ⟨w.heap.size, 0, none⟩) n n) (w.alloc (.cells C 104)) := by
  obtain ⟨i, hi, hz, hs, hb⟩ := info_parts infoFr
  refine ⟨madeCells (Value.cells (.agg #[.int .i64 0, .int .i64 0, .slice none 0 0, .int .i64 0, .int .i64 0, .slice none 0 0, .slice none 0 0, .slice none 0 0])) (n * 8), size_madeCells _ _, fun w => ?_⟩
  have := run_make (P := Try.prog) w 60 104 i _ Try.underlying60 hi hz .i64 .i64 n n (by omega) (Int.le_refl _) (by rw [hb]; omega) (by omega)
  simp only [Int.toNat_natCast, hs] at this
  exact this
theorem toFrs (ts : List Fr) (a : Option Addr) (c : Nat) (w : World) (hM : Fr.bulks ts ≤ 1048576) (hr : RdL w (Fr.ds ts) (.slice a ts.length c)) :
    Calls Try.prog 82 #[.slice a ts.length c] w (GivesFrs ts w) := by
  obtain ⟨_, _, e, h2, h3, h4⟩ := hr.eFr
  simp only [Value.slice.injEq, true_and] at e
  obtain ⟨rfl, rfl⟩ := e
  have hl := Fr.bulks_length ts
  obtain ⟨C, hC, hmk⟩ := makeFr ts.length (by omega)
  have HC := hid hC
  have H4 := hid h4
  clear hr h4 hC
  go_enter Try.func82, Try.ntmps82
  go_wp2_with fail
  clear hmk
  go_loopw [4] (fun i wr => ∃ (j : Nat), j ≤ ts.length ∧ i = .int .i64 j ∧ ∃ (cur : Array Value) (F : List Nat), wr.heap[w.heap.size]? = some (.cells cur 104 (0, 0)) ∧ Hid (cur.size = ts.length * 8) ∧ Hid (RdAll wr (Fr.ds (ts.take j)) (cur.toList.take (j * 8)) F) ∧ Owned wr (w.heap.size + 1) F ∧ Below w.heap.size w wr) (fun i _ => ts.length - (intOf i).toNat)
  case atStart => exact ⟨0, by omega, rfl, C, [], heap_alloc_new _ _, HC.out, by show RdAll _ _ _ _; simpa [Fr.ds] using RdAll.nil, Owned.nil _ _, (Below.refl _ _).alloc (Nat.le_refl _) _⟩
  case round =>
    obtain ⟨j, hj, rfl, cur, F, hcur, HS, HR, HO, hb⟩ := hrel
    by_cases hlt : j < ts.length
    · obtain ⟨b, o, rfl, hbl, hall⟩ := H4.out (by omega)
      obtain ⟨t, ht⟩ : ∃ t, ts[j]? = some t := ⟨_, List.getElem?_eq_getElem hlt⟩
      obtain ⟨k1, v1, ds1, ⟨⟨ctk1, ctv1, ctds1, ctks1⟩, ces1⟩⟩ := t
      obtain ⟨ads1, cds1, actds1, cctds1, actks1, cctks1, aces1, cces1, q0, q1, q2, q3, q4, q5, q6, q7, hrk⟩ := hall j k1 v1 ds1 ctk1 ctv1 ctds1 ctks1 ces1 ht
      clear hall H4
      have d0 := (hb.cell (p := ⟨b, o + j * 8, none⟩) hbl).trans q0
      have d1 := (hb.cell (p := ⟨b, o + j * 8 + 1, none⟩) hbl).trans q1
      have d2 := (hb.cell (p := ⟨b, o + j * 8 + 2, none⟩) hbl).trans q2
      have d3 := (hb.cell (p := ⟨b, o + j * 8 + 3, none⟩) hbl).trans q3
      have d4 := (hb.cell (p := ⟨b, o + j * 8 + 4, none⟩) hbl).trans q4
      have d5 := (hb.cell (p := ⟨b, o + j * 8 + 5, none⟩) hbl).trans q5
      have d6 := (hb.cell (p := ⟨b, o + j * 8 + 6, none⟩) hbl).trans q6
      have d7 := (hb.cell (p := ⟨b, o + j * 8 + 7, none⟩) hbl).trans q7
      have HT := hid ht
      have hbg := Fr.bulk_get ts j _ ht
      have hfc := hrk.fFr
      have HFC := hid hfc
      have hc := toFr k1 v1 ds1 ctk1 ctv1 ctds1 ctks1 ces1 ads1 cds1 actds1 cctds1 actks1 cctks1 aces1 cces1 wr (by omega) (hrk.below hb)
      have HC := hid hc
      have HU := hid hcur
      clear ht hrk q0 q1 q2 q3 q4 q5 q6 q7 hc hcur hfc
      go_wp2_with fail
      refine HC.out.mono ?_
      clear HC
      rintro e w1 ⟨ads2, cds2, actds2, cctds2, actks2, cctks2, aces2, cces2, rfl, hown, hb1⟩
      have hB : w.heap.size < wr.heap.size := (Array.getElem?_eq_some_iff.1 HU.out).1
      have hcur1 : w1.heap[w.heap.size]? = some (.cells cur 104 (0, 0)) := (hb1.block _ hB).trans HU.out
      have hsz : j * 8 + 7 < cur.size := by have := HS.out; omega
      have e0 : w1.cell? ⟨w.heap.size, j * 8, none⟩ = some (cur[j * 8]'(by omega)) := by simp [World.cell?, hcur1]
      have f0 : w1.frozen? ⟨w.heap.size, j * 8, none⟩ = false := by simp [World.frozen?, hcur1]
      have e1 : w1.cell? ⟨w.heap.size, j * 8 + 1, none⟩ = some (cur[j * 8 + 1]'(by omega)) := by simp [World.cell?, hcur1]
      have f1 : w1.frozen? ⟨w.heap.size, j * 8 + 1, none⟩ = false := by simp [World.frozen?, hcur1]
      have e2 : w1.cell? ⟨w.heap.size, j * 8 + 2, none⟩ = some (cur[j * 8 + 2]'(by omega)) := by simp [World.cell?, hcur1]
      have f2 : w1.frozen? ⟨w.heap.size, j * 8 + 2, none⟩ = false := by simp [World.frozen?, hcur1]
      have e3 : w1.cell? ⟨w.heap.size, j * 8 + 3, none⟩ = some (cur[j * 8 + 3]'(by omega)) := by simp [World.cell?, hcur1]
      have f3 : w1.frozen? ⟨w.heap.size, j * 8 + 3, none⟩ = false := by simp [World.frozen?, hcur1]
      have e4 : w1.cell? ⟨w.heap.size, j * 8 + 4, none⟩ = some (cur[j * 8 + 4]'(by omega)) := by simp [World.cell?, hcur1]
      have f4 : w1.frozen? ⟨w.heap.size, j * 8 + 4, none⟩ = false := by simp [World.frozen?, hcur1]
      have e5 : w1.cell? ⟨w.heap.size, j * 8 + 5, none⟩ = some (cur[j * 8 + 5]'(by omega)) := by simp [World.cell?, hcur1]
      have f5 : w1.frozen? ⟨w.heap.size, j * 8 + 5, none⟩ = false := by simp [World.frozen?, hcur1]
      have e6 : w1.cell? ⟨w.heap.size, j * 8 + 6, none⟩ = some (cur[j * 8 + 6]'(by omega)) := by simp [World.cell?, hcur1]
      have f6 : w1.frozen? ⟨w.heap.size, j * 8 + 6, none⟩ = false := by simp [World.frozen?, hcur1]
      have e7 : w1.cell? ⟨w.heap.size, j * 8 + 7, none⟩ = some (cur[j * 8 + 7]'(by omega)) := by simp [World.cell?, hcur1]
      have f7 : w1.frozen? ⟨w.heap.size, j * 8 + 7, none⟩ = false := by simp [World.frozen?, hcur1]
      have HCU := hid hcur1
      have HW := hid hown
      clear hcur1 hown
      go_wp2_with fail
      obtain ⟨F3, hr3, ho3⟩ := HW.out
      have hlo3 : ∀ y ∈ F3, wr.heap.size ≤ y := fun y hy => (ho3.2 y hy).1
      have hlo : ∀ x ∈ F, x < wr.heap.size := HO.lt
      obtain ⟨cur', H, g1, g2, g3, g4, g5⟩ := fill_step (m := 8) (base := w.heap.size + 1) HCU.out rfl (by have := HS.out; omega) (HR.out.below hb1) hr3 (HO.keep fun b hb => hb1.block b (hlo b hb)) (ho3.mono (by omega))
        (fun x hx => by have := (HO.2 x hx).1; omega) (fun x hx => by have := hlo3 x hx; omega) (fun x hx y hy => by have := hlo x hx; have := hlo3 y hy; omega)
      have hbw : Below w.heap.size w (setMany w1 w.heap.size (j * 8) [.int .i64 k1, .int .i64 v1, .slice ads2 ds1.length cds2, .int .i64 ctk1, .int .i64 ctv1, .slice actds2 ctds1.length cctds2, .slice actks2 ctks1.length cctks2, .slice aces2 ces1.length cces2]) := Below.setMany _ _ (hb.trans (hb1.mono hb.size)) (Nat.le_refl _)
      have htk : Fr.ds (ts.take (j + 1)) = Fr.ds (ts.take j) ++ [Fr.d (Fr.mk k1 v1 ds1 (Cl.mk (Co.mk ctk1 ctv1 ctds1 ctks1) ces1))] := Fr.ds_snoc ts j _ HT.out
      go_roundw
      case rel => exact ⟨j + 1, by omega, by go_num, cur', H, g1, by show _ = _; rw [g2]; exact HS.out, by show RdAll _ _ _ _; rw [htk]; exact g3, g4, hbw⟩
      case measure => simp [intOf]; omega
    · obtain rfl : j = ts.length := by omega
      rw [List.take_length] at HR
      go_wp2_with fail
      go_ret
      obtain ⟨G, q1, q2⟩ := fill_done (m := 8) (base := w.heap.size) hcur HS.out (Fr.ds_length ts) (by omega) HR.out (HO.mono (by omega)) (Nat.le_refl _) (fun x hx => by have := (HO.2 x hx).1; omega)
      exact ⟨_, _, rfl, ⟨G, q1, q2⟩, hb⟩

end Go.Proofs.Ytgbiefjokohkkaa
