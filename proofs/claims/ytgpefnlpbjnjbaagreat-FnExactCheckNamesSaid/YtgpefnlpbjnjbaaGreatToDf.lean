/- Walks of the laws' helpers: the copy of Def. No condition. -/
import Derived.Test.YtgpefnlpbjnjbaaGreatSzDf
import Derived.Test.YtgpefnlpbjnjbaaGreatToTm
import Derived.Test.YtgpefnlpbjnjbaaGreatToTy
import Derived.Test.YtgpefnlpbjnjbaaGreatToSc
namespace Go.Proofs.YtgpefnlpbjnjbaaGreat
open Go.ChangeShapes Go.WideShapes Go.ChangeAt Go.RowKit
open Go.Sort (grow)
set_option linter.unusedVariables false

/-- Handed back: the call's own copy. -/
def GivesDf (n : ByteArray) (tk : Int) (tn : ByteArray) (tks : List Ty) (bk : Int) (bu : Int) (bn : ByteArray) (btk : Int) (btn : ByteArray) (btks : List Ty) (bns : List ByteArray) (bks : List Tm) (w : World) (e : Ending) (w' : World) : Prop :=
  ∃ (atks : Option Addr) (ctks : Nat) (abtks : Option Addr) (cbtks : Nat) (abns : Option Addr) (cbns : Nat) (abks : Option Addr) (cbks : Nat), e = .returned (.agg #[.string n, .int .i64 tk, .string tn, .slice atks tks.length ctks, .int .i64 bk, .int .i64 bu, .string bn, .int .i64 btk, .string btn, .slice abtks btks.length cbtks, .slice abns bns.length cbns, .slice abks bks.length cbks]) ∧ OwnS w' w.heap.size (Df.d (Df.mk n (Ty.mk tk tn tks) (Tm.mk bk bu bn (Ty.mk btk btn btks) bns bks))) [.string n, .int .i64 tk, .string tn, .slice atks tks.length ctks, .int .i64 bk, .int .i64 bu, .string bn, .int .i64 btk, .string btn, .slice abtks btks.length cbtks, .slice abns bns.length cbns, .slice abks bks.length cbks] ∧ Below w.heap.size w w'
def GivesDfs (ts : List Df) (w : World) (e : Ending) (w' : World) : Prop :=
  ∃ (a : Option Addr) (c : Nat), e = .returned (.slice a ts.length c) ∧ OwnL w' w.heap.size (Df.ds ts) (.slice a ts.length c) ∧ Below w.heap.size w w'
abbrev ToDf : Prop := ∀ (n : ByteArray) (tk : Int) (tn : ByteArray) (tks : List Ty) (bk : Int) (bu : Int) (bn : ByteArray) (btk : Int) (btn : ByteArray) (btks : List Ty) (bns : List ByteArray) (bks : List Tm) (atks : Option Addr) (ctks : Nat) (abtks : Option Addr) (cbtks : Nat) (abns : Option Addr) (cbns : Nat) (abks : Option Addr) (cbks : Nat) (w : World), Df.bulk (Df.mk n (Ty.mk tk tn tks) (Tm.mk bk bu bn (Ty.mk btk btn btks) bns bks)) ≤ 1048576 → RdS w (Df.d (Df.mk n (Ty.mk tk tn tks) (Tm.mk bk bu bn (Ty.mk btk btn btks) bns bks))) [.string n, .int .i64 tk, .string tn, .slice atks tks.length ctks, .int .i64 bk, .int .i64 bu, .string bn, .int .i64 btk, .string btn, .slice abtks btks.length cbtks, .slice abns bns.length cbns, .slice abks bks.length cbks] →
  Calls Tryz.prog 51 #[.agg #[.string n, .int .i64 tk, .string tn, .slice atks tks.length ctks, .int .i64 bk, .int .i64 bu, .string bn, .int .i64 btk, .string btn, .slice abtks btks.length cbtks, .slice abns bns.length cbns, .slice abks bks.length cbks]] w (GivesDf n tk tn tks bk bu bn btk btn btks bns bks w)
theorem toDf : ToDf := by
  intro n tk tn tks bk bu bn btk btn btks bns bks atks ctks abtks cbtks abns cbns abks cbks w hM hr
  have hbk : Df.bulk (Df.mk n (Ty.mk tk tn tks) (Tm.mk bk bu bn (Ty.mk btk btn btks) bns bks)) = n.size + Ty.bulk (Ty.mk tk tn tks) + Tm.bulk (Tm.mk bk bu bn (Ty.mk btk btn btks) bns bks) := rfl
  obtain ⟨zn, ⟨⟨lotk, hitk⟩, ztn, htks⟩, ⟨⟨lobk, hibk⟩, ⟨lobu, hibu⟩, zbn, ⟨⟨lobtk, hibtk⟩, zbtn, hbtks⟩, hbns, hbks⟩⟩ := hr.fDf
  have hc1 := fun (W : World) (hb : Below w.heap.size w W) => toTy tk tn tks atks ctks W (by omega) ((RdS.subDf_t hr).below hb)
  have hc2 := fun (W : World) (hb : Below w.heap.size w W) => toTm bk bu bn btk btn btks bns bks abtks cbtks abns cbns abks cbks W (by omega) ((RdS.subDf_b hr).below hb)
  have HC1 := hid hc1
  have HC2 := hid hc2
  have hB0 : Below w.heap.size w (w.alloc (.cells #[.string n, .int .i64 tk, .string tn, .slice atks tks.length ctks, .int .i64 bk, .int .i64 bu, .string bn, .int .i64 btk, .string btn, .slice abtks btks.length cbtks, .slice abns bns.length cbns, .slice abks bks.length cbks] 85)) := (Below.refl _ _).alloc (Nat.le_refl _) _
  clear hr hbk hM hc1 hc2 hB0 htks hbtks hbns hbks
  go_enter Tryz.func51, Tryz.ntmps51
  go_wp2_with fail
  refine (HC1.out _ ((((Below.refl _ _).alloc (Nat.le_refl _) _).alloc (by simp) _).alloc (by simp; omega) _)).mono ?_
  rintro e w1 ⟨atks_1, ctks_1, rfl, ho1, hb1⟩
  obtain ⟨hcl1, hfz1⟩ := bcell hb1
  have hz1 : w.heap.size + 1 + 1 < w1.heap.size := by have := hb1.size; simp at this; omega
  have hy1 : w.heap.size + 1 < w1.heap.size := by omega
  have hx1 : w.heap.size < w1.heap.size := by omega
  have hbw1 : Below w.heap.size w w1 := ((((Below.refl _ _).alloc (Nat.le_refl _) _).alloc (by simp) _).alloc (by simp; omega) _).trans (hb1.mono (by simp; omega))
  have HO1 := hid (ho1.mono (base' := w.heap.size + 3) (by simp))
  have HT1 := hid (Nat.le_refl w1.heap.size)
  clear HC1 ho1
  have hbs1 := (((hbw1.setCell (p := ⟨w.heap.size + 1 + 1, 1, none⟩) (by simp; omega) (.int .i64 tk)).setCell (p := ⟨w.heap.size + 1 + 1, 2, none⟩) (by simp; omega) (.string tn)).setCell (p := ⟨w.heap.size + 1 + 1, 3, none⟩) (by simp; omega) (.slice atks_1 tks.length ctks_1))
  have HKS1 := hid ((((Keeps.refl (w.heap.size + 3) w1).setCell (p := ⟨w.heap.size + 1 + 1, 1, none⟩) (by simp) (.int .i64 tk)).setCell (p := ⟨w.heap.size + 1 + 1, 2, none⟩) (by simp) (.string tn)).setCell (p := ⟨w.heap.size + 1 + 1, 3, none⟩) (by simp) (.slice atks_1 tks.length ctks_1))
  go_wp2_with fail
  refine (HC2.out _ hbs1).mono ?_
  rintro e w2 ⟨abtks_2, cbtks_2, abns_2, cbns_2, abks_2, cbks_2, rfl, ho2, hb2⟩
  obtain ⟨hcl2, hfz2⟩ := bcell hb2
  have hz2 : w.heap.size + 1 + 1 < w2.heap.size := by have := hb2.size; simp at this; omega
  have hbw2 : Below w.heap.size w w2 := hbs1.trans (hb2.mono hbs1.size)
  have hsz2 : w1.heap.size ≤ w2.heap.size := by have := hb2.size; simpa using this
  have HK2 := hid (HKS1.out.below hb2)
  have HO2 := hid (ho2.mono (base' := w1.heap.size) (by simp))
  clear HC2 ho2 HKS1
  go_wp2_with fail
  refine bodyPost_ret (v := .agg #[.string n, .int .i64 tk, .string tn, .slice atks_1 tks.length ctks_1, .int .i64 bk, .int .i64 bu, .string bn, .int .i64 btk, .string btn, .slice abtks_2 btks.length cbtks_2, .slice abns_2 bns.length cbns_2, .slice abks_2 bks.length cbks_2]) (by simp [results, Tryz.results51, go_sem, hcl1, hcl2, hy1]) rfl ⟨atks_1, ctks_1, abtks_2, cbtks_2, abns_2, cbns_2, abks_2, cbks_2, rfl, ?_, ?_⟩
  · have hfin := ((((((((((((((((((((HK2.out.setCell (p := ⟨w.heap.size + 1 + 1, 4, none⟩) (by simp) (.int .i64 bk)).setCell (p := ⟨w.heap.size + 1 + 1, 5, none⟩) (by simp) (.int .i64 bu)).setCell (p := ⟨w.heap.size + 1 + 1, 6, none⟩) (by simp) (.string bn)).setCell (p := ⟨w.heap.size + 1 + 1, 7, none⟩) (by simp) (.int .i64 btk)).setCell (p := ⟨w.heap.size + 1 + 1, 8, none⟩) (by simp) (.string btn)).setCell (p := ⟨w.heap.size + 1 + 1, 9, none⟩) (by simp) (.slice abtks_2 btks.length cbtks_2)).setCell (p := ⟨w.heap.size + 1 + 1, 10, none⟩) (by simp) (.slice abns_2 bns.length cbns_2)).setCell (p := ⟨w.heap.size + 1 + 1, 11, none⟩) (by simp) (.slice abks_2 bks.length cbks_2)).setCell (p := ⟨w.heap.size + 1, 0, none⟩) (by simp) (.string n)).setCell (p := ⟨w.heap.size + 1, 1, none⟩) (by simp) (.int .i64 tk)).setCell (p := ⟨w.heap.size + 1, 2, none⟩) (by simp) (.string tn)).setCell (p := ⟨w.heap.size + 1, 3, none⟩) (by simp) (.slice atks_1 tks.length ctks_1)).setCell (p := ⟨w.heap.size + 1, 4, none⟩) (by simp) (.int .i64 bk)).setCell (p := ⟨w.heap.size + 1, 5, none⟩) (by simp) (.int .i64 bu)).setCell (p := ⟨w.heap.size + 1, 6, none⟩) (by simp) (.string bn)).setCell (p := ⟨w.heap.size + 1, 7, none⟩) (by simp) (.int .i64 btk)).setCell (p := ⟨w.heap.size + 1, 8, none⟩) (by simp) (.string btn)).setCell (p := ⟨w.heap.size + 1, 9, none⟩) (by simp) (.slice abtks_2 btks.length cbtks_2)).setCell (p := ⟨w.heap.size + 1, 10, none⟩) (by simp) (.slice abns_2 bns.length cbns_2)).setCell (p := ⟨w.heap.size + 1, 11, none⟩) (by simp) (.slice abks_2 bks.length cbks_2))
    have hfin2 := (((((((((((((((((((((Keeps.refl (w.heap.size + 3) w2).setCell (p := ⟨w.heap.size + 1 + 1, 4, none⟩) (by simp) (.int .i64 bk)).setCell (p := ⟨w.heap.size + 1 + 1, 5, none⟩) (by simp) (.int .i64 bu)).setCell (p := ⟨w.heap.size + 1 + 1, 6, none⟩) (by simp) (.string bn)).setCell (p := ⟨w.heap.size + 1 + 1, 7, none⟩) (by simp) (.int .i64 btk)).setCell (p := ⟨w.heap.size + 1 + 1, 8, none⟩) (by simp) (.string btn)).setCell (p := ⟨w.heap.size + 1 + 1, 9, none⟩) (by simp) (.slice abtks_2 btks.length cbtks_2)).setCell (p := ⟨w.heap.size + 1 + 1, 10, none⟩) (by simp) (.slice abns_2 bns.length cbns_2)).setCell (p := ⟨w.heap.size + 1 + 1, 11, none⟩) (by simp) (.slice abks_2 bks.length cbks_2)).setCell (p := ⟨w.heap.size + 1, 0, none⟩) (by simp) (.string n)).setCell (p := ⟨w.heap.size + 1, 1, none⟩) (by simp) (.int .i64 tk)).setCell (p := ⟨w.heap.size + 1, 2, none⟩) (by simp) (.string tn)).setCell (p := ⟨w.heap.size + 1, 3, none⟩) (by simp) (.slice atks_1 tks.length ctks_1)).setCell (p := ⟨w.heap.size + 1, 4, none⟩) (by simp) (.int .i64 bk)).setCell (p := ⟨w.heap.size + 1, 5, none⟩) (by simp) (.int .i64 bu)).setCell (p := ⟨w.heap.size + 1, 6, none⟩) (by simp) (.string bn)).setCell (p := ⟨w.heap.size + 1, 7, none⟩) (by simp) (.int .i64 btk)).setCell (p := ⟨w.heap.size + 1, 8, none⟩) (by simp) (.string btn)).setCell (p := ⟨w.heap.size + 1, 9, none⟩) (by simp) (.slice abtks_2 btks.length cbtks_2)).setCell (p := ⟨w.heap.size + 1, 10, none⟩) (by simp) (.slice abns_2 bns.length cbns_2)).setCell (p := ⟨w.heap.size + 1, 11, none⟩) (by simp) (.slice abks_2 bks.length cbks_2))
    have hp := ((PartAll.cons (HO1.out.part.keeps hfin (by first | exact Nat.le_refl _ | omega) (Nat.le_refl _)) (PartAll.cons (HO2.out.part.keeps hfin2 (by first | exact Nat.le_refl _ | omega) (Nat.le_refl _)) (PartAll.nil _ w2.heap.size w2.heap.size) (Nat.le_refl _) (by omega) (by omega)) (Nat.le_refl _) (by omega) (by omega)).plain (Rd.str_mk zn))
    exact OwnS.mono (base := w.heap.size + 3) hp.own (by omega)
  · exact ((((((((((((((((((((hbw2.setCell (by simp; try omega) _).setCell (by simp; try omega) _).setCell (by simp; try omega) _).setCell (by simp; try omega) _).setCell (by simp; try omega) _).setCell (by simp; try omega) _).setCell (by simp; try omega) _).setCell (by simp; try omega) _).setCell (by simp; try omega) _).setCell (by simp; try omega) _).setCell (by simp; try omega) _).setCell (by simp; try omega) _).setCell (by simp; try omega) _).setCell (by simp; try omega) _).setCell (by simp; try omega) _).setCell (by simp; try omega) _).setCell (by simp; try omega) _).setCell (by simp; try omega) _).setCell (by simp; try omega) _).setCell (by simp; try omega) _)

theorem infoDf : (Tryz.prog.info? 65).map (fun i => (i.zero, i.size, i.bytes)) = some (some (.agg #[.string ⟨#[]⟩, .int .i64 0, .string ⟨#[]⟩, .slice none 0 0, .int .i64 0, .int .i64 0, .string ⟨#[]⟩, .int .i64 0, .string ⟨#[]⟩, .slice none 0 0, .slice none 0 0, .slice none 0 0]), 12, 192) := by kernel_rfl
theorem makeDf (n : Nat) (hn : n ≤ 1048576) : ∃ C : Array Value, C.size = n * 12 ∧ ∀ w : World, (Instr.makeSlice 30 (.int .i64 (n : Int)) (.int .i64 (n : Int))).run Tryz.prog w = .ok (.slice (some ⟨w.heap.size, 0, none⟩) n n) (w.alloc (.cells C 65)) := by
  obtain ⟨i, hi, hz, hs, hb⟩ := info_parts infoDf
  refine ⟨madeCells (Value.cells (.agg #[.string ⟨#[]⟩, .int .i64 0, .string ⟨#[]⟩, .slice none 0 0, .int .i64 0, .int .i64 0, .string ⟨#[]⟩, .int .i64 0, .string ⟨#[]⟩, .slice none 0 0, .slice none 0 0, .slice none 0 0])) (n * 12), size_madeCells _ _, fun w => ?_⟩
  have := run_make (P := Tryz.prog) w 30 65 i _ Tryz.underlying30 hi hz .i64 .i64 n n (by omega) (Int.le_refl _) (by rw [hb]; omega) (by omega)
  simp only [Int.toNat_natCast, hs] at this
  exact this
theorem toDfs (ts : List Df) (a : Option Addr) (c : Nat) (w : World) (hM : Df.bulks ts ≤ 1048576) (hr : RdL w (Df.ds ts) (.slice a ts.length c)) :
    Calls Tryz.prog 25 #[.slice a ts.length c] w (GivesDfs ts w) := by
  obtain ⟨_, _, e, h2, h3, h4⟩ := hr.eDf
  simp only [Value.slice.injEq, true_and] at e
  obtain ⟨rfl, rfl⟩ := e
  have hl := Df.bulks_length ts
  obtain ⟨C, hC, hmk⟩ := makeDf ts.length (by omega)
  have HC := hid hC
  have H4 := hid h4
  clear hr h4 hC
  go_enter Tryz.func25, Tryz.ntmps25
  go_wp2_with fail
  clear hmk
  go_loopw [4] (fun i wr => ∃ (j : Nat), j ≤ ts.length ∧ i = .int .i64 j ∧ ∃ (cur : Array Value) (F : List Nat), wr.heap[w.heap.size]? = some (.cells cur 65 (0, 0)) ∧ Hid (cur.size = ts.length * 12) ∧ Hid (RdAll wr (Df.ds (ts.take j)) (cur.toList.take (j * 12)) F) ∧ Owned wr (w.heap.size + 1) F ∧ Below w.heap.size w wr) (fun i _ => ts.length - (intOf i).toNat)
  case atStart => exact ⟨0, by omega, rfl, C, [], heap_alloc_new _ _, HC.out, by show RdAll _ _ _ _; simpa [Df.ds] using RdAll.nil, Owned.nil _ _, (Below.refl _ _).alloc (Nat.le_refl _) _⟩
  case round =>
    obtain ⟨j, hj, rfl, cur, F, hcur, HS, HR, HO, hb⟩ := hrel
    by_cases hlt : j < ts.length
    · obtain ⟨b, o, rfl, hbl, hall⟩ := H4.out (by omega)
      obtain ⟨t, ht⟩ : ∃ t, ts[j]? = some t := ⟨_, List.getElem?_eq_getElem hlt⟩
      obtain ⟨n1, ⟨tk1, tn1, tks1⟩, ⟨bk1, bu1, bn1, ⟨btk1, btn1, btks1⟩, bns1, bks1⟩⟩ := t
      obtain ⟨atks1, ctks1, abtks1, cbtks1, abns1, cbns1, abks1, cbks1, q0, q1, q2, q3, q4, q5, q6, q7, q8, q9, q10, q11, hrk⟩ := hall j n1 tk1 tn1 tks1 bk1 bu1 bn1 btk1 btn1 btks1 bns1 bks1 ht
      clear hall H4
      have d0 := (hb.cell (p := ⟨b, o + j * 12, none⟩) hbl).trans q0
      have d1 := (hb.cell (p := ⟨b, o + j * 12 + 1, none⟩) hbl).trans q1
      have d2 := (hb.cell (p := ⟨b, o + j * 12 + 2, none⟩) hbl).trans q2
      have d3 := (hb.cell (p := ⟨b, o + j * 12 + 3, none⟩) hbl).trans q3
      have d4 := (hb.cell (p := ⟨b, o + j * 12 + 4, none⟩) hbl).trans q4
      have d5 := (hb.cell (p := ⟨b, o + j * 12 + 5, none⟩) hbl).trans q5
      have d6 := (hb.cell (p := ⟨b, o + j * 12 + 6, none⟩) hbl).trans q6
      have d7 := (hb.cell (p := ⟨b, o + j * 12 + 7, none⟩) hbl).trans q7
      have d8 := (hb.cell (p := ⟨b, o + j * 12 + 8, none⟩) hbl).trans q8
      have d9 := (hb.cell (p := ⟨b, o + j * 12 + 9, none⟩) hbl).trans q9
      have d10 := (hb.cell (p := ⟨b, o + j * 12 + 10, none⟩) hbl).trans q10
      have d11 := (hb.cell (p := ⟨b, o + j * 12 + 11, none⟩) hbl).trans q11
      have HT := hid ht
      have hbg := Df.bulk_get ts j _ ht
      have hfc := hrk.fDf
      have HFC := hid hfc
      have hc := toDf n1 tk1 tn1 tks1 bk1 bu1 bn1 btk1 btn1 btks1 bns1 bks1 atks1 ctks1 abtks1 cbtks1 abns1 cbns1 abks1 cbks1 wr (by omega) (hrk.below hb)
      have HC := hid hc
      have HU := hid hcur
      clear ht hrk q0 q1 q2 q3 q4 q5 q6 q7 q8 q9 q10 q11 hc hcur hfc
      go_wp2_with fail
      refine HC.out.mono ?_
      clear HC
      rintro e w1 ⟨atks2, ctks2, abtks2, cbtks2, abns2, cbns2, abks2, cbks2, rfl, hown, hb1⟩
      have hB : w.heap.size < wr.heap.size := (Array.getElem?_eq_some_iff.1 HU.out).1
      have hcur1 : w1.heap[w.heap.size]? = some (.cells cur 65 (0, 0)) := (hb1.block _ hB).trans HU.out
      have hsz : j * 12 + 11 < cur.size := by have := HS.out; omega
      have e0 : w1.cell? ⟨w.heap.size, j * 12, none⟩ = some (cur[j * 12]'(by omega)) := by simp [World.cell?, hcur1]
      have f0 : w1.frozen? ⟨w.heap.size, j * 12, none⟩ = false := by simp [World.frozen?, hcur1]
      have e1 : w1.cell? ⟨w.heap.size, j * 12 + 1, none⟩ = some (cur[j * 12 + 1]'(by omega)) := by simp [World.cell?, hcur1]
      have f1 : w1.frozen? ⟨w.heap.size, j * 12 + 1, none⟩ = false := by simp [World.frozen?, hcur1]
      have e2 : w1.cell? ⟨w.heap.size, j * 12 + 2, none⟩ = some (cur[j * 12 + 2]'(by omega)) := by simp [World.cell?, hcur1]
      have f2 : w1.frozen? ⟨w.heap.size, j * 12 + 2, none⟩ = false := by simp [World.frozen?, hcur1]
      have e3 : w1.cell? ⟨w.heap.size, j * 12 + 3, none⟩ = some (cur[j * 12 + 3]'(by omega)) := by simp [World.cell?, hcur1]
      have f3 : w1.frozen? ⟨w.heap.size, j * 12 + 3, none⟩ = false := by simp [World.frozen?, hcur1]
      have e4 : w1.cell? ⟨w.heap.size, j * 12 + 4, none⟩ = some (cur[j * 12 + 4]'(by omega)) := by simp [World.cell?, hcur1]
      have f4 : w1.frozen? ⟨w.heap.size, j * 12 + 4, none⟩ = false := by simp [World.frozen?, hcur1]
      have e5 : w1.cell? ⟨w.heap.size, j * 12 + 5, none⟩ = some (cur[j * 12 + 5]'(by omega)) := by simp [World.cell?, hcur1]
      have f5 : w1.frozen? ⟨w.heap.size, j * 12 + 5, none⟩ = false := by simp [World.frozen?, hcur1]
      have e6 : w1.cell? ⟨w.heap.size, j * 12 + 6, none⟩ = some (cur[j * 12 + 6]'(by omega)) := by simp [World.cell?, hcur1]
      have f6 : w1.frozen? ⟨w.heap.size, j * 12 + 6, none⟩ = false := by simp [World.frozen?, hcur1]
      have e7 : w1.cell? ⟨w.heap.size, j * 12 + 7, none⟩ = some (cur[j * 12 + 7]'(by omega)) := by simp [World.cell?, hcur1]
      have f7 : w1.frozen? ⟨w.heap.size, j * 12 + 7, none⟩ = false := by simp [World.frozen?, hcur1]
      have e8 : w1.cell? ⟨w.heap.size, j * 12 + 8, none⟩ = some (cur[j * 12 + 8]'(by omega)) := by simp [World.cell?, hcur1]
      have f8 : w1.frozen? ⟨w.heap.size, j * 12 + 8, none⟩ = false := by simp [World.frozen?, hcur1]
      have e9 : w1.cell? ⟨w.heap.size, j * 12 + 9, none⟩ = some (cur[j * 12 + 9]'(by omega)) := by simp [World.cell?, hcur1]
      have f9 : w1.frozen? ⟨w.heap.size, j * 12 + 9, none⟩ = false := by simp [World.frozen?, hcur1]
      have e10 : w1.cell? ⟨w.heap.size, j * 12 + 10, none⟩ = some (cur[j * 12 + 10]'(by omega)) := by simp [World.cell?, hcur1]
      have f10 : w1.frozen? ⟨w.heap.size, j * 12 + 10, none⟩ = false := by simp [World.frozen?, hcur1]
      have e11 : w1.cell? ⟨w.heap.size, j * 12 + 11, none⟩ = some (cur[j * 12 + 11]'(by omega)) := by simp [World.cell?, hcur1]
      have f11 : w1.frozen? ⟨w.heap.size, j * 12 + 11, none⟩ = false := by simp [World.frozen?, hcur1]
      have HCU := hid hcur1
      have HW := hid hown
      clear hcur1 hown
      go_wp2_with fail
      obtain ⟨F3, hr3, ho3⟩ := HW.out
      have hlo3 : ∀ y ∈ F3, wr.heap.size ≤ y := fun y hy => (ho3.2 y hy).1
      have hlo : ∀ x ∈ F, x < wr.heap.size := HO.lt
      obtain ⟨cur', H, g1, g2, g3, g4, g5⟩ := fill_step (m := 12) (base := w.heap.size + 1) HCU.out rfl (by have := HS.out; omega) (HR.out.below hb1) hr3 (HO.keep fun b hb => hb1.block b (hlo b hb)) (ho3.mono (by omega))
        (fun x hx => by have := (HO.2 x hx).1; omega) (fun x hx => by have := hlo3 x hx; omega) (fun x hx y hy => by have := hlo x hx; have := hlo3 y hy; omega)
      have hbw : Below w.heap.size w (setMany w1 w.heap.size (j * 12) [.string n1, .int .i64 tk1, .string tn1, .slice atks2 tks1.length ctks2, .int .i64 bk1, .int .i64 bu1, .string bn1, .int .i64 btk1, .string btn1, .slice abtks2 btks1.length cbtks2, .slice abns2 bns1.length cbns2, .slice abks2 bks1.length cbks2]) := Below.setMany _ _ (hb.trans (hb1.mono hb.size)) (Nat.le_refl _)
      have htk : Df.ds (ts.take (j + 1)) = Df.ds (ts.take j) ++ [Df.d (Df.mk n1 (Ty.mk tk1 tn1 tks1) (Tm.mk bk1 bu1 bn1 (Ty.mk btk1 btn1 btks1) bns1 bks1))] := Df.ds_snoc ts j _ HT.out
      go_roundw
      case rel => exact ⟨j + 1, by omega, by go_num, cur', H, g1, by show _ = _; rw [g2]; exact HS.out, by show RdAll _ _ _ _; rw [htk]; exact g3, g4, hbw⟩
      case measure => simp [intOf]; omega
    · obtain rfl : j = ts.length := by omega
      rw [List.take_length] at HR
      go_wp2_with fail
      go_ret
      obtain ⟨G, q1, q2⟩ := fill_done (m := 12) (base := w.heap.size) hcur HS.out (Df.ds_length ts) (by omega) HR.out (HO.mono (by omega)) (Nat.le_refl _) (fun x hx => by have := (HO.2 x hx).1; omega)
      exact ⟨_, _, rfl, ⟨G, q1, q2⟩, hb⟩

end Go.Proofs.YtgpefnlpbjnjbaaGreat
