/- Walks of the laws' helpers: the copy of Term. No condition. -/
import Derived.Test.YtikhofcjkcbpbaaGreatDoorSzTm
import Derived.Test.YtikhofcjkcbpbaaGreatDoorToTy
import Derived.Test.YtikhofcjkcbpbaaGreatDoorToSc
namespace Go.Proofs.YtikhofcjkcbpbaaGreatDoor
open Go.ChangeShapes Go.WideShapes Go.ChangeAt Go.RowKit
open Go.Sort (grow)
set_option linter.unusedVariables false

/-- Handed back: the call's own copy. -/
def GivesTm (k : Int) (u : Int) (n : ByteArray) (tk : Int) (tn : ByteArray) (tks : List Ty) (ns : List ByteArray) (ks : List Tm) (w : World) (e : Ending) (w' : World) : Prop :=
  ∃ (atks : Option Addr) (ctks : Nat) (ans : Option Addr) (cns : Nat) (aks : Option Addr) (cks : Nat), e = .returned (.agg #[.int .i64 k, .int .i64 u, .string n, .int .i64 tk, .string tn, .slice atks tks.length ctks, .slice ans ns.length cns, .slice aks ks.length cks]) ∧ OwnS w' w.heap.size (Tm.d (Tm.mk k u n (Ty.mk tk tn tks) ns ks)) [.int .i64 k, .int .i64 u, .string n, .int .i64 tk, .string tn, .slice atks tks.length ctks, .slice ans ns.length cns, .slice aks ks.length cks] ∧ Below w.heap.size w w'
def GivesTms (ts : List Tm) (w : World) (e : Ending) (w' : World) : Prop :=
  ∃ (a : Option Addr) (c : Nat), e = .returned (.slice a ts.length c) ∧ OwnL w' w.heap.size (Tm.ds ts) (.slice a ts.length c) ∧ Below w.heap.size w w'
def ToTm (N : Nat) : Prop := ∀ (k : Int) (u : Int) (n : ByteArray) (tk : Int) (tn : ByteArray) (tks : List Ty) (ns : List ByteArray) (ks : List Tm) (atks : Option Addr) (ctks : Nat) (ans : Option Addr) (cns : Nat) (aks : Option Addr) (cks : Nat) (w : World), Tm.bulk (Tm.mk k u n (Ty.mk tk tn tks) ns ks) < N → Tm.bulk (Tm.mk k u n (Ty.mk tk tn tks) ns ks) ≤ 1048576 → RdS w (Tm.d (Tm.mk k u n (Ty.mk tk tn tks) ns ks)) [.int .i64 k, .int .i64 u, .string n, .int .i64 tk, .string tn, .slice atks tks.length ctks, .slice ans ns.length cns, .slice aks ks.length cks] →
  Calls Tryz.prog 7 #[.agg #[.int .i64 k, .int .i64 u, .string n, .int .i64 tk, .string tn, .slice atks tks.length ctks, .slice ans ns.length cns, .slice aks ks.length cks]] w (GivesTm k u n tk tn tks ns ks w)
def ToTms (N : Nat) : Prop := ∀ (ts : List Tm) (a : Option Addr) (c : Nat) (w : World), Tm.bulks ts < N → Tm.bulks ts ≤ 1048576 → RdL w (Tm.ds ts) (.slice a ts.length c) →
  Calls Tryz.prog 22 #[.slice a ts.length c] w (GivesTms ts w)
theorem toTm_step (N : Nat) (ih : ToTms N) : ToTm N := by
  intro k u n tk tn tks ns ks atks ctks ans cns aks cks w hN hM hr
  have hbk : Tm.bulk (Tm.mk k u n (Ty.mk tk tn tks) ns ks) = n.size + Ty.bulk (Ty.mk tk tn tks) + Sr.bulks ns + Tm.bulks ks := rfl
  obtain ⟨⟨lok, hik⟩, ⟨lou, hiu⟩, zn, ⟨⟨lotk, hitk⟩, ztn, htks⟩, hns, hks⟩ := hr.fTm
  have hc1 := fun (W : World) (hb : Below w.heap.size w W) => toTy tk tn tks atks ctks W (by omega) ((RdS.subTm_t hr).below hb)
  have hc2 := fun (W : World) (hb : Below w.heap.size w W) => toSrs ns ans cns W (by omega) (hns.below hb)
  have hc3 := fun (W : World) (hb : Below w.heap.size w W) => ih ks aks cks W (by omega) (by omega) (hks.below hb)
  have HC1 := hid hc1
  have HC2 := hid hc2
  have HC3 := hid hc3
  have hB0 : Below w.heap.size w (w.alloc (.cells #[.int .i64 k, .int .i64 u, .string n, .int .i64 tk, .string tn, .slice atks tks.length ctks, .slice ans ns.length cns, .slice aks ks.length cks] 28)) := (Below.refl _ _).alloc (Nat.le_refl _) _
  clear hr hbk hM hc1 hc2 hc3 hB0 ih hN htks hns hks
  go_enter Tryz.func7, Tryz.ntmps7
  go_wp2_with fail
  refine (HC1.out _ ((((Below.refl _ _).alloc (Nat.le_refl _) _).alloc (by simp) _).alloc (by simp; omega) _)).mono ?_
  rintro e w1 ⟨atks_1, ctks_1, rfl, ho1, hb1⟩
  obtain ⟨hcl1, hfz1⟩ := bcell hb1
  have hz1 : w.heap.size + 1 + 1 < w1.heap.size := by have := hb1.size; simp at this; omega
  have hy1 : w.heap.size + 1 < w1.heap.size := by omega
  have hx1 : w.heap.size < w1.heap.size := by omega
  have hbw1 : Below w.heap.size w w1 := ((((Below.refl _ _).alloc (Nat.le_refl _) _).alloc (by simp) _).alloc (by simp; omega) _).trans (hb1.mono (by simp; omega))
  have HO1 := hid (ho1.mono (base' := w.heap.size + 3) (by simp))
  have HT1 := hid (Nat.le_refl w1.heap.size)
  clear HC1 ho1
  have hbs1 := (((hbw1.setCell (p := ⟨w.heap.size + 1 + 1, 3, none⟩) (by simp; omega) (.int .i64 tk)).setCell (p := ⟨w.heap.size + 1 + 1, 4, none⟩) (by simp; omega) (.string tn)).setCell (p := ⟨w.heap.size + 1 + 1, 5, none⟩) (by simp; omega) (.slice atks_1 tks.length ctks_1))
  have HKS1 := hid ((((Keeps.refl (w.heap.size + 3) w1).setCell (p := ⟨w.heap.size + 1 + 1, 3, none⟩) (by simp) (.int .i64 tk)).setCell (p := ⟨w.heap.size + 1 + 1, 4, none⟩) (by simp) (.string tn)).setCell (p := ⟨w.heap.size + 1 + 1, 5, none⟩) (by simp) (.slice atks_1 tks.length ctks_1))
  go_wp2_with fail
  refine (HC2.out _ hbs1).mono ?_
  rintro e w2 ⟨ans_2, cns_2, rfl, ho2, hb2⟩
  obtain ⟨hcl2, hfz2⟩ := bcell hb2
  have hz2 : w.heap.size + 1 + 1 < w2.heap.size := by have := hb2.size; simp at this; omega
  have hy2 : w.heap.size + 1 < w2.heap.size := by omega
  have hx2 : w.heap.size < w2.heap.size := by omega
  have hbw2 : Below w.heap.size w w2 := hbs1.trans (hb2.mono hbs1.size)
  have hsz2 : w1.heap.size ≤ w2.heap.size := by have := hb2.size; simpa using this
  have HK2 := hid (HKS1.out.below hb2)
  have HO2 := hid (ho2.mono (base' := w1.heap.size) (by simp))
  clear HC2 ho2 HKS1
  have hbs2 := (hbw2.setCell (p := ⟨w.heap.size + 1 + 1, 6, none⟩) (by simp; omega) (.slice ans_2 ns.length cns_2))
  have HKS2 := hid (HK2.out.setCell (p := ⟨w.heap.size + 1 + 1, 6, none⟩) (by simp) (.slice ans_2 ns.length cns_2))
  go_wp2_with fail
  refine (HC3.out _ hbs2).mono ?_
  rintro e w3 ⟨aks_3, cks_3, rfl, ho3, hb3⟩
  obtain ⟨hcl3, hfz3⟩ := bcell hb3
  have hz3 : w.heap.size + 1 + 1 < w3.heap.size := by have := hb3.size; simp at this; omega
  have hbw3 : Below w.heap.size w w3 := hbs2.trans (hb3.mono hbs2.size)
  have hsz3 : w2.heap.size ≤ w3.heap.size := by have := hb3.size; simpa using this
  have HK3 := hid (HKS2.out.below hb3)
  have HO3 := hid (ho3.mono (base' := w2.heap.size) (by simp))
  clear HC3 ho3 HKS2
  go_wp2_with fail
  refine bodyPost_ret (v := .agg #[.int .i64 k, .int .i64 u, .string n, .int .i64 tk, .string tn, .slice atks_1 tks.length ctks_1, .slice ans_2 ns.length cns_2, .slice aks_3 ks.length cks_3]) (by simp [results, Tryz.results7, go_sem, hcl1, hcl2, hcl3, hy1, hy2]) rfl ⟨atks_1, ctks_1, ans_2, cns_2, aks_3, cks_3, rfl, ?_, ?_⟩
  · have hfin := (((((((((HK3.out.setCell (p := ⟨w.heap.size + 1 + 1, 7, none⟩) (by simp) (.slice aks_3 ks.length cks_3)).setCell (p := ⟨w.heap.size + 1, 0, none⟩) (by simp) (.int .i64 k)).setCell (p := ⟨w.heap.size + 1, 1, none⟩) (by simp) (.int .i64 u)).setCell (p := ⟨w.heap.size + 1, 2, none⟩) (by simp) (.string n)).setCell (p := ⟨w.heap.size + 1, 3, none⟩) (by simp) (.int .i64 tk)).setCell (p := ⟨w.heap.size + 1, 4, none⟩) (by simp) (.string tn)).setCell (p := ⟨w.heap.size + 1, 5, none⟩) (by simp) (.slice atks_1 tks.length ctks_1)).setCell (p := ⟨w.heap.size + 1, 6, none⟩) (by simp) (.slice ans_2 ns.length cns_2)).setCell (p := ⟨w.heap.size + 1, 7, none⟩) (by simp) (.slice aks_3 ks.length cks_3))
    have hfin2 := ((((((((((((Keeps.refl (w.heap.size + 3) w2).setCell (p := ⟨w.heap.size + 1 + 1, 6, none⟩) (by simp) (.slice ans_2 ns.length cns_2)).below hb3).setCell (p := ⟨w.heap.size + 1 + 1, 7, none⟩) (by simp) (.slice aks_3 ks.length cks_3)).setCell (p := ⟨w.heap.size + 1, 0, none⟩) (by simp) (.int .i64 k)).setCell (p := ⟨w.heap.size + 1, 1, none⟩) (by simp) (.int .i64 u)).setCell (p := ⟨w.heap.size + 1, 2, none⟩) (by simp) (.string n)).setCell (p := ⟨w.heap.size + 1, 3, none⟩) (by simp) (.int .i64 tk)).setCell (p := ⟨w.heap.size + 1, 4, none⟩) (by simp) (.string tn)).setCell (p := ⟨w.heap.size + 1, 5, none⟩) (by simp) (.slice atks_1 tks.length ctks_1)).setCell (p := ⟨w.heap.size + 1, 6, none⟩) (by simp) (.slice ans_2 ns.length cns_2)).setCell (p := ⟨w.heap.size + 1, 7, none⟩) (by simp) (.slice aks_3 ks.length cks_3))
    have hfin3 := ((((((((((Keeps.refl (w.heap.size + 3) w3).setCell (p := ⟨w.heap.size + 1 + 1, 7, none⟩) (by simp) (.slice aks_3 ks.length cks_3)).setCell (p := ⟨w.heap.size + 1, 0, none⟩) (by simp) (.int .i64 k)).setCell (p := ⟨w.heap.size + 1, 1, none⟩) (by simp) (.int .i64 u)).setCell (p := ⟨w.heap.size + 1, 2, none⟩) (by simp) (.string n)).setCell (p := ⟨w.heap.size + 1, 3, none⟩) (by simp) (.int .i64 tk)).setCell (p := ⟨w.heap.size + 1, 4, none⟩) (by simp) (.string tn)).setCell (p := ⟨w.heap.size + 1, 5, none⟩) (by simp) (.slice atks_1 tks.length ctks_1)).setCell (p := ⟨w.heap.size + 1, 6, none⟩) (by simp) (.slice ans_2 ns.length cns_2)).setCell (p := ⟨w.heap.size + 1, 7, none⟩) (by simp) (.slice aks_3 ks.length cks_3))
    have hp := ((((PartAll.cons (HO1.out.part.keeps hfin (by first | exact Nat.le_refl _ | omega) (Nat.le_refl _)) (PartAll.cons (HO2.out.part.keeps hfin2 (by first | exact Nat.le_refl _ | omega) (Nat.le_refl _)) (PartAll.cons (HO3.out.part.keeps hfin3 (by first | exact Nat.le_refl _ | omega) (Nat.le_refl _)) (PartAll.nil _ w3.heap.size w3.heap.size) (Nat.le_refl _) (by omega) (by omega)) (Nat.le_refl _) (by omega) (by omega)) (Nat.le_refl _) (by omega) (by omega)).plain (Rd.str_mk zn)).plain (Rd.int_mk lou hiu)).plain (Rd.int_mk lok hik))
    exact OwnS.mono (base := w.heap.size + 3) hp.own (by omega)
  · exact (((((((((hbw3.setCell (by simp; try omega) _).setCell (by simp; try omega) _).setCell (by simp; try omega) _).setCell (by simp; try omega) _).setCell (by simp; try omega) _).setCell (by simp; try omega) _).setCell (by simp; try omega) _).setCell (by simp; try omega) _).setCell (by simp; try omega) _)

theorem infoTm : (Tryz.prog.info? 36).map (fun i => (i.zero, i.size, i.bytes)) = some (some (.agg #[.int .i64 0, .int .i64 0, .string ⟨#[]⟩, .int .i64 0, .string ⟨#[]⟩, .slice none 0 0, .slice none 0 0, .slice none 0 0]), 8, 128) := by kernel_rfl
theorem makeTm (n : Nat) (hn : n ≤ 1048576) : ∃ C : Array Value, C.size = n * 8 ∧ ∀ w : World, (Instr.makeSlice 34 (.int .i64 (n : Int)) (.int .i64 (n : Int))).run Tryz.prog w = .ok (.slice (some ⟨w.heap.size, 0, none⟩) n n) (w.alloc (.cells C 36)) := by
  obtain ⟨i, hi, hz, hs, hb⟩ := info_parts infoTm
  refine ⟨madeCells (Value.cells (.agg #[.int .i64 0, .int .i64 0, .string ⟨#[]⟩, .int .i64 0, .string ⟨#[]⟩, .slice none 0 0, .slice none 0 0, .slice none 0 0])) (n * 8), size_madeCells _ _, fun w => ?_⟩
  have := run_make (P := Tryz.prog) w 34 36 i _ Tryz.underlying34 hi hz .i64 .i64 n n (by omega) (Int.le_refl _) (by rw [hb]; omega) (by omega)
  simp only [Int.toNat_natCast, hs] at this
  exact this
theorem toTms_step (N : Nat) (ih : ToTm N) : ToTms (N + 1) := by
  intro ts a c w hN hM hr
  obtain ⟨_, _, e, h2, h3, h4⟩ := hr.eTm
  simp only [Value.slice.injEq, true_and] at e
  obtain ⟨rfl, rfl⟩ := e
  have hl := Tm.bulks_length ts
  obtain ⟨C, hC, hmk⟩ := makeTm ts.length (by omega)
  have HC := hid hC
  have H4 := hid h4
  have IH := hid ih
  clear hr h4 hC ih
  go_enter Tryz.func22, Tryz.ntmps22
  go_wp2_with fail
  clear hmk
  go_loopw [4] (fun i wr => ∃ (j : Nat), j ≤ ts.length ∧ i = .int .i64 j ∧ ∃ (cur : Array Value) (F : List Nat), wr.heap[w.heap.size]? = some (.cells cur 36 (0, 0)) ∧ Hid (cur.size = ts.length * 8) ∧ Hid (RdAll wr (Tm.ds (ts.take j)) (cur.toList.take (j * 8)) F) ∧ Owned wr (w.heap.size + 1) F ∧ Below w.heap.size w wr) (fun i _ => ts.length - (intOf i).toNat)
  case atStart => exact ⟨0, by omega, rfl, C, [], heap_alloc_new _ _, HC.out, by show RdAll _ _ _ _; simpa [Tm.ds] using RdAll.nil, Owned.nil _ _, (Below.refl _ _).alloc (Nat.le_refl _) _⟩
  case round =>
    obtain ⟨j, hj, rfl, cur, F, hcur, HS, HR, HO, hb⟩ := hrel
    by_cases hlt : j < ts.length
    · obtain ⟨b, o, rfl, hbl, hall⟩ := H4.out (by omega)
      obtain ⟨t, ht⟩ : ∃ t, ts[j]? = some t := ⟨_, List.getElem?_eq_getElem hlt⟩
      obtain ⟨k1, u1, n1, ⟨tk1, tn1, tks1⟩, ns1, ks1⟩ := t
      obtain ⟨atks1, ctks1, ans1, cns1, aks1, cks1, q0, q1, q2, q3, q4, q5, q6, q7, hrk⟩ := hall j k1 u1 n1 tk1 tn1 tks1 ns1 ks1 ht
      clear hall H4
      have d0 := (hb.cell (p := ⟨b, o + j * 8, none⟩) hbl).trans q0
      have d1 := (hb.cell (p := ⟨b, o + j * 8 + 1, none⟩) hbl).trans q1
      have d2 := (hb.cell (p := ⟨b, o + j * 8 + 2, none⟩) hbl).trans q2
      have d3 := (hb.cell (p := ⟨b, o + j * 8 + 3, none⟩) hbl).trans q3
      have d4 := (hb.cell (p := ⟨b, o + j * 8 + 4, none⟩) hbl).trans q4
      have d5 := (hb.cell (p := ⟨b, o + j * 8 + 5, none⟩) hbl).trans q5
      have d6 := (hb.cell (p := ⟨b, o + j * 8 + 6, none⟩) hbl).trans q6
      have d7 := (hb.cell (p := ⟨b, o + j * 8 + 7, none⟩) hbl).trans q7
      have HT := hid ht
      have hbg := Tm.bulk_get ts j _ ht
      have hfc := hrk.fTm
      have HFC := hid hfc
      have hc := IH.out k1 u1 n1 tk1 tn1 tks1 ns1 ks1 atks1 ctks1 ans1 cns1 aks1 cks1 wr (by omega) (by omega) (hrk.below hb)
      have HC := hid hc
      have HU := hid hcur
      clear ht hrk q0 q1 q2 q3 q4 q5 q6 q7 hc hcur hfc
      go_wp2_with fail
      refine HC.out.mono ?_
      clear HC
      rintro e w1 ⟨atks2, ctks2, ans2, cns2, aks2, cks2, rfl, hown, hb1⟩
      have hB : w.heap.size < wr.heap.size := (Array.getElem?_eq_some_iff.1 HU.out).1
      have hcur1 : w1.heap[w.heap.size]? = some (.cells cur 36 (0, 0)) := (hb1.block _ hB).trans HU.out
      have hsz : j * 8 + 7 < cur.size := by have := HS.out; omega
      have e0 : w1.cell? ⟨w.heap.size, j * 8, none⟩ = some (cur[j * 8]'(by omega)) := by simp [World.cell?, hcur1]
      have f0 : w1.frozen? ⟨w.heap.size, j * 8, none⟩ = false := by simp [World.frozen?, hcur1]
      have e1 : w1.cell? ⟨w.heap.size, j * 8 + 1, none⟩ = some (cur[j * 8 + 1]'(by omega)) := by simp [World.cell?, hcur1]
      have f1 : w1.frozen? ⟨w.heap.size, j * 8 + 1, none⟩ = false := by simp [World.frozen?, hcur1]
      have e2 : w1.cell? ⟨w.heap.size, j * 8 + 2, none⟩ = some (cur[j * 8 + 2]'(by omega)) := by simp [World.cell?, hcur1]
      have f2 : w1.frozen? ⟨w.heap.size, j * 8 + 2, none⟩ = false := by simp [World.frozen?, hcur1]
      have e3 : w1.cell? ⟨w.heap.size, j * 8 + 3, none⟩ = some (cur[j * 8 + 3]'(by omega)) := by simp [World.cell?, hcur1]
      have f3 : w1.frozen? ⟨w.heap.size, j * 8 + 3, none⟩ = false := by simp [World.frozen?, hcur1]
      have e4 : w1.cell? ⟨w.heap.size, j * 8 + 4, none⟩ = some (cur[j * 8 + 4]'(by omega)) := by simp [World.cell?, hcur1]
      have f4 : w1.frozen? ⟨w.heap.size, j * 8 + 4, none⟩ = false := by simp [World.frozen?, hcur1]
      have e5 : w1.cell? ⟨w.heap.size, j * 8 + 5, none⟩ = some (cur[j * 8 + 5]'(by omega)) := by simp [World.cell?, hcur1]
      have f5 : w1.frozen? ⟨w.heap.size, j * 8 + 5, none⟩ = false := by simp [World.frozen?, hcur1]
      have e6 : w1.cell? ⟨w.heap.size, j * 8 + 6, none⟩ = some (cur[j * 8 + 6]'(by omega)) := by simp [World.cell?, hcur1]
      have f6 : w1.frozen? ⟨w.heap.size, j * 8 + 6, none⟩ = false := by simp [World.frozen?, hcur1]
      have e7 : w1.cell? ⟨w.heap.size, j * 8 + 7, none⟩ = some (cur[j * 8 + 7]'(by omega)) := by simp [World.cell?, hcur1]
      have f7 : w1.frozen? ⟨w.heap.size, j * 8 + 7, none⟩ = false := by simp [World.frozen?, hcur1]
      have HCU := hid hcur1
      have HW := hid hown
      clear hcur1 hown
      go_wp2_with fail
      obtain ⟨F3, hr3, ho3⟩ := HW.out
      have hlo3 : ∀ y ∈ F3, wr.heap.size ≤ y := fun y hy => (ho3.2 y hy).1
      have hlo : ∀ x ∈ F, x < wr.heap.size := HO.lt
      obtain ⟨cur', H, g1, g2, g3, g4, g5⟩ := fill_step (m := 8) (base := w.heap.size + 1) HCU.out rfl (by have := HS.out; omega) (HR.out.below hb1) hr3 (HO.keep fun b hb => hb1.block b (hlo b hb)) (ho3.mono (by omega))
        (fun x hx => by have := (HO.2 x hx).1; omega) (fun x hx => by have := hlo3 x hx; omega) (fun x hx y hy => by have := hlo x hx; have := hlo3 y hy; omega)
      have hbw : Below w.heap.size w (setMany w1 w.heap.size (j * 8) [.int .i64 k1, .int .i64 u1, .string n1, .int .i64 tk1, .string tn1, .slice atks2 tks1.length ctks2, .slice ans2 ns1.length cns2, .slice aks2 ks1.length cks2]) := Below.setMany _ _ (hb.trans (hb1.mono hb.size)) (Nat.le_refl _)
      have htk : Tm.ds (ts.take (j + 1)) = Tm.ds (ts.take j) ++ [Tm.d (Tm.mk k1 u1 n1 (Ty.mk tk1 tn1 tks1) ns1 ks1)] := Tm.ds_snoc ts j _ HT.out
      go_roundw
      case rel => exact ⟨j + 1, by omega, by go_num, cur', H, g1, by show _ = _; rw [g2]; exact HS.out, by show RdAll _ _ _ _; rw [htk]; exact g3, g4, hbw⟩
      case measure => simp [intOf]; omega
    · obtain rfl : j = ts.length := by omega
      rw [List.take_length] at HR
      go_wp2_with fail
      go_ret
      obtain ⟨G, q1, q2⟩ := fill_done (m := 8) (base := w.heap.size) hcur HS.out (Tm.ds_length ts) (by omega) HR.out (HO.mono (by omega)) (Nat.le_refl _) (fun x hx => by have := (HO.2 x hx).1; omega)
      exact ⟨_, _, rfl, ⟨G, q1, q2⟩, hb⟩

theorem toTm_all : ∀ M, ToTm M ∧ ToTms M
  | 0 => ⟨fun _ _ _ _ _ _ _ _ _ _ _ _ _ _ _ h => absurd h (by omega), fun _ _ _ _ h => absurd h (by omega)⟩
  | M + 1 => by
    have h := toTm_all M
    have h2 := toTms_step M h.1
    exact ⟨toTm_step (M + 1) h2, h2⟩
theorem toTm (k : Int) (u : Int) (n : ByteArray) (tk : Int) (tn : ByteArray) (tks : List Ty) (ns : List ByteArray) (ks : List Tm) (atks : Option Addr) (ctks : Nat) (ans : Option Addr) (cns : Nat) (aks : Option Addr) (cks : Nat) (w : World) (hM : Tm.bulk (Tm.mk k u n (Ty.mk tk tn tks) ns ks) ≤ 1048576) (hr : RdS w (Tm.d (Tm.mk k u n (Ty.mk tk tn tks) ns ks)) [.int .i64 k, .int .i64 u, .string n, .int .i64 tk, .string tn, .slice atks tks.length ctks, .slice ans ns.length cns, .slice aks ks.length cks]) :
    Calls Tryz.prog 7 #[.agg #[.int .i64 k, .int .i64 u, .string n, .int .i64 tk, .string tn, .slice atks tks.length ctks, .slice ans ns.length cns, .slice aks ks.length cks]] w (GivesTm k u n tk tn tks ns ks w) :=
  (toTm_all (Tm.bulk (Tm.mk k u n (Ty.mk tk tn tks) ns ks) + 1)).1 k u n tk tn tks ns ks atks ctks ans cns aks cks w (by omega) hM hr
theorem toTms (ts : List Tm) (a : Option Addr) (c : Nat) (w : World) (hM : Tm.bulks ts ≤ 1048576) (hr : RdL w (Tm.ds ts) (.slice a ts.length c)) :
    Calls Tryz.prog 22 #[.slice a ts.length c] w (GivesTms ts w) :=
  (toTm_all (Tm.bulks ts + 1)).2 ts a c w (by omega) hM hr

end Go.Proofs.YtikhofcjkcbpbaaGreatDoor
