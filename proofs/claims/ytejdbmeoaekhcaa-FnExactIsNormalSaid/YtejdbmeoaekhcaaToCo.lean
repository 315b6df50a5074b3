/- Walks of the laws' helpers: the copy of Core. No condition. -/
import Derived.Test.YtejdbmeoaekhcaaSzCo
import Derived.Test.YtejdbmeoaekhcaaToSc
namespace Go.Proofs.Ytejdbmeoaekhcaa
open Go.ChangeShapes Go.WideShapes Go.ChangeAt Go.RowKit
open Go.Sort (grow)
set_option linter.unusedVariables false

/-- Handed back: the call's own copy. -/
def GivesCo (k : Int) (v : Int) (ds : List Int) (ks : List Co) (w : World) (e : Ending) (w' : World) : Prop :=
  ∃ (ads : Option Addr) (cds : Nat) (aks : Option Addr) (cks : Nat), e = .returned (.agg #[.int .i64 k, .int .i64 v, .slice ads ds.length cds, .slice aks ks.length cks]) ∧ OwnS w' w.heap.size (Co.d (Co.mk k v ds ks)) [.int .i64 k, .int .i64 v, .slice ads ds.length cds, .slice aks ks.length cks] ∧ Below w.heap.size w w'
def GivesCos (ts : List Co) (w : World) (e : Ending) (w' : World) : Prop :=
  ∃ (a : Option Addr) (c : Nat), e = .returned (.slice a ts.length c) ∧ OwnL w' w.heap.size (Co.ds ts) (.slice a ts.length c) ∧ Below w.heap.size w w'
def ToCo (N : Nat) : Prop := ∀ (k : Int) (v : Int) (ds : List Int) (ks : List Co) (ads : Option Addr) (cds : Nat) (aks : Option Addr) (cks : Nat) (w : World), Co.bulk (Co.mk k v ds ks) < N → Co.bulk (Co.mk k v ds ks) ≤ 1048576 → RdS w (Co.d (Co.mk k v ds ks)) [.int .i64 k, .int .i64 v, .slice ads ds.length cds, .slice aks ks.length cks] →
  Calls Try.prog 9 #[.agg #[.int .i64 k, .int .i64 v, .slice ads ds.length cds, .slice aks ks.length cks]] w (GivesCo k v ds ks w)
def ToCos (N : Nat) : Prop := ∀ (ts : List Co) (a : Option Addr) (c : Nat) (w : World), Co.bulks ts < N → Co.bulks ts ≤ 1048576 → RdL w (Co.ds ts) (.slice a ts.length c) →
  Calls Try.prog 24 #[.slice a ts.length c] w (GivesCos ts w)
theorem toCo_step (N : Nat) (ih : ToCos N) : ToCo N := by
  intro k v ds ks ads cds aks cks w hN hM hr
  have hbk : Co.bulk (Co.mk k v ds ks) = In.bulks ds + Co.bulks ks := rfl
  obtain ⟨⟨lok, hik⟩, ⟨lov, hiv⟩, hds, hks⟩ := hr.fCo
  have hc1 := fun (W : World) (hb : Below w.heap.size w W) => toIns ds ads cds W (by omega) (hds.below hb)
  have hc2 := fun (W : World) (hb : Below w.heap.size w W) => ih ks aks cks W (by omega) (by omega) (hks.below hb)
  have HC1 := hid hc1
  have HC2 := hid hc2
  have hB0 : Below w.heap.size w (w.alloc (.cells #[.int .i64 k, .int .i64 v, .slice ads ds.length cds, .slice aks ks.length cks] 27)) := (Below.refl _ _).alloc (Nat.le_refl _) _
  clear hr hbk hM hc1 hc2 hB0 ih hN hds hks
  go_enter Try.func9, Try.ntmps9
  go_wp2_with fail
  refine (HC1.out _ ((((Below.refl _ _).alloc (Nat.le_refl _) _).alloc (by simp) _).alloc (by simp; omega) _)).mono ?_
  rintro e w1 ⟨ads_1, cds_1, rfl, ho1, hb1⟩
  obtain ⟨hcl1, hfz1⟩ := bcell hb1
  have hz1 : w.heap.size + 1 + 1 < w1.heap.size := by have := hb1.size; simp at this; omega
  have hy1 : w.heap.size + 1 < w1.heap.size := by omega
  have hx1 : w.heap.size < w1.heap.size := by omega
  have hbw1 : Below w.heap.size w w1 := ((((Below.refl _ _).alloc (Nat.le_refl _) _).alloc (by simp) _).alloc (by simp; omega) _).trans (hb1.mono (by simp; omega))
  have HO1 := hid (ho1.mono (base' := w.heap.size + 3) (by simp))
  have HT1 := hid (Nat.le_refl w1.heap.size)
  clear HC1 ho1
  have hbs1 := (hbw1.setCell (p := ⟨w.heap.size + 1 + 1, 2, none⟩) (by simp; omega) (.slice ads_1 ds.length cds_1))
  have HKS1 := hid ((Keeps.refl (w.heap.size + 3) w1).setCell (p := ⟨w.heap.size + 1 + 1, 2, none⟩) (by simp) (.slice ads_1 ds.length cds_1))
  go_wp2_with fail
  refine (HC2.out _ hbs1).mono ?_
  rintro e w2 ⟨aks_2, cks_2, rfl, ho2, hb2⟩
  obtain ⟨hcl2, hfz2⟩ := bcell hb2
  have hz2 : w.heap.size + 1 + 1 < w2.heap.size := by have := hb2.size; simp at this; omega
  have hbw2 : Below w.heap.size w w2 := hbs1.trans (hb2.mono hbs1.size)
  have hsz2 : w1.heap.size ≤ w2.heap.size := by have := hb2.size; simpa using this
  have HK2 := hid (HKS1.out.below hb2)
  have HO2 := hid (ho2.mono (base' := w1.heap.size) (by simp))
  clear HC2 ho2 HKS1
  go_wp2_with fail
  refine bodyPost_ret (v := .agg #[.int .i64 k, .int .i64 v, .slice ads_1 ds.length cds_1, .slice aks_2 ks.length cks_2]) (by simp [results, Try.results9, go_sem, hcl1, hcl2, hy1]) rfl ⟨ads_1, cds_1, aks_2, cks_2, rfl, ?_, ?_⟩
  · have hfin := (((((HK2.out.setCell (p := ⟨w.heap.size + 1 + 1, 3, none⟩) (by simp) (.slice aks_2 ks.length cks_2)).setCell (p := ⟨w.heap.size + 1, 0, none⟩) (by simp) (.int .i64 k)).setCell (p := ⟨w.heap.size + 1, 1, none⟩) (by simp) (.int .i64 v)).setCell (p := ⟨w.heap.size + 1, 2, none⟩) (by simp) (.slice ads_1 ds.length cds_1)).setCell (p := ⟨w.heap.size + 1, 3, none⟩) (by simp) (.slice aks_2 ks.length cks_2))
    have hfin2 := ((((((Keeps.refl (w.heap.size + 3) w2).setCell (p := ⟨w.heap.size + 1 + 1, 3, none⟩) (by simp) (.slice aks_2 ks.length cks_2)).setCell (p := ⟨w.heap.size + 1, 0, none⟩) (by simp) (.int .i64 k)).setCell (p := ⟨w.heap.size + 1, 1, none⟩) (by simp) (.int .i64 v)).setCell (p := ⟨w.heap.size + 1, 2, none⟩) (by simp) (.slice ads_1 ds.length cds_1)).setCell (p := ⟨w.heap.size + 1, 3, none⟩) (by simp) (.slice aks_2 ks.length cks_2))
    have hp := (((PartAll.cons (HO1.out.part.keeps hfin (by first | exact Nat.le_refl _ | omega) (Nat.le_refl _)) (PartAll.cons (HO2.out.part.keeps hfin2 (by first | exact Nat.le_refl _ | omega) (Nat.le_refl _)) (PartAll.nil _ w2.heap.size w2.heap.size) (Nat.le_refl _) (by omega) (by omega)) (Nat.le_refl _) (by omega) (by omega)).plain (Rd.int_mk lov hiv)).plain (Rd.int_mk lok hik))
    exact OwnS.mono (base := w.heap.size + 3) hp.own (by omega)
  · exact (((((hbw2.setCell (by simp; try omega) _).setCell (by simp; try omega) _).setCell (by simp; try omega) _).setCell (by simp; try omega) _).setCell (by simp; try omega) _)

theorem infoCo : (Try.prog.info? 36).map (fun i => (i.zero, i.size, i.bytes)) = some (some (.agg #[.int .i64 0, .int .i64 0, .slice none 0 0, .slice none 0 0]), 4, 64) := by kernel_rfl
theorem makeCo (n : Nat) (hn : n ≤ 1048576) : ∃ C : Array Value, C.size = n * 4 ∧ ∀ w : World, (Instr.makeSlice 31 (.int .i64 (n : Int)) (.int .i64 (n : Int))).run Try.prog w = .ok (.slice (some ⟨w.heap.size, 0, none⟩) n n) (w.alloc (.cells C 36)) := by
  obtain ⟨i, hi, hz, hs, hb⟩ := info_parts infoCo
  refine ⟨madeCells (Value.cells (.agg #[.int .i64 0, .int .i64 0, .slice none 0 0, .slice none 0 0])) (n * 4), size_madeCells _ _, fun w => ?_⟩
  have := run_make (P := Try.prog) w 31 36 i _ Try.underlying31 hi hz .i64 .i64 n n (by omega) (Int.le_refl _) (by rw [hb]; omega) (by omega)
  simp only [Int.toNat_natCast, hs] at this
  exact this
theorem toCos_step (N : Nat) (ih : ToCo N) : ToCos (N + 1) := by
  intro ts a c w hN hM hr
  obtain ⟨_, _, e, h2, h3, h4⟩ := hr.eCo
  simp only [Value.slice.injEq, true_and] at e
  obtain ⟨rfl, rfl⟩ := e
  have hl := Co.bulks_length ts
  obtain ⟨C, hC, hmk⟩ := makeCo ts.length (by omega)
  have HC := hid hC
  have H4 := hid h4
  have IH := hid ih
  clear hr h4 hC ih
  go_enter Try.func24, Try.ntmps24
  go_wp2_with fail
  clear hmk
  go_loopw [4] (fun i wr => ∃ (j : Nat), j ≤ ts.length ∧ i = .int .i64 j ∧ ∃ (cur : Array Value) (F : List Nat), wr.heap[w.heap.size]? = some (.cells cur 36 (0, 0)) ∧ Hid (cur.size = ts.length * 4) ∧ Hid (RdAll wr (Co.ds (ts.take j)) (cur.toList.take (j * 4)) F) ∧ Owned wr (w.heap.size + 1) F ∧ Below w.heap.size w wr) (fun i _ => ts.length - (intOf i).toNat)
  case atStart => exact ⟨0, by omega, rfl, C, [], heap_alloc_new _ _, HC.out, by show RdAll _ _ _ _; simpa [Co.ds] using RdAll.nil, Owned.nil _ _, (Below.refl _ _).alloc (Nat.le_refl _) _⟩
  case round =>
    obtain ⟨j, hj, rfl, cur, F, hcur, HS, HR, HO, hb⟩ := hrel
    by_cases hlt : j < ts.length
    · obtain ⟨b, o, rfl, hbl, hall⟩ := H4.out (by omega)
      obtain ⟨t, ht⟩ : ∃ t, ts[j]? = some t := ⟨_, List.getElem?_eq_getElem hlt⟩
      obtain ⟨k1, v1, ds1, ks1⟩ := t
      obtain ⟨ads1, cds1, aks1, cks1, q0, q1, q2, q3, hrk⟩ := hall j k1 v1 ds1 ks1 ht
      clear hall H4
      have d0 := (hb.cell (p := ⟨b, o + j * 4, none⟩) hbl).trans q0
      have d1 := (hb.cell (p := ⟨b, o + j * 4 + 1, none⟩) hbl).trans q1
      have d2 := (hb.cell (p := ⟨b, o + j * 4 + 2, none⟩) hbl).trans q2
      have d3 := (hb.cell (p := ⟨b, o + j * 4 + 3, none⟩) hbl).trans q3
      have HT := hid ht
      have hbg := Co.bulk_get ts j _ ht
      have hfc := hrk.fCo
      have HFC := hid hfc
      have hc := IH.out k1 v1 ds1 ks1 ads1 cds1 aks1 cks1 wr (by omega) (by omega) (hrk.below hb)
      have HC := hid hc
      have HU := hid hcur
      clear ht hrk q0 q1 q2 q3 hc hcur hfc
      go_wp2_with fail
      refine HC.out.mono ?_
      clear HC
      rintro e w1 ⟨ads2, cds2, aks2, cks2, rfl, hown, hb1⟩
      have hB : w.heap.size < wr.heap.size := (Array.getElem?_eq_some_iff.1 HU.out).1
      have hcur1 : w1.heap[w.heap.size]? = some (.cells cur 36 (0, 0)) := (hb1.block _ hB).trans HU.out
      have hsz : j * 4 + 3 < cur.size := by have := HS.out; omega
      have e0 : w1.cell? ⟨w.heap.size, j * 4, none⟩ = some (cur[j * 4]'(by omega)) := by simp [World.cell?, hcur1]
      have f0 : w1.frozen? ⟨w.heap.size, j * 4, none⟩ = false := by simp [World.frozen?, hcur1]
      have e1 : w1.cell? ⟨w.heap.size, j * 4 + 1, none⟩ = some (cur[j * 4 + 1]'(by omega)) := by simp [World.cell?, hcur1]
      have f1 : w1.frozen? ⟨w.heap.size, j * 4 + 1, none⟩ = false := by simp [World.frozen?, hcur1]
      have e2 : w1.cell? ⟨w.heap.size, j * 4 + 2, none⟩ = some (cur[j * 4 + 2]'(by omega)) := by simp [World.cell?, hcur1]
      have f2 : w1.frozen? ⟨w.heap.size, j * 4 + 2, none⟩ = false := by simp [World.frozen?, hcur1]
      have e3 : w1.cell? ⟨w.heap.size, j * 4 + 3, none⟩ = some (cur[j * 4 + 3]'(by omega)) := by simp [World.cell?, hcur1]
      have f3 : w1.frozen? ⟨w.heap.size, j * 4 + 3, none⟩ = false := by simp [World.frozen?, hcur1]
      have HCU := hid hcur1
      have HW := hid hown
      clear hcur1 hown
      go_wp2_with fail
      obtain ⟨F3, hr3, ho3⟩ := HW.out
      have hlo3 : ∀ y ∈ F3, wr.heap.size ≤ y := fun y hy => (ho3.2 y hy).1
      have hlo : ∀ x ∈ F, x < wr.heap.size := HO.lt
      obtain ⟨cur', H, g1, g2, g3, g4, g5⟩ := fill_step (m := 4) (base := w.heap.size + 1) HCU.out rfl (by have := HS.out; omega) (HR.out.below hb1) hr3 (HO.keep fun b hb => hb1.block b (hlo b hb)) (ho3.mono (by omega))
        (fun x hx => by have := (HO.2 x hx).1; omega) (fun x hx => by have := hlo3 x hx; omega) (fun x hx y hy => by have := hlo x hx; have := hlo3 y hy; omega)
      have hbw : Below w.heap.size w (setMany w1 w.heap.size (j * 4) [.int .i64 k1, .int .i64 v1, .slice ads2 ds1.length cds2, .slice aks2 ks1.length cks2]) := Below.setMany _ _ (hb.trans (hb1.mono hb.size)) (Nat.le_refl _)
      have htk : Co.ds (ts.take (j + 1)) = Co.ds (ts.take j) ++ [Co.d (Co.mk k1 v1 ds1 ks1)] := Co.ds_snoc ts j _ HT.out
      go_roundw
      case rel => exact ⟨j + 1, by omega, by go_num, cur', H, g1, by show _ = _; rw [g2]; exact HS.out, by show RdAll _ _ _ _; rw [htk]; exact g3, g4, hbw⟩
      case measure => simp [intOf]; omega
    · obtain rfl : j = ts.length := by omega
      rw [List.take_length] at HR
      go_wp2_with fail
      go_ret
      obtain ⟨G, q1, q2⟩ := fill_done (m := 4) (base := w.heap.size) hcur HS.out (Co.ds_length ts) (by omega) HR.out (HO.mono (by omega)) (Nat.le_refl _) (fun x hx => by have := (HO.2 x hx).1; omega)
      exact ⟨_, _, rfl, ⟨G, q1, q2⟩, hb⟩

theorem toCo_all : ∀ M, ToCo M ∧ ToCos M
  | 0 => ⟨fun _ _ _ _ _ _ _ _ _ h => absurd h (by omega), fun _ _ _ _ h => absurd h (by omega)⟩
  | M + 1 => by
    have h := toCo_all M
    have h2 := toCos_step M h.1
    exact ⟨toCo_step (M + 1) h2, h2⟩
theorem toCo (k : Int) (v : Int) (ds : List Int) (ks : List Co) (ads : Option Addr) (cds : Nat) (aks : Option Addr) (cks : Nat) (w : World) (hM : Co.bulk (Co.mk k v ds ks) ≤ 1048576) (hr : RdS w (Co.d (Co.mk k v ds ks)) [.int .i64 k, .int .i64 v, .slice ads ds.length cds, .slice aks ks.length cks]) :
    Calls Try.prog 9 #[.agg #[.int .i64 k, .int .i64 v, .slice ads ds.length cds, .slice aks ks.length cks]] w (GivesCo k v ds ks w) :=
  (toCo_all (Co.bulk (Co.mk k v ds ks) + 1)).1 k v ds ks ads cds aks cks w (by omega) hM hr
theorem toCos (ts : List Co) (a : Option Addr) (c : Nat) (w : World) (hM : Co.bulks ts ≤ 1048576) (hr : RdL w (Co.ds ts) (.slice a ts.length c)) :
    Calls Try.prog 24 #[.slice a ts.length c] w (GivesCos ts w) :=
  (toCo_all (Co.bulks ts + 1)).2 ts a c w (by omega) hM hr

end Go.Proofs.Ytejdbmeoaekhcaa
