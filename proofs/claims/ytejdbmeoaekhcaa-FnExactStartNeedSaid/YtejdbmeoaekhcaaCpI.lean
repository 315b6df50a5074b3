/- Walks: a copy of a core, in the program. No condition. -/
import Derived.Test.YtejdbmeoaekhcaaRowCo
import Derived.Deep.RegionHeld3
import Derived.Deep.CutRange
import Derived.Deep.RegionLaw
import Derived.Deep.AppendLies
namespace Go.Proofs.Ytejdbmeoaekhcaa
open Go.ChangeShapes Go.WideShapes Go.ChangeAt Go.RowKit
open Go.Sort (grow)
set_option linter.unusedVariables false

def CpW (N : Nat) : Prop := ∀ (k1 v1 : Int) (ds1 : List Int) (ks1 : List Co) (ads1 : Option Addr) (cds1 : Nat) (aks1 : Option Addr) (cks1 : Nat) (w : World), Co.bulk (Co.mk k1 v1 ds1 ks1) < N → Co.bulk (Co.mk k1 v1 ds1 ks1) ≤ 1048576 → RdS w (Co.d (Co.mk k1 v1 ds1 ks1)) [.int .i64 k1, .int .i64 v1, .slice ads1 ds1.length cds1, .slice aks1 ks1.length cks1] →
  Calls Try.prog 31 #[.agg #[.int .i64 k1, .int .i64 v1, .slice ads1 ds1.length cds1, .slice aks1 ks1.length cks1]] w (GivesC (Co.mk k1 v1 ds1 ks1) w)
set_option maxRecDepth 100000 in
set_option maxHeartbeats 4000000 in
theorem cp_step (N : Nat) (ih : CpW N) : CpW (N + 1) := by
  obtain ⟨i0, hi, hz0, hz1, hz2⟩ := info_parts infoCo
  intro k1 v1 ds1 ks1 ads1 cds1 aks1 cks1 w hN hM hr
  have hbk : Co.bulk (Co.mk k1 v1 ds1 ks1) = In.bulks ds1 + Co.bulks ks1 := rfl
  have hdl := In.bulks_length ds1
  obtain ⟨rk, rv, hds, hks⟩ := hr.fCo
  obtain ⟨_, _, e, h2, h3, h4⟩ := hks.eCo
  simp only [Value.slice.injEq, true_and] at e
  obtain ⟨rfl, rfl⟩ := e
  have hl := Co.bulks_length ks1
  have hlk : ks1.length ≤ 1048576 := by omega
  have H4 := hid h4
  have IH := hid ih
  have HBK := hid hbk
  have HN := hid hN
  have HM := hid hM
  have HI := hid hi
  have HRK := hid rk
  have HRV := hid rv
  have HOW := hid (fun (W : World) (hb : Below w.heap.size w W) => impl_clone ds1 (.slice ads1 ds1.length cds1) W (by omega) (hds.below hb))
  have hB0 : Below w.heap.size w (w.alloc (.cells #[.int .i64 k1, .int .i64 v1, .slice ads1 ds1.length cds1, .slice aks1 ks1.length cks1] 36)) := (Below.refl _ _).alloc (Nat.le_refl _) _
  have hB1 : Below w.heap.size w ((w.alloc (.cells #[.int .i64 k1, .int .i64 v1, .slice ads1 ds1.length cds1, .slice aks1 ks1.length cks1] 36)).alloc (.cells #[.int .i64 0, .int .i64 0, .slice none 0 0, .slice none 0 0] 36)) := hB0.alloc (by simp) _
  have hp0 : ((w.alloc (.cells #[.int .i64 k1, .int .i64 v1, .slice ads1 ds1.length cds1, .slice aks1 ks1.length cks1] 36)).alloc (.cells #[.int .i64 0, .int .i64 0, .slice none 0 0, .slice none 0 0] 36)).heap[w.heap.size]? = some (.cells #[.int .i64 k1, .int .i64 v1, .slice ads1 ds1.length cds1, .slice aks1 ks1.length cks1] 36) := by rw [Below.heap_alloc _ _ _ (by simp)]; exact heap_alloc_new w _
  have HP0 := hid hp0
  have y0 := heap_cell hp0 (j := 0) rfl
  have y1 := heap_cell hp0 (j := 1) rfl
  have y2 := heap_cell hp0 (j := 2) rfl
  have hsz2 : ((w.alloc (.cells #[.int .i64 k1, .int .i64 v1, .slice ads1 ds1.length cds1, .slice aks1 ks1.length cks1] 36)).alloc (.cells #[.int .i64 0, .int .i64 0, .slice none 0 0, .slice none 0 0] 36)).heap.size = w.heap.size + 2 := by simp
  have hS0 : (Below (w.heap.size + 2) ((w.alloc (.cells #[.int .i64 k1, .int .i64 v1, .slice ads1 ds1.length cds1, .slice aks1 ks1.length cks1] 36)).alloc (.cells #[.int .i64 0, .int .i64 0, .slice none 0 0, .slice none 0 0] 36)) ((w.alloc (.cells #[.int .i64 k1, .int .i64 v1, .slice ads1 ds1.length cds1, .slice aks1 ks1.length cks1] 36)).alloc (.cells #[.int .i64 0, .int .i64 0, .slice none 0 0, .slice none 0 0] 36)).drew ∧ ((w.alloc (.cells #[.int .i64 k1, .int .i64 v1, .slice ads1 ds1.length cds1, .slice aks1 ks1.length cks1] 36)).alloc (.cells #[.int .i64 0, .int .i64 0, .slice none 0 0, .slice none 0 0] 36)).drew.cell? ⟨w.heap.size, 0, none⟩ = some (.int .i64 k1) ∧ ((w.alloc (.cells #[.int .i64 k1, .int .i64 v1, .slice ads1 ds1.length cds1, .slice aks1 ks1.length cks1] 36)).alloc (.cells #[.int .i64 0, .int .i64 0, .slice none 0 0, .slice none 0 0] 36)).drew.cell? ⟨w.heap.size, 1, none⟩ = some (.int .i64 v1) ∧ ((w.alloc (.cells #[.int .i64 k1, .int .i64 v1, .slice ads1 ds1.length cds1, .slice aks1 ks1.length cks1] 36)).alloc (.cells #[.int .i64 0, .int .i64 0, .slice none 0 0, .slice none 0 0] 36)).drew.cell? ⟨w.heap.size, 2, none⟩ = some (.slice ads1 ds1.length cds1)) := ⟨(Below.refl _ _).drew, y0, y1, y2⟩
  have hlt0 : w.heap.size < w.heap.size + 2 := by omega
  have hkeep : ∀ V V' : World, Below (w.heap.size + 2) V V' → ((Below (w.heap.size + 2) ((w.alloc (.cells #[.int .i64 k1, .int .i64 v1, .slice ads1 ds1.length cds1, .slice aks1 ks1.length cks1] 36)).alloc (.cells #[.int .i64 0, .int .i64 0, .slice none 0 0, .slice none 0 0] 36)) V ∧ V.cell? ⟨w.heap.size, 0, none⟩ = some (.int .i64 k1) ∧ V.cell? ⟨w.heap.size, 1, none⟩ = some (.int .i64 v1) ∧ V.cell? ⟨w.heap.size, 2, none⟩ = some (.slice ads1 ds1.length cds1))) → ((Below (w.heap.size + 2) ((w.alloc (.cells #[.int .i64 k1, .int .i64 v1, .slice ads1 ds1.length cds1, .slice aks1 ks1.length cks1] 36)).alloc (.cells #[.int .i64 0, .int .i64 0, .slice none 0 0, .slice none 0 0] 36)) V' ∧ V'.cell? ⟨w.heap.size, 0, none⟩ = some (.int .i64 k1) ∧ V'.cell? ⟨w.heap.size, 1, none⟩ = some (.int .i64 v1) ∧ V'.cell? ⟨w.heap.size, 2, none⟩ = some (.slice ads1 ds1.length cds1))) := fun V V' hb ⟨h, c0, c1, c2⟩ =>
    ⟨h.trans hb, (hb.cell (p := ⟨w.heap.size, 0, none⟩) hlt0).trans c0, (hb.cell (p := ⟨w.heap.size, 1, none⟩) hlt0).trans c1, (hb.cell (p := ⟨w.heap.size, 2, none⟩) hlt0).trans c2⟩
  have KEEP := hid hkeep
  have KAL := hid (fun (V : World) (ob : Obj) (h : (Below (w.heap.size + 2) ((w.alloc (.cells #[.int .i64 k1, .int .i64 v1, .slice ads1 ds1.length cds1, .slice aks1 ks1.length cks1] 36)).alloc (.cells #[.int .i64 0, .int .i64 0, .slice none 0 0, .slice none 0 0] 36)) V ∧ V.cell? ⟨w.heap.size, 0, none⟩ = some (.int .i64 k1) ∧ V.cell? ⟨w.heap.size, 1, none⟩ = some (.int .i64 v1) ∧ V.cell? ⟨w.heap.size, 2, none⟩ = some (.slice ads1 ds1.length cds1))) => hkeep V (V.alloc ob) ((Below.refl _ _).alloc (by have := h.1.size; rw [hsz2] at this; omega) _) h)
  have KST := hid (fun (V : World) (g q : Nat) (u : Value) (hg : w.heap.size + 2 ≤ g) (h : (Below (w.heap.size + 2) ((w.alloc (.cells #[.int .i64 k1, .int .i64 v1, .slice ads1 ds1.length cds1, .slice aks1 ks1.length cks1] 36)).alloc (.cells #[.int .i64 0, .int .i64 0, .slice none 0 0, .slice none 0 0] 36)) V ∧ V.cell? ⟨w.heap.size, 0, none⟩ = some (.int .i64 k1) ∧ V.cell? ⟨w.heap.size, 1, none⟩ = some (.int .i64 v1) ∧ V.cell? ⟨w.heap.size, 2, none⟩ = some (.slice ads1 ds1.length cds1))) => hkeep V (V.setCell ⟨g, q, none⟩ u) ((Below.refl _ _).setCell (by simpa using hg) _) h)
  have KST4 := hid (fun (V : World) (p q r u : Value) (h : (Below (w.heap.size + 2) ((w.alloc (.cells #[.int .i64 k1, .int .i64 v1, .slice ads1 ds1.length cds1, .slice aks1 ks1.length cks1] 36)).alloc (.cells #[.int .i64 0, .int .i64 0, .slice none 0 0, .slice none 0 0] 36)) V ∧ V.cell? ⟨w.heap.size, 0, none⟩ = some (.int .i64 k1) ∧ V.cell? ⟨w.heap.size, 1, none⟩ = some (.int .i64 v1) ∧ V.cell? ⟨w.heap.size, 2, none⟩ = some (.slice ads1 ds1.length cds1))) => KST.out _ (w.heap.size + 1 + 1) 3 u (Nat.le_refl _) (KST.out _ _ 2 r (Nat.le_refl _) (KST.out _ _ 1 q (Nat.le_refl _) (KST.out V _ 0 p (Nat.le_refl _) h))))
  have HA1 := hid (show (((w.alloc (.cells #[.int .i64 k1, .int .i64 v1, .slice ads1 ds1.length cds1, .slice aks1 ks1.length cks1] 36)).alloc (.cells #[.int .i64 0, .int .i64 0, .slice none 0 0, .slice none 0 0] 36)).alloc (.cells #[.int .i64 0, .int .i64 0, .slice none 0 0, .slice none 0 0] 36)).drew.heap[w.heap.size + 1 + 1]? = some (.cells #[.int .i64 0, .int .i64 0, .slice none 0 0, .slice none 0 0] 36) from (by have h := heap_alloc_new ((w.alloc (.cells #[.int .i64 k1, .int .i64 v1, .slice ads1 ds1.length cds1, .slice aks1 ks1.length cks1] 36)).alloc (.cells #[.int .i64 0, .int .i64 0, .slice none 0 0, .slice none 0 0] 36)) (.cells #[.int .i64 0, .int .i64 0, .slice none 0 0, .slice none 0 0] 36); rw [World.size_alloc, World.size_alloc] at h; exact h))
  have hA : Below w.heap.size w (((w.alloc (.cells #[.int .i64 k1, .int .i64 v1, .slice ads1 ds1.length cds1, .slice aks1 ks1.length cks1] 36)).alloc (.cells #[.int .i64 0, .int .i64 0, .slice none 0 0, .slice none 0 0] 36)).alloc (.cells #[.int .i64 0, .int .i64 0, .slice none 0 0, .slice none 0 0] 36)).drew := ((hB1.alloc (by rw [hsz2]; omega) _)).drew
  have hC : Below w.heap.size w ((w.alloc (.cells #[.int .i64 k1, .int .i64 v1, .slice ads1 ds1.length cds1, .slice aks1 ks1.length cks1] 36)).alloc (.cells #[.int .i64 0, .int .i64 0, .slice none 0 0, .slice none 0 0] 36)).drew := hB1.drew
  clear hr h4 ih hN hM hbk hks hi rk rv hds hkeep hB1 hdl hp0
  go_enter Try.func31, Try.ntmps31
  go_wp2_with fail
  go_upto_region 1 with fail
  go_cut [3] from 6 (fun t3 wx => ∃ (g cd : Nat) (ad : Option Addr), t3 = .pointer (some ⟨g, 0, none⟩) ∧ Hid (w.heap.size + 1 + 1 ≤ g) ∧ Hid (g < wx.heap.size) ∧ Hid (Below (w.heap.size + 1) (w.alloc (.cells #[.int .i64 k1, .int .i64 v1, .slice ads1 ds1.length cds1, .slice aks1 ks1.length cks1] 36)) wx) ∧ Hid (wx.heap[w.heap.size + 1]? = some (.cells #[.int .i64 0, .int .i64 0, .slice none 0 0, .slice none 0 0] 36)) ∧ Hid (wx.heap[g]? = some (.cells #[.int .i64 k1, .int .i64 v1, .slice ad ds1.length cd, .slice none 0 0] 36)) ∧ Hid (OwnB wx (w.heap.size + 1 + 1) wx.heap.size g (.list (In.ds ds1)) (.slice ad ds1.length cd)))
  case first =>
    go_region_held3 (fun V => (Below (w.heap.size + 2) ((w.alloc (.cells #[.int .i64 k1, .int .i64 v1, .slice ads1 ds1.length cds1, .slice aks1 ks1.length cks1] 36)).alloc (.cells #[.int .i64 0, .int .i64 0, .slice none 0 0, .slice none 0 0] 36)) V ∧ V.cell? ⟨w.heap.size, 0, none⟩ = some (.int .i64 k1) ∧ V.cell? ⟨w.heap.size, 1, none⟩ = some (.int .i64 v1) ∧ V.cell? ⟨w.heap.size, 2, none⟩ = some (.slice ads1 ds1.length cds1)))
      (first | exact hS0 | exact KEEP.out _ _ hbq (by assumption) | exact KAL.out _ _ (by assumption) | exact KAL.out _ _ hSV | exact KST4.out _ _ _ _ _ hSV | go_keep)
      (first
        | (go_at_call 55; (with_reducible refine (HOW.out (((w.alloc (.cells #[.int .i64 k1, .int .i64 v1, .slice ads1 ds1.length cds1, .slice aks1 ks1.length cks1] 36)).alloc (.cells #[.int .i64 0, .int .i64 0, .slice none 0 0, .slice none 0 0] 36)).alloc (.cells #[.int .i64 0, .int .i64 0, .slice none 0 0, .slice none 0 0] 36)).drew hA).mono ?_); rintro e V1 ⟨ad, cd, rfl, ho, hbw⟩; have hbq := hbw.mono (B' := w.heap.size + 2) (by simp); have hSV := KEEP.out _ _ hbq (by assumption); have hx := (hbw.block (w.heap.size + 1 + 1) (by simp)).trans HA1.out; have z0 := heap_free hx 0; have z1 := heap_free hx 1; have z2 := heap_free hx 2; have z3 := heap_free hx 3; have r0 := heap_cell hx (j := 0) rfl; have r1 := heap_cell hx (j := 1) rfl; have r2 := heap_cell hx (j := 2) rfl; have r3 := heap_cell hx (j := 3) rfl)
        | (go_at_call 55; (with_reducible refine (HOW.out ((w.alloc (.cells #[.int .i64 k1, .int .i64 v1, .slice ads1 ds1.length cds1, .slice aks1 ks1.length cks1] 36)).alloc (.cells #[.int .i64 0, .int .i64 0, .slice none 0 0, .slice none 0 0] 36)).drew hC).mono ?_); rintro e V1 ⟨ad, cd, rfl, ho, hbw⟩; have hbq := hbw.mono (B' := w.heap.size + 2) (by simp); have hSV := KEEP.out _ _ hbq (by assumption)))
    all_goals
      clear KEEP KAL KST KST4 HOW IH H4
      go_wp2_with fail
      go_meet
      first
        | (have h := fun C => box_after (C := C) hbw ho
           rw [show (w.alloc (.cells #[.int .i64 k1, .int .i64 v1, .slice ads1 ds1.length cds1, .slice aks1 ks1.length cks1] 36)).heap.size = w.heap.size + 1 from World.size_alloc _ _] at h
           exact ⟨_, cd, ad, rfl, h _⟩)
        | (have h := fun p q r u => box_before (p := p) (q := q) (r := r) (u := u) hbw ho
           rw [show (w.alloc (.cells #[.int .i64 k1, .int .i64 v1, .slice ads1 ds1.length cds1, .slice aks1 ks1.length cks1] 36)).heap.size = w.heap.size + 1 from World.size_alloc _ _] at h
           exact ⟨_, cd, ad, rfl, h _ _ _ _⟩)
  case rest =>
    obtain ⟨wa, hwa⟩ : ∃ wa, wa = wc := ⟨_, rfl⟩
    subst hwa
    obtain ⟨g, cd, ad, rfl, HG1, HG2, HBW, HR0, HX, HO⟩ := hcut
    have HPB := hid ((HBW.out.block w.heap.size (by simp)).trans (heap_alloc_new w (.cells #[.int .i64 k1, .int .i64 v1, .slice ads1 ds1.length cds1, .slice aks1 ks1.length cks1] 36)))
    have HB := hid (hB0.trans (HBW.out.mono (by simp)))
    clear KEEP KAL KST KST4 HOW hS0 y0 y1 y2 HA1 hA hC HBW HP0 hB0 hsz2 hlt0
    obtain ⟨s, hs⟩ : ∃ s, s = wa.heap.size := ⟨_, rfl⟩
    rw [← hs] at HG2 HO
    have HSD := hid hs
    clear hs
    have p3 := heap_cell HPB.out (j := 3) rfl
    go_wp2_with fail
    clear p3
    go_loopw [5, 17] (fun _ i wr => ∃ (j : Nat) (v0 : Value), j ≤ ks1.length ∧ i = .int .i64 j ∧ Hid (∀ x, x < s → x ≠ g → wr.heap[x]? = wa.heap[x]?) ∧ Hid (wr.heap[g]? = some (.cells #[.int .i64 k1, .int .i64 v1, .slice ad ds1.length cd, v0] 36)) ∧ Hid (Below w.heap.size w wr) ∧ Hid (s ≤ wr.heap.size) ∧ Hid (RowNow 36 4 s (Co.ds (ks1.take j)) v0 wr)) (fun _ i _ => ks1.length - (intOf i).toNat)
    case atStart => exact ⟨0, .slice none 0 0, by omega, rfl, hid (fun x _ hx => rfl), HX, HB, hid (Nat.le_of_eq HSD.out), hid (RowNow.nil _ _ _ _)⟩
    case round =>
      obtain ⟨j, v0, hj, rfl, HK, HXG, HB3, HZ, HROW⟩ := hrel
      by_cases hlt : j < ks1.length
      case neg =>
        obtain rfl : j = ks1.length := by omega
        rw [List.take_length] at HROW
        obtain ⟨a2, c2, hv⟩ := HROW.out.slice
        rw [Co.ds_length] at hv
        subst hv
        have HRW := hid ((HK.out (w.heap.size + 1) (by have := HG1.out; have := HG2.out; omega) (by have := HG1.out; omega)).trans HR0.out)
        have f0 := heap_cell HXG.out (j := 0) rfl
        have f1 := heap_cell HXG.out (j := 1) rfl
        have f2 := heap_cell HXG.out (j := 2) rfl
        have f3 := heap_cell HXG.out (j := 3) rfl
        have r0 := heap_cell HRW.out (j := 0) rfl
        have r1 := heap_cell HRW.out (j := 1) rfl
        have r2 := heap_cell HRW.out (j := 2) rfl
        have r3 := heap_cell HRW.out (j := 3) rfl
        have q0 := heap_free HRW.out 0
        have q1 := heap_free HRW.out 1
        have q2 := heap_free HRW.out 2
        have q3 := heap_free HRW.out 3
        go_wp2_with fail
        have hS := set4 HRW.out (.int .i64 k1) (.int .i64 v1) (.slice ad ds1.length cd) (.slice a2 ks1.length c2)
        have hc0 := heap_cell hS (j := 0) rfl
        have hc1 := heap_cell hS (j := 1) rfl
        have hc2 := heap_cell hS (j := 2) rfl
        have hc3 := heap_cell hS (j := 3) rfl
        refine bodyPost_ret (v := .agg #[.int .i64 k1, .int .i64 v1, .slice ad ds1.length cd, .slice a2 ks1.length c2]) (by simp [results, Try.results31, go_sem, hc0, hc1, hc2, hc3]) rfl ?_
        have hO := HROW.out.own
        exact GivesC.of_len (B := w.heap.size + 1 + 1) (s := s) (g := g) rfl rfl HRK.out HRV.out (by omega) (by have := HG1.out; have := HG2.out; omega)
          (OwnB.keep HO.out fun x hB hx hne => (set4_ne _ _ _ _ (by omega)).trans (HK.out x hx hne)) (OwnS.keep hO fun x hx _ => set4_ne _ _ _ _ (by have := HG1.out; have := HG2.out; omega)) (set4_below HB3.out (Nat.le_succ _) _ _ _ _)
      case pos =>
        obtain ⟨b, o, rfl, hbl, hall⟩ := H4.out (by omega)
        obtain ⟨t, ht⟩ : ∃ t, ks1[j]? = some t := ⟨_, List.getElem?_eq_getElem hlt⟩
        obtain ⟨k3, v3, ds3, ks3⟩ := t
        obtain ⟨ads3, cds3, aks3, cks3, q0, q1, q2, q3, hrk⟩ := hall j k3 v3 ds3 ks3 ht
        clear hall H4
        have d0 := (HB3.out.cell (p := ⟨b, o + j * 4, none⟩) hbl).trans q0
        have d1 := (HB3.out.cell (p := ⟨b, o + j * 4 + 1, none⟩) hbl).trans q1
        have d2 := (HB3.out.cell (p := ⟨b, o + j * 4 + 2, none⟩) hbl).trans q2
        have d3 := (HB3.out.cell (p := ⟨b, o + j * 4 + 3, none⟩) hbl).trans q3
        have hbg := Co.bulk_get ks1 j _ ht
        have hsn := Co.ds_snoc ks1 j _ ht
        have hbk1 : Below wr.heap.size wr (wr.alloc (.cells #[.int .i64 k3, .int .i64 v3, .slice ads3 ds3.length cds3, .slice aks3 ks3.length cks3] 36)) := (Below.refl _ _).alloc (Nat.le_refl _) _
        have HBK1 := hid (HB3.out.trans (hbk1.mono HB3.out.size))
        have HKK := hid (fun x (hx : x < s) (hne : x ≠ g) => (hbk1.block x (Nat.lt_of_lt_of_le hx HZ.out)).trans (HK.out x hx hne))
        have HXK := hid ((hbk1.block g (Nat.lt_of_lt_of_le HG2.out HZ.out)).trans HXG.out)
        have HZK := hid (Nat.le_trans HZ.out hbk1.size)
        have HROWK := hid (HROW.out.below hbk1)
        have hc := IH.out k3 v3 ds3 ks3 ads3 cds3 aks3 cks3 (wr.alloc (.cells #[.int .i64 k3, .int .i64 v3, .slice ads3 ds3.length cds3, .slice aks3 ks3.length cks3] 36)).drew (by have := HN.out; have := HBK.out; omega) (by have := HM.out; have := HBK.out; omega) (hrk.below HBK1.out.drew)
        have HSN := hid hsn
        have HC := hid hc
        obtain ⟨xs, F, ho, hra, hw, hn⟩ := HROWK.out
        have hlen : (Co.ds (ks1.take j)).length = j := by rw [Co.ds_length, List.length_take]; omega
        rw [hlen] at ho
        have HO3 := hid ho
        have HRA := hid hra
        have HW := hid hw
        have HNO := hid hn
        have HLEN := hid hlen
        have g3 := heap_cell HXK.out (j := 3) rfl
        have kb0 := heap_cell (heap_alloc_new wr (.cells #[.int .i64 k3, .int .i64 v3, .slice ads3 ds3.length cds3, .slice aks3 ks3.length cks3] 36)) (j := 0) rfl
        have kb1 := heap_cell (heap_alloc_new wr (.cells #[.int .i64 k3, .int .i64 v3, .slice ads3 ds3.length cds3, .slice aks3 ks3.length cks3] 36)) (j := 1) rfl
        have kb2 := heap_cell (heap_alloc_new wr (.cells #[.int .i64 k3, .int .i64 v3, .slice ads3 ds3.length cds3, .slice aks3 ks3.length cks3] 36)) (j := 2) rfl
        have kb3 := heap_cell (heap_alloc_new wr (.cells #[.int .i64 k3, .int .i64 v3, .slice ads3 ds3.length cds3, .slice aks3 ks3.length cks3] 36)) (j := 3) rfl
        clear ht hrk q0 q1 q2 q3 hbg hc hsn ho hra hw hn hlen hbk1
        go_wp2_with fail
        clear d0 d1 d2 d3
        go_region_law (first
            | (go_simp; go_at_call 31; (with_reducible refine HC.out.mono ?_); rintro e W2 ⟨ad5, cd5, a5, c5, rfl, ho5, hb5⟩; have HO5 := hid ho5; have HB5 := hid ((Below.refl (wr.alloc (.cells #[.int .i64 k3, .int .i64 v3, .slice ads3 ds3.length cds3, .slice aks3 ks3.length cks3] 36)).heap.size (wr.alloc (.cells #[.int .i64 k3, .int .i64 v3, .slice ads3 ds3.length cds3, .slice aks3 ks3.length cks3] 36))).drew.trans hb5); have hal := (Below.refl W2.heap.size W2).alloc (Nat.le_refl _) (.cells #[.int .i64 k3, .int .i64 v3, .slice ad5 ds3.length cd5, .slice a5 ks3.length c5] 36); have hx2 := (HB5.out.block g (Array.getElem?_eq_some_iff.1 HXK.out).1).trans HXK.out; have hx2a := (hal.block _ (Array.getElem?_eq_some_iff.1 hx2).1).trans hx2; have HX2A := hid hx2a; have x2 := heap_cell hx2 (j := 3) rfl; have x2a := heap_cell hx2a (j := 3) rfl; have HOA := hid (ownsRow.below (ownsRow.below HO3.out HB5.out) hal); have HZA := hid (Nat.le_trans HZK.out (Nat.le_trans HB5.out.size hal.size)); clear ho5 hb5 hal hx2 hx2a)
            | (refine step_append_lies _ (by rfl) _ _ _ (by rfl) s 36 i0 _ 4 64 Try.underlying31 HI.out hz0 hz1 hz2 rfl (by omega) v0 j xs (by rfl) HOA.out ⟨W2.heap.size, 0, none⟩ 1 1 [.int .i64 k3, .int .i64 v3, .slice ad5 ds3.length cd5, .slice a5 ks3.length c5] (by rfl) (by rfl) (World.news_of_block (cs := #[.int .i64 k3, .int .i64 v3, .slice ad5 ds3.length cd5, .slice a5 ks3.length c5]) (t := 36) (fr := (0, 0)) (heap_alloc_new W2 _)) (by simp [Value.oneCell']) (by omega) (by simp only [maxLen]; omega) (by omega) HZA.out (W2.heap.size + 1) (by simp) ?_; intro gq cap W3 ho3 hg3 hat3 hlt3; have HO4 := hid ho3; have HG3 := hid hg3; have HAT3 := hid hat3; have HRR := hid (row_round4 (te := 36) (p := 3) (u := .slice (some ⟨gq, 0, none⟩) (j + 1) cap) HBK1.out (Nat.le_of_succ_le (Nat.le_of_succ_le HG1.out)) HG2.out HZK.out HLEN.out HO3.out HRA.out HW.out HNO.out HB5.out HO5.out HG3.out HO4.out HAT3.out); have hx3 := HRR.out.2.1.trans HXK.out; have HX3 := hid hx3; have y3 := heap_cell hx3 (j := 3) rfl; have w3 := heap_free hx3 3; clear ho3 hg3 hat3 hlt3 hx3))
        all_goals
          have HXN := hid (heap_setCell_at W3 g 3 (.slice (some ⟨gq, 0, none⟩) (j + 1) cap) HX3.out)
          clear HC IH g3 y3 w3 x2 x2a kb0 kb1 kb2 kb3
          go_wp2_with fail
          go_roundw
          case rel => exact ⟨j + 1, _, by omega, by go_num, hid (fun x hx hne => (HRR.out.1 x hx hne).trans (HKK.out x hx hne)), HXN, hid HRR.out.2.2.1, hid HRR.out.2.2.2.1, hid (by rw [HSN.out]; exact HRR.out.2.2.2.2)⟩
          case measure => simp [intOf]; omega
theorem cp_all : ∀ N, CpW N
  | 0 => fun _ _ _ _ _ _ _ _ _ h => absurd h (by omega)
  | N + 1 => cp_step N (cp_all N)
theorem impl_copyCore (k1 v1 : Int) (ds1 : List Int) (ks1 : List Co) (ads1 : Option Addr) (cds1 : Nat) (aks1 : Option Addr) (cks1 : Nat) (w : World) (hM : Co.bulk (Co.mk k1 v1 ds1 ks1) ≤ 1048576) (hr : RdS w (Co.d (Co.mk k1 v1 ds1 ks1)) [.int .i64 k1, .int .i64 v1, .slice ads1 ds1.length cds1, .slice aks1 ks1.length cks1]) : Calls Try.prog 31 #[.agg #[.int .i64 k1, .int .i64 v1, .slice ads1 ds1.length cds1, .slice aks1 ks1.length cks1]] w (GivesC (Co.mk k1 v1 ds1 ks1) w) := cp_all (Co.bulk (Co.mk k1 v1 ds1 ks1) + 1) k1 v1 ds1 ks1 ads1 cds1 aks1 cks1 w (by omega) hM hr
end Go.Proofs.Ytejdbmeoaekhcaa
