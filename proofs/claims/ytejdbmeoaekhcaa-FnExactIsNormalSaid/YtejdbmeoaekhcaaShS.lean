/- Walks: a core with its variables raised, in the reference. No condition. -/
import Derived.Test.YtejdbmeoaekhcaaRowCo
import Derived.Deep.RegionHeld3
import Derived.Deep.CutRange
import Derived.Deep.RegionLaw
import Derived.Deep.AppendLies
namespace Go.Proofs.Ytejdbmeoaekhcaa
open Go.ChangeShapes Go.WideShapes Go.ChangeAt Go.RowKit
open Go.Sort (grow)
set_option linter.unusedVariables false

def ShW (N : Nat) : Prop := ∀ (k1 v1 : Int) (ds1 : List Int) (ks1 : List Co) (ads1 : Option Addr) (cds1 : Nat) (aks1 : Option Addr) (cks1 : Nat) (b1 o1 : Nat) (bb f : Int) (w : World), Co.bulk (Co.mk k1 v1 ds1 ks1) < N → Co.bulk (Co.mk k1 v1 ds1 ks1) ≤ 1048576 → w.cell? ⟨b1, o1, none⟩ = some (.int .i64 k1) → w.cell? ⟨b1, o1 + 1, none⟩ = some (.int .i64 v1) → w.cell? ⟨b1, o1 + 2, none⟩ = some (.slice ads1 ds1.length cds1) → w.cell? ⟨b1, o1 + 3, none⟩ = some (.slice aks1 ks1.length cks1) → RdS w (Co.d (Co.mk k1 v1 ds1 ks1)) [.int .i64 k1, .int .i64 v1, .slice ads1 ds1.length cds1, .slice aks1 ks1.length cks1] →
  Calls Try.prog 54 #[.pointer (some ⟨b1, o1, none⟩), .int .i64 bb, .int .i64 f] w (GivesC (Co.sh bb (Co.mk k1 v1 ds1 ks1) f) w)
set_option maxRecDepth 100000 in
set_option maxHeartbeats 4000000 in
theorem sh_step (N : Nat) (ih : ShW N) : ShW (N + 1) := by
  obtain ⟨i0, hi, hz0, hz1, hz2⟩ := info_parts infoCo
  intro k1 v1 ds1 ks1 ads1 cds1 aks1 cks1 b1 o1 bb f w hN hM x0 x1 x2 x3 hr
  have hbk : Co.bulk (Co.mk k1 v1 ds1 ks1) = In.bulks ds1 + Co.bulks ks1 := rfl
  have hdl := In.bulks_length ds1
  obtain ⟨rk, rv, hds, hks⟩ := hr.fCo
  obtain ⟨_, _, e, h2, h3, h4⟩ := hks.eCo
  simp only [Value.slice.injEq, true_and] at e
  obtain ⟨rfl, rfl⟩ := e
  have hl := Co.bulks_length ks1
  have hlk : ks1.length ≤ 1048576 := by omega
  have H4 := hid h4
  have IH := hid ih
  have HBK := hid hbk
  have HN := hid hN
  have HM := hid hM
  have HI := hid hi
  have HRK := hid rk
  have HRV := hid rv
  have XL := hid (World.block_lt_of_cell? _ _ x3)
  have X3 := hid x3
  have X0 := hid x0
  have X1 := hid x1
  have HOW := hid (fun (W : World) (hb : Below w.heap.size w W) => spec_own ds1 (.slice ads1 ds1.length cds1) W (by omega) (hds.below hb))
  have hB1 : Below w.heap.size w (w.alloc (.cells #[.int .i64 0, .int .i64 0, .slice none 0 0, .slice none 0 0] 36)) := (Below.refl _ _).alloc (Nat.le_refl _) _
  have hrz : (w.alloc (.cells #[.int .i64 0, .int .i64 0, .slice none 0 0, .slice none 0 0] 36)).heap[w.heap.size]? = some (.cells #[.int .i64 0, .int .i64 0, .slice none 0 0, .slice none 0 0] 36) := heap_alloc_new w _
  have HB1 := hid hB1
  have HRZ := hid hrz
  have l1 := XL.out
  have y0 := (hB1.cell (p := ⟨b1, o1, none⟩) l1).trans x0
  have y1 := (hB1.cell (p := ⟨b1, o1 + 1, none⟩) l1).trans x1
  have y2 := (hB1.cell (p := ⟨b1, o1 + 2, none⟩) l1).trans x2
  have hS0 : (Below (w.heap.size + 1) (w.alloc (.cells #[.int .i64 0, .int .i64 0, .slice none 0 0, .slice none 0 0] 36)) (w.alloc (.cells #[.int .i64 0, .int .i64 0, .slice none 0 0, .slice none 0 0] 36)).drew ∧ (w.alloc (.cells #[.int .i64 0, .int .i64 0, .slice none 0 0, .slice none 0 0] 36)).drew.cell? ⟨b1, o1, none⟩ = some (.int .i64 k1) ∧ (w.alloc (.cells #[.int .i64 0, .int .i64 0, .slice none 0 0, .slice none 0 0] 36)).drew.cell? ⟨b1, o1 + 1, none⟩ = some (.int .i64 v1) ∧ (w.alloc (.cells #[.int .i64 0, .int .i64 0, .slice none 0 0, .slice none 0 0] 36)).drew.cell? ⟨b1, o1 + 2, none⟩ = some (.slice ads1 ds1.length cds1)) := ⟨(Below.refl _ _).drew, y0, y1, y2⟩
  have hkeep : ∀ V V' : World, Below (w.heap.size + 1) V V' → ((Below (w.heap.size + 1) (w.alloc (.cells #[.int .i64 0, .int .i64 0, .slice none 0 0, .slice none 0 0] 36)) V ∧ V.cell? ⟨b1, o1, none⟩ = some (.int .i64 k1) ∧ V.cell? ⟨b1, o1 + 1, none⟩ = some (.int .i64 v1) ∧ V.cell? ⟨b1, o1 + 2, none⟩ = some (.slice ads1 ds1.length cds1))) → ((Below (w.heap.size + 1) (w.alloc (.cells #[.int .i64 0, .int .i64 0, .slice none 0 0, .slice none 0 0] 36)) V' ∧ V'.cell? ⟨b1, o1, none⟩ = some (.int .i64 k1) ∧ V'.cell? ⟨b1, o1 + 1, none⟩ = some (.int .i64 v1) ∧ V'.cell? ⟨b1, o1 + 2, none⟩ = some (.slice ads1 ds1.length cds1))) := fun V V' hb ⟨h, c0, c1, c2⟩ =>
    ⟨h.trans hb, (hb.cell (p := ⟨b1, o1, none⟩) (Nat.lt_succ_of_lt l1)).trans c0, (hb.cell (p := ⟨b1, o1 + 1, none⟩) (Nat.lt_succ_of_lt l1)).trans c1, (hb.cell (p := ⟨b1, o1 + 2, none⟩) (Nat.lt_succ_of_lt l1)).trans c2⟩
  have KEEP := hid hkeep
  have KAL := hid (fun (V : World) (ob : Obj) (h : (Below (w.heap.size + 1) (w.alloc (.cells #[.int .i64 0, .int .i64 0, .slice none 0 0, .slice none 0 0] 36)) V ∧ V.cell? ⟨b1, o1, none⟩ = some (.int .i64 k1) ∧ V.cell? ⟨b1, o1 + 1, none⟩ = some (.int .i64 v1) ∧ V.cell? ⟨b1, o1 + 2, none⟩ = some (.slice ads1 ds1.length cds1))) => hkeep V (V.alloc ob) ((Below.refl _ _).alloc (by have := h.1.size; simp at this; omega) _) h)
  have KST := hid (fun (V : World) (g q : Nat) (u : Value) (hg : w.heap.size + 1 ≤ g) (h : (Below (w.heap.size + 1) (w.alloc (.cells #[.int .i64 0, .int .i64 0, .slice none 0 0, .slice none 0 0] 36)) V ∧ V.cell? ⟨b1, o1, none⟩ = some (.int .i64 k1) ∧ V.cell? ⟨b1, o1 + 1, none⟩ = some (.int .i64 v1) ∧ V.cell? ⟨b1, o1 + 2, none⟩ = some (.slice ads1 ds1.length cds1))) => hkeep V (V.setCell ⟨g, q, none⟩ u) ((Below.refl _ _).setCell (by simpa using hg) _) h)
  have KST4 := hid (fun (V : World) (p q r u : Value) (h : (Below (w.heap.size + 1) (w.alloc (.cells #[.int .i64 0, .int .i64 0, .slice none 0 0, .slice none 0 0] 36)) V ∧ V.cell? ⟨b1, o1, none⟩ = some (.int .i64 k1) ∧ V.cell? ⟨b1, o1 + 1, none⟩ = some (.int .i64 v1) ∧ V.cell? ⟨b1, o1 + 2, none⟩ = some (.slice ads1 ds1.length cds1))) => KST.out _ _ 3 u (Nat.le_refl _) (KST.out _ _ 2 r (Nat.le_refl _) (KST.out _ _ 1 q (Nat.le_refl _) (KST.out V _ 0 p (Nat.le_refl _) h))))
  have HA1 := hid (show ((w.alloc (.cells #[.int .i64 0, .int .i64 0, .slice none 0 0, .slice none 0 0] 36)).alloc (.cells #[.int .i64 0, .int .i64 0, .slice none 0 0, .slice none 0 0] 36)).drew.heap[w.heap.size + 1]? = some (.cells #[.int .i64 0, .int .i64 0, .slice none 0 0, .slice none 0 0] 36) from (by have h := heap_alloc_new (w.alloc (.cells #[.int .i64 0, .int .i64 0, .slice none 0 0, .slice none 0 0] 36)) (.cells #[.int .i64 0, .int .i64 0, .slice none 0 0, .slice none 0 0] 36); rw [World.size_alloc] at h; exact h))
  have hA : Below w.heap.size w ((w.alloc (.cells #[.int .i64 0, .int .i64 0, .slice none 0 0, .slice none 0 0] 36)).alloc (.cells #[.int .i64 0, .int .i64 0, .slice none 0 0, .slice none 0 0] 36)).drew := ((hB1.alloc (by simp) _)).drew
  have hC : Below w.heap.size w (w.alloc (.cells #[.int .i64 0, .int .i64 0, .slice none 0 0, .slice none 0 0] 36)).drew := hB1.drew
  clear hr h4 ih hN hM hbk hks hi rk rv hds x0 x1 x2 x3 hkeep hB1 hrz hdl
  go_enter Try.func54, Try.ntmps54
  go_wp2_with fail
  go_cut [7] from 9 (fun t7 wx => ∃ (g cd : Nat) (ad : Option Addr), t7 = .pointer (some ⟨g, 0, none⟩) ∧ Hid (w.heap.size + 1 ≤ g) ∧ Hid (g < wx.heap.size) ∧ Hid (Below w.heap.size w wx) ∧ Hid (wx.heap[w.heap.size]? = some (.cells #[.int .i64 0, .int .i64 0, .slice none 0 0, .slice none 0 0] 36)) ∧ Hid (wx.heap[g]? = some (.cells #[.int .i64 k1, .int .i64 v1, .slice ad ds1.length cd, .slice none 0 0] 36)) ∧ Hid (OwnB wx (w.heap.size + 1) wx.heap.size g (.list (In.ds ds1)) (.slice ad ds1.length cd)))
  case first =>
    go_region_held3 (fun V => (Below (w.heap.size + 1) (w.alloc (.cells #[.int .i64 0, .int .i64 0, .slice none 0 0, .slice none 0 0] 36)) V ∧ V.cell? ⟨b1, o1, none⟩ = some (.int .i64 k1) ∧ V.cell? ⟨b1, o1 + 1, none⟩ = some (.int .i64 v1) ∧ V.cell? ⟨b1, o1 + 2, none⟩ = some (.slice ads1 ds1.length cds1)))
      (first | exact hS0 | exact KEEP.out _ _ hbq (by assumption) | exact KAL.out _ _ (by assumption) | exact KAL.out _ _ hSV | exact KST4.out _ _ _ _ _ hSV | go_keep)
      (first
        | (go_at_call 76; (with_reducible refine (HOW.out ((w.alloc (.cells #[.int .i64 0, .int .i64 0, .slice none 0 0, .slice none 0 0] 36)).alloc (.cells #[.int .i64 0, .int .i64 0, .slice none 0 0, .slice none 0 0] 36)).drew hA).mono ?_); rintro e V1 ⟨ad, cd, rfl, ho, hbw⟩; have hbq := hbw.mono (B' := w.heap.size + 1) (by simp); have hSV := KEEP.out _ _ hbq (by assumption); have hx := (hbw.block (w.heap.size + 1) (by simp)).trans HA1.out; have z0 := heap_free hx 0; have z1 := heap_free hx 1; have z2 := heap_free hx 2; have z3 := heap_free hx 3; have r0 := heap_cell hx (j := 0) rfl; have r1 := heap_cell hx (j := 1) rfl; have r2 := heap_cell hx (j := 2) rfl; have r3 := heap_cell hx (j := 3) rfl)
        | (go_at_call 76; (with_reducible refine (HOW.out (w.alloc (.cells #[.int .i64 0, .int .i64 0, .slice none 0 0, .slice none 0 0] 36)).drew hC).mono ?_); rintro e V1 ⟨ad, cd, rfl, ho, hbw⟩; have hbq := hbw.mono (B' := w.heap.size + 1) (by simp); have hSV := KEEP.out _ _ hbq (by assumption)))
    all_goals
      clear KEEP KAL KST KST4 HOW IH H4
      go_wp2_with fail
      go_meet
      first
        | exact ⟨_, cd, ad, rfl, box_after hbw ho⟩
        | exact ⟨_, cd, ad, rfl, box_before hbw ho⟩
  case rest =>
    obtain ⟨wa, hwa⟩ : ∃ wa, wa = wc := ⟨_, rfl⟩
    subst hwa
    obtain ⟨g, cd, ad, rfl, HG1, HG2, HB, HR0, HX, HO⟩ := hcut
    clear KEEP KAL KST KST4 HOW hS0 y0 y1 y2 HA1 hA hC HB1 HRZ
    have e0 := (HB.out.cell (p := ⟨b1, o1, none⟩) XL.out).trans X0.out
    have e1 := (HB.out.cell (p := ⟨b1, o1 + 1, none⟩) XL.out).trans X1.out
    obtain ⟨v2, hv2⟩ : ∃ v2, v2 = if k1 = 1 then (if f ≤ v1 then wrap64 (v1 + bb) else v1) else v1 := ⟨_, rfl⟩
    have hv2r : -9223372036854775808 ≤ v2 ∧ v2 ≤ 9223372036854775807 := by
      rw [hv2]; split
      · split
        · exact wrap64_lo _
        · exact HRV.out
      · exact HRV.out
    have HV2R := hid hv2r
    have HRES := hid (show Co.sh bb (Co.mk k1 v1 ds1 ks1) f = Co.mk k1 v2 ds1 (Co.shs bb k1 0 ks1 f) by rw [Co.sh_mk, ← hv2])
    clear hv2r
    obtain ⟨bq, hbq⟩ : ∃ bq : Bool, bq = (decide (k1 = 1) && decide (f ≤ v1)) := ⟨_, rfl⟩
    go_upto_region 2 with fail
    go_cut [35] from 23 (fun t35 wx => t35 = .bool bq ∧ wa = wx)
    case first =>
      clear IH H4
      by_cases h1 : k1 = 1
      case pos =>
        subst h1
        by_cases hf : f ≤ v1
        case pos =>
          have hfd : decide (f ≤ v1) = true := decide_eq_true hf
          have hq : bq = true := by rw [hbq, hfd]; rfl
          clear hbq
          go_wp2_with fail
          go_meet
          exact ⟨by rw [hq], rfl⟩
        case neg =>
          have hfd : decide (f ≤ v1) = false := decide_eq_false hf
          have hq : bq = false := by rw [hbq, hfd]; rfl
          clear hbq hf
          go_wp2_with fail
          go_meet
          exact ⟨by rw [hq], rfl⟩
      case neg =>
        have g1 : (k1 == 1) = false := by simp [h1]
        have hq : bq = false := by rw [hbq]; simp [h1]
        clear hbq h1
        go_wp2_with fail
        go_meet
        exact ⟨by rw [hq], rfl⟩
    case rest =>
    obtain ⟨rfl, rfl⟩ := hcut
    go_upto_if 35 with fail
    go_cut [] from 36 (fun wx => Hid (wx.heap[g]? = some (.cells #[.int .i64 k1, .int .i64 v2, .slice ad ds1.length cd, .slice none 0 0] 36)) ∧ Hid (∀ x, x ≠ g → wx.heap[x]? = wa.heap[x]?) ∧ Hid (wx.heap.size = wa.heap.size) ∧ Hid (Below w.heap.size w wx))
    case first =>
      clear IH H4
      cases hq : bq
      case true =>
        rw [hq] at hbq
        have hb2 := Bool.and_eq_true_iff.1 hbq.symm
        rw [if_pos (of_decide_eq_true hb2.1), if_pos (of_decide_eq_true hb2.2)] at hv2
        have z1 := heap_free HX.out 1
        have c1 := heap_cell HX.out (j := 1) rfl
        have HV2 := hid hv2
        clear hbq hb2 hv2
        subst hq
        go_wp2_with fail
        go_meet
        exact ⟨hid (by have h := heap_setCell_at wa g 1 (.int .i64 v2) HX.out; rw [HV2.out] at h ⊢; exact h), hid (fun x hx => heap_set_ne0 _ hx), hid (by simp [World.setCell]), hid (HB.out.setCell (by have := HG1.out; simp; omega) _)⟩
      case false =>
        have hv3 : v2 = v1 := by
          rw [hv2]
          split
          · rename_i h; subst h
            rw [if_neg (by rw [hq] at hbq; intro h; rw [decide_eq_true h] at hbq; simp at hbq)]
          · rfl
        subst hv3
        subst hq
        clear hbq hv2
        go_wp2_with fail
        go_meet
        exact ⟨HX, hid (fun _ _ => rfl), hid rfl, HB⟩
    case rest =>
    obtain ⟨HX2, HK2, HS2, HB2⟩ := hcut
    obtain ⟨s, hs⟩ : ∃ s, s = wa.heap.size := ⟨_, rfl⟩
    rw [← hs] at HG2 HO HS2
    have HSD := hid hs
    clear hs hv2 hbq e0 e1
    go_wp2_with fail
    go_loopw [8] (fun i wr => ∃ (j : Nat) (v0 : Value), j ≤ ks1.length ∧ i = .int .i64 j ∧ Hid (∀ x, x < s → x ≠ g → wr.heap[x]? = wa.heap[x]?) ∧ Hid (wr.heap[g]? = some (.cells #[.int .i64 k1, .int .i64 v2, .slice ad ds1.length cd, v0] 36)) ∧ Hid (Below w.heap.size w wr) ∧ Hid (s ≤ wr.heap.size) ∧ Hid (RowNow 36 4 s (Co.ds (Co.shs bb k1 0 (ks1.take j) f)) v0 wr)) (fun i _ => ks1.length - (intOf i).toNat)
    case atStart => exact ⟨0, .slice none 0 0, by omega, rfl, hid (fun x _ hx => HK2.out x hx), HX2, HB2, hid (Nat.le_of_eq HS2.out.symm), hid (RowNow.nil _ _ _ _)⟩
    case round =>
      obtain ⟨j, v0, hj, rfl, HK, HXG, HB3, HZ, HROW⟩ := hrel
      have z3 := (HB3.out.cell (p := ⟨b1, o1 + 3, none⟩) XL.out).trans X3.out
      by_cases hlt : j < ks1.length
      case neg =>
        obtain rfl : j = ks1.length := by omega
        rw [List.take_length] at HROW
        obtain ⟨a2, c2, hv⟩ := HROW.out.slice
        rw [Co.ds_length, Co.shs_length] at hv
        subst hv
        have HRW := hid ((HK.out w.heap.size (by have := HG1.out; have := HG2.out; omega) (by have := HG1.out; omega)).trans HR0.out)
        have f0 := heap_cell HXG.out (j := 0) rfl
        have f1 := heap_cell HXG.out (j := 1) rfl
        have f2 := heap_cell HXG.out (j := 2) rfl
        have f3 := heap_cell HXG.out (j := 3) rfl
        have r0 := heap_cell HRW.out (j := 0) rfl
        have r1 := heap_cell HRW.out (j := 1) rfl
        have r2 := heap_cell HRW.out (j := 2) rfl
        have r3 := heap_cell HRW.out (j := 3) rfl
        have q0 := heap_free HRW.out 0
        have q1 := heap_free HRW.out 1
        have q2 := heap_free HRW.out 2
        have q3 := heap_free HRW.out 3
        go_wp2_with fail
        have hS := set4 HRW.out (.int .i64 k1) (.int .i64 v2) (.slice ad ds1.length cd) (.slice a2 ks1.length c2)
        have hc0 := heap_cell hS (j := 0) rfl
        have hc1 := heap_cell hS (j := 1) rfl
        have hc2 := heap_cell hS (j := 2) rfl
        have hc3 := heap_cell hS (j := 3) rfl
        refine bodyPost_ret (v := .agg #[.int .i64 k1, .int .i64 v2, .slice ad ds1.length cd, .slice a2 ks1.length c2]) (by simp [results, Try.results54, go_sem, hc0, hc1, hc2, hc3]) rfl ?_
        have hO := HROW.out.own
        exact GivesC.of_len (B := w.heap.size + 1) (s := s) (g := g) HRES.out (Co.shs_length _ _ _ _ _) HRK.out HV2R.out (by omega) (by have := HG1.out; have := HG2.out; omega)
          (OwnB.keep HO.out fun x hB hx hne => (set4_ne _ _ _ _ (by omega)).trans (HK.out x hx hne)) (OwnS.keep hO fun x hx _ => set4_ne _ _ _ _ (by have := HG1.out; have := HG2.out; omega)) (set4_below HB3.out (Nat.le_refl _) _ _ _ _)
      case pos =>
        obtain ⟨b, o, rfl, hbl, hall⟩ := H4.out (by omega)
        obtain ⟨t, ht⟩ : ∃ t, ks1[j]? = some t := ⟨_, List.getElem?_eq_getElem hlt⟩
        obtain ⟨k3, v3, ds3, ks3⟩ := t
        obtain ⟨ads3, cds3, aks3, cks3, q0, q1, q2, q3, hrk⟩ := hall j k3 v3 ds3 ks3 ht
        clear hall H4
        have hbd : Below w.heap.size w wr.drew := HB3.out.drew
        have d0 := (hbd.cell (p := ⟨b, o + j * 4, none⟩) hbl).trans q0
        have d1 := (hbd.cell (p := ⟨b, o + j * 4 + 1, none⟩) hbl).trans q1
        have d2 := (hbd.cell (p := ⟨b, o + j * 4 + 2, none⟩) hbl).trans q2
        have d3 := (hbd.cell (p := ⟨b, o + j * 4 + 3, none⟩) hbl).trans q3
        have hbg := Co.bulk_get ks1 j _ ht
        have hsn := Co.shs_snoc bb k1 0 ks1 f j _ ht
        rw [Nat.zero_add] at hsn
        have hcb := spec_binds k1 b1 o1 (j : Int) wr.drew ((hbd.cell (p := ⟨b1, o1, none⟩) XL.out).trans X0.out)
        generalize hbb : bindsOf k1 (j : Int) = bd at hsn hcb
        obtain ⟨fw, hfw⟩ : ∃ fw, fw = wrap64 (f + bd) := ⟨_, rfl⟩
        rw [← hfw] at hsn
        have hwr : IntKind.i64.wrap (f + bd) = fw := (IntWalk.i64_left _).trans hfw.symm
        have hc := IH.out k3 v3 ds3 ks3 ads3 cds3 aks3 cks3 b (o + j * 4) bb fw wr.drew (by have := HN.out; have := HBK.out; omega) (by have := HM.out; have := HBK.out; omega) d0 d1 d2 d3 (hrk.below hbd)
        obtain ⟨k5, v5, ds5, ks5, h5⟩ := Co.eta (Co.sh bb (Co.mk k3 v3 ds3 ks3) fw)
        rw [h5] at hc hsn
        have HSN := hid hsn
        have HC := hid hc
        have HCB := hid hcb
        obtain ⟨xs, F, ho, hra, hw, hn⟩ := HROW.out
        have hlen : (Co.ds (Co.shs bb k1 0 (ks1.take j) f)).length = j := by rw [Co.ds_length, Co.shs_length, List.length_take]; omega
        rw [hlen] at ho
        have HO3 := hid ho
        have HRA := hid hra
        have HW := hid hw
        have HNO := hid hn
        have HLEN := hid hlen
        have g3 := heap_cell HXG.out (j := 3) rfl
        have i1 : (0 : Int) ≤ (j : Int) := Int.natCast_nonneg _
        have i2 : (j : Int) < (ks1.length : Int) := by omega
        clear ht hrk q0 q1 q2 q3 d0 d1 d2 d3 hbg hc hsn ho hra hw hn hlen h5 hcb hbb hfw
        go_wp2_with fail
        go_region_law (first
            | (go_simp; go_at_call 77; (with_reducible refine HCB.out.mono ?_); rintro e Vb ⟨rfl, rfl⟩)
            | (go_simp; go_at_call 54; (with_reducible refine HC.out.mono ?_); rintro e W2 ⟨ad5, cd5, a5, c5, rfl, ho5, hb5⟩; have HO5 := hid ho5; have HB5 := hid ((Below.refl wr.heap.size wr).drew.trans hb5); have hal := (Below.refl W2.heap.size W2).alloc (Nat.le_refl _) (.cells #[.int .i64 k5, .int .i64 v5, .slice ad5 ds5.length cd5, .slice a5 ks5.length c5] 36); have hx2 := (HB5.out.block g (Array.getElem?_eq_some_iff.1 HXG.out).1).trans HXG.out; have hx2a := (hal.block _ (Array.getElem?_eq_some_iff.1 hx2).1).trans hx2; have HX2A := hid hx2a; have x2 := heap_cell hx2 (j := 3) rfl; have x2a := heap_cell hx2a (j := 3) rfl; have HOA := hid (ownsRow.below (ownsRow.below HO3.out HB5.out) hal); have HZA := hid (Nat.le_trans HZ.out (Nat.le_trans HB5.out.size hal.size)); clear ho5 hb5 hal hx2 hx2a)
            | (refine step_append_lies _ (by rfl) _ _ _ (by rfl) s 36 i0 _ 4 64 Try.underlying31 HI.out hz0 hz1 hz2 rfl (by omega) v0 j xs (by rfl) HOA.out ⟨W2.heap.size, 0, none⟩ 1 1 [.int .i64 k5, .int .i64 v5, .slice ad5 ds5.length cd5, .slice a5 ks5.length c5] (by rfl) (by rfl) (World.news_of_block (cs := #[.int .i64 k5, .int .i64 v5, .slice ad5 ds5.length cd5, .slice a5 ks5.length c5]) (t := 36) (fr := (0, 0)) (heap_alloc_new W2 _)) (by simp [Value.oneCell']) (by omega) (by simp only [maxLen]; omega) (by omega) HZA.out (W2.heap.size + 1) (by simp) ?_; intro gq cap W3 ho3 hg3 hat3 hlt3; have HO4 := hid ho3; have HG3 := hid hg3; have HAT3 := hid hat3; have HRR := hid (row_round4 (te := 36) (p := 3) (u := .slice (some ⟨gq, 0, none⟩) (j + 1) cap) HB3.out (Nat.le_of_succ_le HG1.out) HG2.out HZ.out HLEN.out HO3.out HRA.out HW.out HNO.out HB5.out HO5.out HG3.out HO4.out HAT3.out); have hx3 := HRR.out.2.1.trans HXG.out; have HX3 := hid hx3; have y3 := heap_cell hx3 (j := 3) rfl; have w3 := heap_free hx3 3; clear ho3 hg3 hat3 hlt3 hx3))
        all_goals
          have HXN := hid (heap_setCell_at W3 g 3 (.slice (some ⟨gq, 0, none⟩) (j + 1) cap) HX3.out)
          clear HC HCB IH g3 y3 w3 x2 x2a z3
          go_wp2_with fail
          go_roundw
          case rel => exact ⟨j + 1, _, by omega, by go_num, hid (fun x hx hne => (HRR.out.1 x hx hne).trans (HK.out x hx hne)), HXN, hid HRR.out.2.2.1, hid HRR.out.2.2.2.1, hid (by rw [HSN.out]; exact HRR.out.2.2.2.2)⟩
          case measure => simp [intOf]; omega
theorem sh_all : ∀ N, ShW N
  | 0 => fun _ _ _ _ _ _ _ _ _ _ _ _ _ h => absurd h (by omega)
  | N + 1 => sh_step N (sh_all N)
end Go.Proofs.Ytejdbmeoaekhcaa
