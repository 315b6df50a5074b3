/- Walks: a core with its free variable 0 replaced, in the reference: that a core comes back. No condition. -/
import Derived.Test.YtejdbmeoaekhcaaAtC
import Derived.Test.YtejdbmeoaekhcaaShS
import Derived.Deep.RegionHeld3
import Derived.Deep.CutRange
import Derived.Deep.RegionLaw
import Derived.Deep.AppendLies
namespace Go.Proofs.Ytejdbmeoaekhcaa
open Go.ChangeShapes Go.WideShapes Go.ChangeAt Go.RowKit
open Go.Sort (grow)
set_option linter.unusedVariables false

theorem GivesC.stored {w w2 : World} {k v : Int} {ds : List Int} {ks : List Co} {ad a : Option Addr} {cd c : Nat} (h1 : OwnS w2 (w.heap.size + 1) (Co.d (.mk k v ds ks)) [.int .i64 k, .int .i64 v, .slice ad ds.length cd, .slice a ks.length c]) (h2 : Below w.heap.size w w2) (p q r u : Value) :
    GivesC (.mk k v ds ks) w (.returned (.agg #[.int .i64 k, .int .i64 v, .slice ad ds.length cd, .slice a ks.length c])) (set4W w2 w.heap.size p q r u) :=
  ⟨ad, cd, a, c, rfl, OwnS.mono (OwnS.keep h1 fun x hx _ => set4_ne _ _ _ _ (by omega)) (Nat.le_succ _), set4_below h2 (Nat.le_refl _) _ _ _ _⟩
theorem own_leaf (w : World) (B : Nat) {k v : Int} (hk : -9223372036854775808 ≤ k ∧ k ≤ 9223372036854775807) (hv : -9223372036854775808 ≤ v ∧ v ≤ 9223372036854775807) : OwnS w B (Co.d (.mk k v [] [])) [.int .i64 k, .int .i64 v, .slice none ([] : List Int).length 0, .slice none ([] : List Co).length 0] := by
  have hn : Rd w (.list []) [.slice none 0 0] [] := Rd.nil_mk (by omega)
  refine ⟨[], ?_, Owned.nil _ _⟩
  have := Rd.struct_mk (RdAll.cons (Rd.int_mk (w := w) hk.1 hk.2) (RdAll.cons (Rd.int_mk (w := w) hv.1 hv.2) (RdAll.cons hn (RdAll.one hn))))
  simpa [Co.d, In.ds, Co.ds] using this
def PuW (N : Nat) : Prop := ∀ (t t2 : Co) (b1 o1 b2 o2 : Nat) (d : Int) (w : World), Co.bulk t < N → Co.bulk t ≤ 1048576 → Co.bulk t2 ≤ 1048576 → -9223372036854775808 ≤ d ∧ d ≤ 9223372036854775807 → AtC w b1 o1 t → AtC w b2 o2 t2 →
  Calls Try.prog 80 #[.pointer (some ⟨b1, o1, none⟩), .pointer (some ⟨b2, o2, none⟩), .int .i64 d] w (GivesAny w)
set_option maxRecDepth 100000 in
set_option maxHeartbeats 2000000 in
theorem pu_var (v1 : Int) (ds1 : List Int) (ks1 : List Co) (t2 : Co) (b1 o1 b2 o2 : Nat) (d : Int) (w : World) (hM2 : Co.bulk t2 ≤ 1048576) (hdr : -9223372036854775808 ≤ d ∧ d ≤ 9223372036854775807) (h1 : AtC w b1 o1 (.mk 1 v1 ds1 ks1)) (h2 : AtC w b2 o2 t2) :
    Calls Try.prog 80 #[.pointer (some ⟨b1, o1, none⟩), .pointer (some ⟨b2, o2, none⟩), .int .i64 d] w (GivesAny w) := by
  obtain ⟨ads1, cds1, aks1, cks1, x0, x1, x2, x3, hr⟩ := h1
  have hrv := hr.fCo.2.1
  have hB1 : Below w.heap.size w (w.alloc (.cells #[.int .i64 0, .int .i64 0, .slice none 0 0, .slice none 0 0] 36)) := (Below.refl _ _).alloc (Nat.le_refl _) _
  have l1 := World.block_lt_of_cell? _ _ x0
  have y0 := (hB1.cell (p := ⟨b1, o1, none⟩) l1).trans x0
  have y1 := (hB1.cell (p := ⟨b1, o1 + 1, none⟩) l1).trans x1
  have HB1 := hid hB1
  have HRZ := hid (show (w.alloc (.cells #[.int .i64 0, .int .i64 0, .slice none 0 0, .slice none 0 0] 36)).heap[w.heap.size]? = some (.cells #[.int .i64 0, .int .i64 0, .slice none 0 0, .slice none 0 0] 36) from heap_alloc_new w _)
  by_cases hv : v1 = d
  case pos =>
    subst hv
    obtain ⟨k3, v3, ds3, ks3⟩ := t2
    obtain ⟨ad3, cd3, ak3, ck3, q0, q1, q2, q3, hr3⟩ := h2.below hB1
    have hc := sh_all (Co.bulk (Co.mk k3 v3 ds3 ks3) + 1) k3 v3 ds3 ks3 ad3 cd3 ak3 ck3 b2 o2 v1 0 (w.alloc (.cells #[.int .i64 0, .int .i64 0, .slice none 0 0, .slice none 0 0] 36)) (by omega) hM2 q0 q1 q2 q3 hr3
    obtain ⟨k5, v5, ds5, ks5, h5⟩ := Co.eta (Co.sh v1 (Co.mk k3 v3 ds3 ks3) 0)
    rw [h5] at hc
    have HC := hid hc
    clear hc q0 q1 q2 q3 hr3 h2 hr x0 x1 x2 x3 hB1 l1 hM2 h5
    go_enter Try.func80, Try.ntmps80
    go_wp2_with fail
    refine HC.out.mono ?_
    rintro e w2 ⟨ad, cd, a, c, rfl, ho, hb⟩
    have HN2 := hid ((hb.block w.heap.size (by simp)).trans HRZ.out)
    have HB2 := hid (HB1.out.trans (hb.mono (by simp)))
    have HO2 := hid (show OwnS w2 (w.heap.size + 1) _ _ from by rw [World.size_alloc] at ho; exact ho)
    clear ho hb
    have z0 := heap_free HN2.out 0
    have r0 := heap_cell HN2.out (j := 0) rfl
    have z1 := heap_free HN2.out 1
    have r1 := heap_cell HN2.out (j := 1) rfl
    have z2 := heap_free HN2.out 2
    have r2 := heap_cell HN2.out (j := 2) rfl
    have z3 := heap_free HN2.out 3
    have r3 := heap_cell HN2.out (j := 3) rfl
    go_wp2_with fail
    have hS := set4 HN2.out (.int .i64 k5) (.int .i64 v5) (.slice ad ds5.length cd) (.slice a ks5.length c)
    have hc0 := heap_cell hS (j := 0) rfl
    have hc1 := heap_cell hS (j := 1) rfl
    have hc2 := heap_cell hS (j := 2) rfl
    have hc3 := heap_cell hS (j := 3) rfl
    refine bodyPost_ret (v := .agg #[.int .i64 k5, .int .i64 v5, .slice ad ds5.length cd, .slice a ks5.length c]) (by simp [results, Try.results80, go_sem, hc0, hc1, hc2, hc3]) rfl ?_
    exact ⟨_, GivesC.stored HO2.out HB2.out _ _ _ _⟩
  case neg =>
    have gv : (v1 == d) = false := by simp [hv]
    have HRV := hid hrv
    have hrv' := HRV.out
    have y2 : ((w.alloc (.cells #[.int .i64 0, .int .i64 0, .slice none 0 0, .slice none 0 0] 36)).alloc (.cells #[.int .i64 1, .int .i64 v1, .slice none 0 0, .slice none 0 0] 36)).cell? ⟨b1, o1 + 1, none⟩ = some (.int .i64 v1) := (((Below.refl _ _).alloc (Nat.le_refl _) _ : Below (w.alloc (.cells #[.int .i64 0, .int .i64 0, .slice none 0 0, .slice none 0 0] 36)).heap.size (w.alloc (.cells #[.int .i64 0, .int .i64 0, .slice none 0 0, .slice none 0 0] 36)) _).cell (p := ⟨b1, o1 + 1, none⟩) (World.block_lt_of_cell? _ _ y1)).trans y1
    clear h2 hr x0 x1 x2 x3 hB1 l1 hM2 hv hrv HRZ HB1
    obtain ⟨hv1, hv2⟩ := hrv'
    by_cases hd : d < v1
    case pos =>
      have hw1 : IntKind.i64.wrap (v1 - 1) = v1 - 1 := (IntWalk.i64_left _).trans (wrap64_in' (by omega) (by omega))
      go_enter Try.func80, Try.ntmps80
      go_wp2_with fail
      refine bodyPost_ret (v := .agg #[.int .i64 1, .int .i64 (v1 - 1), .slice none 0 0, .slice none 0 0]) (by simp [results, Try.results80, go_sem]) rfl ?_
      exact ⟨.mk 1 (v1 - 1) [] [], none, 0, none, 0, rfl, own_leaf _ _ (by omega) (by omega), by repeat (first | exact Below.refl _ _ | (refine Below.setCell ?_ (by simp; try omega) _) | (refine Below.alloc ?_ (by simp; try omega) _))⟩
    case neg =>
      go_enter Try.func80, Try.ntmps80
      go_wp2_with fail
      refine bodyPost_ret (v := .agg #[.int .i64 1, .int .i64 v1, .slice none 0 0, .slice none 0 0]) (by simp [results, Try.results80, go_sem]) rfl ?_
      exact ⟨.mk 1 v1 [] [], none, 0, none, 0, rfl, own_leaf _ _ (by omega) (by omega), by repeat (first | exact Below.refl _ _ | (refine Below.setCell ?_ (by simp; try omega) _) | (refine Below.alloc ?_ (by simp; try omega) _))⟩
set_option maxRecDepth 100000 in
set_option maxHeartbeats 4000000 in
theorem pu_node (N : Nat) (ih : PuW N) (k1 v1 : Int) (ds1 : List Int) (ks1 : List Co) (t2 : Co) (b1 o1 b2 o2 : Nat) (d : Int) (w : World) (hN : Co.bulk (Co.mk k1 v1 ds1 ks1) < N + 1) (hM : Co.bulk (Co.mk k1 v1 ds1 ks1) ≤ 1048576) (hM2 : Co.bulk t2 ≤ 1048576) (hk1 : k1 ≠ 1) (hdr : -9223372036854775808 ≤ d ∧ d ≤ 9223372036854775807) (hat : AtC w b1 o1 (Co.mk k1 v1 ds1 ks1)) (h2t : AtC w b2 o2 t2) :
    Calls Try.prog 80 #[.pointer (some ⟨b1, o1, none⟩), .pointer (some ⟨b2, o2, none⟩), .int .i64 d] w (GivesAny w) := by
  obtain ⟨i0, hi, hz0, hz1, hz2⟩ := info_parts infoCo
  obtain ⟨ads1, cds1, aks1, cks1, x0, x1, x2, x3, hr⟩ := hat
  have g1 : (k1 == 1) = false := by simp [hk1]
  have AT2 := hid h2t
  have HM2 := hid hM2
  clear hk1 h2t hM2
  have hbk : Co.bulk (Co.mk k1 v1 ds1 ks1) = In.bulks ds1 + Co.bulks ks1 := rfl
  have hdl := In.bulks_length ds1
  obtain ⟨rk, rv, hds, hks⟩ := hr.fCo
  obtain ⟨_, _, e, h2, h3, h4⟩ := hks.eCo
  simp only [Value.slice.injEq, true_and] at e
  obtain ⟨rfl, rfl⟩ := e
  have hl := Co.bulks_length ks1
  have hlk : ks1.length ≤ 1048576 := by omega
  have H4 := hid h4
  have IH := hid ih
  have HBK := hid hbk
  have HN := hid hN
  have HM := hid hM
  have HI := hid hi
  have HRK := hid rk
  have HRV := hid rv
  have XL := hid (World.block_lt_of_cell? _ _ x3)
  have X3 := hid x3
  have X0 := hid x0
  have X1 := hid x1
  have HOW := hid (fun (W : World) (hb : Below w.heap.size w W) => spec_own ds1 (.slice ads1 ds1.length cds1) W (by omega) (hds.below hb))
  have hB1 : Below w.heap.size w (w.alloc (.cells #[.int .i64 0, .int .i64 0, .slice none 0 0, .slice none 0 0] 36)) := (Below.refl _ _).alloc (Nat.le_refl _) _
  have hrz : (w.alloc (.cells #[.int .i64 0, .int .i64 0, .slice none 0 0, .slice none 0 0] 36)).heap[w.heap.size]? = some (.cells #[.int .i64 0, .int .i64 0, .slice none 0 0, .slice none 0 0] 36) := heap_alloc_new w _
  have HB1 := hid hB1
  have HRZ := hid hrz
  have l1 := XL.out
  have y0 := (hB1.cell (p := ⟨b1, o1, none⟩) l1).trans x0
  have y1 := (hB1.cell (p := ⟨b1, o1 + 1, none⟩) l1).trans x1
  have y2 := (hB1.cell (p := ⟨b1, o1 + 2, none⟩) l1).trans x2
  have hS0 : (Below (w.heap.size + 1) (w.alloc (.cells #[.int .i64 0, .int .i64 0, .slice none 0 0, .slice none 0 0] 36)) (w.alloc (.cells #[.int .i64 0, .int .i64 0, .slice none 0 0, .slice none 0 0] 36)).drew ∧ (w.alloc (.cells #[.int .i64 0, .int .i64 0, .slice none 0 0, .slice none 0 0] 36)).drew.cell? ⟨b1, o1, none⟩ = some (.int .i64 k1) ∧ (w.alloc (.cells #[.int .i64 0, .int .i64 0, .slice none 0 0, .slice none 0 0] 36)).drew.cell? ⟨b1, o1 + 1, none⟩ = some (.int .i64 v1) ∧ (w.alloc (.cells #[.int .i64 0, .int .i64 0, .slice none 0 0, .slice none 0 0] 36)).drew.cell? ⟨b1, o1 + 2, none⟩ = some (.slice ads1 ds1.length cds1)) := ⟨(Below.refl _ _).drew, y0, y1, y2⟩
  have hkeep : ∀ V V' : World, Below (w.heap.size + 1) V V' → ((Below (w.heap.size + 1) (w.alloc (.cells #[.int .i64 0, .int .i64 0, .slice none 0 0, .slice none 0 0] 36)) V ∧ V.cell? ⟨b1, o1, none⟩ = some (.int .i64 k1) ∧ V.cell? ⟨b1, o1 + 1, none⟩ = some (.int .i64 v1) ∧ V.cell? ⟨b1, o1 + 2, none⟩ = some (.slice ads1 ds1.length cds1))) → ((Below (w.heap.size + 1) (w.alloc (.cells #[.int .i64 0, .int .i64 0, .slice none 0 0, .slice none 0 0] 36)) V' ∧ V'.cell? ⟨b1, o1, none⟩ = some (.int .i64 k1) ∧ V'.cell? ⟨b1, o1 + 1, none⟩ = some (.int .i64 v1) ∧ V'.cell? ⟨b1, o1 + 2, none⟩ = some (.slice ads1 ds1.length cds1))) := fun V V' hb ⟨h, c0, c1, c2⟩ =>
    ⟨h.trans hb, (hb.cell (p := ⟨b1, o1, none⟩) (Nat.lt_succ_of_lt l1)).trans c0, (hb.cell (p := ⟨b1, o1 + 1, none⟩) (Nat.lt_succ_of_lt l1)).trans c1, (hb.cell (p := ⟨b1, o1 + 2, none⟩) (Nat.lt_succ_of_lt l1)).trans c2⟩
  have KEEP := hid hkeep
  have KAL := hid (fun (V : World) (ob : Obj) (h : (Below (w.heap.size + 1) (w.alloc (.cells #[.int .i64 0, .int .i64 0, .slice none 0 0, .slice none 0 0] 36)) V ∧ V.cell? ⟨b1, o1, none⟩ = some (.int .i64 k1) ∧ V.cell? ⟨b1, o1 + 1, none⟩ = some (.int .i64 v1) ∧ V.cell? ⟨b1, o1 + 2, none⟩ = some (.slice ads1 ds1.length cds1))) => hkeep V (V.alloc ob) ((Below.refl _ _).alloc (by have := h.1.size; simp at this; omega) _) h)
  have KST := hid (fun (V : World) (g q : Nat) (u : Value) (hg : w.heap.size + 1 ≤ g) (h : (Below (w.heap.size + 1) (w.alloc (.cells #[.int .i64 0, .int .i64 0, .slice none 0 0, .slice none 0 0] 36)) V ∧ V.cell? ⟨b1, o1, none⟩ = some (.int .i64 k1) ∧ V.cell? ⟨b1, o1 + 1, none⟩ = some (.int .i64 v1) ∧ V.cell? ⟨b1, o1 + 2, none⟩ = some (.slice ads1 ds1.length cds1))) => hkeep V (V.setCell ⟨g, q, none⟩ u) ((Below.refl _ _).setCell (by simpa using hg) _) h)
  have KST4 := hid (fun (V : World) (p q r u : Value) (h : (Below (w.heap.size + 1) (w.alloc (.cells #[.int .i64 0, .int .i64 0, .slice none 0 0, .slice none 0 0] 36)) V ∧ V.cell? ⟨b1, o1, none⟩ = some (.int .i64 k1) ∧ V.cell? ⟨b1, o1 + 1, none⟩ = some (.int .i64 v1) ∧ V.cell? ⟨b1, o1 + 2, none⟩ = some (.slice ads1 ds1.length cds1))) => KST.out _ _ 3 u (Nat.le_refl _) (KST.out _ _ 2 r (Nat.le_refl _) (KST.out _ _ 1 q (Nat.le_refl _) (KST.out V _ 0 p (Nat.le_refl _) h))))
  have HA1 := hid (show ((w.alloc (.cells #[.int .i64 0, .int .i64 0, .slice none 0 0, .slice none 0 0] 36)).alloc (.cells #[.int .i64 0, .int .i64 0, .slice none 0 0, .slice none 0 0] 36)).drew.heap[w.heap.size + 1]? = some (.cells #[.int .i64 0, .int .i64 0, .slice none 0 0, .slice none 0 0] 36) from (by have h := heap_alloc_new (w.alloc (.cells #[.int .i64 0, .int .i64 0, .slice none 0 0, .slice none 0 0] 36)) (.cells #[.int .i64 0, .int .i64 0, .slice none 0 0, .slice none 0 0] 36); rw [World.size_alloc] at h; exact h))
  have hA : Below w.heap.size w ((w.alloc (.cells #[.int .i64 0, .int .i64 0, .slice none 0 0, .slice none 0 0] 36)).alloc (.cells #[.int .i64 0, .int .i64 0, .slice none 0 0, .slice none 0 0] 36)).drew := ((hB1.alloc (by simp) _)).drew
  have hC : Below w.heap.size w (w.alloc (.cells #[.int .i64 0, .int .i64 0, .slice none 0 0, .slice none 0 0] 36)).drew := hB1.drew
  clear hr h4 ih hN hM hbk hks hi rk rv hds x0 x1 x2 x3 hkeep hB1 hrz hdl
  go_enter Try.func80, Try.ntmps80
  go_wp2_with fail
  go_upto_region 8 with fail
  go_cut [8] from 40 (fun t7 wx => ∃ (g cd : Nat) (ad : Option Addr), t7 = .pointer (some ⟨g, 0, none⟩) ∧ Hid (w.heap.size + 1 ≤ g) ∧ Hid (g < wx.heap.size) ∧ Hid (Below w.heap.size w wx) ∧ Hid (wx.heap[w.heap.size]? = some (.cells #[.int .i64 0, .int .i64 0, .slice none 0 0, .slice none 0 0] 36)) ∧ Hid (wx.heap[g]? = some (.cells #[.int .i64 k1, .int .i64 v1, .slice ad ds1.length cd, .slice none 0 0] 36)) ∧ Hid (OwnB wx (w.heap.size + 1) wx.heap.size g (.list (In.ds ds1)) (.slice ad ds1.length cd)))
  case first =>
    go_region_held3 (fun V => (Below (w.heap.size + 1) (w.alloc (.cells #[.int .i64 0, .int .i64 0, .slice none 0 0, .slice none 0 0] 36)) V ∧ V.cell? ⟨b1, o1, none⟩ = some (.int .i64 k1) ∧ V.cell? ⟨b1, o1 + 1, none⟩ = some (.int .i64 v1) ∧ V.cell? ⟨b1, o1 + 2, none⟩ = some (.slice ads1 ds1.length cds1)))
      (first | exact hS0 | exact KEEP.out _ _ hbq (by assumption) | exact KAL.out _ _ (by assumption) | exact KAL.out _ _ hSV | exact KST4.out _ _ _ _ _ hSV | go_keep)
      (first
        | (go_at_call 76; (with_reducible refine (HOW.out ((w.alloc (.cells #[.int .i64 0, .int .i64 0, .slice none 0 0, .slice none 0 0] 36)).alloc (.cells #[.int .i64 0, .int .i64 0, .slice none 0 0, .slice none 0 0] 36)).drew hA).mono ?_); rintro e V1 ⟨ad, cd, rfl, ho, hbw⟩; have hbq := hbw.mono (B' := w.heap.size + 1) (by simp); have hSV := KEEP.out _ _ hbq (by assumption); have hx := (hbw.block (w.heap.size + 1) (by simp)).trans HA1.out; have z0 := heap_free hx 0; have z1 := heap_free hx 1; have z2 := heap_free hx 2; have z3 := heap_free hx 3; have r0 := heap_cell hx (j := 0) rfl; have r1 := heap_cell hx (j := 1) rfl; have r2 := heap_cell hx (j := 2) rfl; have r3 := heap_cell hx (j := 3) rfl)
        | (go_at_call 76; (with_reducible refine (HOW.out (w.alloc (.cells #[.int .i64 0, .int .i64 0, .slice none 0 0, .slice none 0 0] 36)).drew hC).mono ?_); rintro e V1 ⟨ad, cd, rfl, ho, hbw⟩; have hbq := hbw.mono (B' := w.heap.size + 1) (by simp); have hSV := KEEP.out _ _ hbq (by assumption)))
    all_goals
      clear KEEP KAL KST KST4 HOW IH H4
      go_wp2_with fail
      go_meet
      first
        | exact ⟨_, cd, ad, rfl, box_after hbw ho⟩
        | exact ⟨_, cd, ad, rfl, box_before hbw ho⟩
  case rest =>
    obtain ⟨wa, hwa⟩ : ∃ wa, wa = wc := ⟨_, rfl⟩
    subst hwa
    obtain ⟨g, cd, ad, rfl, HG1, HG2, HB, HR0, HX, HO⟩ := hcut
    clear KEEP KAL KST KST4 HOW hS0 y0 y1 y2 HA1 hA hC HB1 HRZ
    obtain ⟨s, hs⟩ : ∃ s, s = wa.heap.size := ⟨_, rfl⟩
    rw [← hs] at HG2 HO
    have HSD := hid hs
    clear hs
    go_wp2_with fail
    go_loopw [9] (fun i wr => ∃ (j : Nat) (v0 : Value) (cs : List Co), cs.length = j ∧ j ≤ ks1.length ∧ i = .int .i64 j ∧ Hid (∀ x, x < s → x ≠ g → wr.heap[x]? = wa.heap[x]?) ∧ Hid (wr.heap[g]? = some (.cells #[.int .i64 k1, .int .i64 v1, .slice ad ds1.length cd, v0] 36)) ∧ Hid (Below w.heap.size w wr) ∧ Hid (s ≤ wr.heap.size) ∧ Hid (RowNow 36 4 s (Co.ds cs) v0 wr)) (fun i _ => ks1.length - (intOf i).toNat)
    case atStart => exact ⟨0, .slice none 0 0, [], rfl, by omega, rfl, hid (fun x _ hx => rfl), HX, HB, hid (Nat.le_of_eq HSD.out), hid (RowNow.nil _ _ _ _)⟩
    case round =>
      obtain ⟨j, v0, cs, hcs, hj, rfl, HK, HXG, HB3, HZ, HROW⟩ := hrel
      have z3 := (HB3.out.cell (p := ⟨b1, o1 + 3, none⟩) XL.out).trans X3.out
      by_cases hlt : j < ks1.length
      case neg =>
        obtain rfl : j = ks1.length := by omega
        obtain ⟨a2, c2, hv⟩ := HROW.out.slice
        rw [Co.ds_length, hcs] at hv
        subst hv
        have HRW := hid ((HK.out w.heap.size (by have := HG1.out; have := HG2.out; omega) (by have := HG1.out; omega)).trans HR0.out)
        have f0 := heap_cell HXG.out (j := 0) rfl
        have f1 := heap_cell HXG.out (j := 1) rfl
        have f2 := heap_cell HXG.out (j := 2) rfl
        have f3 := heap_cell HXG.out (j := 3) rfl
        have r0 := heap_cell HRW.out (j := 0) rfl
        have r1 := heap_cell HRW.out (j := 1) rfl
        have r2 := heap_cell HRW.out (j := 2) rfl
        have r3 := heap_cell HRW.out (j := 3) rfl
        have q0 := heap_free HRW.out 0
        have q1 := heap_free HRW.out 1
        have q2 := heap_free HRW.out 2
        have q3 := heap_free HRW.out 3
        go_wp2_with fail
        have hS := set4 HRW.out (.int .i64 k1) (.int .i64 v1) (.slice ad ds1.length cd) (.slice a2 ks1.length c2)
        have hc0 := heap_cell hS (j := 0) rfl
        have hc1 := heap_cell hS (j := 1) rfl
        have hc2 := heap_cell hS (j := 2) rfl
        have hc3 := heap_cell hS (j := 3) rfl
        refine bodyPost_ret (v := .agg #[.int .i64 k1, .int .i64 v1, .slice ad ds1.length cd, .slice a2 ks1.length c2]) (by simp [results, Try.results80, go_sem, hc0, hc1, hc2, hc3]) rfl ?_
        have hO := HROW.out.own
        exact ⟨_, GivesC.of_len (t := .mk k1 v1 ds1 cs) (B := w.heap.size + 1) (s := s) (g := g) rfl hcs HRK.out HRV.out (by omega) (by have := HG1.out; have := HG2.out; omega)
          (OwnB.keep HO.out fun x hB hx hne => (set4_ne _ _ _ _ (by omega)).trans (HK.out x hx hne)) (OwnS.keep hO fun x hx _ => set4_ne _ _ _ _ (by have := HG1.out; have := HG2.out; omega)) (set4_below HB3.out (Nat.le_refl _) _ _ _ _)⟩
      case pos =>
        obtain ⟨b, o, rfl, hbl, hall⟩ := H4.out (by omega)
        obtain ⟨t, ht⟩ : ∃ t, ks1[j]? = some t := ⟨_, List.getElem?_eq_getElem hlt⟩
        obtain ⟨k3, v3, ds3, ks3⟩ := t
        obtain ⟨ads3, cds3, aks3, cks3, q0, q1, q2, q3, hrk⟩ := hall j k3 v3 ds3 ks3 ht
        clear hall H4
        have hbd : Below w.heap.size w wr.drew := HB3.out.drew
        have d0 := (hbd.cell (p := ⟨b, o + j * 4, none⟩) hbl).trans q0
        have d1 := (hbd.cell (p := ⟨b, o + j * 4 + 1, none⟩) hbl).trans q1
        have d2 := (hbd.cell (p := ⟨b, o + j * 4 + 2, none⟩) hbl).trans q2
        have d3 := (hbd.cell (p := ⟨b, o + j * 4 + 3, none⟩) hbl).trans q3
        have hbg := Co.bulk_get ks1 j _ ht
        have hcb := spec_binds k1 b1 o1 (j : Int) wr.drew ((hbd.cell (p := ⟨b1, o1, none⟩) XL.out).trans X0.out)
        generalize hbb : bindsOf k1 (j : Int) = bd at hcb
        obtain ⟨fw, hfw⟩ : ∃ fw, fw = wrap64 (d + bd) := ⟨_, rfl⟩
        have hwr : IntKind.i64.wrap (d + bd) = fw := (IntWalk.i64_left _).trans hfw.symm
        have hfr : -9223372036854775808 ≤ fw ∧ fw ≤ 9223372036854775807 := by rw [hfw]; exact wrap64_lo _
        have hc := IH.out (Co.mk k3 v3 ds3 ks3) t2 b (o + j * 4) b2 o2 fw wr.drew (by have := HN.out; have := HBK.out; omega) (by have := HM.out; have := HBK.out; omega) HM2.out hfr ⟨ads3, cds3, aks3, cks3, d0, d1, d2, d3, hrk.below hbd⟩ (AT2.out.below hbd)
        have HC := hid hc
        have HCB := hid hcb
        obtain ⟨xs, F, ho, hra, hw, hn⟩ := HROW.out
        have hlen : (Co.ds cs).length = j := by rw [Co.ds_length, hcs]
        rw [hlen] at ho
        have HO3 := hid ho
        have HRA := hid hra
        have HW := hid hw
        have HNO := hid hn
        have HLEN := hid hlen
        have g3 := heap_cell HXG.out (j := 3) rfl
        have i1 : (0 : Int) ≤ (j : Int) := Int.natCast_nonneg _
        have i2 : (j : Int) < (ks1.length : Int) := by omega
        clear ht hrk q0 q1 q2 q3 d0 d1 d2 d3 hbg hc ho hra hw hn hlen hcb hbb hfw hfr
        go_wp2_with fail
        go_region_law (first
            | (go_simp; go_at_call 77; (with_reducible refine HCB.out.mono ?_); rintro e Vb ⟨rfl, rfl⟩)
            | (go_simp; go_at_call 80; (with_reducible refine HC.out.mono ?_); rintro e W2 ⟨⟨k5, v5, ds5, ks5⟩, ad5, cd5, a5, c5, rfl, ho5, hb5⟩; have HO5 := hid ho5; have HB5 := hid ((Below.refl wr.heap.size wr).drew.trans hb5); have hal := (Below.refl W2.heap.size W2).alloc (Nat.le_refl _) (.cells #[.int .i64 k5, .int .i64 v5, .slice ad5 ds5.length cd5, .slice a5 ks5.length c5] 36); have hx2 := (HB5.out.block g (Array.getElem?_eq_some_iff.1 HXG.out).1).trans HXG.out; have hx2a := (hal.block _ (Array.getElem?_eq_some_iff.1 hx2).1).trans hx2; have HX2A := hid hx2a; have x2 := heap_cell hx2 (j := 3) rfl; have x2a := heap_cell hx2a (j := 3) rfl; have HOA := hid (ownsRow.below (ownsRow.below HO3.out HB5.out) hal); have HZA := hid (Nat.le_trans HZ.out (Nat.le_trans HB5.out.size hal.size)); clear ho5 hb5 hal hx2 hx2a)
            | (refine step_append_lies _ (by rfl) _ _ _ (by rfl) s 36 i0 _ 4 64 Try.underlying31 HI.out hz0 hz1 hz2 rfl (by omega) v0 j xs (by rfl) HOA.out ⟨W2.heap.size, 0, none⟩ 1 1 [.int .i64 k5, .int .i64 v5, .slice ad5 ds5.length cd5, .slice a5 ks5.length c5] (by rfl) (by rfl) (World.news_of_block (cs := #[.int .i64 k5, .int .i64 v5, .slice ad5 ds5.length cd5, .slice a5 ks5.length c5]) (t := 36) (fr := (0, 0)) (heap_alloc_new W2 _)) (by simp [Value.oneCell']) (by omega) (by simp only [maxLen]; omega) (by omega) HZA.out (W2.heap.size + 1) (by simp) ?_; intro gq cap W3 ho3 hg3 hat3 hlt3; have HO4 := hid ho3; have HG3 := hid hg3; have HAT3 := hid hat3; have HRR := hid (row_round4 (te := 36) (p := 3) (u := .slice (some ⟨gq, 0, none⟩) (j + 1) cap) HB3.out (Nat.le_of_succ_le HG1.out) HG2.out HZ.out HLEN.out HO3.out HRA.out HW.out HNO.out HB5.out HO5.out HG3.out HO4.out HAT3.out); have hx3 := HRR.out.2.1.trans HXG.out; have HX3 := hid hx3; have y3 := heap_cell hx3 (j := 3) rfl; have w3 := heap_free hx3 3; clear ho3 hg3 hat3 hlt3 hx3))
        all_goals
          have HXN := hid (heap_setCell_at W3 g 3 (.slice (some ⟨gq, 0, none⟩) (j + 1) cap) HX3.out)
          clear HC HCB IH g3 y3 w3 x2 x2a z3
          go_wp2_with fail
          go_roundw
          case rel => exact ⟨j + 1, _, cs ++ [.mk k5 v5 ds5 ks5], by simp [hcs], by omega, by go_num, hid (fun x hx hne => (HRR.out.1 x hx hne).trans (HK.out x hx hne)), HXN, hid HRR.out.2.2.1, hid HRR.out.2.2.2.1, hid (by rw [Co.ds_append]; exact HRR.out.2.2.2.2)⟩
          case measure => simp [intOf]; omega
theorem pu_step (N : Nat) (ih : PuW N) : PuW (N + 1) := by
  intro t t2 b1 o1 b2 o2 d w hN hM hM2 hdr h1 h2
  obtain ⟨k1, v1, ds1, ks1⟩ := t
  by_cases hk : k1 = 1
  · subst hk
    exact pu_var v1 ds1 ks1 t2 b1 o1 b2 o2 d w hM2 hdr h1 h2
  · exact pu_node N ih k1 v1 ds1 ks1 t2 b1 o1 b2 o2 d w hN hM hM2 hk hdr h1 h2
theorem pu_all : ∀ N, PuW N
  | 0 => fun _ _ _ _ _ _ _ _ h => absurd h (by omega)
  | N + 1 => pu_step N (pu_all N)
end Go.Proofs.Ytejdbmeoaekhcaa
