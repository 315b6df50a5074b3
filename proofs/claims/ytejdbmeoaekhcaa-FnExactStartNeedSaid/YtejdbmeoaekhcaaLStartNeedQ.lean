/- FnExactStartNeed: for every input. No condition. -/
import Derived.Test.YtejdbmeoaekhcaaArBk
import Derived.Test.YtejdbmeoaekhcaaArCo
import Derived.Test.YtejdbmeoaekhcaaSzBk
import Derived.Test.YtejdbmeoaekhcaaSzCo
import Derived.Test.YtejdbmeoaekhcaaToBk
import Derived.Test.YtejdbmeoaekhcaaToCo
import Derived.Test.YtejdbmeoaekhcaaEqBk
import Derived.Test.YtejdbmeoaekhcaaEqCo
import Derived.Test.YtejdbmeoaekhcaaEqNe
import Derived.Test.YtejdbmeoaekhcaaStNQ
import Derived.Test.YtejdbmeoaekhcaaMqB
import Derived.Deep.RegionHeld3
import Derived.Deep.CutRange
namespace Go.Proofs.Ytejdbmeoaekhcaa
open Go.ChangeShapes Go.WideShapes Go.ChangeAt Go.RowKit
open Go.Sort (grow)
open Go.ChangeMaps (open_string)
set_option linter.unusedVariables false

theorem cells_alloc_new (V : World) (o : Obj) : (V.alloc o).heap[V.heap.size]? = some o := heap_alloc_new V o
theorem Boxes.cons' {w : World} {l : List (Nat × List Value)} {b : Nat} {c : Array Value} {T : TypeId} (h : Boxes w l) (hb : w.heap[b]? = some (.cells c T (0, 0))) : Boxes w ((b, c.toList) :: l) := fun i b' cs hi => by
  cases i with
  | zero =>
    simp only [List.getElem?_cons_zero, Option.some.injEq, Prod.mk.injEq] at hi
    obtain ⟨rfl, rfl⟩ := hi
    exact ⟨(Array.getElem?_eq_some_iff.1 hb).1, fun j v hj => heap_cell hb (by simpa using hj)⟩
  | succ i => exact h i b' cs (by simpa using hi)
theorem Ne.rdS {w : World} {B : Nat} {k v : Int} {ds : List Int} {ks : List Co} {ad a : Option Addr} {cd c : Nat} (h : OwnS w B (Co.d (.mk k v ds ks)) [.int .i64 k, .int .i64 v, .slice ad ds.length cd, .slice a ks.length c]) : RdS w (Ne.d (.mk (.mk (.mk k v ds ks) []) [] [])) [.int .i64 k, .int .i64 v, .slice ad ds.length cd, .slice a ks.length c, .slice none 0 0, .slice none 0 0, .slice none 0 0] := by
  obtain ⟨F, r, o⟩ := h
  exact ⟨F, Ne.rd_mk r⟩
theorem Ne.own {w : World} {B : Nat} {k v : Int} {ds : List Int} {ks : List Co} {ad a : Option Addr} {cd c : Nat} (h : OwnS w B (Co.d (.mk k v ds ks)) [.int .i64 k, .int .i64 v, .slice ad ds.length cd, .slice a ks.length c]) : OwnS w B (Ne.d (.mk (.mk (.mk k v ds ks) []) [] [])) [.int .i64 k, .int .i64 v, .slice ad ds.length cd, .slice a ks.length c, .slice none 0 0, .slice none 0 0, .slice none 0 0] := by
  obtain ⟨F, r, o⟩ := h
  exact ⟨F, Ne.rd_mk r, o⟩
theorem need_after {wb V3 : World} {C : Array Value} {T : TypeId} {d : D} {cs : List Value} (hb : Below wb.heap.size wb V3) (hr : RdS V3 d cs) :
    wb.heap.size ≤ V3.heap.size ∧ V3.heap.size < (V3.alloc (.cells C T (0, 0))).heap.size ∧ Below wb.heap.size wb (V3.alloc (.cells C T (0, 0))) ∧ (V3.alloc (.cells C T (0, 0))).heap[V3.heap.size]? = some (.cells C T (0, 0)) ∧ RdS (V3.alloc (.cells C T (0, 0))) d cs :=
  ⟨hb.size, by simp, hb.alloc hb.size _, heap_alloc_new _ _, hr.below ((Below.refl _ _).alloc (Nat.le_refl _) _)⟩
theorem need_before {wb V3 : World} {g B : Nat} {T : TypeId} {d : D} {cs : List Value} {c0 c1 c2 c3 c4 c5 c6 p q r u x y z : Value} (hg : wb.heap.size ≤ g) (hx : V3.heap[g]? = some (.cells #[c0, c1, c2, c3, c4, c5, c6] T (0, 0))) (hb : Below wb.heap.size wb V3) (hr : OwnS V3 B d cs) (hgB : g < B) :
    wb.heap.size ≤ g ∧ g < (set7W V3 g p q r u x y z).heap.size ∧ Below wb.heap.size wb (set7W V3 g p q r u x y z) ∧ (set7W V3 g p q r u x y z).heap[g]? = some (.cells #[p, q, r, u, x, y, z] T (0, 0)) ∧ RdS (set7W V3 g p q r u x y z) d cs := by
  have h7 := set7 hx p q r u x y z
  obtain ⟨F, r0, o⟩ := hr
  exact ⟨hg, (Array.getElem?_eq_some_iff.1 h7).1, set7_below hb hg p q r u x y z, h7, ⟨F, r0.keep fun k hk => set7_ne p q r u x y z (by have := (o.2 k hk).1; omega)⟩⟩

set_option maxRecDepth 100000 in
set_option maxHeartbeats 4000000 in
theorem FnExactStartNeed_walk (fs_b : List Co) (afs_b : Option Addr) (cfs_b : Nat) (k_c : Int) (v_c : Int) (ds_c : List Int) (ks_c : List Co) (ads_c : Option Addr) (cds_c : Nat) (aks_c : Option Addr) (cks_c : Nat) (w : World) (hr_b : RdS w (Bk.d (Bk.mk fs_b)) [.slice afs_b fs_b.length cfs_b]) (hr_c : RdS w (Co.d (Co.mk k_c v_c ds_c ks_c)) [.int .i64 k_c, .int .i64 v_c, .slice ads_c ds_c.length cds_c, .slice aks_c ks_c.length cks_c]) :
    Calls Try.prog 4 #[.agg #[.slice afs_b fs_b.length cfs_b], .agg #[.int .i64 k_c, .int .i64 v_c, .slice ads_c ds_c.length cds_c, .slice aks_c ks_c.length cks_c]] w fun e w' => e = .returned (.bool true) ∧ Below w.heap.size w w' := by
  have hbw0 : Below w.heap.size w ((w.alloc (.cells #[.slice afs_b fs_b.length cfs_b] 24)).alloc (.cells #[.int .i64 k_c, .int .i64 v_c, .slice ads_c ds_c.length cds_c, .slice aks_c ks_c.length cks_c] 27)) := (((Below.refl _ _).alloc (by simp) _).alloc (by simp) _)
  have HX0 := hid (((Boxes.nil w).alloc #[.slice afs_b fs_b.length cfs_b] 24 (0, 0)).alloc #[.int .i64 k_c, .int .i64 v_c, .slice ads_c ds_c.length cds_c, .slice aks_c ks_c.length cks_c] 27 (0, 0))
  have hc0 := fun (W : World) (hb : Below w.heap.size w W) => szBk fs_b afs_b cfs_b (1048576) W (hr_b.below hb) (by omega) (by omega)
  by_cases hp0 : ((Bk.bulk (Bk.mk fs_b) : Nat) : Int) ≤ 1048576
  case neg =>
    rw [purse_no hp0] at hc0
    have HC0 := hid hc0
    have HB0 := hid hbw0
    clear hbw0 hc0 hr_b hr_c
    go_enter Try.func4, Try.ntmps4
    go_wp2_with fail
    refine (HC0.out _ HB0.out).mono ?_
    rintro e w1 ⟨rfl, hb⟩
    have HB1 := hid (HB0.out.trans (hb.mono (by simp; omega)))
    have HX1 := hid (HX0.out.below hb)
    clear hb HC0
    go_wp2_with fail
    go_ret
    exact ⟨rfl, HB1.out⟩
  case pos =>
    rw [purse_ok hp0] at hc0
    have hc1 := fun (W : World) (hb : Below w.heap.size w W) => szCo k_c v_c ds_c ks_c ads_c cds_c aks_c cks_c (1048576 - (Bk.bulk (Bk.mk fs_b) : Nat)) W (hr_c.below hb) (by omega) (by omega)
    by_cases hp1 : ((Co.bulk (Co.mk k_c v_c ds_c ks_c) : Nat) : Int) ≤ 1048576 - (Bk.bulk (Bk.mk fs_b) : Nat)
    case neg =>
      rw [purse_no hp1] at hc1
      have HC0 := hid hc0
      have HC1 := hid hc1
      have HB0 := hid hbw0
      clear hbw0 hc0 hc1 hr_b hr_c
      go_enter Try.func4, Try.ntmps4
      go_wp2_with fail
      refine (HC0.out _ HB0.out).mono ?_
      rintro e w1 ⟨rfl, hb⟩
      have HB1 := hid (HB0.out.trans (hb.mono (by simp; omega)))
      have HX1 := hid (HX0.out.below hb)
      clear hb HC0
      have g0_0 := HX1.out.at 0 0 rfl rfl
      have g0_1 := HX1.out.at 0 1 rfl rfl
      have g0_2 := HX1.out.at 0 2 rfl rfl
      have g0_3 := HX1.out.at 0 3 rfl rfl
      simp only [World.size_alloc] at g0_0 g0_1 g0_2 g0_3
      go_wp2_with fail
      clear g0_0 g0_1 g0_2 g0_3
      refine (HC1.out _ HB1.out).mono ?_
      rintro e w2 ⟨rfl, hb⟩
      have HB2 := hid (HB1.out.trans (hb.mono HB1.out.size))
      have HX2 := hid (HX1.out.below hb)
      clear hb HC1
      go_wp2_with fail
      go_ret
      exact ⟨rfl, HB2.out⟩
    case pos =>
      rw [purse_ok hp1] at hc1
      have HM_b : Hid (Bk.bulk (Bk.mk fs_b) ≤ 1048576) := by show _ ≤ _; omega
      have HM_c : Hid (Co.bulk (Co.mk k_c v_c ds_c ks_c) ≤ 1048576) := by show _ ≤ _; omega
      have HC0 := hid hc0
      have HC1 := hid hc1
      have HB0 := hid hbw0
      have R_b := hid hr_b
      have Q0_b := hid hr_b
      have R_c := hid hr_c
      have Q0_c := hid hr_c
      clear hbw0 hc0 hc1 hr_b hr_c
      go_enter Try.func4, Try.ntmps4
      go_wp2_with fail
      refine (HC0.out _ HB0.out).mono ?_
      rintro e w1 ⟨rfl, hb⟩
      have HB1 := hid (HB0.out.trans (hb.mono (by simp; omega)))
      have HX1 := hid (HX0.out.below hb)
      clear hb HC0
      have g0_0 := HX1.out.at 0 0 rfl rfl
      have g0_1 := HX1.out.at 0 1 rfl rfl
      have g0_2 := HX1.out.at 0 2 rfl rfl
      have g0_3 := HX1.out.at 0 3 rfl rfl
      simp only [World.size_alloc] at g0_0 g0_1 g0_2 g0_3
      go_wp2_with fail
      clear g0_0 g0_1 g0_2 g0_3
      refine (HC1.out _ HB1.out).mono ?_
      rintro e w2 ⟨rfl, hb⟩
      have HB2 := hid (HB1.out.trans (hb.mono HB1.out.size))
      have HX2 := hid (HX1.out.below hb)
      clear hb HC1
      have R_b := hid (R_b.out.below HB2.out)
      have R_c := hid (R_c.out.below HB2.out)
      have R0_b := Q0_b
      have R0_c := Q0_c
      have HB := HB2
      have HX := hid (show Boxes w2 [(w.heap.size + 1, [.int .i64 k_c, .int .i64 v_c, .slice ads_c ds_c.length cds_c, .slice aks_c ks_c.length cks_c]), (w.heap.size, [.slice afs_b fs_b.length cfs_b])] from (by have h := HX2.out; simp only [World.size_alloc] at h; exact h))
      obtain ⟨rk, rv, rds, rks, q, hres⟩ := startC_eta fs_b (Co.mk k_c v_c ds_c ks_c)
      have hrb : Co.bulk (Co.mk rk rv rds rks) ≤ 1048576 := by have h := startC_bulk fs_b (Co.mk k_c v_c ds_c ks_c); rw [hres] at h; have := HM_c.out; exact Nat.le_trans h this
      have hrb2 : In.bulks rds + Co.bulks rks ≤ 1048576 := hrb
      have hdl := In.bulks_length rds
      have hkl := Co.bulks_length rks
      have hkn := Co.nums_le rks
      have hrd1 : rds.length ≤ 1048576 := by omega
      have hrk1 : rks.length ≤ 1048576 := by omega
      have hnn : D.nums (Co.ds rks) ≤ 2097152 := by omega
      have HNN := hid hnn
      have HSP := hid (show ∀ (af : Option Addr) (cf : Nat) (ad : Option Addr) (cd : Nat) (ak : Option Addr) (ck : Nat) (W : World), RdS W (Bk.d (.mk fs_b)) [.slice af fs_b.length cf] → RdS W (Co.d (Co.mk k_c v_c ds_c ks_c)) [.int .i64 k_c, .int .i64 v_c, .slice ad ds_c.length cd, .slice ak ks_c.length ck] → Calls Try.prog 13 #[.agg #[.slice af fs_b.length cf], .agg #[.int .i64 k_c, .int .i64 v_c, .slice ad ds_c.length cd, .slice ak ks_c.length ck]] W (GivesN (Co.mk rk rv rds rks) q W) from fun af cf ad cd ak ck W h1 h2 => by have h := spec_StartNeed fs_b af cf k_c v_c ds_c ks_c ad cd ak ck W HM_b.out HM_c.out h1 h2; rw [hres] at h; exact h)
      have HIM := hid (show ∀ (af : Option Addr) (cf : Nat) (ad : Option Addr) (cd : Nat) (ak : Option Addr) (ck : Nat) (W : World), RdS W (Bk.d (.mk fs_b)) [.slice af fs_b.length cf] → RdS W (Co.d (Co.mk k_c v_c ds_c ks_c)) [.int .i64 k_c, .int .i64 v_c, .slice ad ds_c.length cd, .slice ak ks_c.length ck] → Calls Try.prog 14 #[.agg #[.slice af fs_b.length cf], .agg #[.int .i64 k_c, .int .i64 v_c, .slice ad ds_c.length cd, .slice ak ks_c.length ck]] W (GivesN (Co.mk rk rv rds rks) q W) from fun af cf ad cd ak ck W h1 h2 => by have h := impl_StartNeed fs_b af cf k_c v_c ds_c ks_c ad cd ak ck W HM_b.out HM_c.out h1 h2; rw [hres] at h; exact h)
      have HEQ := hid (show ∀ (ad : Option Addr) (cd : Nat) (ak : Option Addr) (ck : Nat) (ad' : Option Addr) (cd' : Nat) (ak' : Option Addr) (ck' : Nat) (W : World), RdS W (Ne.d (.mk (.mk (.mk rk rv rds rks) []) [] [])) [.int .i64 rk, .int .i64 rv, .slice ad rds.length cd, .slice ak rks.length ck, .slice none 0 0, .slice none 0 0, .slice none 0 0] → RdS W (Ne.d (.mk (.mk (.mk rk rv rds rks) []) [] [])) [.int .i64 rk, .int .i64 rv, .slice ad' rds.length cd', .slice ak' rks.length ck', .slice none 0 0, .slice none 0 0, .slice none 0 0] → Calls Try.prog 15 #[.agg #[.int .i64 rk, .int .i64 rv, .slice ad rds.length cd, .slice ak rks.length ck, .slice none 0 0, .slice none 0 0, .slice none 0 0], .agg #[.int .i64 rk, .int .i64 rv, .slice ad' rds.length cd', .slice ak' rks.length ck', .slice none 0 0, .slice none 0 0, .slice none 0 0]] W (fun e w' => e = .returned (.bool true) ∧ Below W.heap.size W w') from fun ad cd ak ck ad' cd' ak' ck' W h1 h2 => eqNe rk rv rds rks [] [] [] ad cd ak ck none 0 none 0 none 0 ad' cd' ak' ck' none 0 none 0 none 0 W h1 h2)
      have HTB := hid (fun (W : World) (h : RdS W (Bk.d (.mk fs_b)) [.slice afs_b fs_b.length cfs_b]) => toBk fs_b afs_b cfs_b W HM_b.out h)
      have HTC := hid (fun (W : World) (h : RdS W (Co.d (Co.mk k_c v_c ds_c ks_c)) [.int .i64 k_c, .int .i64 v_c, .slice ads_c ds_c.length cds_c, .slice aks_c ks_c.length cks_c]) => toCo k_c v_c ds_c ks_c ads_c cds_c aks_c cks_c W HM_c.out h)
      clear hres hrb hrb2 hdl hkl hkn hnn
      have gb_0 := HX.out.at 1 0 rfl rfl
      have gc_0 := HX.out.at 0 0 rfl rfl
      have gc_1 := HX.out.at 0 1 rfl rfl
      have gc_2 := HX.out.at 0 2 rfl rfl
      have gc_3 := HX.out.at 0 3 rfl rfl
      have hS0 : (Below w2.heap.size w2 w2.drew ∧ w2.drew.cell? ⟨w.heap.size, 0, none⟩ = some (.slice afs_b fs_b.length cfs_b) ∧ w2.drew.cell? ⟨w.heap.size + 1, 0, none⟩ = some (.int .i64 k_c) ∧ w2.drew.cell? ⟨w.heap.size + 1, 1, none⟩ = some (.int .i64 v_c) ∧ w2.drew.cell? ⟨w.heap.size + 1, 2, none⟩ = some (.slice ads_c ds_c.length cds_c) ∧ w2.drew.cell? ⟨w.heap.size + 1, 3, none⟩ = some (.slice aks_c ks_c.length cks_c)) := ⟨(Below.refl _ _).drew, gb_0, gc_0, gc_1, gc_2, gc_3⟩
      have hkeep : ∀ V V' : World, Below w2.heap.size V V' → (Below w2.heap.size w2 V ∧ V.cell? ⟨w.heap.size, 0, none⟩ = some (.slice afs_b fs_b.length cfs_b) ∧ V.cell? ⟨w.heap.size + 1, 0, none⟩ = some (.int .i64 k_c) ∧ V.cell? ⟨w.heap.size + 1, 1, none⟩ = some (.int .i64 v_c) ∧ V.cell? ⟨w.heap.size + 1, 2, none⟩ = some (.slice ads_c ds_c.length cds_c) ∧ V.cell? ⟨w.heap.size + 1, 3, none⟩ = some (.slice aks_c ks_c.length cks_c)) → (Below w2.heap.size w2 V' ∧ V'.cell? ⟨w.heap.size, 0, none⟩ = some (.slice afs_b fs_b.length cfs_b) ∧ V'.cell? ⟨w.heap.size + 1, 0, none⟩ = some (.int .i64 k_c) ∧ V'.cell? ⟨w.heap.size + 1, 1, none⟩ = some (.int .i64 v_c) ∧ V'.cell? ⟨w.heap.size + 1, 2, none⟩ = some (.slice ads_c ds_c.length cds_c) ∧ V'.cell? ⟨w.heap.size + 1, 3, none⟩ = some (.slice aks_c ks_c.length cks_c)) := fun V V' hb ⟨h, hb_0, hc_0, hc_1, hc_2, hc_3⟩ => ⟨h.trans hb, (hb.cell (p := ⟨w.heap.size, 0, none⟩) (World.block_lt_of_cell? _ _ gb_0)).trans hb_0, (hb.cell (p := ⟨w.heap.size + 1, 0, none⟩) (World.block_lt_of_cell? _ _ gc_0)).trans hc_0, (hb.cell (p := ⟨w.heap.size + 1, 1, none⟩) (World.block_lt_of_cell? _ _ gc_1)).trans hc_1, (hb.cell (p := ⟨w.heap.size + 1, 2, none⟩) (World.block_lt_of_cell? _ _ gc_2)).trans hc_2, (hb.cell (p := ⟨w.heap.size + 1, 3, none⟩) (World.block_lt_of_cell? _ _ gc_3)).trans hc_3⟩
      have hS0A : (Below w2.heap.size w2 (w2.alloc (.cells #[.int .i64 0, .int .i64 0, .slice none 0 0, .slice none 0 0, .slice none 0 0, .slice none 0 0, .slice none 0 0] 46)).drew ∧ (w2.alloc (.cells #[.int .i64 0, .int .i64 0, .slice none 0 0, .slice none 0 0, .slice none 0 0, .slice none 0 0, .slice none 0 0] 46)).drew.cell? ⟨w.heap.size, 0, none⟩ = some (.slice afs_b fs_b.length cfs_b) ∧ (w2.alloc (.cells #[.int .i64 0, .int .i64 0, .slice none 0 0, .slice none 0 0, .slice none 0 0, .slice none 0 0, .slice none 0 0] 46)).drew.cell? ⟨w.heap.size + 1, 0, none⟩ = some (.int .i64 k_c) ∧ (w2.alloc (.cells #[.int .i64 0, .int .i64 0, .slice none 0 0, .slice none 0 0, .slice none 0 0, .slice none 0 0, .slice none 0 0] 46)).drew.cell? ⟨w.heap.size + 1, 1, none⟩ = some (.int .i64 v_c) ∧ (w2.alloc (.cells #[.int .i64 0, .int .i64 0, .slice none 0 0, .slice none 0 0, .slice none 0 0, .slice none 0 0, .slice none 0 0] 46)).drew.cell? ⟨w.heap.size + 1, 2, none⟩ = some (.slice ads_c ds_c.length cds_c) ∧ (w2.alloc (.cells #[.int .i64 0, .int .i64 0, .slice none 0 0, .slice none 0 0, .slice none 0 0, .slice none 0 0, .slice none 0 0] 46)).drew.cell? ⟨w.heap.size + 1, 3, none⟩ = some (.slice aks_c ks_c.length cks_c)) := by
        have h := hkeep w2 (w2.alloc (.cells #[.int .i64 0, .int .i64 0, .slice none 0 0, .slice none 0 0, .slice none 0 0, .slice none 0 0, .slice none 0 0] 46)) ((Below.refl _ _).alloc (Nat.le_refl _) _) ⟨Below.refl _ _, gb_0, gc_0, gc_1, gc_2, gc_3⟩
        exact ⟨h.1.drew, h.2⟩
      have KEEP := hid hkeep
      have KAL := hid (fun (V : World) (ob : Obj) (h : (Below w2.heap.size w2 V ∧ V.cell? ⟨w.heap.size, 0, none⟩ = some (.slice afs_b fs_b.length cfs_b) ∧ V.cell? ⟨w.heap.size + 1, 0, none⟩ = some (.int .i64 k_c) ∧ V.cell? ⟨w.heap.size + 1, 1, none⟩ = some (.int .i64 v_c) ∧ V.cell? ⟨w.heap.size + 1, 2, none⟩ = some (.slice ads_c ds_c.length cds_c) ∧ V.cell? ⟨w.heap.size + 1, 3, none⟩ = some (.slice aks_c ks_c.length cks_c))) => hkeep V (V.alloc ob) ((Below.refl _ _).alloc h.1.size _) h)
      have KST := hid (fun (V : World) (g : Nat) (p q r u x y z : Value) (hg : w2.heap.size ≤ g) (h : (Below w2.heap.size w2 V ∧ V.cell? ⟨w.heap.size, 0, none⟩ = some (.slice afs_b fs_b.length cfs_b) ∧ V.cell? ⟨w.heap.size + 1, 0, none⟩ = some (.int .i64 k_c) ∧ V.cell? ⟨w.heap.size + 1, 1, none⟩ = some (.int .i64 v_c) ∧ V.cell? ⟨w.heap.size + 1, 2, none⟩ = some (.slice ads_c ds_c.length cds_c) ∧ V.cell? ⟨w.heap.size + 1, 3, none⟩ = some (.slice aks_c ks_c.length cks_c))) => hkeep V (set7W V g p q r u x y z) (set7_below (Below.refl _ _) hg p q r u x y z) h)
      have HSB := hid (fun (V : World) (h : Below w2.heap.size w2 V) => R_b.out.below h)
      have HSC := hid (fun (V : World) (h : Below w2.heap.size w2 V) => R_c.out.below h)
      clear hkeep
      go_upto_region 8 with fail
      go_cut [6, 7] from 27 (fun t6 t7 wx => ∃ (g cd ck : Nat) (ad ak : Option Addr), t6 = .pointer (some ⟨g, 0, none⟩) ∧ t7 = .int .i64 q ∧ Hid (w2.heap.size ≤ g) ∧ Hid (g < wx.heap.size) ∧ Hid (Below w2.heap.size w2 wx) ∧ Hid (wx.heap[g]? = some (.cells #[.int .i64 rk, .int .i64 rv, .slice ad rds.length cd, .slice ak rks.length ck, .slice none 0 0, .slice none 0 0, .slice none 0 0] 46)) ∧ Hid (RdS wx (Ne.d (.mk (.mk (.mk rk rv rds rks) []) [] [])) [.int .i64 rk, .int .i64 rv, .slice ad rds.length cd, .slice ak rks.length ck, .slice none 0 0, .slice none 0 0, .slice none 0 0]))
      case first =>
        have hbA : Below w2.heap.size w2 (w2.alloc (.cells #[.int .i64 0, .int .i64 0, .slice none 0 0, .slice none 0 0, .slice none 0 0, .slice none 0 0, .slice none 0 0] 46)).drew := ((Below.refl _ _).alloc (Nat.le_refl _) _).drew
        have hxA : (w2.alloc (.cells #[.int .i64 0, .int .i64 0, .slice none 0 0, .slice none 0 0, .slice none 0 0, .slice none 0 0, .slice none 0 0] 46)).drew.heap[w2.heap.size]? = some (.cells #[.int .i64 0, .int .i64 0, .slice none 0 0, .slice none 0 0, .slice none 0 0, .slice none 0 0, .slice none 0 0] 46) := cells_alloc_new w2 _
        go_region_held3 (fun V => (Below w2.heap.size w2 V ∧ V.cell? ⟨w.heap.size, 0, none⟩ = some (.slice afs_b fs_b.length cfs_b) ∧ V.cell? ⟨w.heap.size + 1, 0, none⟩ = some (.int .i64 k_c) ∧ V.cell? ⟨w.heap.size + 1, 1, none⟩ = some (.int .i64 v_c) ∧ V.cell? ⟨w.heap.size + 1, 2, none⟩ = some (.slice ads_c ds_c.length cds_c) ∧ V.cell? ⟨w.heap.size + 1, 3, none⟩ = some (.slice aks_c ks_c.length cks_c)))
          (with_reducible first | exact hS0 | exact hS0A | exact hS3 | exact hS2 | exact hS1 | exact KAL.out _ _ hS0 | exact KAL.out _ _ hS3 | exact KAL.out _ _ hS2 | exact KAL.out _ _ hS1 | exact KST.out _ _ _ _ _ _ _ _ _ (Nat.le_refl _) hS3 | exact KST.out _ _ _ _ _ _ _ _ _ hge1 hS3 | exact KST.out _ _ _ _ _ _ _ _ _ hge2 hS3)
          (first
            | (go_at_call 8; (with_reducible refine (HTB.out ((w2.alloc (.cells #[.int .i64 0, .int .i64 0, .slice none 0 0, .slice none 0 0, .slice none 0 0, .slice none 0 0, .slice none 0 0] 46)).drew) (HSB.out _ hbA)).mono ?_); rintro e V1 ⟨af1, cf1, rfl, ho1, hbq⟩; have hb1 := hbq.mono (B' := w2.heap.size) (by simp); have hbx := (hbq.block w2.heap.size (by simp)).trans hxA; have hlb := (Array.getElem?_eq_some_iff.1 hbx).1; have hS1 := KEEP.out _ _ hb1 (by assumption); have hge1 := hS1.1.size; have hrb1 := ho1.rd; clear hbq ho1)
            | (go_at_call 8; (with_reducible refine (HTB.out w2.drew (HSB.out _ (Below.refl _ _).drew)).mono ?_); rintro e V1 ⟨af1, cf1, rfl, ho1, hbq⟩; have hb1 : Below w2.heap.size w2.drew V1 := hbq; have hS1 := KEEP.out _ _ hb1 (by assumption); have hge1 := hS1.1.size; have hrb1 := ho1.rd; clear hbq ho1)
            | (go_at_call 9; (with_reducible refine (HTC.out (V1.alloc (.cells #[.int .i64 0, .int .i64 0, .slice none 0 0, .slice none 0 0, .slice none 0 0, .slice none 0 0, .slice none 0 0] 46)) (HSC.out _ (hS1.1.trans (((Below.refl V1.heap.size V1).alloc (Nat.le_refl _) (.cells #[.int .i64 0, .int .i64 0, .slice none 0 0, .slice none 0 0, .slice none 0 0, .slice none 0 0, .slice none 0 0] 46)).mono hge1)))).mono ?_); rintro e V2 ⟨ad2, cd2, ak2, ck2, rfl, ho2, hbq⟩; have hb2 := ((Below.refl V1.heap.size V1).alloc (Nat.le_refl _) (.cells #[.int .i64 0, .int .i64 0, .slice none 0 0, .slice none 0 0, .slice none 0 0, .slice none 0 0, .slice none 0 0] 46)).trans (hbq.mono ((Below.refl V1.heap.size V1).alloc (Nat.le_refl _) (.cells #[.int .i64 0, .int .i64 0, .slice none 0 0, .slice none 0 0, .slice none 0 0, .slice none 0 0, .slice none 0 0] 46)).size); have hS2 := KEEP.out _ _ (hb2.mono hge1) hS1; have hge2 := hS2.1.size; have hlt2 := hb2.size; have hbx := (hbq.block V1.heap.size (by simp)).trans (cells_alloc_new V1 (.cells #[.int .i64 0, .int .i64 0, .slice none 0 0, .slice none 0 0, .slice none 0 0, .slice none 0 0, .slice none 0 0] 46)); have hlb := (Array.getElem?_eq_some_iff.1 hbx).1; have hrb2 := hrb1.below hb2; have hrc2 := ho2.rd; clear hbq ho2)
            | (go_at_call 9; (with_reducible refine (HTC.out V1 (HSC.out _ (hS1.1.trans ((Below.refl V1.heap.size V1).mono hge1)))).mono ?_); rintro e V2 ⟨ad2, cd2, ak2, ck2, rfl, ho2, hbq⟩; have hb2 := (Below.refl V1.heap.size V1).trans (hbq.mono (Below.refl V1.heap.size V1).size); have hS2 := KEEP.out _ _ (hb2.mono hge1) hS1; have hge2 := hS2.1.size; have hlt2 := hb2.size; (try (have hbx := (hbq.block _ (Array.getElem?_eq_some_iff.1 hbx).1).trans hbx)); have hrb2 := hrb1.below hb2; have hrc2 := ho2.rd; clear hbq ho2)
            | (go_at_call 13; (with_reducible refine (HSP.out _ _ _ _ _ _ (V2.alloc (.cells #[.int .i64 0, .int .i64 0, .slice none 0 0, .slice none 0 0, .slice none 0 0, .slice none 0 0, .slice none 0 0] 46)) (hrb2.below ((Below.refl V2.heap.size V2).alloc (Nat.le_refl _) (.cells #[.int .i64 0, .int .i64 0, .slice none 0 0, .slice none 0 0, .slice none 0 0, .slice none 0 0, .slice none 0 0] 46))) (hrc2.below ((Below.refl V2.heap.size V2).alloc (Nat.le_refl _) (.cells #[.int .i64 0, .int .i64 0, .slice none 0 0, .slice none 0 0, .slice none 0 0, .slice none 0 0, .slice none 0 0] 46)))).mono ?_); rintro e V3 ⟨ad, cd, ak, ck, rfl, ho3, hbq⟩; have hb3 := ((Below.refl V2.heap.size V2).alloc (Nat.le_refl _) (.cells #[.int .i64 0, .int .i64 0, .slice none 0 0, .slice none 0 0, .slice none 0 0, .slice none 0 0, .slice none 0 0] 46)).trans (hbq.mono ((Below.refl V2.heap.size V2).alloc (Nat.le_refl _) (.cells #[.int .i64 0, .int .i64 0, .slice none 0 0, .slice none 0 0, .slice none 0 0, .slice none 0 0, .slice none 0 0] 46)).size); have hS3 := KEEP.out _ _ (hb3.mono hge2) hS2; have hge3 := hS3.1.size; have hlt3 := hb3.size; have hbx := (hbq.block V2.heap.size (by simp)).trans (cells_alloc_new V2 (.cells #[.int .i64 0, .int .i64 0, .slice none 0 0, .slice none 0 0, .slice none 0 0, .slice none 0 0, .slice none 0 0] 46)); have hszq := (show V2.heap.size ≤ (V2.alloc (.cells #[.int .i64 0, .int .i64 0, .slice none 0 0, .slice none 0 0, .slice none 0 0, .slice none 0 0, .slice none 0 0] 46)).heap.size from ((Below.refl V2.heap.size V2).alloc (Nat.le_refl _) (.cells #[.int .i64 0, .int .i64 0, .slice none 0 0, .slice none 0 0, .slice none 0 0, .slice none 0 0, .slice none 0 0] 46)).size); try (have z0 := heap_free hbx 0; have z1 := heap_free hbx 1; have z2 := heap_free hbx 2; have z3 := heap_free hbx 3; have z4 := heap_free hbx 4; have z5 := heap_free hbx 5; have z6 := heap_free hbx 6; have r0 := heap_cell hbx (j := 0) rfl; have r1 := heap_cell hbx (j := 1) rfl; have r2 := heap_cell hbx (j := 2) rfl; have r3 := heap_cell hbx (j := 3) rfl; have r4 := heap_cell hbx (j := 4) rfl; have r5 := heap_cell hbx (j := 5) rfl; have r6 := heap_cell hbx (j := 6) rfl))
            | (go_at_call 13; (with_reducible refine (HSP.out _ _ _ _ _ _ V2 (hrb2.below (Below.refl V2.heap.size V2)) (hrc2.below (Below.refl V2.heap.size V2))).mono ?_); rintro e V3 ⟨ad, cd, ak, ck, rfl, ho3, hbq⟩; have hb3 := (Below.refl V2.heap.size V2).trans (hbq.mono (Below.refl V2.heap.size V2).size); have hS3 := KEEP.out _ _ (hb3.mono hge2) hS2; have hge3 := hS3.1.size; have hlt3 := hb3.size; (try (have hbx := (hbq.block _ (Array.getElem?_eq_some_iff.1 hbx).1).trans hbx)); have hszq := (show V2.heap.size ≤ V2.heap.size from (Below.refl V2.heap.size V2).size); try (have z0 := heap_free hbx 0; have z1 := heap_free hbx 1; have z2 := heap_free hbx 2; have z3 := heap_free hbx 3; have z4 := heap_free hbx 4; have z5 := heap_free hbx 5; have z6 := heap_free hbx 6; have r0 := heap_cell hbx (j := 0) rfl; have r1 := heap_cell hbx (j := 1) rfl; have r2 := heap_cell hbx (j := 2) rfl; have r3 := heap_cell hbx (j := 3) rfl; have r4 := heap_cell hbx (j := 4) rfl; have r5 := heap_cell hbx (j := 5) rfl; have r6 := heap_cell hbx (j := 6) rfl)))
        all_goals
          clear KEEP KAL KST HSP HIM HEQ HTB HTC HSB HSC
          go_wp2_with fail
          go_meet
          first
            | have hq := hbx; exact ⟨_, cd, ck, ad, ak, rfl, rfl, need_before (by first | exact Nat.le_refl _ | exact hge1 | exact hge2) hbx hS3.1 (Ne.own ho3) (by first | omega | (simp only [World.size_alloc]; omega))⟩
            | exact ⟨_, cd, ck, ad, ak, rfl, rfl, need_after hS3.1 (Ne.rdS ho3)⟩
      case rest =>
      obtain ⟨wc8, hwn⟩ : ∃ wc8, wc8 = wc := ⟨_, rfl⟩
      subst hwn
      obtain ⟨gw, cdw, ckw, adw, akw, rfl, rfl, HGw, HLw, HBC, HGX, W_w⟩ := hcut
      clear KEEP KAL KST HSB HSC hS0 hS0A gb_0 gc_0 gc_1 gc_2 gc_3
      have hb := HBC.out
      have HB := hid (HB.out.trans (hb.mono HB.out.size))
      have HX := hid (HX.out.below hb)
      have R_b := hid (R_b.out.below hb)
      have R_c := hid (R_c.out.below hb)
      have HX := hid (show Boxes wc8 [(gw, [.int .i64 rk, .int .i64 rv, .slice adw rds.length cdw, .slice akw rks.length ckw, .slice none 0 0, .slice none 0 0, .slice none 0 0]), (w.heap.size + 1, [.int .i64 k_c, .int .i64 v_c, .slice ads_c ds_c.length cds_c, .slice aks_c ks_c.length cks_c]), (w.heap.size, [.slice afs_b fs_b.length cfs_b])] from (Boxes.cons' HX.out HGX.out))
      clear hb HBC HGX
      have hq0 : (q == q) = true := by simp
      have W0 := W_w
      have HV := hid (Below.refl wc8.heap.size wc8)
      have HN0 := hid (show w.heap.size + 2 ≤ gw from Nat.le_trans (by have h := (HX.out 1 _ _ rfl).1; have h2 := HB2.out.size; have h3 := (HX2.out 0 _ _ rfl).1; simp only [World.size_alloc] at h3; omega) HGw.out)
      have gb_0 := HX.out.at 2 0 rfl rfl
      go_wp2_with fail
      clear gb_0
      refine (HTB.out _ R_b.out).mono ?_
      rintro e x0 ⟨afs_x, cfs_x, rfl, hob, hb⟩
      have HN2 := hid hb.size
      have HB := hid (HB.out.trans (hb.mono HB.out.size))
      have HX := hid (HX.out.below hb)
      have R_b := hid (R_b.out.below hb)
      have R_c := hid (R_c.out.below hb)
      have W_w := hid (W_w.out.below hb)
      have HV := hid (HV.out.trans (hb.mono HV.out.size))
      obtain ⟨Fb, hRb, hOb⟩ := hob
      have LOB := hid (fun i (hi : i ∈ Fb) => (⟨(hOb.2 i hi).1, hRb.lt i hi⟩ : wc8.heap.size ≤ i ∧ i < x0.heap.size))
      have HRX := hid hRb
      have HOX := hid (hOb.mono (base' := 0) (Nat.zero_le _))
      clear hb hRb hOb
      have hba : Below x0.heap.size x0 (x0.alloc (.cells #[.slice afs_x fs_b.length cfs_x] 33)) := (Below.refl _ _).alloc (Nat.le_refl _) _
      have HXa := hid (HX.out.alloc #[.slice afs_x fs_b.length cfs_x] 33 (0, 0))
      have HB := hid (HB.out.trans (hba.mono HB.out.size))
      have HX := hid (HX.out.below hba)
      have R_b := hid (R_b.out.below hba)
      have R_c := hid (R_c.out.below hba)
      have W_w := hid (W_w.out.below hba)
      have HV := hid (HV.out.trans (hba.mono HV.out.size))
      have HRX := hid (HRX.out.below hba)
      have HOX := hid (HOX.out.below hba)
      have HX := HXa
      clear hba HXa
      have gc_0 := HX.out.at 2 0 rfl rfl
      have gc_1 := HX.out.at 2 1 rfl rfl
      have gc_2 := HX.out.at 2 2 rfl rfl
      have gc_3 := HX.out.at 2 3 rfl rfl
      go_wp2_with fail
      clear gc_0 gc_1 gc_2 gc_3
      refine (HTC.out _ R_c.out).mono ?_
      rintro e x1 ⟨ads_x, cds_x, aks_x, cks_x, rfl, hoc, hb⟩
      have HN3 := hid (show x0.heap.size + 1 ≤ x1.heap.size by have h := hb.size; simp at h; omega)
      have HB := hid (HB.out.trans (hb.mono HB.out.size))
      have HX := hid (HX.out.below hb)
      have R_b := hid (R_b.out.below hb)
      have R_c := hid (R_c.out.below hb)
      have W_w := hid (W_w.out.below hb)
      have HV := hid (HV.out.trans (hb.mono HV.out.size))
      have HRX := hid (HRX.out.below hb)
      have HOX := hid (HOX.out.below hb)
      obtain ⟨Fc, hRc, hOc⟩ := hoc
      have LOC := hid (fun i (hi : i ∈ Fc) => (⟨by have h := (hOc.2 i hi).1; simp at h; omega, hRc.lt i hi⟩ : x0.heap.size + 1 ≤ i ∧ i < x1.heap.size))
      have HRY := hid hRc
      have HOY := hid (hOc.mono (base' := 0) (Nat.zero_le _))
      clear hb hRc hOc
      have hba : Below x1.heap.size x1 (x1.alloc (.cells #[.int .i64 k_c, .int .i64 v_c, .slice ads_x ds_c.length cds_x, .slice aks_x ks_c.length cks_x] 36)) := (Below.refl _ _).alloc (Nat.le_refl _) _
      have HXa := hid (HX.out.alloc #[.int .i64 k_c, .int .i64 v_c, .slice ads_x ds_c.length cds_x, .slice aks_x ks_c.length cks_x] 36 (0, 0))
      have HB := hid (HB.out.trans (hba.mono HB.out.size))
      have HX := hid (HX.out.below hba)
      have R_b := hid (R_b.out.below hba)
      have R_c := hid (R_c.out.below hba)
      have W_w := hid (W_w.out.below hba)
      have HV := hid (HV.out.trans (hba.mono HV.out.size))
      have HRX := hid (HRX.out.below hba)
      have HOX := hid (HOX.out.below hba)
      have HRY := hid (HRY.out.below hba)
      have HOY := hid (HOY.out.below hba)
      have HX := HXa
      clear hba HXa
      have gxb_0 := HX.out.at 1 0 rfl rfl
      have gxc_0 := HX.out.at 0 0 rfl rfl
      have gxc_1 := HX.out.at 0 1 rfl rfl
      have gxc_2 := HX.out.at 0 2 rfl rfl
      have gxc_3 := HX.out.at 0 3 rfl rfl
      go_wp2_with fail
      clear gxb_0 gxc_0 gxc_1 gxc_2 gxc_3
      refine (HIM.out _ _ _ _ _ _ _ ⟨Fb, HRX.out⟩ ⟨Fc, HRY.out⟩).mono ?_
      rintro e vi ⟨adg, cdg, akg, ckg, rfl, hog, hb⟩
      have HN4 := hid (show x1.heap.size + 1 ≤ vi.heap.size by have h := hb.size; simp at h; omega)
      have HB := hid (HB.out.trans (hb.mono HB.out.size))
      have HX := hid (HX.out.below hb)
      have R_b := hid (R_b.out.below hb)
      have R_c := hid (R_c.out.below hb)
      have W_w := hid (W_w.out.below hb)
      have HV := hid (HV.out.trans (hb.mono HV.out.size))
      have HRX := hid (HRX.out.below hb)
      have HOX := hid (HOX.out.below hb)
      have HRY := hid (HRY.out.below hb)
      have HOY := hid (HOY.out.below hb)
      obtain ⟨Fg, hRg, hOg⟩ := hog
      have LOG := hid (fun i (hi : i ∈ Fg) => (⟨by have h := (hOg.2 i hi).1; simp at h; omega, hRg.lt i hi⟩ : x1.heap.size + 1 ≤ i ∧ i < vi.heap.size))
      have HRG := hid hRg
      have HOG := hid (hOg.mono (base' := 0) (Nat.zero_le _))
      clear hb hRg hOg
      have hba : Below vi.heap.size vi (vi.alloc (.cells #[.int .i64 rk, .int .i64 rv, .slice adg rds.length cdg, .slice akg rks.length ckg, .slice none 0 0, .slice none 0 0, .slice none 0 0] 46)) := (Below.refl _ _).alloc (Nat.le_refl _) _
      have HXa := hid (HX.out.alloc #[.int .i64 rk, .int .i64 rv, .slice adg rds.length cdg, .slice akg rks.length ckg, .slice none 0 0, .slice none 0 0, .slice none 0 0] 46 (0, 0))
      have HB := hid (HB.out.trans (hba.mono HB.out.size))
      have HX := hid (HX.out.below hba)
      have R_b := hid (R_b.out.below hba)
      have R_c := hid (R_c.out.below hba)
      have W_w := hid (W_w.out.below hba)
      have HV := hid (HV.out.trans (hba.mono HV.out.size))
      have HRX := hid (HRX.out.below hba)
      have HOX := hid (HOX.out.below hba)
      have HRY := hid (HRY.out.below hba)
      have HOY := hid (HOY.out.below hba)
      have HRG := hid (HRG.out.below hba)
      have HOG := hid (HOG.out.below hba)
      have HX := HXa
      clear hba HXa
      have gg_0 := HX.out.at 0 0 rfl rfl
      have gg_1 := HX.out.at 0 1 rfl rfl
      have gg_2 := HX.out.at 0 2 rfl rfl
      have gg_3 := HX.out.at 0 3 rfl rfl
      have gg_4 := HX.out.at 0 4 rfl rfl
      have gg_5 := HX.out.at 0 5 rfl rfl
      have gg_6 := HX.out.at 0 6 rfl rfl
      have gw_0 := HX.out.at 3 0 rfl rfl
      have gw_1 := HX.out.at 3 1 rfl rfl
      have gw_2 := HX.out.at 3 2 rfl rfl
      have gw_3 := HX.out.at 3 3 rfl rfl
      have gw_4 := HX.out.at 3 4 rfl rfl
      have gw_5 := HX.out.at 3 5 rfl rfl
      have gw_6 := HX.out.at 3 6 rfl rfl
      go_wp2_with fail
      clear gg_0 gg_1 gg_2 gg_3 gg_4 gg_5 gg_6 gw_0 gw_1 gw_2 gw_3 gw_4 gw_5 gw_6
      refine (HEQ.out _ _ _ _ _ _ _ _ _ ⟨Fg, Ne.rd_mk HRG.out⟩ W_w.out).mono ?_
      rintro e ve ⟨rfl, hb⟩
      have HB := hid (HB.out.trans (hb.mono HB.out.size))
      have HX := hid (HX.out.below hb)
      have R_b := hid (R_b.out.below hb)
      have R_c := hid (R_c.out.below hb)
      have W_w := hid (W_w.out.below hb)
      have HV := hid (HV.out.trans (hb.mono HV.out.size))
      have HRX := hid (HRX.out.below hb)
      have HOX := hid (HOX.out.below hb)
      have HRY := hid (HRY.out.below hb)
      have HOY := hid (HOY.out.below hb)
      have HRG := hid (HRG.out.below hb)
      have HOG := hid (HOG.out.below hb)
      clear hb
      go_wp2_with fail
      have gxb_0 := HX.out.at 2 0 rfl rfl
      have gb_0 := HX.out.at 5 0 rfl rfl
      have hS0 : (Below ve.heap.size ve ve.drew ∧ ve.drew.cell? ⟨x0.heap.size, 0, none⟩ = some (.slice afs_x fs_b.length cfs_x) ∧ ve.drew.cell? ⟨w.heap.size, 0, none⟩ = some (.slice afs_b fs_b.length cfs_b)) := ⟨(Below.refl _ _).drew, gxb_0, gb_0⟩
      have hkeep : ∀ V V' : World, Below ve.heap.size V V' → (Below ve.heap.size ve V ∧ V.cell? ⟨x0.heap.size, 0, none⟩ = some (.slice afs_x fs_b.length cfs_x) ∧ V.cell? ⟨w.heap.size, 0, none⟩ = some (.slice afs_b fs_b.length cfs_b)) → (Below ve.heap.size ve V' ∧ V'.cell? ⟨x0.heap.size, 0, none⟩ = some (.slice afs_x fs_b.length cfs_x) ∧ V'.cell? ⟨w.heap.size, 0, none⟩ = some (.slice afs_b fs_b.length cfs_b)) := fun V V' hb ⟨h, hxb_0, hb_0⟩ => ⟨h.trans hb, (hb.cell (p := ⟨x0.heap.size, 0, none⟩) (World.block_lt_of_cell? _ _ gxb_0)).trans hxb_0, (hb.cell (p := ⟨w.heap.size, 0, none⟩) (World.block_lt_of_cell? _ _ gb_0)).trans hb_0⟩
      have KEEP := hid hkeep
      clear hkeep
      have CXX := hid (show RdS ve (Bk.d (.mk fs_b)) [.slice afs_x fs_b.length cfs_x] from ⟨Fb, HRX.out⟩)
      go_region_held3 (fun V => (Below ve.heap.size ve V ∧ V.cell? ⟨x0.heap.size, 0, none⟩ = some (.slice afs_x fs_b.length cfs_x) ∧ V.cell? ⟨w.heap.size, 0, none⟩ = some (.slice afs_b fs_b.length cfs_b)))
        (first | exact hS0 | exact KEEP.out _ _ hbq (by assumption) | go_keep)
        (first
          | (go_at_call 8; (with_reducible refine (HTB.out ve.drew (R_b.out.below (Below.refl _ _).drew)).mono ?_); rintro e yaa ⟨afe, cfe, rfl, hoe, hbw⟩; have hbq : Below ve.heap.size ve.drew yaa := hbw)
          | (go_at_call 11; (with_reducible refine (eqBk fs_b afs_x cfs_x afe cfe yaa (CXX.out.below ((Below.refl ve.heap.size ve).drew.trans hbq)) hoe.rd).mono ?_); rintro e yab ⟨rfl, hbw⟩; have hbv := (Below.refl ve.heap.size ve).drew.trans (hbq.trans (hbw.mono hbq.size)); have hbq := hbw.mono hbq.size))
      clear KEEP hS0 gxb_0 gb_0 hoe hbq hbw
      have HB := hid (HB.out.trans (hbv.mono HB.out.size))
      have HX := hid (HX.out.below hbv)
      have R_b := hid (R_b.out.below hbv)
      have R_c := hid (R_c.out.below hbv)
      have W_w := hid (W_w.out.below hbv)
      have HV := hid (HV.out.trans (hbv.mono HV.out.size))
      have HRX := hid (HRX.out.below hbv)
      have HOX := hid (HOX.out.below hbv)
      have HRY := hid (HRY.out.below hbv)
      have HOY := hid (HOY.out.below hbv)
      have HRG := hid (HRG.out.below hbv)
      have HOG := hid (HOG.out.below hbv)
      clear hbv CXX
      go_wp2_with fail
      have gxc_0 := HX.out.at 1 0 rfl rfl
      have gxc_1 := HX.out.at 1 1 rfl rfl
      have gxc_2 := HX.out.at 1 2 rfl rfl
      have gxc_3 := HX.out.at 1 3 rfl rfl
      have gc_0 := HX.out.at 4 0 rfl rfl
      have gc_1 := HX.out.at 4 1 rfl rfl
      have gc_2 := HX.out.at 4 2 rfl rfl
      have gc_3 := HX.out.at 4 3 rfl rfl
      have hS0 : (Below yab.heap.size yab yab.drew ∧ yab.drew.cell? ⟨x1.heap.size, 0, none⟩ = some (.int .i64 k_c) ∧ yab.drew.cell? ⟨x1.heap.size, 1, none⟩ = some (.int .i64 v_c) ∧ yab.drew.cell? ⟨x1.heap.size, 2, none⟩ = some (.slice ads_x ds_c.length cds_x) ∧ yab.drew.cell? ⟨x1.heap.size, 3, none⟩ = some (.slice aks_x ks_c.length cks_x) ∧ yab.drew.cell? ⟨w.heap.size + 1, 0, none⟩ = some (.int .i64 k_c) ∧ yab.drew.cell? ⟨w.heap.size + 1, 1, none⟩ = some (.int .i64 v_c) ∧ yab.drew.cell? ⟨w.heap.size + 1, 2, none⟩ = some (.slice ads_c ds_c.length cds_c) ∧ yab.drew.cell? ⟨w.heap.size + 1, 3, none⟩ = some (.slice aks_c ks_c.length cks_c)) := ⟨(Below.refl _ _).drew, gxc_0, gxc_1, gxc_2, gxc_3, gc_0, gc_1, gc_2, gc_3⟩
      have hkeep : ∀ V V' : World, Below yab.heap.size V V' → (Below yab.heap.size yab V ∧ V.cell? ⟨x1.heap.size, 0, none⟩ = some (.int .i64 k_c) ∧ V.cell? ⟨x1.heap.size, 1, none⟩ = some (.int .i64 v_c) ∧ V.cell? ⟨x1.heap.size, 2, none⟩ = some (.slice ads_x ds_c.length cds_x) ∧ V.cell? ⟨x1.heap.size, 3, none⟩ = some (.slice aks_x ks_c.length cks_x) ∧ V.cell? ⟨w.heap.size + 1, 0, none⟩ = some (.int .i64 k_c) ∧ V.cell? ⟨w.heap.size + 1, 1, none⟩ = some (.int .i64 v_c) ∧ V.cell? ⟨w.heap.size + 1, 2, none⟩ = some (.slice ads_c ds_c.length cds_c) ∧ V.cell? ⟨w.heap.size + 1, 3, none⟩ = some (.slice aks_c ks_c.length cks_c)) → (Below yab.heap.size yab V' ∧ V'.cell? ⟨x1.heap.size, 0, none⟩ = some (.int .i64 k_c) ∧ V'.cell? ⟨x1.heap.size, 1, none⟩ = some (.int .i64 v_c) ∧ V'.cell? ⟨x1.heap.size, 2, none⟩ = some (.slice ads_x ds_c.length cds_x) ∧ V'.cell? ⟨x1.heap.size, 3, none⟩ = some (.slice aks_x ks_c.length cks_x) ∧ V'.cell? ⟨w.heap.size + 1, 0, none⟩ = some (.int .i64 k_c) ∧ V'.cell? ⟨w.heap.size + 1, 1, none⟩ = some (.int .i64 v_c) ∧ V'.cell? ⟨w.heap.size + 1, 2, none⟩ = some (.slice ads_c ds_c.length cds_c) ∧ V'.cell? ⟨w.heap.size + 1, 3, none⟩ = some (.slice aks_c ks_c.length cks_c)) := fun V V' hb ⟨h, hxc_0, hxc_1, hxc_2, hxc_3, hc_0, hc_1, hc_2, hc_3⟩ => ⟨h.trans hb, (hb.cell (p := ⟨x1.heap.size, 0, none⟩) (World.block_lt_of_cell? _ _ gxc_0)).trans hxc_0, (hb.cell (p := ⟨x1.heap.size, 1, none⟩) (World.block_lt_of_cell? _ _ gxc_1)).trans hxc_1, (hb.cell (p := ⟨x1.heap.size, 2, none⟩) (World.block_lt_of_cell? _ _ gxc_2)).trans hxc_2, (hb.cell (p := ⟨x1.heap.size, 3, none⟩) (World.block_lt_of_cell? _ _ gxc_3)).trans hxc_3, (hb.cell (p := ⟨w.heap.size + 1, 0, none⟩) (World.block_lt_of_cell? _ _ gc_0)).trans hc_0, (hb.cell (p := ⟨w.heap.size + 1, 1, none⟩) (World.block_lt_of_cell? _ _ gc_1)).trans hc_1, (hb.cell (p := ⟨w.heap.size + 1, 2, none⟩) (World.block_lt_of_cell? _ _ gc_2)).trans hc_2, (hb.cell (p := ⟨w.heap.size + 1, 3, none⟩) (World.block_lt_of_cell? _ _ gc_3)).trans hc_3⟩
      have KEEP := hid hkeep
      clear hkeep
      have CXX := hid (show RdS yab (Co.d (Co.mk k_c v_c ds_c ks_c)) [.int .i64 k_c, .int .i64 v_c, .slice ads_x ds_c.length cds_x, .slice aks_x ks_c.length cks_x] from ⟨Fc, HRY.out⟩)
      go_region_held3 (fun V => (Below yab.heap.size yab V ∧ V.cell? ⟨x1.heap.size, 0, none⟩ = some (.int .i64 k_c) ∧ V.cell? ⟨x1.heap.size, 1, none⟩ = some (.int .i64 v_c) ∧ V.cell? ⟨x1.heap.size, 2, none⟩ = some (.slice ads_x ds_c.length cds_x) ∧ V.cell? ⟨x1.heap.size, 3, none⟩ = some (.slice aks_x ks_c.length cks_x) ∧ V.cell? ⟨w.heap.size + 1, 0, none⟩ = some (.int .i64 k_c) ∧ V.cell? ⟨w.heap.size + 1, 1, none⟩ = some (.int .i64 v_c) ∧ V.cell? ⟨w.heap.size + 1, 2, none⟩ = some (.slice ads_c ds_c.length cds_c) ∧ V.cell? ⟨w.heap.size + 1, 3, none⟩ = some (.slice aks_c ks_c.length cks_c)))
        (first | exact hS0 | exact KEEP.out _ _ hbq (by assumption) | go_keep)
        (first
          | (go_at_call 9; (with_reducible refine (HTC.out yab.drew (R_c.out.below (Below.refl _ _).drew)).mono ?_); rintro e yca ⟨ade, cde, ake, cke, rfl, hoe, hbw⟩; have hbq : Below yab.heap.size yab.drew yca := hbw)
          | (go_at_call 12; (with_reducible refine (eqCo k_c v_c ds_c ks_c ads_x cds_x aks_x cks_x ade cde ake cke yca (CXX.out.below ((Below.refl yab.heap.size yab).drew.trans hbq)) hoe.rd).mono ?_); rintro e ycb ⟨rfl, hbw⟩; have hbv := (Below.refl yab.heap.size yab).drew.trans (hbq.trans (hbw.mono hbq.size)); have hbq := hbw.mono hbq.size))
      clear KEEP hS0 gxc_0 gxc_1 gxc_2 gxc_3 gc_0 gc_1 gc_2 gc_3 hoe hbq hbw
      have HB := hid (HB.out.trans (hbv.mono HB.out.size))
      have HX := hid (HX.out.below hbv)
      have R_b := hid (R_b.out.below hbv)
      have R_c := hid (R_c.out.below hbv)
      have W_w := hid (W_w.out.below hbv)
      have HV := hid (HV.out.trans (hbv.mono HV.out.size))
      have HRX := hid (HRX.out.below hbv)
      have HOX := hid (HOX.out.below hbv)
      have HRY := hid (HRY.out.below hbv)
      have HOY := hid (HOY.out.below hbv)
      have HRG := hid (HRG.out.below hbv)
      have HOG := hid (HOG.out.below hbv)
      clear hbv CXX
      have gxb_0 := HX.out.at 2 0 rfl rfl
      have hm1 := markBk_in fs_b afs_x cfs_x Fb 1 ycb HM_b.out (by omega) HRX.out HOX.out
      rw [show ((1 : Nat) : Int) = 1 from rfl] at hm1
      have HM1 := hid hm1
      clear hm1
      go_wp2_with fail
      clear gxb_0
      refine HM1.out.mono ?_
      rintro e km ⟨kx, rfl, hrk, hmk⟩
      have HB := hid (Mk.below HB.out hmk (fun i hi => by have h0 := HN0.out; have h1 := HLw.out; have h2 := HN2.out; have h3 := HN3.out; have h4 := HN4.out; have h5 := LOB.out i hi; omega) HB.out.size)
      have HV := hid (Mk.below HV.out hmk (fun i hi => by have h0 := HN0.out; have h1 := HLw.out; have h2 := HN2.out; have h3 := HN3.out; have h4 := HN4.out; have h5 := LOB.out i hi; omega) HV.out.size)
      have HX := hid (Boxes.mk HX.out hmk (fun q hq hy => by
        have h0 := HN0.out; have h1 := HLw.out; have h2 := HN2.out; have h3 := HN3.out; have h4 := HN4.out; have h5 := LOB.out q.1 hy
        simp only [List.mem_cons, List.not_mem_nil, or_false] at hq
        rcases hq with rfl | rfl | rfl | rfl | rfl | rfl <;> simp only at h5 <;> omega))
      have R_b := hid (R0_b.out.below HB.out)
      have R_c := hid (R0_c.out.below HB.out)
      have W_w := hid (W0.out.below HV.out)
      have HRY := hid (hmk.rd HRY.out (fun i hi hy => by have h1 := LOC.out i hi; have h2 := LOB.out i hy; have h3 := HN3.out; have h4 := HN4.out; omega))
      have HOY := hid (hmk.own HOY.out)
      have HRG := hid (hmk.rd HRG.out (fun i hi hy => by have h1 := LOG.out i hi; have h2 := LOB.out i hy; have h3 := HN3.out; have h4 := HN4.out; omega))
      have HOG := hid (hmk.own HOG.out)
      have HKX := hid hrk
      clear hmk hrk HM1 HRX HOX
      have gxc_0 := HX.out.at 1 0 rfl rfl
      have gxc_1 := HX.out.at 1 1 rfl rfl
      have gxc_2 := HX.out.at 1 2 rfl rfl
      have gxc_3 := HX.out.at 1 3 rfl rfl
      have hkx2 : kx ≤ 549755813888 := by have := HKX.out; have := HM_b.out; omega
      have hm1 := markCo_in k_c v_c ds_c ks_c ads_x cds_x aks_x cks_x Fc kx km HM_c.out hkx2 HRY.out HOY.out
      have HM1 := hid hm1
      clear hm1
      go_wp2_with fail
      clear gxc_0 gxc_1 gxc_2 gxc_3
      refine HM1.out.mono ?_
      rintro e kn ⟨ky, rfl, hrk, hmk⟩
      have HB := hid (Mk.below HB.out hmk (fun i hi => by have h0 := HN0.out; have h1 := HLw.out; have h2 := HN2.out; have h3 := HN3.out; have h4 := HN4.out; have h5 := LOC.out i hi; omega) HB.out.size)
      have HV := hid (Mk.below HV.out hmk (fun i hi => by have h0 := HN0.out; have h1 := HLw.out; have h2 := HN2.out; have h3 := HN3.out; have h4 := HN4.out; have h5 := LOC.out i hi; omega) HV.out.size)
      have HX := hid (Boxes.mk HX.out hmk (fun q hq hy => by
        have h0 := HN0.out; have h1 := HLw.out; have h2 := HN2.out; have h3 := HN3.out; have h4 := HN4.out; have h5 := LOC.out q.1 hy
        simp only [List.mem_cons, List.not_mem_nil, or_false] at hq
        rcases hq with rfl | rfl | rfl | rfl | rfl | rfl <;> simp only at h5 <;> omega))
      have R_b := hid (R0_b.out.below HB.out)
      have R_c := hid (R0_c.out.below HB.out)
      have W_w := hid (W0.out.below HV.out)
      have HRG := hid (hmk.rd HRG.out (fun i hi hy => by have h1 := LOG.out i hi; have h2 := LOC.out i hy; have h3 := HN3.out; have h4 := HN4.out; omega))
      have HOG := hid (hmk.own HOG.out)
      have hky : ky ≤ 1099511627776 := by have := HM_c.out; omega
      have hk0 : decide ((ky : Int) < 0) = false := decide_eq_false (by omega)
      clear hmk hrk HM1 HRY HOY hkx2
      have gg_0 := HX.out.at 0 0 rfl rfl
      have gg_1 := HX.out.at 0 1 rfl rfl
      have gg_2 := HX.out.at 0 2 rfl rfl
      have gg_3 := HX.out.at 0 3 rfl rfl
      have gg_4 := HX.out.at 0 4 rfl rfl
      have gg_5 := HX.out.at 0 5 rfl rfl
      have gg_6 := HX.out.at 0 6 rfl rfl
      have gw_0 := HX.out.at 3 0 rfl rfl
      have gw_1 := HX.out.at 3 1 rfl rfl
      have gw_2 := HX.out.at 3 2 rfl rfl
      have gw_3 := HX.out.at 3 3 rfl rfl
      have gw_4 := HX.out.at 3 4 rfl rfl
      have gw_5 := HX.out.at 3 5 rfl rfl
      have gw_6 := HX.out.at 3 6 rfl rfl
      go_wp2_with fail
      clear gg_0 gg_1 gg_2 gg_3 gg_4 gg_5 gg_6 gw_0 gw_1 gw_2 gw_3 gw_4 gw_5 gw_6
      refine (HEQ.out _ _ _ _ _ _ _ _ _ ⟨Fg, Ne.rd_mk HRG.out⟩ W_w.out).mono ?_
      rintro e vf ⟨rfl, hb⟩
      have HB := hid (HB.out.trans (hb.mono HB.out.size))
      have HX := hid (HX.out.below hb)
      have R_b := hid (R_b.out.below hb)
      have R_c := hid (R_c.out.below hb)
      have W_w := hid (W_w.out.below hb)
      have HV := hid (HV.out.trans (hb.mono HV.out.size))
      have HRG := hid (HRG.out.below hb)
      have HOG := hid (HOG.out.below hb)
      clear hb
      clear hk0
      have gg_0 := HX.out.at 0 0 rfl rfl
      have gg_1 := HX.out.at 0 1 rfl rfl
      have gg_2 := HX.out.at 0 2 rfl rfl
      have gg_3 := HX.out.at 0 3 rfl rfl
      have gg_4 := HX.out.at 0 4 rfl rfl
      have gg_5 := HX.out.at 0 5 rfl rfl
      have gg_6 := HX.out.at 0 6 rfl rfl
      obtain ⟨P1, P2, hPF, hp1, hp2⟩ := HRG.out.parts_Co
      subst hPF
      have hm2 := markNe_out rk rv rds rks adg cdg akg ckg P1 P2 1 vf (by omega) (by omega) (by have := HNN.out; omega) hp1 hp2 HOG.out
      unfold MkTwo at hm2
      obtain ⟨mm, hmm⟩ : ∃ mm, mm = 1 + rds.length + D.nums (Co.ds rks) := ⟨_, rfl⟩
      rw [← hmm, show ((1 : Nat) : Int) = 1 from rfl] at hm2
      have hmb : mm ≤ 1099511627776 := by have := HNN.out; omega
      have HMM := hid hmm
      clear hmm hp1 hp2
      have HM2 := hid hm2
      clear hm2
      go_wp2_with fail
      clear gg_0 gg_1 gg_2 gg_3 gg_4 gg_5 gg_6
      refine HM2.out.mono ?_
      rintro e kg ⟨rfl, hrd1, hrd2, hmk⟩
      have HB := hid (Mk.below HB.out hmk (fun i hi => by have h0 := HN0.out; have h1 := HLw.out; have h2 := HN2.out; have h3 := HN3.out; have h4 := HN4.out; have h5 := LOG.out i hi; omega) HB.out.size)
      have HV := hid (Mk.below HV.out hmk (fun i hi => by have h0 := HN0.out; have h1 := HLw.out; have h2 := HN2.out; have h3 := HN3.out; have h4 := HN4.out; have h5 := LOG.out i hi; omega) HV.out.size)
      have HX := hid (Boxes.mk HX.out hmk (fun q hq hy => by
        have h0 := HN0.out; have h1 := HLw.out; have h2 := HN2.out; have h3 := HN3.out; have h4 := HN4.out; have h5 := LOG.out q.1 hy
        simp only [List.mem_cons, List.not_mem_nil, or_false] at hq
        rcases hq with rfl | rfl | rfl | rfl | rfl | rfl <;> simp only at h5 <;> omega))
      have R_b := hid (R0_b.out.below HB.out)
      have R_c := hid (R0_c.out.below HB.out)
      have W_w := hid (W0.out.below HV.out)
      have HRM := hid (show RdL kg (D.marks 1 (In.ds rds)) (.slice adg rds.length cdg) from ⟨P1, hrd1⟩)
      have HRN := hid (show RdL kg (D.marks (1 + rds.length) (Co.ds rks)) (.slice akg rks.length ckg) from ⟨P2, hrd2⟩)
      clear hmk hrd1 hrd2 HRG HOG HM2
      have hh := heldNe rk rv rds rks adg cdg akg ckg 1 kg (by have := HNN.out; omega) HRM.out HRN.out
      rw [← HMM.out, show ((1 : Nat) : Int) = 1 from rfl] at hh
      have HH := hid hh
      clear hh
      have hm0 : decide ((mm : Int) < 0) = false := decide_eq_false (by omega)
      have gg_0 := HX.out.at 0 0 rfl rfl
      have gg_1 := HX.out.at 0 1 rfl rfl
      have gg_2 := HX.out.at 0 2 rfl rfl
      have gg_3 := HX.out.at 0 3 rfl rfl
      have gg_4 := HX.out.at 0 4 rfl rfl
      have gg_5 := HX.out.at 0 5 rfl rfl
      have gg_6 := HX.out.at 0 6 rfl rfl
      go_wp2_with fail
      clear gg_0 gg_1 gg_2 gg_3 gg_4 gg_5 gg_6
      refine HH.out.mono ?_
      rintro e kh ⟨rfl, hb⟩
      have HB := hid (HB.out.trans (hb.mono HB.out.size))
      have HX := hid (HX.out.below hb)
      have R_b := hid (R_b.out.below hb)
      have R_c := hid (R_c.out.below hb)
      have W_w := hid (W_w.out.below hb)
      have HV := hid (HV.out.trans (hb.mono HV.out.size))
      have HRM := hid (HRM.out.below hb)
      have HRN := hid (HRN.out.below hb)
      clear HH hb
      go_wp2_with fail
      have gb_0 := HX.out.at 5 0 rfl rfl
      have gc_0 := HX.out.at 4 0 rfl rfl
      have gc_1 := HX.out.at 4 1 rfl rfl
      have gc_2 := HX.out.at 4 2 rfl rfl
      have gc_3 := HX.out.at 4 3 rfl rfl
      have hS0 : (Below kh.heap.size kh kh.drew ∧ kh.drew.cell? ⟨w.heap.size, 0, none⟩ = some (.slice afs_b fs_b.length cfs_b) ∧ kh.drew.cell? ⟨w.heap.size + 1, 0, none⟩ = some (.int .i64 k_c) ∧ kh.drew.cell? ⟨w.heap.size + 1, 1, none⟩ = some (.int .i64 v_c) ∧ kh.drew.cell? ⟨w.heap.size + 1, 2, none⟩ = some (.slice ads_c ds_c.length cds_c) ∧ kh.drew.cell? ⟨w.heap.size + 1, 3, none⟩ = some (.slice aks_c ks_c.length cks_c)) := ⟨(Below.refl _ _).drew, gb_0, gc_0, gc_1, gc_2, gc_3⟩
      have hkeep : ∀ V V' : World, Below kh.heap.size V V' → (Below kh.heap.size kh V ∧ V.cell? ⟨w.heap.size, 0, none⟩ = some (.slice afs_b fs_b.length cfs_b) ∧ V.cell? ⟨w.heap.size + 1, 0, none⟩ = some (.int .i64 k_c) ∧ V.cell? ⟨w.heap.size + 1, 1, none⟩ = some (.int .i64 v_c) ∧ V.cell? ⟨w.heap.size + 1, 2, none⟩ = some (.slice ads_c ds_c.length cds_c) ∧ V.cell? ⟨w.heap.size + 1, 3, none⟩ = some (.slice aks_c ks_c.length cks_c)) → (Below kh.heap.size kh V' ∧ V'.cell? ⟨w.heap.size, 0, none⟩ = some (.slice afs_b fs_b.length cfs_b) ∧ V'.cell? ⟨w.heap.size + 1, 0, none⟩ = some (.int .i64 k_c) ∧ V'.cell? ⟨w.heap.size + 1, 1, none⟩ = some (.int .i64 v_c) ∧ V'.cell? ⟨w.heap.size + 1, 2, none⟩ = some (.slice ads_c ds_c.length cds_c) ∧ V'.cell? ⟨w.heap.size + 1, 3, none⟩ = some (.slice aks_c ks_c.length cks_c)) := fun V V' hb ⟨h, hb_0, hc_0, hc_1, hc_2, hc_3⟩ => ⟨h.trans hb, (hb.cell (p := ⟨w.heap.size, 0, none⟩) (World.block_lt_of_cell? _ _ gb_0)).trans hb_0, (hb.cell (p := ⟨w.heap.size + 1, 0, none⟩) (World.block_lt_of_cell? _ _ gc_0)).trans hc_0, (hb.cell (p := ⟨w.heap.size + 1, 1, none⟩) (World.block_lt_of_cell? _ _ gc_1)).trans hc_1, (hb.cell (p := ⟨w.heap.size + 1, 2, none⟩) (World.block_lt_of_cell? _ _ gc_2)).trans hc_2, (hb.cell (p := ⟨w.heap.size + 1, 3, none⟩) (World.block_lt_of_cell? _ _ gc_3)).trans hc_3⟩
      have hS0A : (Below kh.heap.size kh (kh.alloc (.cells #[.int .i64 0, .int .i64 0, .slice none 0 0, .slice none 0 0, .slice none 0 0, .slice none 0 0, .slice none 0 0] 46)).drew ∧ (kh.alloc (.cells #[.int .i64 0, .int .i64 0, .slice none 0 0, .slice none 0 0, .slice none 0 0, .slice none 0 0, .slice none 0 0] 46)).drew.cell? ⟨w.heap.size, 0, none⟩ = some (.slice afs_b fs_b.length cfs_b) ∧ (kh.alloc (.cells #[.int .i64 0, .int .i64 0, .slice none 0 0, .slice none 0 0, .slice none 0 0, .slice none 0 0, .slice none 0 0] 46)).drew.cell? ⟨w.heap.size + 1, 0, none⟩ = some (.int .i64 k_c) ∧ (kh.alloc (.cells #[.int .i64 0, .int .i64 0, .slice none 0 0, .slice none 0 0, .slice none 0 0, .slice none 0 0, .slice none 0 0] 46)).drew.cell? ⟨w.heap.size + 1, 1, none⟩ = some (.int .i64 v_c) ∧ (kh.alloc (.cells #[.int .i64 0, .int .i64 0, .slice none 0 0, .slice none 0 0, .slice none 0 0, .slice none 0 0, .slice none 0 0] 46)).drew.cell? ⟨w.heap.size + 1, 2, none⟩ = some (.slice ads_c ds_c.length cds_c) ∧ (kh.alloc (.cells #[.int .i64 0, .int .i64 0, .slice none 0 0, .slice none 0 0, .slice none 0 0, .slice none 0 0, .slice none 0 0] 46)).drew.cell? ⟨w.heap.size + 1, 3, none⟩ = some (.slice aks_c ks_c.length cks_c)) := by
        have h := hkeep kh (kh.alloc (.cells #[.int .i64 0, .int .i64 0, .slice none 0 0, .slice none 0 0, .slice none 0 0, .slice none 0 0, .slice none 0 0] 46)) ((Below.refl _ _).alloc (Nat.le_refl _) _) ⟨Below.refl _ _, gb_0, gc_0, gc_1, gc_2, gc_3⟩
        exact ⟨h.1.drew, h.2⟩
      have KEEP := hid hkeep
      have KAL := hid (fun (V : World) (ob : Obj) (h : (Below kh.heap.size kh V ∧ V.cell? ⟨w.heap.size, 0, none⟩ = some (.slice afs_b fs_b.length cfs_b) ∧ V.cell? ⟨w.heap.size + 1, 0, none⟩ = some (.int .i64 k_c) ∧ V.cell? ⟨w.heap.size + 1, 1, none⟩ = some (.int .i64 v_c) ∧ V.cell? ⟨w.heap.size + 1, 2, none⟩ = some (.slice ads_c ds_c.length cds_c) ∧ V.cell? ⟨w.heap.size + 1, 3, none⟩ = some (.slice aks_c ks_c.length cks_c))) => hkeep V (V.alloc ob) ((Below.refl _ _).alloc h.1.size _) h)
      have KST := hid (fun (V : World) (g : Nat) (p q r u x y z : Value) (hg : kh.heap.size ≤ g) (h : (Below kh.heap.size kh V ∧ V.cell? ⟨w.heap.size, 0, none⟩ = some (.slice afs_b fs_b.length cfs_b) ∧ V.cell? ⟨w.heap.size + 1, 0, none⟩ = some (.int .i64 k_c) ∧ V.cell? ⟨w.heap.size + 1, 1, none⟩ = some (.int .i64 v_c) ∧ V.cell? ⟨w.heap.size + 1, 2, none⟩ = some (.slice ads_c ds_c.length cds_c) ∧ V.cell? ⟨w.heap.size + 1, 3, none⟩ = some (.slice aks_c ks_c.length cks_c))) => hkeep V (set7W V g p q r u x y z) (set7_below (Below.refl _ _) hg p q r u x y z) h)
      have HSB := hid (fun (V : World) (h : Below kh.heap.size kh V) => R_b.out.below h)
      have HSC := hid (fun (V : World) (h : Below kh.heap.size kh V) => R_c.out.below h)
      clear hkeep
      go_upto_region 31 with fail
      go_cut [15, 16] from 94 (fun t6 t7 wx => ∃ (g cd ck : Nat) (ad ak : Option Addr), t6 = .pointer (some ⟨g, 0, none⟩) ∧ t7 = .int .i64 q ∧ Hid (kh.heap.size ≤ g) ∧ Hid (g < wx.heap.size) ∧ Hid (Below kh.heap.size kh wx) ∧ Hid (wx.heap[g]? = some (.cells #[.int .i64 rk, .int .i64 rv, .slice ad rds.length cd, .slice ak rks.length ck, .slice none 0 0, .slice none 0 0, .slice none 0 0] 46)) ∧ Hid (RdS wx (Ne.d (.mk (.mk (.mk rk rv rds rks) []) [] [])) [.int .i64 rk, .int .i64 rv, .slice ad rds.length cd, .slice ak rks.length ck, .slice none 0 0, .slice none 0 0, .slice none 0 0]))
      case first =>
        have hbA : Below kh.heap.size kh (kh.alloc (.cells #[.int .i64 0, .int .i64 0, .slice none 0 0, .slice none 0 0, .slice none 0 0, .slice none 0 0, .slice none 0 0] 46)).drew := ((Below.refl _ _).alloc (Nat.le_refl _) _).drew
        have hxA : (kh.alloc (.cells #[.int .i64 0, .int .i64 0, .slice none 0 0, .slice none 0 0, .slice none 0 0, .slice none 0 0, .slice none 0 0] 46)).drew.heap[kh.heap.size]? = some (.cells #[.int .i64 0, .int .i64 0, .slice none 0 0, .slice none 0 0, .slice none 0 0, .slice none 0 0, .slice none 0 0] 46) := cells_alloc_new kh _
        go_region_held3 (fun V => (Below kh.heap.size kh V ∧ V.cell? ⟨w.heap.size, 0, none⟩ = some (.slice afs_b fs_b.length cfs_b) ∧ V.cell? ⟨w.heap.size + 1, 0, none⟩ = some (.int .i64 k_c) ∧ V.cell? ⟨w.heap.size + 1, 1, none⟩ = some (.int .i64 v_c) ∧ V.cell? ⟨w.heap.size + 1, 2, none⟩ = some (.slice ads_c ds_c.length cds_c) ∧ V.cell? ⟨w.heap.size + 1, 3, none⟩ = some (.slice aks_c ks_c.length cks_c)))
          (with_reducible first | exact hS0 | exact hS0A | exact hS3 | exact hS2 | exact hS1 | exact KAL.out _ _ hS0 | exact KAL.out _ _ hS3 | exact KAL.out _ _ hS2 | exact KAL.out _ _ hS1 | exact KST.out _ _ _ _ _ _ _ _ _ (Nat.le_refl _) hS3 | exact KST.out _ _ _ _ _ _ _ _ _ hge1 hS3 | exact KST.out _ _ _ _ _ _ _ _ _ hge2 hS3)
          (first
            | (go_at_call 8; (with_reducible refine (HTB.out ((kh.alloc (.cells #[.int .i64 0, .int .i64 0, .slice none 0 0, .slice none 0 0, .slice none 0 0, .slice none 0 0, .slice none 0 0] 46)).drew) (HSB.out _ hbA)).mono ?_); rintro e V1 ⟨af1, cf1, rfl, ho1, hbq⟩; have hb1 := hbq.mono (B' := kh.heap.size) (by simp); have hbx := (hbq.block kh.heap.size (by simp)).trans hxA; have hlb := (Array.getElem?_eq_some_iff.1 hbx).1; have hS1 := KEEP.out _ _ hb1 (by assumption); have hge1 := hS1.1.size; have hrb1 := ho1.rd; clear hbq ho1)
            | (go_at_call 8; (with_reducible refine (HTB.out kh.drew (HSB.out _ (Below.refl _ _).drew)).mono ?_); rintro e V1 ⟨af1, cf1, rfl, ho1, hbq⟩; have hb1 : Below kh.heap.size kh.drew V1 := hbq; have hS1 := KEEP.out _ _ hb1 (by assumption); have hge1 := hS1.1.size; have hrb1 := ho1.rd; clear hbq ho1)
            | (go_at_call 9; (with_reducible refine (HTC.out (V1.alloc (.cells #[.int .i64 0, .int .i64 0, .slice none 0 0, .slice none 0 0, .slice none 0 0, .slice none 0 0, .slice none 0 0] 46)) (HSC.out _ (hS1.1.trans (((Below.refl V1.heap.size V1).alloc (Nat.le_refl _) (.cells #[.int .i64 0, .int .i64 0, .slice none 0 0, .slice none 0 0, .slice none 0 0, .slice none 0 0, .slice none 0 0] 46)).mono hge1)))).mono ?_); rintro e V2 ⟨ad2, cd2, ak2, ck2, rfl, ho2, hbq⟩; have hb2 := ((Below.refl V1.heap.size V1).alloc (Nat.le_refl _) (.cells #[.int .i64 0, .int .i64 0, .slice none 0 0, .slice none 0 0, .slice none 0 0, .slice none 0 0, .slice none 0 0] 46)).trans (hbq.mono ((Below.refl V1.heap.size V1).alloc (Nat.le_refl _) (.cells #[.int .i64 0, .int .i64 0, .slice none 0 0, .slice none 0 0, .slice none 0 0, .slice none 0 0, .slice none 0 0] 46)).size); have hS2 := KEEP.out _ _ (hb2.mono hge1) hS1; have hge2 := hS2.1.size; have hlt2 := hb2.size; have hbx := (hbq.block V1.heap.size (by simp)).trans (cells_alloc_new V1 (.cells #[.int .i64 0, .int .i64 0, .slice none 0 0, .slice none 0 0, .slice none 0 0, .slice none 0 0, .slice none 0 0] 46)); have hlb := (Array.getElem?_eq_some_iff.1 hbx).1; have hrb2 := hrb1.below hb2; have hrc2 := ho2.rd; clear hbq ho2)
            | (go_at_call 9; (with_reducible refine (HTC.out V1 (HSC.out _ (hS1.1.trans ((Below.refl V1.heap.size V1).mono hge1)))).mono ?_); rintro e V2 ⟨ad2, cd2, ak2, ck2, rfl, ho2, hbq⟩; have hb2 := (Below.refl V1.heap.size V1).trans (hbq.mono (Below.refl V1.heap.size V1).size); have hS2 := KEEP.out _ _ (hb2.mono hge1) hS1; have hge2 := hS2.1.size; have hlt2 := hb2.size; (try (have hbx := (hbq.block _ (Array.getElem?_eq_some_iff.1 hbx).1).trans hbx)); have hrb2 := hrb1.below hb2; have hrc2 := ho2.rd; clear hbq ho2)
            | (go_at_call 14; (with_reducible refine (HIM.out _ _ _ _ _ _ (V2.alloc (.cells #[.int .i64 0, .int .i64 0, .slice none 0 0, .slice none 0 0, .slice none 0 0, .slice none 0 0, .slice none 0 0] 46)) (hrb2.below ((Below.refl V2.heap.size V2).alloc (Nat.le_refl _) (.cells #[.int .i64 0, .int .i64 0, .slice none 0 0, .slice none 0 0, .slice none 0 0, .slice none 0 0, .slice none 0 0] 46))) (hrc2.below ((Below.refl V2.heap.size V2).alloc (Nat.le_refl _) (.cells #[.int .i64 0, .int .i64 0, .slice none 0 0, .slice none 0 0, .slice none 0 0, .slice none 0 0, .slice none 0 0] 46)))).mono ?_); rintro e V3 ⟨ad, cd, ak, ck, rfl, ho3, hbq⟩; have hb3 := ((Below.refl V2.heap.size V2).alloc (Nat.le_refl _) (.cells #[.int .i64 0, .int .i64 0, .slice none 0 0, .slice none 0 0, .slice none 0 0, .slice none 0 0, .slice none 0 0] 46)).trans (hbq.mono ((Below.refl V2.heap.size V2).alloc (Nat.le_refl _) (.cells #[.int .i64 0, .int .i64 0, .slice none 0 0, .slice none 0 0, .slice none 0 0, .slice none 0 0, .slice none 0 0] 46)).size); have hS3 := KEEP.out _ _ (hb3.mono hge2) hS2; have hge3 := hS3.1.size; have hlt3 := hb3.size; have hbx := (hbq.block V2.heap.size (by simp)).trans (cells_alloc_new V2 (.cells #[.int .i64 0, .int .i64 0, .slice none 0 0, .slice none 0 0, .slice none 0 0, .slice none 0 0, .slice none 0 0] 46)); have hszq := (show V2.heap.size ≤ (V2.alloc (.cells #[.int .i64 0, .int .i64 0, .slice none 0 0, .slice none 0 0, .slice none 0 0, .slice none 0 0, .slice none 0 0] 46)).heap.size from ((Below.refl V2.heap.size V2).alloc (Nat.le_refl _) (.cells #[.int .i64 0, .int .i64 0, .slice none 0 0, .slice none 0 0, .slice none 0 0, .slice none 0 0, .slice none 0 0] 46)).size); try (have z0 := heap_free hbx 0; have z1 := heap_free hbx 1; have z2 := heap_free hbx 2; have z3 := heap_free hbx 3; have z4 := heap_free hbx 4; have z5 := heap_free hbx 5; have z6 := heap_free hbx 6; have r0 := heap_cell hbx (j := 0) rfl; have r1 := heap_cell hbx (j := 1) rfl; have r2 := heap_cell hbx (j := 2) rfl; have r3 := heap_cell hbx (j := 3) rfl; have r4 := heap_cell hbx (j := 4) rfl; have r5 := heap_cell hbx (j := 5) rfl; have r6 := heap_cell hbx (j := 6) rfl))
            | (go_at_call 14; (with_reducible refine (HIM.out _ _ _ _ _ _ V2 (hrb2.below (Below.refl V2.heap.size V2)) (hrc2.below (Below.refl V2.heap.size V2))).mono ?_); rintro e V3 ⟨ad, cd, ak, ck, rfl, ho3, hbq⟩; have hb3 := (Below.refl V2.heap.size V2).trans (hbq.mono (Below.refl V2.heap.size V2).size); have hS3 := KEEP.out _ _ (hb3.mono hge2) hS2; have hge3 := hS3.1.size; have hlt3 := hb3.size; (try (have hbx := (hbq.block _ (Array.getElem?_eq_some_iff.1 hbx).1).trans hbx)); have hszq := (show V2.heap.size ≤ V2.heap.size from (Below.refl V2.heap.size V2).size); try (have z0 := heap_free hbx 0; have z1 := heap_free hbx 1; have z2 := heap_free hbx 2; have z3 := heap_free hbx 3; have z4 := heap_free hbx 4; have z5 := heap_free hbx 5; have z6 := heap_free hbx 6; have r0 := heap_cell hbx (j := 0) rfl; have r1 := heap_cell hbx (j := 1) rfl; have r2 := heap_cell hbx (j := 2) rfl; have r3 := heap_cell hbx (j := 3) rfl; have r4 := heap_cell hbx (j := 4) rfl; have r5 := heap_cell hbx (j := 5) rfl; have r6 := heap_cell hbx (j := 6) rfl)))
        all_goals
          clear KEEP KAL KST HSP HIM HEQ HTB HTC HSB HSC
          go_wp2_with fail
          go_meet
          first
            | have hq := hbx; exact ⟨_, cd, ck, ad, ak, rfl, rfl, need_before (by first | exact Nat.le_refl _ | exact hge1 | exact hge2) hbx hS3.1 (Ne.own ho3) (by first | omega | (simp only [World.size_alloc]; omega))⟩
            | exact ⟨_, cd, ck, ad, ak, rfl, rfl, need_after hS3.1 (Ne.rdS ho3)⟩
      case rest =>
      obtain ⟨wc31, hwn⟩ : ∃ wc31, wc31 = wc := ⟨_, rfl⟩
      subst hwn
      obtain ⟨gh, cdh, ckh, adh, akh, rfl, rfl, HGh, HLh, HBC, HGX, W_h⟩ := hcut
      clear KEEP KAL KST HSB HSC hS0 hS0A gb_0 gc_0 gc_1 gc_2 gc_3
      have hb := HBC.out
      have HB := hid (HB.out.trans (hb.mono HB.out.size))
      have HX := hid (HX.out.below hb)
      have R_b := hid (R_b.out.below hb)
      have R_c := hid (R_c.out.below hb)
      have W_w := hid (W_w.out.below hb)
      have HV := hid (HV.out.trans (hb.mono HV.out.size))
      have HRM := hid (HRM.out.below hb)
      have HRN := hid (HRN.out.below hb)
      have HX := hid (show Boxes wc31 [(gh, [.int .i64 rk, .int .i64 rv, .slice adh rds.length cdh, .slice akh rks.length ckh, .slice none 0 0, .slice none 0 0, .slice none 0 0]), (vi.heap.size, [.int .i64 rk, .int .i64 rv, .slice adg rds.length cdg, .slice akg rks.length ckg, .slice none 0 0, .slice none 0 0, .slice none 0 0]), (x1.heap.size, [.int .i64 k_c, .int .i64 v_c, .slice ads_x ds_c.length cds_x, .slice aks_x ks_c.length cks_x]), (x0.heap.size, [.slice afs_x fs_b.length cfs_x]), (gw, [.int .i64 rk, .int .i64 rv, .slice adw rds.length cdw, .slice akw rks.length ckw, .slice none 0 0, .slice none 0 0, .slice none 0 0]), (w.heap.size + 1, [.int .i64 k_c, .int .i64 v_c, .slice ads_c ds_c.length cds_c, .slice aks_c ks_c.length cks_c]), (w.heap.size, [.slice afs_b fs_b.length cfs_b])] from (Boxes.cons' HX.out HGX.out))
      clear hb HBC HGX
      have gh_0 := HX.out.at 0 0 rfl rfl
      have gh_1 := HX.out.at 0 1 rfl rfl
      have gh_2 := HX.out.at 0 2 rfl rfl
      have gh_3 := HX.out.at 0 3 rfl rfl
      have gh_4 := HX.out.at 0 4 rfl rfl
      have gh_5 := HX.out.at 0 5 rfl rfl
      have gh_6 := HX.out.at 0 6 rfl rfl
      have gw_0 := HX.out.at 4 0 rfl rfl
      have gw_1 := HX.out.at 4 1 rfl rfl
      have gw_2 := HX.out.at 4 2 rfl rfl
      have gw_3 := HX.out.at 4 3 rfl rfl
      have gw_4 := HX.out.at 4 4 rfl rfl
      have gw_5 := HX.out.at 4 5 rfl rfl
      have gw_6 := HX.out.at 4 6 rfl rfl
      go_wp2_with fail
      clear gh_0 gh_1 gh_2 gh_3 gh_4 gh_5 gh_6 gw_0 gw_1 gw_2 gw_3 gw_4 gw_5 gw_6
      refine (HEQ.out _ _ _ _ _ _ _ _ _ W_h.out W_w.out).mono ?_
      rintro e vj ⟨rfl, hb⟩
      have HB := hid (HB.out.trans (hb.mono HB.out.size))
      have HX := hid (HX.out.below hb)
      have R_b := hid (R_b.out.below hb)
      have R_c := hid (R_c.out.below hb)
      have W_w := hid (W_w.out.below hb)
      have HV := hid (HV.out.trans (hb.mono HV.out.size))
      have HRM := hid (HRM.out.below hb)
      have HRN := hid (HRN.out.below hb)
      have W_h := hid (W_h.out.below hb)
      clear hb
      clear hm0
      have hh := heldNe rk rv rds rks adg cdg akg ckg 1 vj (by have := HNN.out; omega) HRM.out HRN.out
      rw [← HMM.out, show ((1 : Nat) : Int) = 1 from rfl] at hh
      have HH := hid hh
      clear hh
      have hm0 : decide ((mm : Int) < 0) = false := decide_eq_false (by omega)
      have gg_0 := HX.out.at 1 0 rfl rfl
      have gg_1 := HX.out.at 1 1 rfl rfl
      have gg_2 := HX.out.at 1 2 rfl rfl
      have gg_3 := HX.out.at 1 3 rfl rfl
      have gg_4 := HX.out.at 1 4 rfl rfl
      have gg_5 := HX.out.at 1 5 rfl rfl
      have gg_6 := HX.out.at 1 6 rfl rfl
      go_wp2_with fail
      clear gg_0 gg_1 gg_2 gg_3 gg_4 gg_5 gg_6
      refine HH.out.mono ?_
      rintro e kj ⟨rfl, hb⟩
      have HB := hid (HB.out.trans (hb.mono HB.out.size))
      have HX := hid (HX.out.below hb)
      have R_b := hid (R_b.out.below hb)
      have R_c := hid (R_c.out.below hb)
      have W_w := hid (W_w.out.below hb)
      have HV := hid (HV.out.trans (hb.mono HV.out.size))
      have HRM := hid (HRM.out.below hb)
      have HRN := hid (HRN.out.below hb)
      have W_h := hid (W_h.out.below hb)
      clear HH hb
      go_wp2_with fail
      go_ret
      exact ⟨rfl, HB.out⟩

set_option maxRecDepth 100000 in
theorem FnExactStartNeed_lifted (os : Os) (started : os.Started) (H : Type) (enc : TypeId × Value → H) :
    ReturnsInHanded {} Try.checked os 4 .any (Rows.fnExactStartNeedSpec.pre6 enc Try.prog Try.f4 Rows.fnExactStartNeedRow.domain false) (Rows.fnExactStartNeedSpec.post enc Try.prog Try.f4 false true false false) := by
  refine law_lifted (C := Try.checked) (tb := 4) own started (by kernel_rfl) Try.func4 laidOut (by intro t ht; rw [Try.params4] at ht; simp at ht; rcases ht with rfl | rfl <;> exact ⟨by kernel_rfl, of_decide_eq_true (by kernel_rfl)⟩) rfl Try.underlying4 rfl ?_
    (ChangeSpec.witness6 (enc := enc) (C := Try.checked) false ⟨#[], #[.agg #[.slice none 0 0], .agg #[.int .i64 0, .int .i64 0, .slice none 0 0, .slice none 0 0]], []⟩ 8 (by kernel_rfl) (by kernel_rfl) (by kernel_rfl) (by kernel_rfl)) ?_
  · intro ds hds
    rw [Try.params4] at hds
    match ds, hds with
    | [_, _], _ => exact ⟨rfl, rfl, rfl⟩
  intro W base args ds p hval0 hA0 hlt
  have hval : ∀ (j : Nat) t v, Try.f4.params[j]? = some t → args[j]? = some v → Value.okWide Try.prog W .any base t v := hval0
  have hA : DataW.TrodAll enc Try.prog W 0 (fun _ => true) true Try.f4.params.toList args.toList ds p := hA0
  rw [Try.params4] at hA hval
  clear hval0 hA0
  obtain ⟨v0, vs0, d0, ds0, p0, q0, hargs0, rfl, rfl, h0, r0⟩ := trodAll_cons hA
  obtain ⟨v1, vs1, d1, ds1, p1, q1, hargs1, rfl, rfl, h1, r1⟩ := trodAll_cons r0
  obtain ⟨rfl, rfl, rfl⟩ := trodAll_nil r1
  subst hargs1
  obtain rfl : args = #[v0, v1] := by cases args; simp_all
  obtain ⟨fs_b, afs_b, cfs_b, rfl, hr_b⟩ := arg_Bk (hval 0 24 v0 rfl rfl) h0
  obtain ⟨k_c, v_c, ds_c, ks_c, ads_c, cds_c, aks_c, cks_c, rfl, hr_c⟩ := arg_Co (hval 1 27 v1 rfl rfl) h1
  exact FnExactStartNeed_walk fs_b afs_b cfs_b k_c v_c ds_c ks_c ads_c cds_c aks_c cks_c W hr_b hr_c

theorem FnExactStartNeed_holds : Rows.FnExactStartNeedSaid :=
  OpenClaim.holds_of_wide 4 Try.f4 rfl rfl rfl rfl rfl rfl rfl ⟨rfl, rfl, rfl, rfl, rfl⟩ rfl rfl rfl rfl rfl (by kernel_rfl) Try.func4 (by kernel_rfl)
    (of_decide_eq_true (by kernel_rfl)) (by unfold Func.isWrapper; first | (rw [if_pos (by decide +kernel)]; kernel_rfl) | (rw [if_neg (by decide +kernel)]; exact ⟨rfl, rfl⟩))
    (fun os started H enc _ => FnExactStartNeed_lifted os started H enc)
end Go.Proofs.Ytejdbmeoaekhcaa
